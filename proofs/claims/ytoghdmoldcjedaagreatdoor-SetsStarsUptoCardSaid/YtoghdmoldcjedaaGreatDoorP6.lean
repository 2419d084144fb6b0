/- Two prefixes compared; a Go function's call as a step of a region. -/
import Derived.Test.YtoghdmoldcjedaaGreatDoorP5
import Derived.Laws.StructEq
import Derived.Lib.QuietBelow
namespace Go.Proofs.YtoghdmoldcjedaaGreatDoor
open Go.RowKit Go.Sort
set_option linter.unusedVariables false

theorem run_eqP (W : World) (f g : Int) (r s : Int) (x y : List UInt8) (l m : Int) :
    (binOp .eql 34 (.agg #[.int .i64 f, .int .u64 r, .string ⟨x.toArray⟩, .int .i64 l]) (.agg #[.int .i64 g, .int .u64 s, .string ⟨y.toArray⟩, .int .i64 m])).run Tryz.prog W = .ok (.bool (decide (f = g ∧ r = s ∧ x = y ∧ l = m))) W := by
  have hS : Tryz.prog.underlying 34 = some (.struct (Tryz.prog.fieldsOf 34)) := by kernel_rfl
  rw [run_eql_struct, run_equalIn_agg W 9999 _ _ _ hS Tryz.stoodInHeld34]
  simp only [Program.fieldsOf, Tryz.underlying34]
  have e1 : ∀ (a b : Int) (w : World), (Op.equalIn 9999 3 (.int .i64 a) (.int .i64 b)).run Tryz.prog w = .ok (a == b) w := fun a b w => run_equalIn_int w 9998 _ .i64 .i64 a b Tryz.underlying3
  have e2 : ∀ (a b : Int) (w : World), (Op.equalIn 9999 32 (.int .u64 a) (.int .u64 b)).run Tryz.prog w = .ok (a == b) w := fun a b w => run_equalIn_int w 9998 _ .u64 .u64 a b Tryz.underlying32
  have e3 : ∀ (a b : List UInt8) (w : World), (Op.equalIn 9999 9 (.string ⟨a.toArray⟩) (.string ⟨b.toArray⟩)).run Tryz.prog w = .ok (a == b) w := fun a b w => by
    rw [run_equalIn_string w 9998 _ _ _ Tryz.underlying9, ByteArray.toList_eq, ByteArray.toList_eq]
  by_cases h1 : f = g <;> by_cases h2 : r = s <;> by_cases h3 : x = y <;> by_cases h4 : l = m <;> simp [Op.eqFields, part, e1, e2, e3, h1, h2, h3, h4]

theorem step_callN {P : Program} {ops : Array Oper} {o : Oper} {a : Act} {w : World} {K : Act → World → Prop} {Q : Exit → Act → World → Prop} {X : Prop} (hw : Region.wanted o (yielded ops a.tmps) = true) (f : FuncId) {fn : Func} (xs : Array Operand) (ts : Array TypeId)
    (hop : o.op = Op.call { callee := Callee.value (Operand.func f), args := xs, argTypes := ts }) (hf : P.funcs[f]? = some fn) (hname : (fn.name == "runtime.NumGoroutine") = false) (hb : fn.body.isNone = false) (vs : Array Value) (hx : xs.map a.eval = vs)
    {R : Ending → World → Prop} (hc : Calls P f vs w R) (hk : ∀ e w', R e w' → ∃ u, e = .returned u ∧ K (a.put o.dst u) w') : if Region.wanted o (yielded ops a.tmps) = true then Oper.wp P o a w K Q else X := by
  rw [if_pos hw]
  unfold Oper.wp
  have h1 : fn.name ≠ "runtime.NumGoroutine" := by simpa using hname
  have hev : a.eval (Operand.func f) = .func (.func f) #[] #[] := rfl
  have h2 : ¬ (fn.body = none) := by intro h; simp [h] at hb
  have hrun : (execOp a.eval o).run P w = .ok (.enter f vs) w := by
    simp [execOp, hop, resolve, hev, Deferred.ofValue, invoke, hx, callFunc, hf, h1, h2]
  rw [hrun, Oper.upon_enter]
  exact hc.mono fun e w' h => by obtain ⟨u, rfl, hK⟩ := hk e w' h; exact hK

theorem quiet_apart (f : Int) (w : World) (n : Nat) : Calls Tryz.prog 99 #[.int .i64 f] (w.drewN n) fun e w'' => e = .returned (.bool (apartS f)) ∧ ∃ m, w'' = w.drewN m :=
  Calls.quiet_of_same ((Aapart_any f _).mono fun e w' h => ⟨h.1, h.2.symm⟩)

/-- A callee that turns nothing, met in a region of reads and of calls that make memory. -/
theorem regrown_same {P : Program} {f : FuncId} {args : Array Value} {w : World} {d : Nat} {os : Array Obj} {v : Value} (h : Calls P f args (grow (redrawn w d) os) fun e w' => e = .returned v ∧ grow (redrawn w d) os = w') :
    Calls P f args (grow (redrawn w d) os) fun e w'' => e = .returned v ∧ ∃ p : Regrown, w'' = grow (redrawn w p.d) p.os :=
  Calls.regrown_of (h.mono fun e w' h => ⟨h.1, h.2 ▸ Below.refl _ _⟩)
/-- A prefix in a block of its own, as such a region reads it. -/
theorem regrown_cells (w : World) (f R : Int) (s : ByteArray) (l : Int) (T : TypeId) :
    (∀ d os, (grow (redrawn (w.alloc (.cells #[.int .i64 f, .int .u64 R, .string s, .int .i64 l] T)) d) os).cell? ⟨w.heap.size, 0, none⟩ = some (.int .i64 f)) ∧
    (∀ d os, (grow (redrawn (w.alloc (.cells #[.int .i64 f, .int .u64 R, .string s, .int .i64 l] T)) d) os).cell? ⟨w.heap.size, 1, none⟩ = some (.int .u64 R)) ∧
    (∀ d os, (grow (redrawn (w.alloc (.cells #[.int .i64 f, .int .u64 R, .string s, .int .i64 l] T)) d) os).cell? ⟨w.heap.size, 2, none⟩ = some (.string s)) ∧
    (∀ d os, (grow (redrawn (w.alloc (.cells #[.int .i64 f, .int .u64 R, .string s, .int .i64 l] T)) d) os).cell? ⟨w.heap.size, 3, none⟩ = some (.int .i64 l)) :=
  ⟨cell_regrown ((Blk.new w T _).cell 0), cell_regrown ((Blk.new w T _).cell 1), cell_regrown ((Blk.new w T _).cell 2), cell_regrown ((Blk.new w T _).cell 3)⟩
theorem quiet_Apart (f : Int) (w : World) (n : Nat) : Calls Tryz.prog 107 #[.int .i64 f] (w.drewN n) fun e w'' => e = .returned (.bool (apartS f)) ∧ ∃ m, w'' = w.drewN m :=
  Calls.quiet_of_same ((RApart_any f _).mono fun e w' h => ⟨h.1, h.2.symm⟩)
noncomputable def mayB (p : Pfx) : Bool := decide (MayP p)
end Go.Proofs.YtoghdmoldcjedaaGreatDoor
