/- errors.Is and errors.As at a fault of the program (a pointer to an api.Fault), by their contracts. The law PolcAgain, walked. -/
import Derived.Test.YtljibkfbldjgdaaGreatDoorLib
import Derived.LaidEql
import Derived.Stop.Asserts
import Derived.RowKitTokens
import Derived.Test.YtljibkfbldjgdaaGreatDoorER
namespace Go.Proofs.YtljibkfbldjgdaaGreatDoor
section
open Go.RowKit Go.Extern.Stop Go.Stop Go.Extern
set_option linter.unusedVariables false

theorem isx_typeOf (v : Value) (w : World) : (ReflectliteType.typeOf #[.iface 27 v]).run Tryz.prog w = .ok (.iface 160 (.agg #[.pointer (some ⟨Tryz.prog.globals.size, 27, none⟩)])) w := by kernel_rfl
def cmpF : TypeId → Sem Value := fun t => do Rtype.noPackHeld "Comparable" t; pure (.bool (← typeInfo t).comparable)
theorem isx_comparable (w : World) : (ReflectliteType.method cmpF #[.agg #[.pointer (some ⟨Tryz.prog.globals.size, 27, none⟩)]]).run Tryz.prog w = .ok (.bool true) w := by kernel_rfl
theorem isx_mcomparable (n : Nat) (v : Value) (w : World) : (Go.method (n + 1) 160 v "Comparable").run Tryz.prog w = .ok (225, v) w := by kernel_rfl
theorem isx_munwrap (n : Nat) (v : Value) (w : World) : (Go.method (n + 1) 80 v "Unwrap").run Tryz.prog w = .ok (218, v) w := by kernel_rfl
theorem isx_noIsF (v : Value) (xT : TypeId) (w : World) : (Instr.typeAssert (.iface 80 v) xT 162 true).run Tryz.prog w = .ok (.tuple #[.nilIface, .bool false]) w := run_typeAssert_lacksB Tryz.underlying162 (by kernel_rfl) (by kernel_rfl) v xT w
theorem isx_hasUnwrapF (v : Value) (xT : TypeId) (w : World) : (Instr.typeAssert (.iface 80 v) xT 165 true).run Tryz.prog w = .ok (.tuple #[.iface 80 v, .bool true]) w := run_typeAssert_hasB Tryz.underlying165 (by kernel_rfl) v xT w
theorem isx_noIsE (v : Value) (xT : TypeId) (w : World) : (Instr.typeAssert (.iface 27 v) xT 162 true).run Tryz.prog w = .ok (.tuple #[.nilIface, .bool false]) w := run_typeAssert_lacksB Tryz.underlying162 (by kernel_rfl) (by kernel_rfl) v xT w
theorem isx_noUnwrapE (v : Value) (xT : TypeId) (w : World) : (Instr.typeAssert (.iface 27 v) xT 165 true).run Tryz.prog w = .ok (.tuple #[.nilIface, .bool false]) w := run_typeAssert_lacksB Tryz.underlying165 (by kernel_rfl) (by kernel_rfl) v xT w
theorem isx_noUnwrapsE (v : Value) (xT : TypeId) (w : World) : (Instr.typeAssert (.iface 27 v) xT 167 true).run Tryz.prog w = .ok (.tuple #[.nilIface, .bool false]) w := run_typeAssert_lacksB Tryz.underlying167 (by kernel_rfl) (by kernel_rfl) v xT w
/-- '==' of two errors that are numbers. -/
theorem run_eql_errno (w : World) (x y : Int) : (binOp .eql 39 (.iface 27 (.int .i64 x)) (.iface 27 (.int .i64 y))).run Tryz.prog w = .ok (.bool (x == y)) w := by
  have hi := Tryz.underlying39
  have hn := Tryz.underlying27
  have hc : (Tryz.prog.info? 27).map (·.comparable) = some true := by kernel_rfl
  obtain ⟨i, hi1, hi2⟩ := Option.map_eq_some_iff.1 hc
  have h : ∀ d : Nat, (Op.equalIn (d + 1 + 1) 39 (.iface 27 (.int .i64 x)) (.iface 27 (.int .i64 y))).run Tryz.prog w = .ok (x == y) w := fun d => by
    simp [Op.equalIn, run_underlying hi, run_underlying hn, typeInfo, hi1, hi2]
  simp only [binOp]
  simp [Op.equal, Op.maxDepth, h 9998]
set_option maxRecDepth 20000 in
set_option maxHeartbeats 4000000 in
theorem isF_any (a : Addr) (c d : Int) (w : World) (h : w.cell? a = some (.int .i64 c)) :
    Calls Tryz.prog 21 #[.iface 80 (.pointer (some a)), .iface 27 (.int .i64 d)] w fun e w' => e = .returned (.bool (c == d)) ∧ w = w' := by
  have h8 := @run_callFunc_extern Tryz.prog 50 _ ReflectliteType.typeOf Tryz.func50 (by kernel_rfl) (by kernel_rfl) (by kernel_rfl) (by kernel_rfl)
  have h32 := @run_callFunc_extern Tryz.prog 225 _ (ReflectliteType.method cmpF) Tryz.func225 (by kernel_rfl) (by kernel_rfl) (by kernel_rfl) (by kernel_rfl)
  have tT := isx_typeOf
  have cT := isx_comparable
  generalize Tryz.prog.globals.size = K at *
  have mR := fun v w => isx_mcomparable 381 v w
  have mU := fun v w => isx_munwrap 381 v w
  simp only [Nat.reduceAdd] at mR mU
  have nF := isx_noIsF
  have uF := isx_hasUnwrapF
  have nE := isx_noIsE
  have uE := isx_noUnwrapE
  have vE := isx_noUnwrapsE
  have q1 := fun w => run_eql_iface_types (P := Tryz.prog) 80 27 (.pointer (some a)) (.int .i64 d) Tryz.underlying39 (by decide) w
  have q2 := fun w => run_eql_errno w c d
  obtain ⟨b, o, pp⟩ := a
  by_cases hcd : c = d
  · have hb : (c == d) = true := by rw [beq_iff_eq]; exact hcd
    rw [hb]
    simp only [hb] at q2
    clear hcd hb
    go_enter Tryz.func21, Tryz.ntmps21
    go_wp2
    refine wp_loop_rounds 2 ?_
    rw [rounds_succ]
    go_wp2
    rw [rounds_succ]
    go_wp2
    go_ret
    exact ⟨rfl, rfl⟩
  · have hb : (c == d) = false := by rw [beq_eq_false_iff_ne]; exact hcd
    rw [hb]
    simp only [hb] at q2
    clear hcd hb
    go_enter Tryz.func21, Tryz.ntmps21
    go_wp2
    refine wp_loop_rounds 2 ?_
    rw [rounds_succ]
    go_wp2
    rw [rounds_succ]
    go_wp2
    go_ret
    exact ⟨rfl, rfl⟩
theorem as_valueOf27 (t : Addr) (w : World) : (ReflectliteValue.unpack (.iface 82 (.pointer (some t)))).run Tryz.prog w
    = .ok (.agg #[.pointer (some ⟨Tryz.prog.globals.size, 82, none⟩), .pointer (some ⟨w.heap.size, 0, none⟩), .int .u64 150]) (w.alloc (.cells #[.pointer (some t)] 82)) := by kernel_rfl
theorem as_type27 (a : Addr) (w : World) : (ReflectliteValue.methodAny (ReflectliteValue.valueError "reflectlite.Value.Type" 0) (fun t _ _ _ => ReflectliteType.toType t) #[.agg #[.pointer (some ⟨Tryz.prog.globals.size, 82, none⟩), .pointer (some a), .int .u64 150]]).run Tryz.prog w
    = .ok (.iface 160 (.agg #[.pointer (some ⟨Tryz.prog.globals.size, 82, none⟩)])) w := by kernel_rfl
theorem as_methodKind (n : Nat) (h : Value) (w : World) : (Go.method (n + 1) 160 (.agg #[h]) "Kind").run Tryz.prog w = .ok (213, h) w := by kernel_rfl
theorem as_kind27 (w : World) : ((ReflectliteType.abiMethod fun t => (fun a : Nat => Value.int IntKind.u8 (a : Int)) <$> Rtype.kind t) #[.pointer (some ⟨Tryz.prog.globals.size, 82, none⟩)]).run Tryz.prog w = .ok (.int .u8 22) w := by kernel_rfl
theorem as_kind25 (w : World) : ((ReflectliteType.abiMethod fun t => (fun a : Nat => Value.int IntKind.u8 (a : Int)) <$> Rtype.kind t) #[.pointer (some ⟨Tryz.prog.globals.size, 80, none⟩)]).run Tryz.prog w = .ok (.int .u8 22) w := by kernel_rfl

theorem as_rlm (z : Sem Value) (f : TypeId → Addr → Nat → Nat → Sem Value) (v : Value) :
    ReflectliteValue.method z f #[v] = (do match ← ReflectliteValue.parts v with | none => z | some (t, a, fl) => f t a fl (fl % 32)) := rfl
theorem as_parts27 (a : Addr) (w : World) : (ReflectliteValue.parts (.agg #[.pointer (some ⟨Tryz.prog.globals.size, 82, none⟩), .pointer (some a), .int .u64 150])).run Tryz.prog w = .ok (some (82, a, 150)) w := by kernel_rfl
/-- (Value).IsNil at the Value of a **p.E that is not nil. -/
theorem as_isNil27 (a p : Addr) (W : World) (ha : W.cell? a = some (.pointer (some p))) :
    (ReflectliteValue.method (ReflectliteValue.valueError "reflectlite.Value.IsNil" 0) ReflectliteValue.isNil #[.agg #[.pointer (some ⟨Tryz.prog.globals.size, 82, none⟩), .pointer (some a), .int .u64 150]]).run Tryz.prog W = .ok (.bool false) W := by
  rw [as_rlm]
  simp only [Sem.run_bind, as_parts27, Result.andThen]
  simp [ReflectliteValue.isNil, loadVar, isAgg, underlying, Tryz.underlying82, ha, Result.andThen]

theorem as_methodElem (n : Nat) (h : Value) (w : World) : (Go.method (n + 1) 160 (.agg #[h]) "Elem").run Tryz.prog w = .ok (226, .agg #[h]) w := by kernel_rfl
theorem as_methodImplements (n : Nat) (h : Value) (w : World) : (Go.method (n + 1) 160 (.agg #[h]) "Implements").run Tryz.prog w = .ok (227, .agg #[h]) w := by kernel_rfl
theorem as_methodAssignableTo (n : Nat) (h : Value) (w : World) : (Go.method (n + 1) 160 (.agg #[h]) "AssignableTo").run Tryz.prog w = .ok (224, .agg #[h]) w := by kernel_rfl
theorem as_elem27 (w : World) : (ReflectliteType.method ReflectliteType.elem #[.agg #[.pointer (some ⟨Tryz.prog.globals.size, 82, none⟩)]]).run Tryz.prog w = .ok (.iface 160 (.agg #[.pointer (some ⟨Tryz.prog.globals.size, 80, none⟩)])) w := by kernel_rfl
theorem as_implements25 (w : World) : (ReflectliteType.relation "Implements" ReflectliteType.implements_ #[.agg #[.pointer (some ⟨Tryz.prog.globals.size, 80, none⟩)], .iface 160 (.agg #[.pointer (some ⟨Tryz.prog.globals.size, 39, none⟩)])]).run Tryz.prog w = .ok (.bool true) w := by kernel_rfl
theorem as_typeOf25 (v : Value) (w : World) : (ReflectliteType.typeOf #[.iface 80 v]).run Tryz.prog w = .ok (.iface 160 (.agg #[.pointer (some ⟨Tryz.prog.globals.size, 80, none⟩)])) w := by kernel_rfl
theorem as_assignable25 (w : World) : (ReflectliteType.relation "AssignableTo" ReflectliteType.assignableTo #[.agg #[.pointer (some ⟨Tryz.prog.globals.size, 80, none⟩)], .iface 160 (.agg #[.pointer (some ⟨Tryz.prog.globals.size, 80, none⟩)])]).run Tryz.prog w = .ok (.bool true) w := by kernel_rfl
theorem as_valueOf25 (e : Addr) (w : World) : (ReflectliteValue.unpack (.iface 80 (.pointer (some e)))).run Tryz.prog w
    = .ok (.agg #[.pointer (some ⟨Tryz.prog.globals.size, 80, none⟩), .pointer (some ⟨w.heap.size, 0, none⟩), .int .u64 150]) (w.alloc (.cells #[.pointer (some e)] 80)) := by kernel_rfl

theorem as_elemOf27 (w : World) : (Rtype.elem? 82).run Tryz.prog w = .ok (some 80) w := by kernel_rfl
theorem as_mk25 (p : Addr) (w : World) : (ReflectliteValue.mk 80 p ReflectliteValue.flagAddr).run Tryz.prog w = .ok (.agg #[.pointer (some ⟨Tryz.prog.globals.size, 80, none⟩), .pointer (some p), .int .u64 406]) w := by kernel_rfl
/-- (Value).Elem at the Value of a **p.E that is not nil: the Value of the *p.E variable that it points to, addressable. -/
theorem as_elemV27 (a p : Addr) (W : World) (ha : W.cell? a = some (.pointer (some p))) :
    (ReflectliteValue.method (ReflectliteValue.valueError "reflectlite.Value.Elem" 0) ReflectliteValue.elem #[.agg #[.pointer (some ⟨Tryz.prog.globals.size, 82, none⟩), .pointer (some a), .int .u64 150]]).run Tryz.prog W
      = .ok (.agg #[.pointer (some ⟨Tryz.prog.globals.size, 80, none⟩), .pointer (some p), .int .u64 406]) W := by
  rw [as_rlm]
  simp only [Sem.run_bind, as_parts27, Result.andThen]
  simp [ReflectliteValue.elem, loadVar, isAgg, underlying, Tryz.underlying82, ha, Result.andThen, as_elemOf27, as_mk25]
theorem as_rls (v x : Value) : ReflectliteValue.set #[v, x] = (do
    let (some (dst, a, fl), some (src, b, _)) := (← ReflectliteValue.parts v, ← ReflectliteValue.parts x)
      | unsupported (.noEntry "extern/(internal/reflectlite.Value).Set.zeroValue")
    if fl / ReflectliteValue.flagAddr % 2 == 0 then unsupported (.noEntry "extern/(internal/reflectlite.Value).Set.unaddressable")
    let val ← loadVar src b
    if ← Rtype.directlyAssignable dst src then storeVar dst a val
    else if ← Rtype.implements dst src then
      if (← Rtype.kind src) == 20 then
        match val with
        | .nilIface => unsupported (.noEntry "extern/reflectlite: a nil value of one interface type handed on as a value of another")
        | _ => storeVar dst a val
      else storeVar dst a (.iface src val)
    else panicString ("reflectlite.Set: value of type " ++ (← Rtype.spelt src) ++ " is not assignable to type " ++ (← Rtype.spelt dst))
    pure (.tuple #[])) := rfl
theorem as_parts25a (a : Addr) (w : World) : (ReflectliteValue.parts (.agg #[.pointer (some ⟨Tryz.prog.globals.size, 80, none⟩), .pointer (some a), .int .u64 406])).run Tryz.prog w = .ok (some (80, a, 406)) w := by kernel_rfl
theorem as_parts25 (a : Addr) (w : World) : (ReflectliteValue.parts (.agg #[.pointer (some ⟨Tryz.prog.globals.size, 80, none⟩), .pointer (some a), .int .u64 150])).run Tryz.prog w = .ok (some (80, a, 150)) w := by kernel_rfl
theorem as_direct25 (w : World) : (Rtype.directlyAssignable 80 80).run Tryz.prog w = .ok true w := by kernel_rfl
theorem as_size25 (w : World) : (sizeOf 80).run Tryz.prog w = .ok 1 w := by kernel_rfl
/-- (Value).Set: the *p.E variable at 'ta' gets what the Value's own variable 'b' holds. -/
theorem as_set25 (ta b e : Addr) (old : Value) (W : World) (hb : W.cell? b = some (.pointer (some e))) (ht : W.cell? ta = some old) (hf : W.frozen? ta = false) :
    (ReflectliteValue.set #[.agg #[.pointer (some ⟨Tryz.prog.globals.size, 80, none⟩), .pointer (some ta), .int .u64 406], .agg #[.pointer (some ⟨Tryz.prog.globals.size, 80, none⟩), .pointer (some b), .int .u64 150]]).run Tryz.prog W
      = .ok (.tuple #[]) (W.setCell ta (.pointer (some e))) := by
  rw [as_rls]
  simp only [Sem.run_bind, as_parts25a, as_parts25, Result.andThen]
  simp [ReflectliteValue.flagAddr, loadVar, isAgg, underlying, Tryz.underlying80, hb, Result.andThen, as_direct25, storeVar, Value.cells, storeCells, Addr.add]
  rw [run_store Tryz.prog W ta _ _ (by rfl)]
  simp [ht, hf]

def kindF : TypeId → Sem Value := fun t => do pure (.int .u8 (← Rtype.kind t))
theorem as_kd : (fun t => (fun a : Nat => Value.int IntKind.u8 (a : Int)) <$> Rtype.kind t) = kindF := by funext t; simp [kindF]
set_option maxRecDepth 20000 in
set_option maxHeartbeats 8000000 in
theorem asF_hit0 (e t : Addr) (old : Value) (w : World) (hg : w.cell? ⟨0, 0, none⟩ = some (.iface 160 (.agg #[.pointer (some ⟨Tryz.prog.globals.size, 39, none⟩)]))) (ht0 : w.cell? t = some old) (hf0 : w.frozen? t = false) :
    Calls Tryz.prog 31 #[.iface 80 (.pointer (some e)), .iface 82 (.pointer (some t))] w fun ev w' => ev = .returned (.bool true) ∧ w' = ((((w.alloc (.cells #[.pointer (some t)] 82)).alloc (.cells #[.pointer (some ⟨Tryz.prog.globals.size, 82, none⟩), .pointer (some ⟨w.heap.size, 0, none⟩), .int .u64 150] 131)).alloc (.cells #[.pointer (some ⟨Tryz.prog.globals.size, 82, none⟩), .pointer (some ⟨w.heap.size, 0, none⟩), .int .u64 150] 131)).alloc (.cells #[.pointer (some e)] 80)).setCell t (.pointer (some e)) := by
  have h6 := @run_callFunc_extern Tryz.prog 73 _ (fun args => ReflectliteValue.unpack (args.getD 0 (.tuple #[]))) Tryz.func73 (by kernel_rfl) (by kernel_rfl) (by kernel_rfl) (by kernel_rfl)
  have h7 := @run_callFunc_extern Tryz.prog 74 _ (ReflectliteValue.methodAny (ReflectliteValue.valueError "reflectlite.Value.Type" 0) (fun t _ _ _ => ReflectliteType.toType t)) Tryz.func74 (by kernel_rfl) (by kernel_rfl) (by kernel_rfl) (by kernel_rfl)
  have h8 := @run_callFunc_extern Tryz.prog 75 _ (ReflectliteValue.method (ReflectliteValue.valueError "reflectlite.Value.IsNil" 0) ReflectliteValue.isNil) Tryz.func75 (by kernel_rfl) (by kernel_rfl) (by kernel_rfl) (by kernel_rfl)
  have h27 := @run_callFunc_extern Tryz.prog 213 _ (ReflectliteType.abiMethod kindF) Tryz.func213 (by kernel_rfl) (by kernel_rfl) (by kernel_rfl) (by kernel_rfl)
  have h37 := @run_callFunc_extern Tryz.prog 226 _ (ReflectliteType.method ReflectliteType.elem) Tryz.func226 (by kernel_rfl) (by kernel_rfl) (by kernel_rfl) (by kernel_rfl)
  have h38 := @run_callFunc_extern Tryz.prog 227 _ (ReflectliteType.relation "Implements" ReflectliteType.implements_) Tryz.func227 (by kernel_rfl) (by kernel_rfl) (by kernel_rfl) (by kernel_rfl)
  have h10 := @run_callFunc_extern Tryz.prog 50 _ ReflectliteType.typeOf Tryz.func50 (by kernel_rfl) (by kernel_rfl) (by kernel_rfl) (by kernel_rfl)
  have h35 := @run_callFunc_extern Tryz.prog 224 _ (ReflectliteType.relation "AssignableTo" ReflectliteType.assignableTo) Tryz.func224 (by kernel_rfl) (by kernel_rfl) (by kernel_rfl) (by kernel_rfl)
  have h11 := @run_callFunc_extern Tryz.prog 123 _ (ReflectliteValue.method (ReflectliteValue.valueError "reflectlite.Value.Elem" 0) ReflectliteValue.elem) Tryz.func123 (by kernel_rfl) (by kernel_rfl) (by kernel_rfl) (by kernel_rfl)
  have h12 := @run_callFunc_extern Tryz.prog 124 _ ReflectliteValue.set Tryz.func124 (by kernel_rfl) (by kernel_rfl) (by kernel_rfl) (by kernel_rfl)
  have tO := as_typeOf25
  have mA := as_methodAssignableTo 381
  have a25 := as_assignable25
  have v25 := as_valueOf25
  have f6 := as_valueOf27
  have f7 := as_type27
  have mK := as_methodKind 381
  have mE := as_methodElem 381
  have mI := as_methodImplements 381
  simp only [Nat.reduceAdd] at mA mK mE mI
  have k27 := as_kind27
  have k25 := as_kind25
  rw [as_kd] at k27 k25
  have e27 := as_elem27
  have i25 := as_implements25
  have n8 := as_isNil27 ⟨w.heap.size, 0, none⟩ t ((w.alloc (.cells #[.pointer (some t)] 82)).alloc (.cells #[.pointer (some ⟨Tryz.prog.globals.size, 82, none⟩), .pointer (some ⟨w.heap.size, 0, none⟩), .int .u64 150] 131)) (by simp)
  have hlt : 0 < w.heap.size := World.block_lt_of_cell? w ⟨0, 0, none⟩ hg
  have hg2 : ((w.alloc (.cells #[.pointer (some t)] 82)).alloc (.cells #[.pointer (some ⟨Tryz.prog.globals.size, 82, none⟩), .pointer (some ⟨w.heap.size, 0, none⟩), .int .u64 150] 131)).cell? ⟨0, 0, none⟩ = some (.iface 160 (.agg #[.pointer (some ⟨Tryz.prog.globals.size, 39, none⟩)])) := by
    rw [World.cell?_alloc_lt _ _ ⟨0, 0, none⟩ (by first | (simp; done) | (simp; omega)), World.cell?_alloc_lt _ _ ⟨0, 0, none⟩ hlt]; exact hg
  have htl : t.block < w.heap.size := by
    rcases Nat.lt_or_ge t.block w.heap.size with h | h
    · exact h
    · simp [World.cell?, Array.getElem?_eq_none h] at ht0
  have el := as_elemV27 ⟨w.heap.size, 0, none⟩ t (((w.alloc (.cells #[.pointer (some t)] 82)).alloc (.cells #[.pointer (some ⟨Tryz.prog.globals.size, 82, none⟩), .pointer (some ⟨w.heap.size, 0, none⟩), .int .u64 150] 131)).alloc (.cells #[.pointer (some ⟨Tryz.prog.globals.size, 82, none⟩), .pointer (some ⟨w.heap.size, 0, none⟩), .int .u64 150] 131)) (by rw [World.cell?_alloc_lt _ _ ⟨w.heap.size, 0, none⟩ (by simp; omega)]; simp)
  have st := as_set25 t ⟨w.heap.size + 1 + 1 + 1, 0, none⟩ e old ((((w.alloc (.cells #[.pointer (some t)] 82)).alloc (.cells #[.pointer (some ⟨Tryz.prog.globals.size, 82, none⟩), .pointer (some ⟨w.heap.size, 0, none⟩), .int .u64 150] 131)).alloc (.cells #[.pointer (some ⟨Tryz.prog.globals.size, 82, none⟩), .pointer (some ⟨w.heap.size, 0, none⟩), .int .u64 150] 131)).alloc (.cells #[.pointer (some e)] 80))
    (by rw [World.cell?_alloc_at _ _ _ _ (by simp)]; rfl)
    (by rw [World.cell?_alloc_lt _ _ t (by simp; omega), World.cell?_alloc_lt _ _ t (by simp; omega), World.cell?_alloc_lt _ _ t (by simp; omega), World.cell?_alloc_lt _ _ t htl]; exact ht0)
    (by rw [World.frozen?_alloc_old _ _ t (by simp; omega), World.frozen?_alloc_old _ _ t (by simp; omega), World.frozen?_alloc_old _ _ t (by simp; omega), World.frozen?_alloc_old _ _ t (Nat.ne_of_lt htl)]; exact hf0)
  clear hg
  generalize Tryz.prog.globals.size = K at *
  go_enter Tryz.func31, Tryz.ntmps31
  go_wp2
  refine wp_loop_rounds 1 ?_
  rw [rounds_succ]
  go_wp2
  go_ret
  exact ⟨rfl, rfl⟩
/-- errors.As(nil, target). -/
theorem asF_nil (t : Value) (w : World) :
    Calls Tryz.prog 31 #[.nilIface, t] w fun e w' => e = .returned (.bool false) ∧ w = w' := by
  go_enter Tryz.func31, Tryz.ntmps31
  go_wp2
  go_ret
  exact ⟨rfl, rfl⟩
/-- What the library's variable errors.errorType holds. -/
def ErT (w : World) : Prop := w.cell? ⟨0, 0, none⟩ = some (.iface 160 (.agg #[.pointer (some ⟨Tryz.prog.globals.size, 39, none⟩)]))
theorem ErT.ext {w w' : World} (h : ErT w) (he : Ext w w') : ErT w' := he.cell h
theorem asF_hit (e t : Addr) (old : Value) (w : World) (hg : ErT w) (ht0 : w.cell? t = some old) (hf0 : w.frozen? t = false) :
    Calls Tryz.prog 31 #[.iface 80 (.pointer (some e)), .iface 82 (.pointer (some t))] w fun ev w' => ev = .returned (.bool true) ∧ ∃ w1, Ext w w1 ∧ w' = w1.setCell t (.pointer (some e)) :=
  (asF_hit0 e t old w hg ht0 hf0).mono fun _ _ ⟨h1, h2⟩ => ⟨h1, _, ((((Ext.refl w).alloc _).alloc _).alloc _).alloc _, h2⟩
end
section
open Go.RowKit
set_option linter.unusedVariables false

theorem termO_ok {s : List UInt8} {t : TermS} (h : termO s = some t) : termOk t = true ∧ termT t = (s, 0) := by
  have h1 := termO_some h
  refine ⟨?_, h1⟩
  cases hk : termOk t with
  | true => rfl
  | false =>
    unfold termT at h1
    rw [if_neg (by rw [hk]; decide)] at h1
    injection h1 with _ h1
    cases h1
theorem termOk_len {t : TermS} (h : termOk t = true) : t.conds.length ≤ 64 ∧ t.acts.length ≤ 64 := by
  unfold termOk at h
  simp only [Bool.and_eq_true, decide_eq_true_eq] at h
  exact ⟨h.1, h.2.1.2⟩
set_option maxRecDepth 20000 in
set_option maxHeartbeats 4000000 in
theorem PolcAgain_walk (s : List UInt8) (w : World) (hs : s.length ≤ 1048576) (hT : Tab w) (hD : Deb w) (hV : Vars w) :
    Calls Tryz.prog 6 #[.string ⟨s.toArray⟩] w fun e w' => e = .returned (.bool true) ∧ Ext w w' := by
  have qw := fun W (h : Ext w W) => PWorks_any W (hT.ext h) (hD.ext h) (hV.ext h)
  have qp := fun W (h : Ext w W) => PTerm_any s hs W (hT.ext h) (hV.ext h) (hD.ext h)
  have qt := fun a1 c1 a2 c2 t W (h : Ext w W) h1 h2 h3 s1 s2 => PTermText_any a1 c1 a2 c2 t W h1 h2 h3 s1 s2 (hT.ext h) (hD.ext h)
  unfold TeP at qp
  clear hT hD hV
  cases ho : termO s with
  | none =>
    rw [ho] at qp
    clear ho qt hs
    replace qw := hide qw
    replace qp := hide qp
    go_enter Tryz.func6, Tryz.ntmps6
    go_wp2_with fail
    (with_reducible refine (qw.out _ (Ext.refl _)).mono ?_)
    rintro e w1 ⟨rfl, E⟩
    replace E := hide E
    go_wp2_with fail
    (with_reducible refine (qp.out _ E.out).mono ?_)
    rintro e w2 ⟨⟨f1, rfl, -, F⟩, he⟩
    replace F := F.alloc (Obj.cells #[.slice none 0 0, .slice none 0 0] 25)
    have f0 : (w2.alloc (Obj.cells #[.slice none 0 0, .slice none 0 0] 25)).cell? ⟨f1, 0, none⟩ = some (.int .i64 9) := F.cell 0
    have qi := isF_any ⟨f1, 0, none⟩ 9 9 _ f0
    rw [show ((9 : Int) == 9) = true by decide] at qi
    replace E := hide (E.out.trans (he.trans ((Ext.refl w2).alloc (Obj.cells #[.slice none 0 0, .slice none 0 0] 25))))
    replace qi := hide qi
    clear he f0 F
    go_wp2_with fail
    (with_reducible refine (qi.out).mono ?_)
    rintro e w_ ⟨rfl, rfl⟩
    go_wp2_with fail
    go_ret
    exact ⟨rfl, E.out⟩
  | some t =>
    rw [ho] at qp
    obtain ⟨hok, htx⟩ := termO_ok ho
    obtain ⟨k1, k2⟩ := termOk_len hok
    clear ho hs hok
    replace qw := hide qw
    replace qp := hide qp
    replace qt := hide qt
    replace k1 := hide k1
    replace k2 := hide k2
    replace htx := hide htx
    go_enter Tryz.func6, Tryz.ntmps6
    go_wp2_with fail
    (with_reducible refine (qw.out _ (Ext.refl _)).mono ?_)
    rintro e w1 ⟨rfl, E⟩
    replace E := hide E
    go_wp2_with fail
    (with_reducible refine (qp.out _ E.out).mono ?_)
    rintro e w2 ⟨⟨v1, v2, rfl, o1, o2⟩, he⟩
    obtain ⟨b1, d1, rfl, n1, y1⟩ := o1.slc
    obtain ⟨b2, d2, rfl, n2, y2⟩ := o2.slc
    replace y1 := y1.mono (S' := (· < w2.heap.size)) fun b hb => hb.2
    replace y2 := y2.mono (S' := (· < w2.heap.size)) fun b hb => hb.2
    have F := (Ext.refl w2).alloc (Obj.cells #[.slice b1 t.conds.length d1, .slice b2 t.acts.length d2] 25)
    replace E := E.out.trans (he.trans F)
    have q := qt.out b1 d1 b2 d2 t _ E (by have := k1.out; omega) (by have := k2.out; omega) n2 (y1.ext F) (y2.ext F)
    rw [htx.out] at q
    replace E := hide E
    replace q := hide q
    clear he o1 o2 F qp n1 n2 y1 y2 qt htx k1 k2
    go_wp2_with fail
    (with_reducible refine (q.out).mono ?_)
    rintro e w3 ⟨rfl, he⟩
    replace E := hide (E.out.trans he)
    clear he q
    go_wp2_with fail
    go_ret
    exact ⟨rfl, E.out⟩
end
end Go.Proofs.YtljibkfbldjgdaaGreatDoor
