/- errors.Is and errors.As at a fault of the program (a pointer to an api.Fault), by their contracts. Chapter 35, walks: the example of the law (works). The law ScriptPrints, walked; its arguments opened. Walks: an address read, by the document. Chapter 35, walks: the document's event of a line (heraldref35.Event). Printed by gendev.py. Chapter 35, walks: a fault of a number in a line (the law's fault). Rows of slices that tell their capacity; an element of such a row stored anew. Arguments of chapter 15 by value, opened, with what their slices' capacities are. The law ScriptLines, walked; its arguments opened. -/
import Derived.WalkKit
import Derived.Below
import Derived.Outline
import Derived.LoopTactic
import Derived.Laws.OwnMore
import Derived.Deep.AppendLies
import Derived.Deep.Draws
import Derived.Lib.Hide
import Derived.BigQuiet
import Derived.Deep.QuietTactic
import Derived.WalkSpells
import Derived.WalkLawsBesides
import Derived.Deep.RegionHeld3
import Derived.Deep.DrawnRows
import Derived.Deep.RegionLaw
import Derived.Test.YtkinghadgmbhbaaGreatDoorProg
import Derived.Test.YtkinghadgmbhbaaGreatDoorShelf
import Derived.Lib.ConvBytes
import Derived.Lib.Bytealg
import Derived.Lib.Small
import Derived.Lib.SplitLaws
import Derived.Lib.ParseIntB
import Derived.Lib.ParseIntBCases
import Derived.Lib.ItoaNum
import Derived.Lib.Join
import Derived.Test.YtkinghadgmbhbaaGreatDoorShelf2
import Derived.Lib.UnsafeStr
import Derived.Shelf.RegionOpenPlain
import Derived.Laws.StructEq
import Derived.Lib.QuietBelow
import Derived.Test.YtkinghadgmbhbaaGreatDoorRows
import Derived.ProofKit
import Derived.Deep.Slices
import Derived.Shelf.GgClosure.StringsRunes
import Derived.Lib.ItoaMem
import Derived.Lib.ItoaLen
import Derived.Shelf.Strings.Builder1
import Derived.Orders
import Derived.StillTail
import Derived.Defers
import Derived.Recover
import Derived.Laws.EntriesVeiled
import Derived.Deep.DeepCutAuto
import Derived.Deep.RegionWith
import Derived.OpenShut
import Derived.Maps.OwnSet
import Derived.Maps.Views
import Derived.Maps.Range
import Derived.DeepKeys5
import Derived.Deep.Cut
import Derived.Lib.AppendStr
import Derived.LaidEql
import Derived.Stop.Asserts
import Derived.RowKitTokens
import Derived.Test.YtkinghadgmbhbaaGreatDoorPE01
import Derived.Test.YtkinghadgmbhbaaGreatDoorPE02
import Derived.Test.YtkinghadgmbhbaaGreatDoorPE03
import Derived.Test.YtkinghadgmbhbaaGreatDoorPE04
import Derived.Test.YtkinghadgmbhbaaGreatDoorPE05
import Derived.Test.YtkinghadgmbhbaaGreatDoorPE06
namespace Go.Proofs.YtkinghadgmbhbaaGreatDoor
section
section
open Go.RowKit Go.Extern.Stop Go.Stop Go.Extern
set_option linter.unusedVariables false
theorem isx_typeOf (v : Value) (w : World) : (ReflectliteType.typeOf #[.iface 23 v]).run Tryz.prog w = .ok (.iface 113 (.agg #[.pointer (some ⟨Tryz.prog.globals.size, 23, none⟩)])) w := by kernel_rfl
def cmpF : TypeId → Sem Value := fun t => do Rtype.noPackHeld "Comparable" t; pure (.bool (← typeInfo t).comparable)
theorem isx_comparable (w : World) : (ReflectliteType.method cmpF #[.agg #[.pointer (some ⟨Tryz.prog.globals.size, 23, none⟩)]]).run Tryz.prog w = .ok (.bool true) w := by kernel_rfl
theorem isx_mcomparable (n : Nat) (v : Value) (w : World) : (Go.method (n + 1) 113 v "Comparable").run Tryz.prog w = .ok (162, v) w := by kernel_rfl
theorem isx_munwrap (n : Nat) (v : Value) (w : World) : (Go.method (n + 1) 44 v "Unwrap").run Tryz.prog w = .ok (155, v) w := by kernel_rfl
theorem isx_noIsF (v : Value) (xT : TypeId) (w : World) : (Instr.typeAssert (.iface 44 v) xT 125 true).run Tryz.prog w = .ok (.tuple #[.nilIface, .bool false]) w := run_typeAssert_lacksB Tryz.underlying125 (by kernel_rfl) (by kernel_rfl) v xT w
theorem isx_hasUnwrapF (v : Value) (xT : TypeId) (w : World) : (Instr.typeAssert (.iface 44 v) xT 120 true).run Tryz.prog w = .ok (.tuple #[.iface 44 v, .bool true]) w := run_typeAssert_hasB Tryz.underlying120 (by kernel_rfl) v xT w
theorem isx_noIsE (v : Value) (xT : TypeId) (w : World) : (Instr.typeAssert (.iface 23 v) xT 125 true).run Tryz.prog w = .ok (.tuple #[.nilIface, .bool false]) w := run_typeAssert_lacksB Tryz.underlying125 (by kernel_rfl) (by kernel_rfl) v xT w
theorem isx_noUnwrapE (v : Value) (xT : TypeId) (w : World) : (Instr.typeAssert (.iface 23 v) xT 120 true).run Tryz.prog w = .ok (.tuple #[.nilIface, .bool false]) w := run_typeAssert_lacksB Tryz.underlying120 (by kernel_rfl) (by kernel_rfl) v xT w
theorem isx_noUnwrapsE (v : Value) (xT : TypeId) (w : World) : (Instr.typeAssert (.iface 23 v) xT 122 true).run Tryz.prog w = .ok (.tuple #[.nilIface, .bool false]) w := run_typeAssert_lacksB Tryz.underlying122 (by kernel_rfl) (by kernel_rfl) v xT w
/-- '==' of two errors that are numbers. -/
theorem run_eql_errno (w : World) (x y : Int) : (binOp .eql 39 (.iface 23 (.int .i64 x)) (.iface 23 (.int .i64 y))).run Tryz.prog w = .ok (.bool (x == y)) w := by
 have hi := Tryz.underlying39
 have hn := Tryz.underlying23
 have hc : (Tryz.prog.info? 23).map (·.comparable) = some true := by kernel_rfl
 obtain ⟨i, hi1, hi2⟩ := Option.map_eq_some_iff.1 hc
 have h : ∀ d : Nat, (Op.equalIn (d + 1 + 1) 39 (.iface 23 (.int .i64 x)) (.iface 23 (.int .i64 y))).run Tryz.prog w = .ok (x == y) w := fun d => by
  simp [Op.equalIn, run_underlying hi, run_underlying hn, typeInfo, hi1, hi2]
 simp only [binOp]
 simp [Op.equal, Op.maxDepth, h 9998]
set_option maxRecDepth 20000 in
set_option maxHeartbeats 4000000 in
theorem isF_any (a : Addr) (c d : Int) (w : World) (h : w.cell? a = some (.int .i64 c)) :
  Calls Tryz.prog 20 #[.iface 44 (.pointer (some a)), .iface 23 (.int .i64 d)] w fun e w' => e = .returned (.bool (c == d)) ∧ w = w' := by
 have h8 := @run_callFunc_extern Tryz.prog 42 _ ReflectliteType.typeOf Tryz.func42 (by kernel_rfl) (by kernel_rfl) (by kernel_rfl) (by kernel_rfl)
 have h32 := @run_callFunc_extern Tryz.prog 162 _ (ReflectliteType.method cmpF) Tryz.func162 (by kernel_rfl) (by kernel_rfl) (by kernel_rfl) (by kernel_rfl)
 have tT := isx_typeOf
 have cT := isx_comparable
 generalize Tryz.prog.globals.size = K at *
 have mR := fun v w => isx_mcomparable 312 v w
 have mU := fun v w => isx_munwrap 312 v w
 simp only [Nat.reduceAdd] at mR mU
 have nF := isx_noIsF
 have uF := isx_hasUnwrapF
 have nE := isx_noIsE
 have uE := isx_noUnwrapE
 have vE := isx_noUnwrapsE
 have q1 := fun w => run_eql_iface_types (P := Tryz.prog) 44 23 (.pointer (some a)) (.int .i64 d) Tryz.underlying39 (by decide) w
 have q2 := fun w => run_eql_errno w c d
 obtain ⟨b, o, pp⟩ := a
 by_cases hcd : c = d
 ·have hb : (c == d) = true := by rw [beq_iff_eq]; exact hcd
  rw [hb]
  simp only [hb] at q2
  clear hcd hb
  go_enter Tryz.func20, Tryz.ntmps20
  go_wp2
  refine wp_loop_rounds 2 ?_
  rw [rounds_succ]
  go_wp2
  rw [rounds_succ]
  go_wp2
  go_ret
  exact ⟨rfl, rfl⟩
 ·have hb : (c == d) = false := by rw [beq_eq_false_iff_ne]; exact hcd
  rw [hb]
  simp only [hb] at q2
  clear hcd hb
  go_enter Tryz.func20, Tryz.ntmps20
  go_wp2
  refine wp_loop_rounds 2 ?_
  rw [rounds_succ]
  go_wp2
  rw [rounds_succ]
  go_wp2
  go_ret
  exact ⟨rfl, rfl⟩
theorem as_valueOf27 (t : Addr) (w : World) : (ReflectliteValue.unpack (.iface 46 (.pointer (some t)))).run Tryz.prog w
  = .ok (.agg #[.pointer (some ⟨Tryz.prog.globals.size, 46, none⟩), .pointer (some ⟨w.heap.size, 0, none⟩), .int .u64 150]) (w.alloc (.cells #[.pointer (some t)] 46)) := by kernel_rfl
theorem as_type27 (a : Addr) (w : World) : (ReflectliteValue.methodAny (ReflectliteValue.valueError "reflectlite.Value.Type" 0) (fun t _ _ _ => ReflectliteType.toType t) #[.agg #[.pointer (some ⟨Tryz.prog.globals.size, 46, none⟩), .pointer (some a), .int .u64 150]]).run Tryz.prog w
  = .ok (.iface 113 (.agg #[.pointer (some ⟨Tryz.prog.globals.size, 46, none⟩)])) w := by kernel_rfl
theorem as_methodKind (n : Nat) (h : Value) (w : World) : (Go.method (n + 1) 113 (.agg #[h]) "Kind").run Tryz.prog w = .ok (150, h) w := by kernel_rfl
theorem as_kind27 (w : World) : ((ReflectliteType.abiMethod fun t => (fun a : Nat => Value.int IntKind.u8 (a : Int)) <$> Rtype.kind t) #[.pointer (some ⟨Tryz.prog.globals.size, 46, none⟩)]).run Tryz.prog w = .ok (.int .u8 22) w := by kernel_rfl
theorem as_kind25 (w : World) : ((ReflectliteType.abiMethod fun t => (fun a : Nat => Value.int IntKind.u8 (a : Int)) <$> Rtype.kind t) #[.pointer (some ⟨Tryz.prog.globals.size, 44, none⟩)]).run Tryz.prog w = .ok (.int .u8 22) w := by kernel_rfl
theorem as_rlm (z : Sem Value) (f : TypeId → Addr → Nat → Nat → Sem Value) (v : Value) :
  ReflectliteValue.method z f #[v] = (do match ← ReflectliteValue.parts v with | none => z | some (t, a, fl) => f t a fl (fl % 32)) := rfl
theorem as_parts27 (a : Addr) (w : World) : (ReflectliteValue.parts (.agg #[.pointer (some ⟨Tryz.prog.globals.size, 46, none⟩), .pointer (some a), .int .u64 150])).run Tryz.prog w = .ok (some (46, a, 150)) w := by kernel_rfl
/-- (Value).IsNil at the Value of a **p.E that is not nil. -/
theorem as_isNil27 (a p : Addr) (W : World) (ha : W.cell? a = some (.pointer (some p))) :
  (ReflectliteValue.method (ReflectliteValue.valueError "reflectlite.Value.IsNil" 0) ReflectliteValue.isNil #[.agg #[.pointer (some ⟨Tryz.prog.globals.size, 46, none⟩), .pointer (some a), .int .u64 150]]).run Tryz.prog W = .ok (.bool false) W := by
 rw [as_rlm]
 simp only [Sem.run_bind, as_parts27, Result.andThen]
 simp [ReflectliteValue.isNil, loadVar, isAgg, underlying, Tryz.underlying46, ha, Result.andThen]
theorem as_methodElem (n : Nat) (h : Value) (w : World) : (Go.method (n + 1) 113 (.agg #[h]) "Elem").run Tryz.prog w = .ok (163, .agg #[h]) w := by kernel_rfl
theorem as_methodImplements (n : Nat) (h : Value) (w : World) : (Go.method (n + 1) 113 (.agg #[h]) "Implements").run Tryz.prog w = .ok (164, .agg #[h]) w := by kernel_rfl
theorem as_methodAssignableTo (n : Nat) (h : Value) (w : World) : (Go.method (n + 1) 113 (.agg #[h]) "AssignableTo").run Tryz.prog w = .ok (161, .agg #[h]) w := by kernel_rfl
theorem as_elem27 (w : World) : (ReflectliteType.method ReflectliteType.elem #[.agg #[.pointer (some ⟨Tryz.prog.globals.size, 46, none⟩)]]).run Tryz.prog w = .ok (.iface 113 (.agg #[.pointer (some ⟨Tryz.prog.globals.size, 44, none⟩)])) w := by kernel_rfl
theorem as_implements25 (w : World) : (ReflectliteType.relation "Implements" ReflectliteType.implements_ #[.agg #[.pointer (some ⟨Tryz.prog.globals.size, 44, none⟩)], .iface 113 (.agg #[.pointer (some ⟨Tryz.prog.globals.size, 39, none⟩)])]).run Tryz.prog w = .ok (.bool true) w := by kernel_rfl
theorem as_typeOf25 (v : Value) (w : World) : (ReflectliteType.typeOf #[.iface 44 v]).run Tryz.prog w = .ok (.iface 113 (.agg #[.pointer (some ⟨Tryz.prog.globals.size, 44, none⟩)])) w := by kernel_rfl
theorem as_assignable25 (w : World) : (ReflectliteType.relation "AssignableTo" ReflectliteType.assignableTo #[.agg #[.pointer (some ⟨Tryz.prog.globals.size, 44, none⟩)], .iface 113 (.agg #[.pointer (some ⟨Tryz.prog.globals.size, 44, none⟩)])]).run Tryz.prog w = .ok (.bool true) w := by kernel_rfl
theorem as_valueOf25 (e : Addr) (w : World) : (ReflectliteValue.unpack (.iface 44 (.pointer (some e)))).run Tryz.prog w
  = .ok (.agg #[.pointer (some ⟨Tryz.prog.globals.size, 44, none⟩), .pointer (some ⟨w.heap.size, 0, none⟩), .int .u64 150]) (w.alloc (.cells #[.pointer (some e)] 44)) := by kernel_rfl
theorem as_elemOf27 (w : World) : (Rtype.elem? 46).run Tryz.prog w = .ok (some 44) w := by kernel_rfl
theorem as_mk25 (p : Addr) (w : World) : (ReflectliteValue.mk 44 p ReflectliteValue.flagAddr).run Tryz.prog w = .ok (.agg #[.pointer (some ⟨Tryz.prog.globals.size, 44, none⟩), .pointer (some p), .int .u64 406]) w := by kernel_rfl
/-- (Value).Elem at the Value of a **p.E that is not nil: the Value of the *p.E variable that it points to, addressable. -/
theorem as_elemV27 (a p : Addr) (W : World) (ha : W.cell? a = some (.pointer (some p))) :
  (ReflectliteValue.method (ReflectliteValue.valueError "reflectlite.Value.Elem" 0) ReflectliteValue.elem #[.agg #[.pointer (some ⟨Tryz.prog.globals.size, 46, none⟩), .pointer (some a), .int .u64 150]]).run Tryz.prog W
   = .ok (.agg #[.pointer (some ⟨Tryz.prog.globals.size, 44, none⟩), .pointer (some p), .int .u64 406]) W := by
 rw [as_rlm]
 simp only [Sem.run_bind, as_parts27, Result.andThen]
 simp [ReflectliteValue.elem, loadVar, isAgg, underlying, Tryz.underlying46, ha, Result.andThen, as_elemOf27, as_mk25]
theorem as_rls (v x : Value) : ReflectliteValue.set #[v, x] = (do
  let (some (dst, a, fl), some (src, b, _)) := (← ReflectliteValue.parts v, ← ReflectliteValue.parts x)
   | unsupported (.noEntry "extern/(internal/reflectlite.Value).Set.zeroValue")
  if fl / ReflectliteValue.flagAddr % 2 == 0 then unsupported (.noEntry "extern/(internal/reflectlite.Value).Set.unaddressable")
  let val ← loadVar src b
  if ← Rtype.directlyAssignable dst src then storeVar dst a val
  else if ← Rtype.implements dst src then
   if (← Rtype.kind src) == 20 then
    match val with
    | .nilIface => unsupported (.noEntry "extern/reflectlite: a nil value of one interface type handed on as a value of another")
    | _ => storeVar dst a val
   else storeVar dst a (.iface src val)
  else panicString ("reflectlite.Set: value of type " ++ (← Rtype.spelt src) ++ " is not assignable to type " ++ (← Rtype.spelt dst))
  pure (.tuple #[])) := rfl
theorem as_parts25a (a : Addr) (w : World) : (ReflectliteValue.parts (.agg #[.pointer (some ⟨Tryz.prog.globals.size, 44, none⟩), .pointer (some a), .int .u64 406])).run Tryz.prog w = .ok (some (44, a, 406)) w := by kernel_rfl
theorem as_parts25 (a : Addr) (w : World) : (ReflectliteValue.parts (.agg #[.pointer (some ⟨Tryz.prog.globals.size, 44, none⟩), .pointer (some a), .int .u64 150])).run Tryz.prog w = .ok (some (44, a, 150)) w := by kernel_rfl
theorem as_direct25 (w : World) : (Rtype.directlyAssignable 44 44).run Tryz.prog w = .ok true w := by kernel_rfl
/-- (Value).Set: the *p.E variable at 'ta' gets what the Value's own variable 'b' holds. -/
theorem as_set25 (ta b e : Addr) (old : Value) (W : World) (hb : W.cell? b = some (.pointer (some e))) (ht : W.cell? ta = some old) (hf : W.frozen? ta = false) :
  (ReflectliteValue.set #[.agg #[.pointer (some ⟨Tryz.prog.globals.size, 44, none⟩), .pointer (some ta), .int .u64 406], .agg #[.pointer (some ⟨Tryz.prog.globals.size, 44, none⟩), .pointer (some b), .int .u64 150]]).run Tryz.prog W
   = .ok (.tuple #[]) (W.setCell ta (.pointer (some e))) := by
 rw [as_rls]
 simp only [Sem.run_bind, as_parts25a, as_parts25, Result.andThen]
 simp [ReflectliteValue.flagAddr, loadVar, isAgg, underlying, Tryz.underlying44, hb, Result.andThen, as_direct25, storeVar, Value.cells, storeCells, Addr.add]
 rw [run_store Tryz.prog W ta _ _ (by rfl)]
 simp [ht, hf]
def kindF : TypeId → Sem Value := fun t => do pure (.int .u8 (← Rtype.kind t))
theorem as_kd : (fun t => (fun a : Nat => Value.int IntKind.u8 (a : Int)) <$> Rtype.kind t) = kindF := by funext t; simp [kindF]
set_option maxRecDepth 20000 in
set_option maxHeartbeats 8000000 in
theorem asF_hit0 (e t : Addr) (old : Value) (w : World) (hg : w.cell? ⟨0, 0, none⟩ = some (.iface 113 (.agg #[.pointer (some ⟨Tryz.prog.globals.size, 39, none⟩)]))) (ht0 : w.cell? t = some old) (hf0 : w.frozen? t = false) :
  Calls Tryz.prog 16 #[.iface 44 (.pointer (some e)), .iface 46 (.pointer (some t))] w fun ev w' => ev = .returned (.bool true) ∧ w' = ((((w.alloc (.cells #[.pointer (some t)] 46)).alloc (.cells #[.pointer (some ⟨Tryz.prog.globals.size, 46, none⟩), .pointer (some ⟨w.heap.size, 0, none⟩), .int .u64 150] 83)).alloc (.cells #[.pointer (some ⟨Tryz.prog.globals.size, 46, none⟩), .pointer (some ⟨w.heap.size, 0, none⟩), .int .u64 150] 83)).alloc (.cells #[.pointer (some e)] 44)).setCell t (.pointer (some e)) := by
 have h6 := @run_callFunc_extern Tryz.prog 38 _ (fun args => ReflectliteValue.unpack (args.getD 0 (.tuple #[]))) Tryz.func38 (by kernel_rfl) (by kernel_rfl) (by kernel_rfl) (by kernel_rfl)
 have h7 := @run_callFunc_extern Tryz.prog 39 _ (ReflectliteValue.methodAny (ReflectliteValue.valueError "reflectlite.Value.Type" 0) (fun t _ _ _ => ReflectliteType.toType t)) Tryz.func39 (by kernel_rfl) (by kernel_rfl) (by kernel_rfl) (by kernel_rfl)
 have h8 := @run_callFunc_extern Tryz.prog 40 _ (ReflectliteValue.method (ReflectliteValue.valueError "reflectlite.Value.IsNil" 0) ReflectliteValue.isNil) Tryz.func40 (by kernel_rfl) (by kernel_rfl) (by kernel_rfl) (by kernel_rfl)
 have h27 := @run_callFunc_extern Tryz.prog 150 _ (ReflectliteType.abiMethod kindF) Tryz.func150 (by kernel_rfl) (by kernel_rfl) (by kernel_rfl) (by kernel_rfl)
 have h37 := @run_callFunc_extern Tryz.prog 163 _ (ReflectliteType.method ReflectliteType.elem) Tryz.func163 (by kernel_rfl) (by kernel_rfl) (by kernel_rfl) (by kernel_rfl)
 have h38 := @run_callFunc_extern Tryz.prog 164 _ (ReflectliteType.relation "Implements" ReflectliteType.implements_) Tryz.func164 (by kernel_rfl) (by kernel_rfl) (by kernel_rfl) (by kernel_rfl)
 have h10 := @run_callFunc_extern Tryz.prog 42 _ ReflectliteType.typeOf Tryz.func42 (by kernel_rfl) (by kernel_rfl) (by kernel_rfl) (by kernel_rfl)
 have h35 := @run_callFunc_extern Tryz.prog 161 _ (ReflectliteType.relation "AssignableTo" ReflectliteType.assignableTo) Tryz.func161 (by kernel_rfl) (by kernel_rfl) (by kernel_rfl) (by kernel_rfl)
 have h11 := @run_callFunc_extern Tryz.prog 71 _ (ReflectliteValue.method (ReflectliteValue.valueError "reflectlite.Value.Elem" 0) ReflectliteValue.elem) Tryz.func71 (by kernel_rfl) (by kernel_rfl) (by kernel_rfl) (by kernel_rfl)
 have h12 := @run_callFunc_extern Tryz.prog 72 _ ReflectliteValue.set Tryz.func72 (by kernel_rfl) (by kernel_rfl) (by kernel_rfl) (by kernel_rfl)
 have tO := as_typeOf25
 have mA := as_methodAssignableTo 312
 have a25 := as_assignable25
 have v25 := as_valueOf25
 have f6 := as_valueOf27
 have f7 := as_type27
 have mK := as_methodKind 312
 have mE := as_methodElem 312
 have mI := as_methodImplements 312
 simp only [Nat.reduceAdd] at mA mK mE mI
 have k27 := as_kind27
 have k25 := as_kind25
 rw [as_kd] at k27 k25
 have e27 := as_elem27
 have i25 := as_implements25
 have n8 := as_isNil27 ⟨w.heap.size, 0, none⟩ t ((w.alloc (.cells #[.pointer (some t)] 46)).alloc (.cells #[.pointer (some ⟨Tryz.prog.globals.size, 46, none⟩), .pointer (some ⟨w.heap.size, 0, none⟩), .int .u64 150] 83)) (by simp)
 have hlt : 0 < w.heap.size := World.block_lt_of_cell? w ⟨0, 0, none⟩ hg
 have hg2 : ((w.alloc (.cells #[.pointer (some t)] 46)).alloc (.cells #[.pointer (some ⟨Tryz.prog.globals.size, 46, none⟩), .pointer (some ⟨w.heap.size, 0, none⟩), .int .u64 150] 83)).cell? ⟨0, 0, none⟩ = some (.iface 113 (.agg #[.pointer (some ⟨Tryz.prog.globals.size, 39, none⟩)])) := by
  rw [World.cell?_alloc_lt _ _ ⟨0, 0, none⟩ (by first | (simp; done) | (simp; omega)), World.cell?_alloc_lt _ _ ⟨0, 0, none⟩ hlt]; exact hg
 have htl : t.block < w.heap.size := by
  rcases Nat.lt_or_ge t.block w.heap.size with h | h
  ·exact h
  ·simp [World.cell?, Array.getElem?_eq_none h] at ht0
 have el := as_elemV27 ⟨w.heap.size, 0, none⟩ t (((w.alloc (.cells #[.pointer (some t)] 46)).alloc (.cells #[.pointer (some ⟨Tryz.prog.globals.size, 46, none⟩), .pointer (some ⟨w.heap.size, 0, none⟩), .int .u64 150] 83)).alloc (.cells #[.pointer (some ⟨Tryz.prog.globals.size, 46, none⟩), .pointer (some ⟨w.heap.size, 0, none⟩), .int .u64 150] 83)) (by rw [World.cell?_alloc_lt _ _ ⟨w.heap.size, 0, none⟩ (by simp; omega)]; simp)
 have st := as_set25 t ⟨w.heap.size + 1 + 1 + 1, 0, none⟩ e old ((((w.alloc (.cells #[.pointer (some t)] 46)).alloc (.cells #[.pointer (some ⟨Tryz.prog.globals.size, 46, none⟩), .pointer (some ⟨w.heap.size, 0, none⟩), .int .u64 150] 83)).alloc (.cells #[.pointer (some ⟨Tryz.prog.globals.size, 46, none⟩), .pointer (some ⟨w.heap.size, 0, none⟩), .int .u64 150] 83)).alloc (.cells #[.pointer (some e)] 44))
  (by rw [World.cell?_alloc_at _ _ _ _ (by simp)]; rfl)
  (by rw [World.cell?_alloc_lt _ _ t (by simp; omega), World.cell?_alloc_lt _ _ t (by simp; omega), World.cell?_alloc_lt _ _ t (by simp; omega), World.cell?_alloc_lt _ _ t htl]; exact ht0)
  (by rw [World.frozen?_alloc_old _ _ t (by simp; omega), World.frozen?_alloc_old _ _ t (by simp; omega), World.frozen?_alloc_old _ _ t (by simp; omega), World.frozen?_alloc_old _ _ t (Nat.ne_of_lt htl)]; exact hf0)
 clear hg
 generalize Tryz.prog.globals.size = K at *
 go_enter Tryz.func16, Tryz.ntmps16
 go_wp2
 refine wp_loop_rounds 1 ?_
 rw [rounds_succ]
 go_wp2
 go_ret
 exact ⟨rfl, rfl⟩
/-- What the library's variable errors.errorType holds. -/
def ErT (w : World) : Prop := w.cell? ⟨0, 0, none⟩ = some (.iface 113 (.agg #[.pointer (some ⟨Tryz.prog.globals.size, 39, none⟩)]))
theorem ErT.ext {w w' : World} (h : ErT w) (he : Ext w w') : ErT w' := he.cell h
theorem asF_hit (e t : Addr) (old : Value) (w : World) (hg : ErT w) (ht0 : w.cell? t = some old) (hf0 : w.frozen? t = false) :
  Calls Tryz.prog 16 #[.iface 44 (.pointer (some e)), .iface 46 (.pointer (some t))] w fun ev w' => ev = .returned (.bool true) ∧ ∃ w1, Ext w w1 ∧ w' = w1.setCell t (.pointer (some e)) :=
 (asF_hit0 e t old w hg ht0 hf0).mono fun _ _ ⟨h1, h2⟩ => ⟨h1, _, ((((Ext.refl w).alloc _).alloc _).alloc _).alloc _, h2⟩
end
end
section
open Go.RowKit
set_option linter.unusedVariables false
set_option linter.unusedSimpArgs false
def wkC : List UInt8 := [97, 115, 32, 49, 10]
def wkL : List EvS := [⟨6, 0, [], [], [], 5, 0⟩, ⟨4, 1, [], [], [0, 255], 0, 0⟩, ⟨10, 0, [], [], [], 0, 0⟩]
def wkT : List UInt8 := [97, 115, 32, 49, 10, 114, 117, 110, 10, 116, 105, 99, 107, 32, 53, 10, 100, 97, 116, 97, 32, 49, 32, 48, 48, 102, 102, 10, 100, 114, 97, 105, 110, 10]
theorem wk_text : textScr wkC wkL = wkT := by decide +kernel
theorem wk_ok : cfgOk wkC = true ∧ wkL.all evOk = true := by decide +kernel
theorem wk_parse : parseS wkT = (wkC, wkL, 0, 0) := by
 rw [← wk_text]
 exact parse_print wk_ok.1 (by decide) wk_ok.2 (by rw [wk_text]; decide)
theorem wk_print : printS wkC wkL = (wkT, 0) := by
 unfold printS
 rw [if_neg (by rw [wk_ok.1]; decide), if_neg (by decide), if_neg (by rw [wk_ok.2]; decide), wk_text, if_neg (by decide)]
set_option maxRecDepth 20000 in
set_option maxHeartbeats 4000000 in
theorem Works35_any (w : World) (hT : Tab w) (hV : Vars w) (hD : Deb w) : Calls Tryz.prog 11 #[] w fun e w' => e = .returned (.bool true) ∧ Ext w w' := by
 have q1 := SParse_any wkT (by decide) w hT hV hD
 unfold ParP at q1
 rw [wk_parse] at q1
 have q2 := fun W a cp (h : Ext w W) hs => SPrint_any wkC (by decide) wkL a cp (by decide) W (hT.ext h) (hV.ext h) (hD.ext h) hs
 rw [wk_print] at q2
 clear hT hV hD
 unfold wkT at q1 q2
 unfold wkC at q1 q2
 replace q1 := hide q1
 replace q2 := hide q2
 go_enter Tryz.func11, Tryz.ntmps11
 go_wp2_with fail
 refine q1.out.mono ?_
 rintro e W1 ⟨⟨cfg, evs, v, h1, rfl, O⟩ | ⟨c, k, f, h0, h1, _⟩, E⟩
 ·injection h1 with h1 h2
  injection h2 with h2 _
  subst h1 h2
  obtain ⟨a, cp, rfl, hsl⟩ := O.sl
  have q := q2.out W1 a cp E (hsl.mono fun b h => h.2)
  obtain ⟨b, off, rfl, _, _, hc0⟩ := EEv.at hsl 0 (by decide)
  obtain ⟨b', off', hbb, _, _, hc1⟩ := EEv.at hsl 1 (by decide)
  injection hbb with hbb
  injection hbb with hbb hoo
  subst hbb hoo
  have x0 : W1.cell? ⟨b, off + 5, none⟩ = some (.int .i64 5) := hc0 5 _ rfl
  have x1 : W1.cell? ⟨b, off + 7 + 4, none⟩ = some (.string ⟨#[0, 255]⟩) := hc1 4 _ rfl
  clear hc0 hc1 hsl O q1 q2
  replace q := hide q
  replace E := hide E
  simp only [show wkL.length = 3 from rfl] at *
  go_wp2_with fail
  refine q.out.mono ?_
  rintro e W2 ⟨rfl, E2⟩
  have y0 := E2.cell x0
  have y1 := E2.cell x1
  have E3 := E.out.trans E2
  clear x0 x1 E2 E q
  replace E3 := hide E3
  go_wp2
  go_ret
  exact ⟨rfl, E3.out⟩
 ·injection h1 with _ h1
  injection h1 with _ h1
  injection h1 with h1 _
  exact absurd h1.symm h0
end
section
open Go.RowKit Go.ChangeShapes Go.WideShapes
set_option linter.unusedVariables false
set_option linter.unusedSimpArgs false
set_option maxRecDepth 100000 in
theorem opens_EEv : Opens Tryz.prog 31 EEv :=
 opens_of (opens_struct Tryz.underlying31 (by kernel_rfl) (opensF_cons rfl rfl opens_int (opensF_cons rfl rfl opens_int (opensF_cons rfl rfl opens_text (opensF_cons rfl rfl opens_text (opensF_cons rfl rfl opens_text (opensF_cons rfl rfl opens_int (opensF_last rfl rfl opens_u32_ rfl)))))))) rfl
  (fun p => (⟨p.1, p.2.1, p.2.2.1, p.2.2.2.1, p.2.2.2.2.1, p.2.2.2.2.2.1, p.2.2.2.2.2.2⟩ : EvS)) (fun {w S x cs} h => by
   obtain ⟨c, d, rfl, ⟨rfl, h1⟩, c, d, rfl, ⟨rfl, h2⟩, c, d, rfl, ⟨rfl, h3⟩, c, d, rfl, ⟨rfl, h4⟩, c, d, rfl, ⟨rfl, h5⟩, c, d, rfl, ⟨rfl, h6⟩, ⟨rfl, _⟩⟩ := h
   exact ⟨rfl, ⟨h1, h2, h3, h4, h5, h6⟩⟩)
end
section
open Go.RowKit Go.Sort
set_option linter.unusedVariables false
def SpR (P : List (List UInt8)) (w : World) (e : Ending) (w' : World) : Prop :=
 Ext w w' ∧ ∃ g o d, e = .returned (.slice (some ⟨g, o, none⟩) P.length d) ∧ P.length ≤ d ∧ ∀ k, (h : k < P.length) → w'.cell? ⟨g, o + k, none⟩ = some (.string ⟨P[k].toArray⟩)
theorem RSplit46 (s : List UInt8) (hs : s.length ≤ 1048576) (w : World) : Calls Tryz.prog 30 #[.string ⟨s.toArray⟩, .int .u8 46] w (SpR (spl 46 s) w) := RSplit_any s hs 46 w
theorem RSplit58 (s : List UInt8) (hs : s.length ≤ 1048576) (w : World) : Calls Tryz.prog 30 #[.string ⟨s.toArray⟩, .int .u8 58] w (SpR (spl 58 s) w) := RSplit_any s hs 58 w
theorem RSplit32 (s : List UInt8) (hs : s.length ≤ 1048576) (w : World) : Calls Tryz.prog 30 #[.string ⟨s.toArray⟩, .int .u8 32] w (SpR (spl 32 s) w) := RSplit_any s hs 32 w
theorem RRead8 (s : List UInt8) (hs : s.length ≤ 1048576) (w : World) : Calls Tryz.prog 80 #[.string ⟨s.toArray⟩, .int .u64 10, .int .u64 255] w (RdP 10 255 s w) := RRead_any 10 255 (by decide) (by decide) (by decide) (by decide) s hs w
theorem RRead16 (s : List UInt8) (hs : s.length ≤ 1048576) (w : World) : Calls Tryz.prog 80 #[.string ⟨s.toArray⟩, .int .u64 16, .int .u64 65535] w (RdP 16 65535 s w) := RRead_any 16 65535 (by decide) (by decide) (by decide) (by decide) s hs w
theorem addr_long {s : List UInt8} (h : 40 < s.length) : addrC s = ([], 4) := by
 rcases addrC_err s with h1 | h1
 ·have := (addr_text h1).2.2
  omega
 ·exact h1
set_option maxRecDepth 20000 in
set_option maxHeartbeats 2000000 in
theorem RAddrL_any (s : List UInt8) (hs : 40 < s.length) (w : World) :
  Calls Tryz.prog 54 #[.string ⟨s.toArray⟩] w (AdP s w) := by
 have hz : (ByteArray.mk s.toArray).size = s.length := ba_size s
 have b1 : decide ((40 : Int) < (s.length : Int)) = true := decide_eq_true (by omega)
 have hC := hide (addr_long hs)
 go_enter Tryz.func54, Tryz.ntmps54
 go_wp2
 go_ret2
 exact AdP.of hC.out (Ext.refl _)
set_option maxRecDepth 20000 in
set_option maxHeartbeats 2000000 in
theorem RAddr4_any (s : List UInt8) (hs : s.length ≤ 40) (h4 : (spl 46 s).length = 4) (w : World) :
    Calls Tryz.prog 54 #[.string ⟨s.toArray⟩] w (AdP s w) := by
  have hz : (ByteArray.mk s.toArray).size = s.length := ba_size s
  have b1 : decide ((40 : Int) < (s.length : Int)) = false := decide_eq_false (by omega)
  have hS := RSplit46 s (by omega) w
  have hS2 := fun W => RSplit58 s (by omega) W
  have hnum := fun (x : List UInt8) (hx : x ∈ spl 46 s) W => RRead8 x (Nat.le_trans (spl_len 46 s x hx) (by omega)) W
  have hC : addrC s = (match rdAll 10 255 (spl 46 s) with | some l => (l.map UInt8.ofNat, 0) | none => ([], 4)) := if_pos h4
  generalize spl 46 s = P at hS hnum hC h4
  generalize spl 58 s = P8 at hS2
  replace hS := hide hS
  replace hS2 := hide hS2
  replace hnum := hide hnum
  replace hC := hide hC
  go_enter Tryz.func54, Tryz.ntmps54
  go_wp2_with fail
  refine hS.out.mono ?_
  rintro e w1 ⟨hEw1, g1, o1, d1, rfl, hd1, hc1⟩
  rw [h4] at hd1
  rw [h4]
  clear hS
  replace hc1 := hide hc1
  replace hEw1 := hide hEw1
  go_wp2_with fail
  refine (hS2.out _).mono ?_
  rintro e w2 ⟨hEw2, g2, o2, d2, rfl, hd2, _⟩
  have hEw := hide (hEw1.out.trans hEw2)
  replace hc1 := hide fun k h => hEw2.cell (hc1.out k h)
  clear hS2 hEw1 hEw2
  generalize P8.length = l8 at hd2 ⊢
  go_wp2_with fail
  go_loopw [6, 7] (fun v q wr => ∃ (k : Nat) (ns : List Nat), k ≤ 4 ∧ q = .int .i64 (k : Int) ∧ rdAll 10 255 (P.take k) = some ns ∧ ns.length = k ∧ OwnB 5 wr w2.heap.size v (ns.map UInt8.ofNat) ∧ Ext w2 wr) (fun _ q _ => 4 - (intOf q).toNat)
  case atStart => exact ⟨0, [], by omega, rfl, by rw [List.take_zero]; rfl, rfl, OwnB.nil, Ext.refl _⟩
  case round =>
    obtain ⟨k, ns, hk, rfl, hrd, hnl, hown, hE⟩ := hrel
    rename World => W0
    have hz0 := hE.size
    obtain ⟨vo, dd, rfl⟩ := hown.form
    have hlk : (ns.map UInt8.ofNat).length = k := by rw [List.length_map, hnl]
    rw [hlk] at hown ⊢
    replace hlk := hide hlk
    replace hE := hide hE
    replace hown := hide hown
    by_cases hlt : k < 4
    · have hkP : k < P.length := by omega
      have x0 : W0.cell? ⟨g1, o1 + k, none⟩ = some (.string ⟨(P[k]'hkP).toArray⟩) := hE.out.cell (hc1.out k hkP)
      have hn := hnum.out (P[k]'hkP) (List.getElem_mem hkP) W0
      have hbad : rdN 10 255 (P[k]'hkP) = none → addrC s = ([], 4) := fun h => by rw [hC.out, rdAll_bad (List.getElem_mem hkP) h]
      have hnx := fun n (h : rdN 10 255 (P[k]'hkP) = some n) => rdAll_next hkP hrd h
      have hmost := fun n (h : rdN 10 255 (P[k]'hkP) = some n) => ((rdN_iff (b := 10) (by decide) (by decide)).1 h).1
      generalize (P[k]'hkP) = wd at x0 hn hbad hnx hmost
      replace hrd := hide hrd
      replace hnl := hide hnl
      cases hr : rdN 10 255 wd with
      | none =>
        have hb := hbad hr
        clear hbad hmost hnx
        replace hb := hide hb
        unfold RdP at hn
        rw [hr] at hn
        replace hn := hide hn
        replace hr := hide hr
        go_wp2_with fail
        refine hn.out.mono ?_
        rintro e w3 ⟨⟨z, _, rfl, _⟩, he3⟩
        have hE3 := hide (hEw.out.trans (hE.out.trans he3))
        clear he3
        go_wp2
        go_ret2
        exact AdP.of hb.out hE3.out
      | some n =>
        have hm := hmost n hr
        have hnx2 := hnx n hr
        clear hbad hmost hnx
        unfold RdP at hn
        rw [hr] at hn
        replace hn := hide hn
        replace hr := hide hr
        have hw8 : IntKind.u8.wrap (n : Int) = ((UInt8.ofNat n).toNat : Int) := by rw [IntKind.wrap_u8, UInt8.toNat_ofNat']; omega
        have hap : ns.map UInt8.ofNat ++ [UInt8.ofNat n] = (ns ++ [n]).map UInt8.ofNat := by simp
        generalize hu : UInt8.ofNat n = u at hw8 hap
        replace hu := hide hu
        replace hap := hide hap
        replace hnx2 := hide hnx2
        replace hm := hide hm
        go_wp2_with fail
        refine hn.out.mono ?_
        rintro e w3 ⟨⟨z, _, rfl, hz⟩, he3⟩
        obtain rfl := hz n rfl
        have hown3 := hide (hown.out.ext he3)
        have hE3 := hide (hE.out.trans he3)
        have hz3 := he3.size
        clear he3 hz
        go_wp2_with (at_builtin
                     have hox := hown3.out.alloc (Obj.cells #[.int .u8 (u.toNat : Int)] 5)
                     refine wpList_appendB rfl _ _ _ rfl okB8 okB8z rfl hox (by simp; omega) [u] rfl (by rw [hlk.out]; simp; omega) (byte_new _ _ _) ?_
                     intro v' w5 hown1 hg hat)
        go_roundw
        case rel => exact ⟨k + 1, ns ++ [n], by omega, by go_num, hnx2.out, by simp [hnl.out], by rw [← hap.out]; exact hown1, (hE3.out.alloc _).push (fun j hj => (hown3.out.lt j hj).1) hg⟩
        case measure => simp [intOf]; omega
    · obtain rfl : k = 4 := by omega
      rw [List.take_of_length_le (by omega)] at hrd
      have hfin : addrC s = (ns.map UInt8.ofNat, 0) := by rw [hC.out, hrd]
      have kd := run_stringB (P := Tryz.prog) (src := 65) (dst := 9) Tryz.underlying65 Tryz.underlying5 Tryz.underlying9 hown.out
      replace hfin := hide hfin
      replace hrd := hide hrd
      replace hnl := hide hnl
      go_wp2
      go_ret2
      exact AdP.of hfin.out (hEw.out.trans hE.out)
set_option maxRecDepth 20000 in
set_option maxHeartbeats 2000000 in
theorem RAddr16_any (s : List UInt8) (hs : s.length ≤ 40) (h4 : (spl 46 s).length ≠ 4) (w : World) :
    Calls Tryz.prog 54 #[.string ⟨s.toArray⟩] w (AdP s w) := by
  have hz : (ByteArray.mk s.toArray).size = s.length := ba_size s
  have b1 : decide ((40 : Int) < (s.length : Int)) = false := decide_eq_false (by omega)
  have hS := RSplit46 s (by omega) w
  have b4 : ((((spl 46 s).length : Nat) : Int) == 4) = false := by rw [beq_eq_false_iff_ne]; omega
  have hS2 := fun W => RSplit58 s (by omega) W
  have hnum := fun (x : List UInt8) (hx : x ∈ spl 58 s) W => RRead16 x (Nat.le_trans (spl_len 58 s x hx) (by omega)) W
  by_cases h8 : (spl 58 s).length = 8
  · have hC : addrC s = (match rdAll 16 65535 (spl 58 s) with | some l => (l.flatMap unpair, 0) | none => ([], 4)) := by unfold addrC; rw [if_neg h4, if_pos h8]; first | done | (cases rdAll 16 65535 (spl 58 s) <;> rfl)
    generalize spl 46 s = P4 at b4 hS h4
    generalize spl 58 s = P at hS2 hnum hC h8
    replace hS := hide hS
    replace hS2 := hide hS2
    replace hnum := hide hnum
    replace hC := hide hC
    have h4' : ¬ P4.length = 4 := h4
    go_enter Tryz.func54, Tryz.ntmps54
    go_wp2_with fail
    refine hS.out.mono ?_
    rintro e w1 ⟨hEw1, g1, o1, d1, rfl, hd1, _⟩
    replace hEw1 := hide hEw1
    generalize P4.length = l4 at hd1 b4 h4 h4' ⊢
    go_wp2_with fail
    refine (hS2.out _).mono ?_
    rintro e w2 ⟨hEw2, g2, o2, d2, rfl, hd2, hc1⟩
    have hEw := hide (hEw1.out.trans hEw2)
    clear hEw2 hEw1
    rw [h8] at hd2
    rw [h8]
    clear hS hS2
    replace hc1 := hide hc1
    go_wp2_with fail
    go_loopw [6, 10] (fun v q wr => ∃ (k : Nat) (ns : List Nat), k ≤ 8 ∧ q = .int .i64 (k : Int) ∧ rdAll 16 65535 (P.take k) = some ns ∧ ns.length = k ∧ OwnB 5 wr w2.heap.size v (ns.flatMap unpair) ∧ Ext w2 wr) (fun _ q _ => 8 - (intOf q).toNat)
    case atStart => exact ⟨0, [], by omega, rfl, by rw [List.take_zero]; rfl, rfl, OwnB.nil, Ext.refl _⟩
    case round =>
      obtain ⟨k, ns, hk, rfl, hrd, hnl, hown, hE⟩ := hrel
      rename World => W0
      have hz0 := hE.size
      obtain ⟨vo, dd, rfl⟩ := hown.form
      have hlk : (ns.flatMap unpair).length = 2 * k := by rw [unpair_len, hnl]
      rw [hlk] at hown ⊢
      replace hlk := hide hlk
      replace hE := hide hE
      replace hown := hide hown
      by_cases hlt : k < 8
      · have hkP : k < P.length := by omega
        have x0 : W0.cell? ⟨g2, o2 + k, none⟩ = some (.string ⟨(P[k]'hkP).toArray⟩) := hE.out.cell (hc1.out k hkP)
        have hn := hnum.out (P[k]'hkP) (List.getElem_mem hkP) W0
        have hbad : rdN 16 65535 (P[k]'hkP) = none → addrC s = ([], 4) := fun h => by rw [hC.out, rdAll_bad (List.getElem_mem hkP) h]
        have hnx := fun n (h : rdN 16 65535 (P[k]'hkP) = some n) => rdAll_next hkP hrd h
        have hmost := fun n (h : rdN 16 65535 (P[k]'hkP) = some n) => ((rdN_iff (b := 16) (by decide) (by decide)).1 h).1
        generalize (P[k]'hkP) = wd at x0 hn hbad hnx hmost
        replace hrd := hide hrd
        replace hnl := hide hnl
        cases hr : rdN 16 65535 wd with
        | none =>
          have hb := hbad hr
          clear hbad hmost hnx
          replace hb := hide hb
          unfold RdP at hn
          rw [hr] at hn
          replace hn := hide hn
          replace hr := hide hr
          go_wp2_with fail
          refine hn.out.mono ?_
          rintro e w3 ⟨⟨z, _, rfl, _⟩, he3⟩
          have hE3 := hide (hEw.out.trans (hE.out.trans he3))
          clear he3
          go_wp2
          go_ret2
          exact AdP.of hb.out hE3.out
        | some n =>
          have hm := hmost n hr
          have hnx2 := hnx n hr
          clear hbad hmost hnx
          unfold RdP at hn
          rw [hr] at hn
          replace hn := hide hn
          replace hr := hide hr
          have hw8 : IntKind.u8.wrap (n : Int) = ((UInt8.ofNat n).toNat : Int) := by rw [IntKind.wrap_u8, UInt8.toNat_ofNat']; omega
          have hw9 : IntKind.u8.wrap ((n : Int) / 256) = ((UInt8.ofNat (n / 256)).toNat : Int) := by rw [IntKind.wrap_u8, UInt8.toNat_ofNat']; omega
          have hap : ns.flatMap unpair ++ [UInt8.ofNat (n / 256), UInt8.ofNat n] = (ns ++ [n]).flatMap unpair := by simp [unpair]
          generalize hu : UInt8.ofNat n = u at hw8 hap
          generalize hu2 : UInt8.ofNat (n / 256) = u2 at hw9 hap
          replace hu := hide hu
          replace hu2 := hide hu2
          replace hap := hide hap
          replace hnx2 := hide hnx2
          replace hm := hide hm
          go_wp2_with fail
          refine hn.out.mono ?_
          rintro e w3 ⟨⟨z, _, rfl, hz⟩, he3⟩
          obtain rfl := hz n rfl
          have hown3 := hide (hown.out.ext he3)
          have hE3 := hide (hE.out.trans he3)
          have hz3 := he3.size
          clear he3 hz
          go_wp2_with (at_builtin
                       have hox := hown3.out.alloc (Obj.cells #[.int .u8 (u2.toNat : Int), .int .u8 (u.toNat : Int)] 5)
                       refine wpList_appendB rfl _ _ _ rfl okB8 okB8z rfl hox (by simp; omega) [u2, u] rfl (by rw [hlk.out]; simp; omega) (byte_new2 _ _ _ _) ?_
                       intro v' w5 hown1 hg hat)
          go_roundw
          case rel => exact ⟨k + 1, ns ++ [n], by omega, by go_num, hnx2.out, by simp [hnl.out], by rw [← hap.out]; exact hown1, (hE3.out.alloc _).push (fun j hj => (hown3.out.lt j hj).1) hg⟩
          case measure => simp [intOf]; omega
      · obtain rfl : k = 8 := by omega
        rw [List.take_of_length_le (by omega)] at hrd
        have hfin : addrC s = (ns.flatMap unpair, 0) := by rw [hC.out, hrd]
        have kd := run_stringB (P := Tryz.prog) (src := 65) (dst := 9) Tryz.underlying65 Tryz.underlying5 Tryz.underlying9 hown.out
        replace hfin := hide hfin
        replace hrd := hide hrd
        replace hnl := hide hnl
        go_wp2
        go_ret2
        exact AdP.of hfin.out (hEw.out.trans hE.out)
  · have hC : addrC s = ([], 4) := by unfold addrC; rw [if_neg h4, if_neg h8]
    have b8 : ((((spl 58 s).length : Nat) : Int) != 8) = true := by rw [bne_iff_ne]; omega
    have h8' : ¬ (((spl 58 s).length : Nat) : Int) = 8 := by omega
    clear hnum
    generalize spl 46 s = P4 at b4 hS h4
    generalize spl 58 s = P8 at b8 hS2 h8 h8'
    replace hS := hide hS
    replace hS2 := hide hS2
    replace hC := hide hC
    go_enter Tryz.func54, Tryz.ntmps54
    go_wp2_with fail
    refine hS.out.mono ?_
    rintro e w1 ⟨hEw1, g1, o1, d1, rfl, hd1, _⟩
    replace hEw1 := hide hEw1
    generalize P4.length = l4 at hd1 b4 h4 ⊢
    go_wp2_with fail
    refine (hS2.out _).mono ?_
    rintro e w2 ⟨hEw2, g2, o2, d2, rfl, hd2, _⟩
    have hEw := hide (hEw1.out.trans hEw2)
    clear hEw2 hEw1
    generalize P8.length = l8 at hd2 b8 h8 h8' ⊢
    go_wp2
    go_ret2
    exact AdP.of hC.out hEw.out
theorem RAddr_any (s : List UInt8) (w : World) :
  Calls Tryz.prog 54 #[.string ⟨s.toArray⟩] w (AdP s w) := by
 by_cases hs : s.length ≤ 40
 ·by_cases h4 : (spl 46 s).length = 4
  ·exact RAddr4_any s hs h4 w
  ·exact RAddr16_any s hs h4 w
 ·exact RAddrL_any s (by omega) w
end
section
open Go.RowKit
set_option linter.unusedVariables false
set_option linter.unusedSimpArgs false
theorem smallS_le (s : List UInt8) : smallS s ≤ 4294967295 := by
 unfold smallS
 cases h : rdN 10 4294967295 s with
 | none => exact Nat.zero_le _
 | some n => exact ((rdN_iff (by decide) (by decide)).1 h).1
theorem DSmall_any (s : List UInt8) (hs : s.length ≤ 1048576) (w : World) : Calls Tryz.prog 56 #[.string ⟨s.toArray⟩] w fun e w' => e = .returned (.int .i64 (smallS s : Int)) ∧ Ext w w' := by
  have q := RRead_any 10 4294967295 (by decide) (by decide) (by decide) (by decide) s hs w
  unfold RdP at q
  unfold smallS
  have hb : ∀ n, rdN 10 4294967295 s = some n → n ≤ 4294967295 := fun n h => ((rdN_iff (by decide) (by decide)).1 h).1
  cases hr : rdN 10 4294967295 s with
  | none =>
    rw [hr] at q
    clear hb hr hs
    replace q := hide q
    go_enter Tryz.func56, Tryz.ntmps56
    go_wp2_with fail
    refine q.out.mono ?_
    rintro e w1 ⟨⟨x, _, rfl, _⟩, he⟩
    replace he := hide he
    simp only [Option.isSome_none]
    go_wp2
    go_ret
    exact ⟨rfl, he.out⟩
  | some n =>
    rw [hr] at q hb
    have hn := hb n rfl
    have hw : IntKind.i64.wrap (n : Int) = (n : Int) := by rw [IntKind.wrap_i64]; omega
    clear hb hr hs hn
    replace q := hide q
    go_enter Tryz.func56, Tryz.ntmps56
    go_wp2_with fail
    refine q.out.mono ?_
    rintro e w1 ⟨⟨x, _, rfl, hx⟩, he⟩
    obtain rfl : n = x := hx n rfl
    clear hx
    replace he := hide he
    simp only [Option.isSome_some]
    go_wp2
    go_ret
    exact ⟨rfl, he.out⟩
theorem DUnh_any (s : List UInt8) (hs : s.length ≤ 1048576) (w : World) : Calls Tryz.prog 57 #[.string ⟨s.toArray⟩] w fun e w' => e = .returned (.string ⟨(unhexD s).toArray⟩) ∧ Ext w w' := by
 have q := DUnhex_any s hs w
 unfold UnP at q
 unfold unhexD
 generalize (unhexS s).getD [] = u at *
 replace q := hide q
 go_enter Tryz.func57, Tryz.ntmps57
 go_wp2_with fail
 refine q.out.mono ?_
 rintro e w1 ⟨⟨c, rfl, _⟩, he⟩
 go_wp2
 go_ret
 exact ⟨rfl, he⟩
theorem DWord_any (g off d : Nat) (l : List (List UInt8)) (n : Nat) (hl : l.length ≤ 16777216) (hn : n ≤ 16) (w : World) (h : ∀ k, (hk : k < l.length) → w.cell? ⟨g, off + k, none⟩ = some (.string ⟨l[k].toArray⟩)) :
  Calls Tryz.prog 55 #[.slice (some ⟨g, off, none⟩) l.length d, .int .i64 (n : Int)] w fun e w' => e = .returned (.string ⟨(wAt l n).toArray⟩) ∧ w = w' := by
 by_cases hk : n < l.length
 ·have c0 := h n hk
  have hw : wAt l n = l[n] := by unfold wAt; simp [List.getD, hk]
  rw [hw]
  clear h hw
  generalize l[n] = x at *
  generalize l.length = L at *
  have b1 : decide ((n : Int) < (L : Int)) = true := decide_eq_true (by omega)
  clear hl hn
  go_enter Tryz.func55, Tryz.ntmps55
  go_wp2
  go_ret
  exact ⟨rfl, rfl⟩
 ·have hw : wAt l n = [] := by unfold wAt; simp [List.getD, List.getElem?_eq_none (Nat.le_of_not_lt hk)]
  rw [hw]
  clear h hw
  generalize l.length = L at *
  have b1 : decide ((n : Int) < (L : Int)) = false := decide_eq_false (by omega)
  clear hl hn
  go_enter Tryz.func55, Tryz.ntmps55
  go_wp2
  go_ret
  exact ⟨rfl, rfl⟩
theorem wAt_len {l : List (List UInt8)} {m : Nat} (h : ∀ y ∈ l, y.length ≤ m) (n : Nat) : (wAt l n).length ≤ m := by
 by_cases hk : n < l.length
 ·have hw : wAt l n = l[n] := by unfold wAt; simp [List.getD, hk]
  rw [hw]; exact h _ (List.getElem_mem hk)
 ·have hw : wAt l n = [] := by unfold wAt; simp [List.getD, List.getElem?_eq_none (Nat.le_of_not_lt hk)]
  rw [hw]; exact Nat.zero_le _
def ddE (s : List UInt8) (l : List (List UInt8)) : EvS × Bool := if evT (candE l) = (s, 0) then (candE l, true) else (zeroEv, false)
set_option maxRecDepth 20000 in
set_option maxHeartbeats 8000000 in
theorem DEvent_any (s : List UInt8) (hs : s.length ≤ 1048576) (w : World) : Calls Tryz.prog 24 #[.string ⟨s.toArray⟩] w fun e' w' => e' = .returned (.tuple #[.agg (evCs (docE s).1).toArray, .bool (docE s).2]) ∧ Ext w w' := by
 have Z := Blk.new w 31 #[.int .i64 0, .int .i64 0, .string ⟨#[]⟩, .string ⟨#[]⟩, .string ⟨#[]⟩, .int .i64 0, .int .u32 0]
 have E := (Ext.refl w).alloc (Obj.cells #[.int .i64 0, .int .i64 0, .string ⟨#[]⟩, .string ⟨#[]⟩, .string ⟨#[]⟩, .int .i64 0, .int .u32 0] 31)
 have hz1 : (w.alloc (Obj.cells #[.int .i64 0, .int .i64 0, .string ⟨#[]⟩, .string ⟨#[]⟩, .string ⟨#[]⟩, .int .i64 0, .int .u32 0] 31)).heap.size = w.heap.size + 1 := by simp
 generalize hW1 : w.alloc (Obj.cells #[.int .i64 0, .int .i64 0, .string ⟨#[]⟩, .string ⟨#[]⟩, .string ⟨#[]⟩, .int .i64 0, .int .u32 0] 31) = W1 at Z E hz1
 by_cases hlong : 131112 < s.length
 ·have hd : docE s = (zeroEv, false) := if_pos hlong
  rw [hd]
  have b1 : decide ((131112 : Int) < (s.length : Int)) = true := decide_eq_true (by omega)
  clear hd hlong hs
  have r0 : W1.cell? ⟨w.heap.size, 0, none⟩ = some (.int .i64 0) := Z.cell 0
  have r1 : W1.cell? ⟨w.heap.size, 1, none⟩ = some (.int .i64 0) := Z.cell 1
  have r2 : W1.cell? ⟨w.heap.size, 2, none⟩ = some (.string ⟨#[]⟩) := Z.cell 2
  have r3 : W1.cell? ⟨w.heap.size, 3, none⟩ = some (.string ⟨#[]⟩) := Z.cell 3
  have r4 : W1.cell? ⟨w.heap.size, 4, none⟩ = some (.string ⟨#[]⟩) := Z.cell 4
  have r5 : W1.cell? ⟨w.heap.size, 5, none⟩ = some (.int .i64 0) := Z.cell 5
  have r6 : W1.cell? ⟨w.heap.size, 6, none⟩ = some (.int .u32 0) := Z.cell 6
  have rf := fun i => Z.frozen i
  have hE := E.set7 (Nat.le_refl _) (.int .i64 0) (.int .i64 0) (.string ⟨#[]⟩) (.string ⟨#[]⟩) (.string ⟨#[]⟩) (.int .i64 0) (.int .u32 0)
  have hRZ := Z.fill7 (.int .i64 0) (.int .i64 0) (.string ⟨#[]⟩) (.string ⟨#[]⟩) (.string ⟨#[]⟩) (.int .i64 0) (.int .u32 0)
  have z0 := hRZ.cell 0
  have z1 := hRZ.cell 1
  have z2 := hRZ.cell 2
  have z3 := hRZ.cell 3
  have z4 := hRZ.cell 4
  have z5 := hRZ.cell 5
  have z6 := hRZ.cell 6
  simp at z0 z1 z2 z3 z4 z5 z6
  clear hRZ Z E hz1
  replace hE := hide hE
  go_enter Tryz.func24, Tryz.ntmps24
  go_wp2
  exact bodyPost_ret (v := .tuple #[.agg #[.int .i64 0, .int .i64 0, .string ⟨#[]⟩, .string ⟨#[]⟩, .string ⟨#[]⟩, .int .i64 0, .int .u32 0], .bool false]) (by simp [results, Tryz.results24, go_sem, z0, z1, z2, z3, z4, z5, z6]) rfl ⟨rfl, hE.out⟩
 have hdoc : docE s = ddE s (spl 32 s) := if_neg hlong
 rw [hdoc]
 clear hdoc
 have b1 : decide ((131112 : Int) < (s.length : Int)) = false := decide_eq_false (by omega)
 have qs := RSplit32 s hs W1
 unfold SpR at qs
 have hwl : ∀ y ∈ spl 32 s, y.length ≤ 1048576 := fun y hy => Nat.le_trans (spl_len 32 s y hy) hs
 have hnil := spl_ne 32 s
 have hcnt := spl_cnt 32 s.length s (Nat.le_refl _)
 generalize spl 32 s = l at *
 have hlw := wAt_len hwl
 have hll : l.length ≤ 1048577 := by omega
 clear hs hlong hcnt hwl
 replace qs := hide qs
 replace hnil := hide hnil
 replace hlw := hide hlw
 replace hll := hide hll
 replace Z := hide Z
 replace E := hide E
 replace hz1 := hide hz1
 go_enter Tryz.func24, Tryz.ntmps24
 go_wp2_with fail
 clear hW1
 refine qs.out.mono ?_
 rintro e W2 ⟨he2, g, off, d, rfl, _, hcell⟩
 have B := Blk.new W2 31 #[.int .i64 0, .int .i64 0, .string ⟨#[]⟩, .string ⟨#[]⟩, .string ⟨#[]⟩, .int .i64 0, .int .u32 0]
 have eA := (Ext.refl W2).alloc (Obj.cells #[.int .i64 0, .int .i64 0, .string ⟨#[]⟩, .string ⟨#[]⟩, .string ⟨#[]⟩, .int .i64 0, .int .u32 0] 31)
 have E3 := (E.out.trans he2).alloc (Obj.cells #[.int .i64 0, .int .i64 0, .string ⟨#[]⟩, .string ⟨#[]⟩, .string ⟨#[]⟩, .int .i64 0, .int .u32 0] 31)
 have Z3 := (Z.out.ext he2).alloc (Obj.cells #[.int .i64 0, .int .i64 0, .string ⟨#[]⟩, .string ⟨#[]⟩, .string ⟨#[]⟩, .int .i64 0, .int .u32 0] 31)
 have hcell3 := fun k hk => eA.cell (hcell k hk)
 have hsz2 := he2.size
 generalize hW3 : W2.alloc (Obj.cells #[.int .i64 0, .int .i64 0, .string ⟨#[]⟩, .string ⟨#[]⟩, .string ⟨#[]⟩, .int .i64 0, .int .u32 0] 31) = W3 at B E3 Z3 hcell3
 generalize hp : W2.heap.size = p at B hsz2
 have hpw : w.heap.size < p := by have := hz1.out; omega
 have hl0 : 0 < l.length := List.length_pos_iff.2 hnil.out
 have qw := fun (n : Nat) (hn : n ≤ 16) W (h : Ext W3 W) => DWord_any g off d l n (by have := hll.out; omega) hn W (fun k hk => h.cell (hcell3 k hk))
 have x0 : W3.cell? ⟨g, off, none⟩ = some (.string ⟨(wAt l 0).toArray⟩) := by
  have := hcell3 0 hl0
  rw [show wAt l 0 = l[0] by unfold wAt; simp [List.getD, hl0]]
  exact this
 obtain ⟨k0, hk0⟩ : ∃ k0, wAt l 0 = k0 := ⟨_, rfl⟩
 rw [hk0] at x0
 clear hcell hcell3 eA he2 Z E qs hsz2 hz1 hnil
 replace hW3 := hide hW3
 replace hp := hide hp
 replace B := hide B
 replace E3 := hide E3
 replace Z3 := hide Z3
 replace qw := hide qw
 replace hk0 := hide hk0
 go_upto_region 5 with fail
 try rw [hW3.out]
 try simp only [hp.out]
 clear hW3
 go_upto_block 0 with fail
 clear x0
 go_cut [6] (fun s6 wx => Ext w wx ∧ Blk wx w.heap.size 31 #[.int .i64 0, .int .i64 0, .string ⟨#[]⟩, .string ⟨#[]⟩, .string ⟨#[]⟩, .int .i64 0, .int .u32 0] ∧ Blk wx p 31 (evCs (candE l)).toArray)
 case first =>
  by_cases hx1 : k0 = [105, 110]
  ·subst hx1
   have q := qw.out 2 (by decide) W3 (Ext.refl W3)
   replace q := hide q
   go_wp2_with fail
   refine q.out.mono ?_
   rintro e9 w9 ⟨rfl, rfl⟩
   clear q
   obtain ⟨a, ec, hac⟩ : ∃ a ec, addrC (wAt l 2) = (a, ec) := ⟨_, _, rfl⟩
   have q := RAddr_any (wAt l 2) W3
   unfold AdP at q
   rw [hac] at q
   replace q := hide q
   replace hac := hide hac
   go_wp2_with fail
   refine q.out.mono ?_
   rintro e9 V4 ⟨rfl, he4⟩
   have F4 := (Ext.refl W3).trans he4
   clear q he4
   have q := qw.out 1 (by decide) V4 F4
   replace q := hide q
   go_wp2_with fail
   refine q.out.mono ?_
   rintro e9 w9 ⟨rfl, rfl⟩
   clear q
   have q := DSmall_any (wAt l 1) (hlw.out 1) V4
   replace q := hide q
   go_wp2_with fail
   refine q.out.mono ?_
   rintro e9 V5 ⟨rfl, he5⟩
   have F5 := F4.trans he5
   clear q he5
   have Bn := B.out.ext F5
   have Zn := Z3.out.ext F5
   have En := E3.out.trans F5
   have c0 : V5.cell? ⟨p, 0, none⟩ = some (.int .i64 0) := Bn.cell 0
   have c1 : V5.cell? ⟨p, 1, none⟩ = some (.int .i64 0) := Bn.cell 1
   have c2 : V5.cell? ⟨p, 2, none⟩ = some (.string ⟨#[]⟩) := Bn.cell 2
   have c3 : V5.cell? ⟨p, 3, none⟩ = some (.string ⟨#[]⟩) := Bn.cell 3
   have c4 : V5.cell? ⟨p, 4, none⟩ = some (.string ⟨#[]⟩) := Bn.cell 4
   have c5 : V5.cell? ⟨p, 5, none⟩ = some (.int .i64 0) := Bn.cell 5
   have c6 : V5.cell? ⟨p, 6, none⟩ = some (.int .u32 0) := Bn.cell 6
   have cf := fun i => Bn.frozen i
   have hB := Bn.fill7 (.int .i64 1) (.int .i64 (smallS (wAt l 1) : Int)) (.string ⟨a.toArray⟩) (.string ⟨#[]⟩) (.string ⟨#[]⟩) (.int .i64 0) (.int .u32 0)
   have hE := En.set7 (Nat.le_of_lt hpw) (.int .i64 1) (.int .i64 (smallS (wAt l 1) : Int)) (.string ⟨a.toArray⟩) (.string ⟨#[]⟩) (.string ⟨#[]⟩) (.int .i64 0) (.int .u32 0)
   have hZ := (((((((Zn.far (p := ⟨p, 0, none⟩) (show w.heap.size ≠ p by omega) (.int .i64 1)).far (p := ⟨p, 1, none⟩) (show w.heap.size ≠ p by omega) (.int .i64 (smallS (wAt l 1) : Int))).far (p := ⟨p, 2, none⟩) (show w.heap.size ≠ p by omega) (.string ⟨a.toArray⟩)).far (p := ⟨p, 3, none⟩) (show w.heap.size ≠ p by omega) (.string ⟨#[]⟩)).far (p := ⟨p, 4, none⟩) (show w.heap.size ≠ p by omega) (.string ⟨#[]⟩)).far (p := ⟨p, 5, none⟩) (show w.heap.size ≠ p by omega) (.int .i64 0)).far (p := ⟨p, 6, none⟩) (show w.heap.size ≠ p by omega) (.int .u32 0))
   have hc : candE l = ⟨1, (smallS (wAt l 1) : Int), a, [], [], 0, 0⟩ := by simp [candE, hk0.out, hac.out]
   clear Bn Zn En
   replace hB := hide hB
   replace hE := hide hE
   replace hZ := hide hZ
   replace hc := hide hc
   go_wp2_with fail
   go_meet
   case rel => exact ⟨hE.out, hZ.out, by rw [hc.out]; exact hB.out⟩
  have g1a : (k0 == [105, 110]) = false := beq_eq_false_iff_ne.2 hx1
  have g1b : (k0 != [105, 110]) = true := by simpa using hx1
  by_cases hx2 : k0 = [117, 112]
  ·subst hx2
   have q := qw.out 1 (by decide) W3 (Ext.refl W3)
   replace q := hide q
   go_wp2_with fail
   refine q.out.mono ?_
   rintro e9 w9 ⟨rfl, rfl⟩
   clear q
   have q := DSmall_any (wAt l 1) (hlw.out 1) W3
   replace q := hide q
   go_wp2_with fail
   refine q.out.mono ?_
   rintro e9 V4 ⟨rfl, he4⟩
   have F4 := (Ext.refl W3).trans he4
   clear q he4
   have q := qw.out 2 (by decide) V4 F4
   replace q := hide q
   go_wp2_with fail
   refine q.out.mono ?_
   rintro e9 w9 ⟨rfl, rfl⟩
   clear q
   have Bn := B.out.ext F4
   have Zn := Z3.out.ext F4
   have En := E3.out.trans F4
   have c0 : V4.cell? ⟨p, 0, none⟩ = some (.int .i64 0) := Bn.cell 0
   have c1 : V4.cell? ⟨p, 1, none⟩ = some (.int .i64 0) := Bn.cell 1
   have c2 : V4.cell? ⟨p, 2, none⟩ = some (.string ⟨#[]⟩) := Bn.cell 2
   have c3 : V4.cell? ⟨p, 3, none⟩ = some (.string ⟨#[]⟩) := Bn.cell 3
   have c4 : V4.cell? ⟨p, 4, none⟩ = some (.string ⟨#[]⟩) := Bn.cell 4
   have c5 : V4.cell? ⟨p, 5, none⟩ = some (.int .i64 0) := Bn.cell 5
   have c6 : V4.cell? ⟨p, 6, none⟩ = some (.int .u32 0) := Bn.cell 6
   have cf := fun i => Bn.frozen i
   have hB := Bn.fill7 (.int .i64 2) (.int .i64 (smallS (wAt l 1) : Int)) (.string ⟨#[]⟩) (.string ⟨(wAt l 2).toArray⟩) (.string ⟨#[]⟩) (.int .i64 0) (.int .u32 0)
   have hE := En.set7 (Nat.le_of_lt hpw) (.int .i64 2) (.int .i64 (smallS (wAt l 1) : Int)) (.string ⟨#[]⟩) (.string ⟨(wAt l 2).toArray⟩) (.string ⟨#[]⟩) (.int .i64 0) (.int .u32 0)
   have hZ := (((((((Zn.far (p := ⟨p, 0, none⟩) (show w.heap.size ≠ p by omega) (.int .i64 2)).far (p := ⟨p, 1, none⟩) (show w.heap.size ≠ p by omega) (.int .i64 (smallS (wAt l 1) : Int))).far (p := ⟨p, 2, none⟩) (show w.heap.size ≠ p by omega) (.string ⟨#[]⟩)).far (p := ⟨p, 3, none⟩) (show w.heap.size ≠ p by omega) (.string ⟨(wAt l 2).toArray⟩)).far (p := ⟨p, 4, none⟩) (show w.heap.size ≠ p by omega) (.string ⟨#[]⟩)).far (p := ⟨p, 5, none⟩) (show w.heap.size ≠ p by omega) (.int .i64 0)).far (p := ⟨p, 6, none⟩) (show w.heap.size ≠ p by omega) (.int .u32 0))
   have hc : candE l = ⟨2, (smallS (wAt l 1) : Int), [], wAt l 2, [], 0, 0⟩ := by simp [candE, hk0.out]
   clear Bn Zn En
   replace hB := hide hB
   replace hE := hide hE
   replace hZ := hide hZ
   replace hc := hide hc
   go_wp2_with fail
   go_meet
   case rel => exact ⟨hE.out, hZ.out, by rw [hc.out]; exact hB.out⟩
  have g2a : (k0 == [117, 112]) = false := beq_eq_false_iff_ne.2 hx2
  have g2b : (k0 != [117, 112]) = true := by simpa using hx2
  by_cases hx3 : k0 = [114, 101, 102, 117, 115, 101]
  ·subst hx3
   have q := qw.out 1 (by decide) W3 (Ext.refl W3)
   replace q := hide q
   go_wp2_with fail
   refine q.out.mono ?_
   rintro e9 w9 ⟨rfl, rfl⟩
   clear q
   have Bn := B.out.ext (Ext.refl W3)
   have Zn := Z3.out.ext (Ext.refl W3)
   have En := E3.out.trans (Ext.refl W3)
   have c0 : W3.cell? ⟨p, 0, none⟩ = some (.int .i64 0) := Bn.cell 0
   have c1 : W3.cell? ⟨p, 1, none⟩ = some (.int .i64 0) := Bn.cell 1
   have c2 : W3.cell? ⟨p, 2, none⟩ = some (.string ⟨#[]⟩) := Bn.cell 2
   have c3 : W3.cell? ⟨p, 3, none⟩ = some (.string ⟨#[]⟩) := Bn.cell 3
   have c4 : W3.cell? ⟨p, 4, none⟩ = some (.string ⟨#[]⟩) := Bn.cell 4
   have c5 : W3.cell? ⟨p, 5, none⟩ = some (.int .i64 0) := Bn.cell 5
   have c6 : W3.cell? ⟨p, 6, none⟩ = some (.int .u32 0) := Bn.cell 6
   have cf := fun i => Bn.frozen i
   have hB := Bn.fill7 (.int .i64 3) (.int .i64 0) (.string ⟨#[]⟩) (.string ⟨(wAt l 1).toArray⟩) (.string ⟨#[]⟩) (.int .i64 0) (.int .u32 0)
   have hE := En.set7 (Nat.le_of_lt hpw) (.int .i64 3) (.int .i64 0) (.string ⟨#[]⟩) (.string ⟨(wAt l 1).toArray⟩) (.string ⟨#[]⟩) (.int .i64 0) (.int .u32 0)
   have hZ := (((((((Zn.far (p := ⟨p, 0, none⟩) (show w.heap.size ≠ p by omega) (.int .i64 3)).far (p := ⟨p, 1, none⟩) (show w.heap.size ≠ p by omega) (.int .i64 0)).far (p := ⟨p, 2, none⟩) (show w.heap.size ≠ p by omega) (.string ⟨#[]⟩)).far (p := ⟨p, 3, none⟩) (show w.heap.size ≠ p by omega) (.string ⟨(wAt l 1).toArray⟩)).far (p := ⟨p, 4, none⟩) (show w.heap.size ≠ p by omega) (.string ⟨#[]⟩)).far (p := ⟨p, 5, none⟩) (show w.heap.size ≠ p by omega) (.int .i64 0)).far (p := ⟨p, 6, none⟩) (show w.heap.size ≠ p by omega) (.int .u32 0))
   have hc : candE l = ⟨3, 0, [], wAt l 1, [], 0, 0⟩ := by simp [candE, hk0.out]
   clear Bn Zn En
   replace hB := hide hB
   replace hE := hide hE
   replace hZ := hide hZ
   replace hc := hide hc
   go_wp2_with fail
   go_meet
   case rel => exact ⟨hE.out, hZ.out, by rw [hc.out]; exact hB.out⟩
  have g3a : (k0 == [114, 101, 102, 117, 115, 101]) = false := beq_eq_false_iff_ne.2 hx3
  have g3b : (k0 != [114, 101, 102, 117, 115, 101]) = true := by simpa using hx3
  by_cases hx4 : k0 = [100, 97, 116, 97]
  ·subst hx4
   have q := qw.out 1 (by decide) W3 (Ext.refl W3)
   replace q := hide q
   go_wp2_with fail
   refine q.out.mono ?_
   rintro e9 w9 ⟨rfl, rfl⟩
   clear q
   have q := DSmall_any (wAt l 1) (hlw.out 1) W3
   replace q := hide q
   go_wp2_with fail
   refine q.out.mono ?_
   rintro e9 V4 ⟨rfl, he4⟩
   have F4 := (Ext.refl W3).trans he4
   clear q he4
   have q := qw.out 2 (by decide) V4 F4
   replace q := hide q
   go_wp2_with fail
   refine q.out.mono ?_
   rintro e9 w9 ⟨rfl, rfl⟩
   clear q
   have q := DUnh_any (wAt l 2) (hlw.out 2) V4
   replace q := hide q
   go_wp2_with fail
   refine q.out.mono ?_
   rintro e9 V5 ⟨rfl, he5⟩
   have F5 := F4.trans he5
   clear q he5
   have Bn := B.out.ext F5
   have Zn := Z3.out.ext F5
   have En := E3.out.trans F5
   have c0 : V5.cell? ⟨p, 0, none⟩ = some (.int .i64 0) := Bn.cell 0
   have c1 : V5.cell? ⟨p, 1, none⟩ = some (.int .i64 0) := Bn.cell 1
   have c2 : V5.cell? ⟨p, 2, none⟩ = some (.string ⟨#[]⟩) := Bn.cell 2
   have c3 : V5.cell? ⟨p, 3, none⟩ = some (.string ⟨#[]⟩) := Bn.cell 3
   have c4 : V5.cell? ⟨p, 4, none⟩ = some (.string ⟨#[]⟩) := Bn.cell 4
   have c5 : V5.cell? ⟨p, 5, none⟩ = some (.int .i64 0) := Bn.cell 5
   have c6 : V5.cell? ⟨p, 6, none⟩ = some (.int .u32 0) := Bn.cell 6
   have cf := fun i => Bn.frozen i
   have hB := Bn.fill7 (.int .i64 4) (.int .i64 (smallS (wAt l 1) : Int)) (.string ⟨#[]⟩) (.string ⟨#[]⟩) (.string ⟨(unhexD (wAt l 2)).toArray⟩) (.int .i64 0) (.int .u32 0)
   have hE := En.set7 (Nat.le_of_lt hpw) (.int .i64 4) (.int .i64 (smallS (wAt l 1) : Int)) (.string ⟨#[]⟩) (.string ⟨#[]⟩) (.string ⟨(unhexD (wAt l 2)).toArray⟩) (.int .i64 0) (.int .u32 0)
   have hZ := (((((((Zn.far (p := ⟨p, 0, none⟩) (show w.heap.size ≠ p by omega) (.int .i64 4)).far (p := ⟨p, 1, none⟩) (show w.heap.size ≠ p by omega) (.int .i64 (smallS (wAt l 1) : Int))).far (p := ⟨p, 2, none⟩) (show w.heap.size ≠ p by omega) (.string ⟨#[]⟩)).far (p := ⟨p, 3, none⟩) (show w.heap.size ≠ p by omega) (.string ⟨#[]⟩)).far (p := ⟨p, 4, none⟩) (show w.heap.size ≠ p by omega) (.string ⟨(unhexD (wAt l 2)).toArray⟩)).far (p := ⟨p, 5, none⟩) (show w.heap.size ≠ p by omega) (.int .i64 0)).far (p := ⟨p, 6, none⟩) (show w.heap.size ≠ p by omega) (.int .u32 0))
   have hc : candE l = ⟨4, (smallS (wAt l 1) : Int), [], [], unhexD (wAt l 2), 0, 0⟩ := by simp [candE, hk0.out]
   clear Bn Zn En
   replace hB := hide hB
   replace hE := hide hE
   replace hZ := hide hZ
   replace hc := hide hc
   go_wp2_with fail
   go_meet
   case rel => exact ⟨hE.out, hZ.out, by rw [hc.out]; exact hB.out⟩
  have g4a : (k0 == [100, 97, 116, 97]) = false := beq_eq_false_iff_ne.2 hx4
  have g4b : (k0 != [100, 97, 116, 97]) = true := by simpa using hx4
  by_cases hx5 : k0 = [99, 108, 111, 115, 101]
  ·subst hx5
   have q := qw.out 1 (by decide) W3 (Ext.refl W3)
   replace q := hide q
   go_wp2_with fail
   refine q.out.mono ?_
   rintro e9 w9 ⟨rfl, rfl⟩
   clear q
   have q := DSmall_any (wAt l 1) (hlw.out 1) W3
   replace q := hide q
   go_wp2_with fail
   refine q.out.mono ?_
   rintro e9 V4 ⟨rfl, he4⟩
   have F4 := (Ext.refl W3).trans he4
   clear q he4
   have Bn := B.out.ext F4
   have Zn := Z3.out.ext F4
   have En := E3.out.trans F4
   have c0 : V4.cell? ⟨p, 0, none⟩ = some (.int .i64 0) := Bn.cell 0
   have c1 : V4.cell? ⟨p, 1, none⟩ = some (.int .i64 0) := Bn.cell 1
   have c2 : V4.cell? ⟨p, 2, none⟩ = some (.string ⟨#[]⟩) := Bn.cell 2
   have c3 : V4.cell? ⟨p, 3, none⟩ = some (.string ⟨#[]⟩) := Bn.cell 3
   have c4 : V4.cell? ⟨p, 4, none⟩ = some (.string ⟨#[]⟩) := Bn.cell 4
   have c5 : V4.cell? ⟨p, 5, none⟩ = some (.int .i64 0) := Bn.cell 5
   have c6 : V4.cell? ⟨p, 6, none⟩ = some (.int .u32 0) := Bn.cell 6
   have cf := fun i => Bn.frozen i
   have hB := Bn.fill7 (.int .i64 5) (.int .i64 (smallS (wAt l 1) : Int)) (.string ⟨#[]⟩) (.string ⟨#[]⟩) (.string ⟨#[]⟩) (.int .i64 0) (.int .u32 0)
   have hE := En.set7 (Nat.le_of_lt hpw) (.int .i64 5) (.int .i64 (smallS (wAt l 1) : Int)) (.string ⟨#[]⟩) (.string ⟨#[]⟩) (.string ⟨#[]⟩) (.int .i64 0) (.int .u32 0)
   have hZ := (((((((Zn.far (p := ⟨p, 0, none⟩) (show w.heap.size ≠ p by omega) (.int .i64 5)).far (p := ⟨p, 1, none⟩) (show w.heap.size ≠ p by omega) (.int .i64 (smallS (wAt l 1) : Int))).far (p := ⟨p, 2, none⟩) (show w.heap.size ≠ p by omega) (.string ⟨#[]⟩)).far (p := ⟨p, 3, none⟩) (show w.heap.size ≠ p by omega) (.string ⟨#[]⟩)).far (p := ⟨p, 4, none⟩) (show w.heap.size ≠ p by omega) (.string ⟨#[]⟩)).far (p := ⟨p, 5, none⟩) (show w.heap.size ≠ p by omega) (.int .i64 0)).far (p := ⟨p, 6, none⟩) (show w.heap.size ≠ p by omega) (.int .u32 0))
   have hc : candE l = ⟨5, (smallS (wAt l 1) : Int), [], [], [], 0, 0⟩ := by simp [candE, hk0.out]
   clear Bn Zn En
   replace hB := hide hB
   replace hE := hide hE
   replace hZ := hide hZ
   replace hc := hide hc
   go_wp2_with fail
   go_meet
   case rel => exact ⟨hE.out, hZ.out, by rw [hc.out]; exact hB.out⟩
  have g5a : (k0 == [99, 108, 111, 115, 101]) = false := beq_eq_false_iff_ne.2 hx5
  have g5b : (k0 != [99, 108, 111, 115, 101]) = true := by simpa using hx5
  by_cases hx6 : k0 = [116, 105, 99, 107]
  ·subst hx6
   have q := qw.out 1 (by decide) W3 (Ext.refl W3)
   replace q := hide q
   go_wp2_with fail
   refine q.out.mono ?_
   rintro e9 w9 ⟨rfl, rfl⟩
   clear q
   have q := DSmall_any (wAt l 1) (hlw.out 1) W3
   replace q := hide q
   go_wp2_with fail
   refine q.out.mono ?_
   rintro e9 V4 ⟨rfl, he4⟩
   have F4 := (Ext.refl W3).trans he4
   clear q he4
   have Bn := B.out.ext F4
   have Zn := Z3.out.ext F4
   have En := E3.out.trans F4
   have c0 : V4.cell? ⟨p, 0, none⟩ = some (.int .i64 0) := Bn.cell 0
   have c1 : V4.cell? ⟨p, 1, none⟩ = some (.int .i64 0) := Bn.cell 1
   have c2 : V4.cell? ⟨p, 2, none⟩ = some (.string ⟨#[]⟩) := Bn.cell 2
   have c3 : V4.cell? ⟨p, 3, none⟩ = some (.string ⟨#[]⟩) := Bn.cell 3
   have c4 : V4.cell? ⟨p, 4, none⟩ = some (.string ⟨#[]⟩) := Bn.cell 4
   have c5 : V4.cell? ⟨p, 5, none⟩ = some (.int .i64 0) := Bn.cell 5
   have c6 : V4.cell? ⟨p, 6, none⟩ = some (.int .u32 0) := Bn.cell 6
   have cf := fun i => Bn.frozen i
   have hB := Bn.fill7 (.int .i64 6) (.int .i64 0) (.string ⟨#[]⟩) (.string ⟨#[]⟩) (.string ⟨#[]⟩) (.int .i64 (smallS (wAt l 1) : Int)) (.int .u32 0)
   have hE := En.set7 (Nat.le_of_lt hpw) (.int .i64 6) (.int .i64 0) (.string ⟨#[]⟩) (.string ⟨#[]⟩) (.string ⟨#[]⟩) (.int .i64 (smallS (wAt l 1) : Int)) (.int .u32 0)
   have hZ := (((((((Zn.far (p := ⟨p, 0, none⟩) (show w.heap.size ≠ p by omega) (.int .i64 6)).far (p := ⟨p, 1, none⟩) (show w.heap.size ≠ p by omega) (.int .i64 0)).far (p := ⟨p, 2, none⟩) (show w.heap.size ≠ p by omega) (.string ⟨#[]⟩)).far (p := ⟨p, 3, none⟩) (show w.heap.size ≠ p by omega) (.string ⟨#[]⟩)).far (p := ⟨p, 4, none⟩) (show w.heap.size ≠ p by omega) (.string ⟨#[]⟩)).far (p := ⟨p, 5, none⟩) (show w.heap.size ≠ p by omega) (.int .i64 (smallS (wAt l 1) : Int))).far (p := ⟨p, 6, none⟩) (show w.heap.size ≠ p by omega) (.int .u32 0))
   have hc : candE l = ⟨6, 0, [], [], [], (smallS (wAt l 1) : Int), 0⟩ := by simp [candE, hk0.out]
   clear Bn Zn En
   replace hB := hide hB
   replace hE := hide hE
   replace hZ := hide hZ
   replace hc := hide hc
   go_wp2_with fail
   go_meet
   case rel => exact ⟨hE.out, hZ.out, by rw [hc.out]; exact hB.out⟩
  have g6a : (k0 == [116, 105, 99, 107]) = false := beq_eq_false_iff_ne.2 hx6
  have g6b : (k0 != [116, 105, 99, 107]) = true := by simpa using hx6
  by_cases hx7 : k0 = [108, 111, 97, 100]
  ·subst hx7
   have q := qw.out 1 (by decide) W3 (Ext.refl W3)
   replace q := hide q
   go_wp2_with fail
   refine q.out.mono ?_
   rintro e9 w9 ⟨rfl, rfl⟩
   clear q
   have q := DUnh_any (wAt l 1) (hlw.out 1) W3
   replace q := hide q
   go_wp2_with fail
   refine q.out.mono ?_
   rintro e9 V4 ⟨rfl, he4⟩
   have F4 := (Ext.refl W3).trans he4
   clear q he4
   have Bn := B.out.ext F4
   have Zn := Z3.out.ext F4
   have En := E3.out.trans F4
   have c0 : V4.cell? ⟨p, 0, none⟩ = some (.int .i64 0) := Bn.cell 0
   have c1 : V4.cell? ⟨p, 1, none⟩ = some (.int .i64 0) := Bn.cell 1
   have c2 : V4.cell? ⟨p, 2, none⟩ = some (.string ⟨#[]⟩) := Bn.cell 2
   have c3 : V4.cell? ⟨p, 3, none⟩ = some (.string ⟨#[]⟩) := Bn.cell 3
   have c4 : V4.cell? ⟨p, 4, none⟩ = some (.string ⟨#[]⟩) := Bn.cell 4
   have c5 : V4.cell? ⟨p, 5, none⟩ = some (.int .i64 0) := Bn.cell 5
   have c6 : V4.cell? ⟨p, 6, none⟩ = some (.int .u32 0) := Bn.cell 6
   have cf := fun i => Bn.frozen i
   have hB := Bn.fill7 (.int .i64 7) (.int .i64 0) (.string ⟨#[]⟩) (.string ⟨#[]⟩) (.string ⟨(unhexD (wAt l 1)).toArray⟩) (.int .i64 0) (.int .u32 0)
   have hE := En.set7 (Nat.le_of_lt hpw) (.int .i64 7) (.int .i64 0) (.string ⟨#[]⟩) (.string ⟨#[]⟩) (.string ⟨(unhexD (wAt l 1)).toArray⟩) (.int .i64 0) (.int .u32 0)
   have hZ := (((((((Zn.far (p := ⟨p, 0, none⟩) (show w.heap.size ≠ p by omega) (.int .i64 7)).far (p := ⟨p, 1, none⟩) (show w.heap.size ≠ p by omega) (.int .i64 0)).far (p := ⟨p, 2, none⟩) (show w.heap.size ≠ p by omega) (.string ⟨#[]⟩)).far (p := ⟨p, 3, none⟩) (show w.heap.size ≠ p by omega) (.string ⟨#[]⟩)).far (p := ⟨p, 4, none⟩) (show w.heap.size ≠ p by omega) (.string ⟨(unhexD (wAt l 1)).toArray⟩)).far (p := ⟨p, 5, none⟩) (show w.heap.size ≠ p by omega) (.int .i64 0)).far (p := ⟨p, 6, none⟩) (show w.heap.size ≠ p by omega) (.int .u32 0))
   have hc : candE l = ⟨7, 0, [], [], unhexD (wAt l 1), 0, 0⟩ := by simp [candE, hk0.out]
   clear Bn Zn En
   replace hB := hide hB
   replace hE := hide hE
   replace hZ := hide hZ
   replace hc := hide hc
   go_wp2_with fail
   go_meet
   case rel => exact ⟨hE.out, hZ.out, by rw [hc.out]; exact hB.out⟩
  have g7a : (k0 == [108, 111, 97, 100]) = false := beq_eq_false_iff_ne.2 hx7
  have g7b : (k0 != [108, 111, 97, 100]) = true := by simpa using hx7
  by_cases hx8 : k0 = [97, 115, 107]
  ·subst hx8
   have q := qw.out 1 (by decide) W3 (Ext.refl W3)
   replace q := hide q
   go_wp2_with fail
   refine q.out.mono ?_
   rintro e9 w9 ⟨rfl, rfl⟩
   clear q
   have q := DUnh_any (wAt l 1) (hlw.out 1) W3
   replace q := hide q
   go_wp2_with fail
   refine q.out.mono ?_
   rintro e9 V4 ⟨rfl, he4⟩
   have F4 := (Ext.refl W3).trans he4
   clear q he4
   have Bn := B.out.ext F4
   have Zn := Z3.out.ext F4
   have En := E3.out.trans F4
   have c0 : V4.cell? ⟨p, 0, none⟩ = some (.int .i64 0) := Bn.cell 0
   have c1 : V4.cell? ⟨p, 1, none⟩ = some (.int .i64 0) := Bn.cell 1
   have c2 : V4.cell? ⟨p, 2, none⟩ = some (.string ⟨#[]⟩) := Bn.cell 2
   have c3 : V4.cell? ⟨p, 3, none⟩ = some (.string ⟨#[]⟩) := Bn.cell 3
   have c4 : V4.cell? ⟨p, 4, none⟩ = some (.string ⟨#[]⟩) := Bn.cell 4
   have c5 : V4.cell? ⟨p, 5, none⟩ = some (.int .i64 0) := Bn.cell 5
   have c6 : V4.cell? ⟨p, 6, none⟩ = some (.int .u32 0) := Bn.cell 6
   have cf := fun i => Bn.frozen i
   have hB := Bn.fill7 (.int .i64 8) (.int .i64 0) (.string ⟨#[]⟩) (.string ⟨#[]⟩) (.string ⟨(unhexD (wAt l 1)).toArray⟩) (.int .i64 0) (.int .u32 0)
   have hE := En.set7 (Nat.le_of_lt hpw) (.int .i64 8) (.int .i64 0) (.string ⟨#[]⟩) (.string ⟨#[]⟩) (.string ⟨(unhexD (wAt l 1)).toArray⟩) (.int .i64 0) (.int .u32 0)
   have hZ := (((((((Zn.far (p := ⟨p, 0, none⟩) (show w.heap.size ≠ p by omega) (.int .i64 8)).far (p := ⟨p, 1, none⟩) (show w.heap.size ≠ p by omega) (.int .i64 0)).far (p := ⟨p, 2, none⟩) (show w.heap.size ≠ p by omega) (.string ⟨#[]⟩)).far (p := ⟨p, 3, none⟩) (show w.heap.size ≠ p by omega) (.string ⟨#[]⟩)).far (p := ⟨p, 4, none⟩) (show w.heap.size ≠ p by omega) (.string ⟨(unhexD (wAt l 1)).toArray⟩)).far (p := ⟨p, 5, none⟩) (show w.heap.size ≠ p by omega) (.int .i64 0)).far (p := ⟨p, 6, none⟩) (show w.heap.size ≠ p by omega) (.int .u32 0))
   have hc : candE l = ⟨8, 0, [], [], unhexD (wAt l 1), 0, 0⟩ := by simp [candE, hk0.out]
   clear Bn Zn En
   replace hB := hide hB
   replace hE := hide hE
   replace hZ := hide hZ
   replace hc := hide hc
   go_wp2_with fail
   go_meet
   case rel => exact ⟨hE.out, hZ.out, by rw [hc.out]; exact hB.out⟩
  have g8a : (k0 == [97, 115, 107]) = false := beq_eq_false_iff_ne.2 hx8
  have g8b : (k0 != [97, 115, 107]) = true := by simpa using hx8
  by_cases hx9 : k0 = [100, 114, 97, 119]
  ·subst hx9
   have q := qw.out 1 (by decide) W3 (Ext.refl W3)
   replace q := hide q
   go_wp2_with fail
   refine q.out.mono ?_
   rintro e9 w9 ⟨rfl, rfl⟩
   clear q
   have q := DSmall_any (wAt l 1) (hlw.out 1) W3
   replace q := hide q
   go_wp2_with fail
   refine q.out.mono ?_
   rintro e9 V4 ⟨rfl, he4⟩
   have F4 := (Ext.refl W3).trans he4
   clear q he4
   have hsl := smallS_le (wAt l 1)
   have hw : IntKind.u32.wrap (smallS (wAt l 1) : Int) = (smallS (wAt l 1) : Int) := by rw [IntKind.wrap_u32]; omega
   have hv : (UInt32.ofNat (smallS (wAt l 1))).toNat = smallS (wAt l 1) := by simp [UInt32.toNat_ofNat]; omega
   clear hsl
   replace hv := hide hv
   have Bn := B.out.ext F4
   have Zn := Z3.out.ext F4
   have En := E3.out.trans F4
   have c0 : V4.cell? ⟨p, 0, none⟩ = some (.int .i64 0) := Bn.cell 0
   have c1 : V4.cell? ⟨p, 1, none⟩ = some (.int .i64 0) := Bn.cell 1
   have c2 : V4.cell? ⟨p, 2, none⟩ = some (.string ⟨#[]⟩) := Bn.cell 2
   have c3 : V4.cell? ⟨p, 3, none⟩ = some (.string ⟨#[]⟩) := Bn.cell 3
   have c4 : V4.cell? ⟨p, 4, none⟩ = some (.string ⟨#[]⟩) := Bn.cell 4
   have c5 : V4.cell? ⟨p, 5, none⟩ = some (.int .i64 0) := Bn.cell 5
   have c6 : V4.cell? ⟨p, 6, none⟩ = some (.int .u32 0) := Bn.cell 6
   have cf := fun i => Bn.frozen i
   have hB := Bn.fill7 (.int .i64 9) (.int .i64 0) (.string ⟨#[]⟩) (.string ⟨#[]⟩) (.string ⟨#[]⟩) (.int .i64 0) (.int .u32 (smallS (wAt l 1) : Int))
   have hE := En.set7 (Nat.le_of_lt hpw) (.int .i64 9) (.int .i64 0) (.string ⟨#[]⟩) (.string ⟨#[]⟩) (.string ⟨#[]⟩) (.int .i64 0) (.int .u32 (smallS (wAt l 1) : Int))
   have hZ := (((((((Zn.far (p := ⟨p, 0, none⟩) (show w.heap.size ≠ p by omega) (.int .i64 9)).far (p := ⟨p, 1, none⟩) (show w.heap.size ≠ p by omega) (.int .i64 0)).far (p := ⟨p, 2, none⟩) (show w.heap.size ≠ p by omega) (.string ⟨#[]⟩)).far (p := ⟨p, 3, none⟩) (show w.heap.size ≠ p by omega) (.string ⟨#[]⟩)).far (p := ⟨p, 4, none⟩) (show w.heap.size ≠ p by omega) (.string ⟨#[]⟩)).far (p := ⟨p, 5, none⟩) (show w.heap.size ≠ p by omega) (.int .i64 0)).far (p := ⟨p, 6, none⟩) (show w.heap.size ≠ p by omega) (.int .u32 (smallS (wAt l 1) : Int)))
   have hc : candE l = ⟨9, 0, [], [], [], 0, UInt32.ofNat (smallS (wAt l 1))⟩ := by simp [candE, hk0.out]
   clear Bn Zn En
   replace hB := hide hB
   replace hE := hide hE
   replace hZ := hide hZ
   replace hc := hide hc
   go_wp2_with fail
   go_meet
   case rel => exact ⟨hE.out, hZ.out, by rw [hc.out]; simp only [evCs, hv.out]; exact hB.out⟩
  have g9a : (k0 == [100, 114, 97, 119]) = false := beq_eq_false_iff_ne.2 hx9
  have g9b : (k0 != [100, 114, 97, 119]) = true := by simpa using hx9
  by_cases hx10 : k0 = [100, 114, 97, 105, 110]
  ·subst hx10
   have Bn := B.out.ext (Ext.refl W3)
   have Zn := Z3.out.ext (Ext.refl W3)
   have En := E3.out.trans (Ext.refl W3)
   have c0 : W3.cell? ⟨p, 0, none⟩ = some (.int .i64 0) := Bn.cell 0
   have c1 : W3.cell? ⟨p, 1, none⟩ = some (.int .i64 0) := Bn.cell 1
   have c2 : W3.cell? ⟨p, 2, none⟩ = some (.string ⟨#[]⟩) := Bn.cell 2
   have c3 : W3.cell? ⟨p, 3, none⟩ = some (.string ⟨#[]⟩) := Bn.cell 3
   have c4 : W3.cell? ⟨p, 4, none⟩ = some (.string ⟨#[]⟩) := Bn.cell 4
   have c5 : W3.cell? ⟨p, 5, none⟩ = some (.int .i64 0) := Bn.cell 5
   have c6 : W3.cell? ⟨p, 6, none⟩ = some (.int .u32 0) := Bn.cell 6
   have cf := fun i => Bn.frozen i
   have hB := Bn.fill7 (.int .i64 10) (.int .i64 0) (.string ⟨#[]⟩) (.string ⟨#[]⟩) (.string ⟨#[]⟩) (.int .i64 0) (.int .u32 0)
   have hE := En.set7 (Nat.le_of_lt hpw) (.int .i64 10) (.int .i64 0) (.string ⟨#[]⟩) (.string ⟨#[]⟩) (.string ⟨#[]⟩) (.int .i64 0) (.int .u32 0)
   have hZ := (((((((Zn.far (p := ⟨p, 0, none⟩) (show w.heap.size ≠ p by omega) (.int .i64 10)).far (p := ⟨p, 1, none⟩) (show w.heap.size ≠ p by omega) (.int .i64 0)).far (p := ⟨p, 2, none⟩) (show w.heap.size ≠ p by omega) (.string ⟨#[]⟩)).far (p := ⟨p, 3, none⟩) (show w.heap.size ≠ p by omega) (.string ⟨#[]⟩)).far (p := ⟨p, 4, none⟩) (show w.heap.size ≠ p by omega) (.string ⟨#[]⟩)).far (p := ⟨p, 5, none⟩) (show w.heap.size ≠ p by omega) (.int .i64 0)).far (p := ⟨p, 6, none⟩) (show w.heap.size ≠ p by omega) (.int .u32 0))
   have hc : candE l = ⟨10, 0, [], [], [], 0, 0⟩ := by simp [candE, hk0.out]
   clear Bn Zn En
   replace hB := hide hB
   replace hE := hide hE
   replace hZ := hide hZ
   replace hc := hide hc
   go_wp2_with fail
   go_meet
   case rel => exact ⟨hE.out, hZ.out, by rw [hc.out]; exact hB.out⟩
  have g10a : (k0 == [100, 114, 97, 105, 110]) = false := beq_eq_false_iff_ne.2 hx10
  have g10b : (k0 != [100, 114, 97, 105, 110]) = true := by simpa using hx10
  have hc : candE l = zeroEv := by simp [candE, hk0.out, hx1, hx2, hx3, hx4, hx5, hx6, hx7, hx8, hx9, hx10]
  clear hx1 hx2 hx3 hx4 hx5 hx6 hx7 hx8 hx9 hx10
  replace hc := hide hc
  go_wp2_with fail
  go_meet
  case rel => exact ⟨E3.out, Z3.out, by rw [hc.out]; exact B.out⟩
 case rest =>
  clear B E3 Z3 qw hk0 hlw hll
  obtain ⟨E, Z, B⟩ := hcut
  have qL := fun W => DLine_any (candE l) W
  obtain ⟨c, hc⟩ : ∃ c, candE l = c := ⟨_, rfl⟩
  have hdd : ddE s l = if evT c = (s, 0) then (c, true) else (zeroEv, false) := by unfold ddE; rw [hc]
  rw [hc] at qL B
  obtain ⟨t, f, htf⟩ : ∃ t f, evT c = (t, f) := ⟨_, _, rfl⟩
  rw [htf] at qL hdd
  clear hc htf
  have hN : ¬ (t = s ∧ f = 0) → ddE s l = (zeroEv, false) := fun h => by rw [hdd, if_neg]; intro h9; injection h9 with h1 h2; exact h ⟨h1, h2⟩
  have hY : t = s → f = 0 → ddE s l = (c, true) := fun h1 h2 => by rw [hdd, if_pos]; rw [h1, h2]
  clear hdd
  obtain ⟨kd, cn, ad, pr, by_, tk, dr⟩ := c
  simp only [evCs] at B qL
  have c0 : wc.cell? ⟨p, 0, none⟩ = some (.int .i64 kd) := B.cell 0
  have c1 : wc.cell? ⟨p, 1, none⟩ = some (.int .i64 cn) := B.cell 1
  have c2 : wc.cell? ⟨p, 2, none⟩ = some (.string ⟨ad.toArray⟩) := B.cell 2
  have c3 : wc.cell? ⟨p, 3, none⟩ = some (.string ⟨pr.toArray⟩) := B.cell 3
  have c4 : wc.cell? ⟨p, 4, none⟩ = some (.string ⟨by_.toArray⟩) := B.cell 4
  have c5 : wc.cell? ⟨p, 5, none⟩ = some (.int .i64 tk) := B.cell 5
  have c6 : wc.cell? ⟨p, 6, none⟩ = some (.int .u32 (dr.toNat : Int)) := B.cell 6
  have q := qL wc
  clear qL
  replace q := hide q
  replace E := hide E
  replace Z := hide Z
  replace B := hide B
  replace hN := hide hN
  replace hY := hide hY
  go_wp2_with fail
  refine q.out.mono ?_
  rintro e9 W9 ⟨rfl, he9⟩
  have E9 := E.out.trans he9
  have Z9 := Z.out.ext he9
  have B9 := B.out.ext he9
  clear q he9 E Z B c0 c1 c2 c3 c4 c5 c6
  have r0 : W9.cell? ⟨w.heap.size, 0, none⟩ = some (.int .i64 0) := Z9.cell 0
  have r1 : W9.cell? ⟨w.heap.size, 1, none⟩ = some (.int .i64 0) := Z9.cell 1
  have r2 : W9.cell? ⟨w.heap.size, 2, none⟩ = some (.string ⟨#[]⟩) := Z9.cell 2
  have r3 : W9.cell? ⟨w.heap.size, 3, none⟩ = some (.string ⟨#[]⟩) := Z9.cell 3
  have r4 : W9.cell? ⟨w.heap.size, 4, none⟩ = some (.string ⟨#[]⟩) := Z9.cell 4
  have r5 : W9.cell? ⟨w.heap.size, 5, none⟩ = some (.int .i64 0) := Z9.cell 5
  have r6 : W9.cell? ⟨w.heap.size, 6, none⟩ = some (.int .u32 0) := Z9.cell 6
  have rf := fun i => Z9.frozen i
  by_cases hf : ¬ f = 0
  ·have b2 : (f == 0) = false := beq_eq_false_iff_ne.2 hf
   have b3 : (f != 0) = true := by simpa using hf
   have b4 : decide (f = 0) = false := decide_eq_false hf
   have hd := hN.out (fun h => hf h.2)
   have hE := E9.set7 (Nat.le_refl _) (.int .i64 0) (.int .i64 0) (.string ⟨#[]⟩) (.string ⟨#[]⟩) (.string ⟨#[]⟩) (.int .i64 0) (.int .u32 0)
   have hRZ := Z9.fill7 (.int .i64 0) (.int .i64 0) (.string ⟨#[]⟩) (.string ⟨#[]⟩) (.string ⟨#[]⟩) (.int .i64 0) (.int .u32 0)
   have z0 := hRZ.cell 0
   have z1 := hRZ.cell 1
   have z2 := hRZ.cell 2
   have z3 := hRZ.cell 3
   have z4 := hRZ.cell 4
   have z5 := hRZ.cell 5
   have z6 := hRZ.cell 6
   simp at z0 z1 z2 z3 z4 z5 z6
   clear hRZ Z9 B9 E9 hN hY
   replace hE := hide hE
   replace hd := hide hd
   go_wp2
   exact bodyPost_ret (v := .tuple #[.agg #[.int .i64 0, .int .i64 0, .string ⟨#[]⟩, .string ⟨#[]⟩, .string ⟨#[]⟩, .int .i64 0, .int .u32 0], .bool false]) (by simp [results, Tryz.results24, go_sem, z0, z1, z2, z3, z4, z5, z6]) rfl ⟨by rw [hd.out]; rfl, hE.out⟩
  replace hf := Classical.not_not.1 hf
  subst hf
  by_cases hts : ¬ t = s
  ·have b2 : (t == s) = false := beq_eq_false_iff_ne.2 hts
   have b3 : (t != s) = true := by simpa using hts
   have hd := hN.out (fun h => hts h.1)
   have hE := E9.set7 (Nat.le_refl _) (.int .i64 0) (.int .i64 0) (.string ⟨#[]⟩) (.string ⟨#[]⟩) (.string ⟨#[]⟩) (.int .i64 0) (.int .u32 0)
   have hRZ := Z9.fill7 (.int .i64 0) (.int .i64 0) (.string ⟨#[]⟩) (.string ⟨#[]⟩) (.string ⟨#[]⟩) (.int .i64 0) (.int .u32 0)
   have z0 := hRZ.cell 0
   have z1 := hRZ.cell 1
   have z2 := hRZ.cell 2
   have z3 := hRZ.cell 3
   have z4 := hRZ.cell 4
   have z5 := hRZ.cell 5
   have z6 := hRZ.cell 6
   simp at z0 z1 z2 z3 z4 z5 z6
   clear hRZ Z9 B9 E9 hN hY
   replace hE := hide hE
   replace hd := hide hd
   go_wp2
   exact bodyPost_ret (v := .tuple #[.agg #[.int .i64 0, .int .i64 0, .string ⟨#[]⟩, .string ⟨#[]⟩, .string ⟨#[]⟩, .int .i64 0, .int .u32 0], .bool false]) (by simp [results, Tryz.results24, go_sem, z0, z1, z2, z3, z4, z5, z6]) rfl ⟨by rw [hd.out]; rfl, hE.out⟩
  replace hts := Classical.not_not.1 hts
  subst hts
  have hd := hY.out rfl rfl
  have c0 : W9.cell? ⟨p, 0, none⟩ = some (.int .i64 kd) := B9.cell 0
  have c1 : W9.cell? ⟨p, 1, none⟩ = some (.int .i64 cn) := B9.cell 1
  have c2 : W9.cell? ⟨p, 2, none⟩ = some (.string ⟨ad.toArray⟩) := B9.cell 2
  have c3 : W9.cell? ⟨p, 3, none⟩ = some (.string ⟨pr.toArray⟩) := B9.cell 3
  have c4 : W9.cell? ⟨p, 4, none⟩ = some (.string ⟨by_.toArray⟩) := B9.cell 4
  have c5 : W9.cell? ⟨p, 5, none⟩ = some (.int .i64 tk) := B9.cell 5
  have c6 : W9.cell? ⟨p, 6, none⟩ = some (.int .u32 (dr.toNat : Int)) := B9.cell 6
  have hE := E9.set7 (Nat.le_refl _) (.int .i64 kd) (.int .i64 cn) (.string ⟨ad.toArray⟩) (.string ⟨pr.toArray⟩) (.string ⟨by_.toArray⟩) (.int .i64 tk) (.int .u32 (dr.toNat : Int))
  have hRZ := Z9.fill7 (.int .i64 kd) (.int .i64 cn) (.string ⟨ad.toArray⟩) (.string ⟨pr.toArray⟩) (.string ⟨by_.toArray⟩) (.int .i64 tk) (.int .u32 (dr.toNat : Int))
  have z0 := hRZ.cell 0
  have z1 := hRZ.cell 1
  have z2 := hRZ.cell 2
  have z3 := hRZ.cell 3
  have z4 := hRZ.cell 4
  have z5 := hRZ.cell 5
  have z6 := hRZ.cell 6
  simp at z0 z1 z2 z3 z4 z5 z6
  clear hRZ Z9 B9 E9 hN hY
  replace hE := hide hE
  replace hd := hide hd
  go_wp2
  exact bodyPost_ret (v := .tuple #[.agg #[.int .i64 kd, .int .i64 cn, .string ⟨ad.toArray⟩, .string ⟨pr.toArray⟩, .string ⟨by_.toArray⟩, .int .i64 tk, .int .u32 (dr.toNat : Int)], .bool true]) (by simp [results, Tryz.results24, go_sem, z0, z1, z2, z3, z4, z5, z6]) rfl ⟨by rw [hd.out]; rfl, hE.out⟩
end
section
open Go.RowKit
set_option linter.unusedVariables false
set_option linter.unusedSimpArgs false
set_option maxRecDepth 20000 in
set_option maxHeartbeats 4000000 in
theorem Fault_hit (c k : Int) (hc : c ≠ 0) (f : Nat) (w : World) (F : Blk w f 48 #[.int .i64 c, .int .i64 k]) (hg : ErT w) : Calls Tryz.prog 19 #[.iface 44 (.pointer (some ⟨f, 0, none⟩)), .agg #[.int .i64 c, .int .i64 k]] w fun e w' => e = .returned (.bool true) ∧ Ext w w' := by
  have hfl := F.lt
  have A := Blk.new w 50 #[.int .i64 c, .int .i64 k]
  have E := (Ext.refl w).alloc (Obj.cells #[.int .i64 c, .int .i64 k] 50)
  replace F := F.alloc (Obj.cells #[.int .i64 c, .int .i64 k] 50)
  have hz : (w.alloc (Obj.cells #[.int .i64 c, .int .i64 k] 50)).heap.size = w.heap.size + 1 := by simp
  generalize hV1 : w.alloc (Obj.cells #[.int .i64 c, .int .i64 k] 50) = V1 at *
  have P := Blk.new V1 44 #[.pointer none]
  replace E := E.alloc (Obj.cells #[.pointer none] 44)
  replace F := F.alloc (Obj.cells #[.pointer none] 44)
  replace A := A.alloc (Obj.cells #[.pointer none] 44)
  rw [hz] at P
  generalize hV2 : V1.alloc (Obj.cells #[.pointer none] 44) = V2 at *
  obtain ⟨p, hp⟩ : ∃ p, w.heap.size = p := ⟨_, rfl⟩
  rw [hp] at A P hfl hz
  have q1 := asF_hit ⟨f, 0, none⟩ ⟨p + 1, 0, none⟩ (.pointer none) V2.drew (hg.ext E.drew) (P.drew.cell 0) (P.drew.frozen 0)
  have q2 := fun W (h : W.cell? ⟨f, 0, none⟩ = some (.int .i64 c)) => isF_any ⟨f, 0, none⟩ c c W h
  rw [show (c == c) = true by simp] at q2
  have e1 : (c == 0) = false := beq_eq_false_iff_ne.2 hc
  have e2 : (c != 0) = true := by simpa using hc
  have e3 : decide (c = 0) = false := decide_eq_false hc
  have hwp : w.heap.size ≤ p + 1 := by omega
  have a0 : V2.cell? ⟨p, 0, none⟩ = some (.int .i64 c) := A.cell 0
  clear hc hg
  replace hz := hide hz
  replace hV1 := hide hV1
  replace hV2 := hide hV2
  replace hp := hide hp
  replace P := hide P
  replace E := hide E
  replace F := hide F
  replace A := hide A
  replace q1 := hide q1
  replace q2 := hide q2
  replace hfl := hide hfl
  replace hwp := hide hwp
  go_enter Tryz.func19, Tryz.ntmps19
  go_upto_region 1 with fail
  try rw [hV1.out]
  try simp only [hp.out]
  have a0' : V1.cell? ⟨p, 0, none⟩ = some (.int .i64 c) := by
    have h1 := (Blk.new w 50 #[.int .i64 c, .int .i64 k]).cell 0
    rw [hV1.out, hp.out] at h1
    exact h1
  go_upto_region 4 with fail
  try rw [hV2.out]
  try simp only [hz.out]
  clear hV1 hV2 a0' hz
  go_region_with (first
    | (go_at_call 16
       refine q1.out.mono ?_
       rintro e W1 ⟨rfl, W1', he, rfl⟩
       have P1 : Blk (W1'.setCell ⟨p + 1, 0, none⟩ (.pointer (some ⟨f, 0, none⟩))) (p + 1) 44 #[.pointer (some ⟨f, 0, none⟩)] := (P.out.drew.ext he).set_ 0 _
       have F1 := (F.out.drew.ext he).far (p := ⟨p + 1, 0, none⟩) (show f ≠ p + 1 by have := hfl.out; omega) (.pointer (some ⟨f, 0, none⟩))
       have A1 := (A.out.drew.ext he).far (p := ⟨p + 1, 0, none⟩) (show p ≠ p + 1 by omega) (.pointer (some ⟨f, 0, none⟩))
       have E1 := (E.out.drew.trans he).setCell (p := ⟨p + 1, 0, none⟩) hwp.out (.pointer (some ⟨f, 0, none⟩))
       generalize W1'.setCell ⟨p + 1, 0, none⟩ (.pointer (some ⟨f, 0, none⟩)) = W2 at P1 F1 A1 E1 ⊢
       have p0 : W2.cell? ⟨p + 1, 0, none⟩ = some (.pointer (some ⟨f, 0, none⟩)) := P1.cell 0
       have f0 : W2.cell? ⟨f, 0, none⟩ = some (.int .i64 c) := F1.cell 0
       have f1 : W2.cell? ⟨f, 1, none⟩ = some (.int .i64 k) := F1.cell 1
       have g0 : W2.cell? ⟨p, 0, none⟩ = some (.int .i64 c) := A1.cell 0
       have g1 : W2.cell? ⟨p, 1, none⟩ = some (.int .i64 k) := A1.cell 1
       have q2' := q2.out W2 f0
       clear P1 F1 A1 he
       replace E1 := hide E1
       replace q2' := hide q2')
    | (go_at_call 20
       refine q2'.out.mono ?_
       rintro e w_ ⟨rfl, rfl⟩))
  all_goals go_wp2
  all_goals try go_ret
  all_goals exact ⟨rfl, E1.out⟩
end
section
open Go.RowKit
set_option linter.unusedVariables false
section
variable {α : Type} {E F : Enc α} {w w' : World} {B : Nat} {v : Value} {l : List α} {e : TypeId} {S : Nat → Prop} {a : Option Addr}
theorem Sl.of (hsz : E.sz = F.sz) (hEF : ∀ {w : World} {S : Nat → Prop} {x : α} {cs : List Value}, E.R w S x cs → F.R w S x cs) (h : Sl E w S a l) : Sl F w S a l := by
 rcases h with h | ⟨b, off, rfl, hb, h⟩
 ·exact .inl h
 ·refine .inr ⟨b, off, rfl, hb, fun k x hx => ?_⟩
  obtain ⟨cs, hr, hc⟩ := h k x hx
  exact ⟨cs, hEF hr, by rw [← hsz]; exact hc⟩
end
section
variable {α : Type} {f : α → List Value} {P : α → Prop} {n : Nat} {hn : ∀ x, (f x).length = n} {h1 : ∀ x, ∀ u ∈ f x, u.oneCell' = true} {w w' : World} {B : Nat} {v : Value} {l : List α} {e : TypeId} {S : Nat → Prop} {a : Option Addr}
end
section
variable {α : Type} {f : α → Value} {P : α → Prop} {hf : ∀ x, (f x).oneCell' = true} {w w' : World} {B : Nat} {v : Value} {l : List α} {e : TypeId} {S : Nat → Prop} {a : Option Addr}
end
end
section
open Go.RowKit Go.ChangeShapes Go.WideShapes Go.Deep
set_option linter.unusedVariables false
section
variable {P : Program} {T : TypeId}
/-- A struct by value. -/
theorem open_struct_val {α : Type} {E : Enc α} {fs : Array Field} (hO : Opens P T E) (hs : P.underlying T = some (.struct fs)) {H : Type} {enc : TypeId × Value → H} {W : World} {r : Reach} {b0 : Nat} {v : Value} {d : DataW H} {p : List MemPlace}
  (hv : Value.okWide P W r b0 T v) (h : DataW.Trod enc P W 0 (fun _ => true) true T v d p) (hb : Rows.uptoBulk d ≤ 1048576) : ∃ (x : α) (cs : List Value), v = .agg cs.toArray ∧ E.R W (fun b => b < W.heap.size) x cs := by
 obtain ⟨cs, rfl, hsz⟩ := okWide_struct hs hv
 obtain ⟨fuel, hf⟩ := h
 obtain ⟨x, hx⟩ := hO.2 enc W fuel _ _ hf hb
 exact ⟨x, _, by simp [Value.cells], hx⟩
end
end
section
open Go.RowKit Go.ChangeShapes Go.WideShapes
set_option linter.unusedVariables false
set_option linter.unusedSimpArgs false
def EOut : Enc OutS := Enc.cells outCs OutIn 5 (fun _ => rfl) (fun x u hu => by simp only [outCs, List.mem_cons, List.not_mem_nil, or_false] at hu; rcases hu with rfl | rfl | rfl | rfl | rfl <;> rfl)
theorem opens_errno : Opens Tryz.prog 23 EI64 := opens_i64 Tryz.underlying23 (by kernel_rfl)
set_option maxRecDepth 100000 in
theorem opens_EOut : Opens Tryz.prog 58 EOut :=
 opens_of (opens_struct Tryz.underlying58 (by kernel_rfl) (opensF_cons rfl rfl opens_int (opensF_cons rfl rfl opens_int (opensF_cons rfl rfl opens_text (opensF_cons rfl rfl opens_text (opensF_last rfl rfl opens_errno rfl)))))) rfl
  (fun p => (⟨p.1, p.2.1, p.2.2.1, p.2.2.2.1, p.2.2.2.2⟩ : OutS)) (fun {w S x cs} h => by
   obtain ⟨c, d, rfl, ⟨rfl, h1⟩, c, d, rfl, ⟨rfl, h2⟩, c, d, rfl, ⟨rfl, h3⟩, c, d, rfl, ⟨rfl, h4⟩, ⟨rfl, h5⟩⟩ := h
   exact ⟨rfl, ⟨h2, h3, h4, h5⟩⟩)
set_option maxRecDepth 100000 in
theorem open_ev {H : Type} {enc : TypeId × Value → H} {W : World} {r : Reach} {b0 : Nat} {v : Value} {d : DataW H} {p : List MemPlace} (hv : Value.okWide Tryz.prog W r b0 31 v) (h : DataW.Trod enc Tryz.prog W 0 (fun _ => true) true 31 v d p) (hb : Rows.uptoBulk d ≤ 1048576) :
  ∃ e : EvS, v = .agg (evCs e).toArray ∧ EvIn e := by
 obtain ⟨x, cs, rfl, hr⟩ := open_struct_val opens_EEv Tryz.underlying31 hv h hb
 have hr2 : cs = evCs x ∧ EvIn x := hr
 exact ⟨x, by rw [hr2.1], hr2.2⟩
set_option maxRecDepth 100000 in
theorem open_outp {H : Type} {enc : TypeId × Value → H} {W : World} {r : Reach} {b0 : Nat} {v : Value} {d : DataW H} {p : List MemPlace} (hv : Value.okWide Tryz.prog W r b0 58 v) (h : DataW.Trod enc Tryz.prog W 0 (fun _ => true) true 58 v d p) (hb : Rows.uptoBulk d ≤ 1048576) :
  ∃ o : OutS, v = .agg (outCs o).toArray ∧ OutIn o := by
 obtain ⟨x, cs, rfl, hr⟩ := open_struct_val opens_EOut Tryz.underlying58 hv h hb
 have hr2 : cs = outCs x ∧ OutIn x := hr
 exact ⟨x, by rw [hr2.1], hr2.2⟩
/-- The two arguments in memory. -/
structure GdL (w : World) (p : Nat) (e : EvS) (o : OutS) (W : World) : Prop where
  a : Blk W p 31 (evCs e).toArray
  b : Blk W (p + 1) 58 (outCs o).toArray
  e : Ext w W
theorem GdL.ext {w W W' : World} {p : Nat} {x : EvS} {y : OutS} (h : GdL w p x y W) (he : Ext W W') : GdL w p x y W' := ⟨h.a.ext he, h.b.ext he, h.e.trans he⟩
set_option maxRecDepth 20000 in
set_option maxHeartbeats 4000000 in
theorem ScriptLines_walk (e : EvS) (o : OutS) (s : List UInt8) (w : World) (hin : EvIn e) (hio : OutIn o) (hs : s.length ≤ 1048576) (hT : Tab w) (hD : Deb w) (hV : Vars w) (hg : ErT w) :
    Calls Tryz.prog 7 #[.agg (evCs e).toArray, .agg (outCs o).toArray, .string ⟨s.toArray⟩] w fun e' w' => e' = .returned (.bool true) ∧ Ext w w' := by
  have q1 := fun W (h : Ext w W) => SLineE_any e hin W (hT.ext h) (hV.ext h) (hD.ext h)
  have q2 := fun W => DLine_any e W
  have q3 := fun W (h : Ext w W) => SOutput_any o hio W (hT.ext h)
  have q4 := fun W => DOutput_any o hio W
  have q5 := fun W (h : Ext w W) => SEvent_any s (by omega) (.inl hs) W (hT.ext h) (hV.ext h) (hD.ext h)
  have q6 := fun W => DEvent_any s hs W
  have qw := fun W (h : Ext w W) => Works35_any W (hT.ext h) (hV.ext h) (hD.ext h)
  have hg2 := fun W (h : Ext w W) => hg.ext h
  have hqe := run_eqEv
  generalize evT e = R1 at *
  generalize outT o = R2 at *
  obtain ⟨r1, r2⟩ := R1
  obtain ⟨r3, r4⟩ := R2
  rw [docE_is] at q6
  unfold EvP at q5
  have A := Blk.new w 31 (evCs e).toArray
  have E1 := (Ext.refl w).alloc (Obj.cells (evCs e).toArray 31)
  have hz : (w.alloc (Obj.cells (evCs e).toArray 31)).heap.size = w.heap.size + 1 := by simp
  obtain ⟨kd, cn, ad, pr, by_, tk, dr⟩ := e
  obtain ⟨ok, oc, op, ob, oe⟩ := o
  simp only [evCs] at A E1 hz q1 q2 ⊢
  simp only [outCs] at q3 q4 ⊢
  try dsimp only at q1 q2 q3 q4
  generalize hV1 : w.alloc (Obj.cells #[.int .i64 kd, .int .i64 cn, .string ⟨ad.toArray⟩, .string ⟨pr.toArray⟩, .string ⟨by_.toArray⟩, .int .i64 tk, .int .u32 (dr.toNat : Int)] 31) = V1 at A E1 hz
  have B := Blk.new V1 58 #[.int .i64 ok, .int .i64 oc, .string ⟨op.toArray⟩, .string ⟨ob.toArray⟩, .int .i64 oe]
  have E2 := E1.alloc (Obj.cells #[.int .i64 ok, .int .i64 oc, .string ⟨op.toArray⟩, .string ⟨ob.toArray⟩, .int .i64 oe] 58)
  replace A := A.alloc (Obj.cells #[.int .i64 ok, .int .i64 oc, .string ⟨op.toArray⟩, .string ⟨ob.toArray⟩, .int .i64 oe] 58)
  rw [hz] at B
  generalize hV2 : V1.alloc (Obj.cells #[.int .i64 ok, .int .i64 oc, .string ⟨op.toArray⟩, .string ⟨ob.toArray⟩, .int .i64 oe] 58) = V2 at A B E2
  generalize hp : w.heap.size = p at A B
  have gd : GdL w p ⟨kd, cn, ad, pr, by_, tk, dr⟩ ⟨ok, oc, op, ob, oe⟩ V2 := ⟨A, B, E2⟩
  clear E1 hz A B E2 hT hD hV hg hin hio hs
  replace hV1 := hide hV1
  replace hV2 := hide hV2
  replace hp := hide hp
  replace gd := hide gd
  replace q1 := hide q1
  replace q2 := hide q2
  replace q3 := hide q3
  replace q4 := hide q4
  replace q5 := hide q5
  replace q6 := hide q6
  replace qw := hide qw
  replace hg2 := hide hg2
  replace hqe := hide hqe
  go_enter Tryz.func7, Tryz.ntmps7
  go_upto_region 1 with fail
  try rw [hV1.out]
  try rw [hV2.out]
  try simp only [hp.out]
  clear hV1 hV2
  have x0 : V2.cell? ⟨p, 0, none⟩ = some (.int .i64 kd) := gd.out.a.cell 0; have x1 : V2.cell? ⟨p, 1, none⟩ = some (.int .i64 cn) := gd.out.a.cell 1; have x2 : V2.cell? ⟨p, 2, none⟩ = some (.string ⟨ad.toArray⟩) := gd.out.a.cell 2; have x3 : V2.cell? ⟨p, 3, none⟩ = some (.string ⟨pr.toArray⟩) := gd.out.a.cell 3; have x4 : V2.cell? ⟨p, 4, none⟩ = some (.string ⟨by_.toArray⟩) := gd.out.a.cell 4; have x5 : V2.cell? ⟨p, 5, none⟩ = some (.int .i64 tk) := gd.out.a.cell 5; have x6 : V2.cell? ⟨p, 6, none⟩ = some (.int .u32 (dr.toNat : Int)) := gd.out.a.cell 6
  go_wp2_with fail
  refine (q1.out _ gd.out.e).mono ?_
  rintro e9 W1 ⟨rfl, he⟩
  have gd1 := hide (gd.out.ext he)
  clear he x0 x1 x2 x3 x4 x5 x6 gd q1
  have x0 : W1.cell? ⟨p, 0, none⟩ = some (.int .i64 kd) := gd1.out.a.cell 0; have x1 : W1.cell? ⟨p, 1, none⟩ = some (.int .i64 cn) := gd1.out.a.cell 1; have x2 : W1.cell? ⟨p, 2, none⟩ = some (.string ⟨ad.toArray⟩) := gd1.out.a.cell 2; have x3 : W1.cell? ⟨p, 3, none⟩ = some (.string ⟨pr.toArray⟩) := gd1.out.a.cell 3; have x4 : W1.cell? ⟨p, 4, none⟩ = some (.string ⟨by_.toArray⟩) := gd1.out.a.cell 4; have x5 : W1.cell? ⟨p, 5, none⟩ = some (.int .i64 tk) := gd1.out.a.cell 5; have x6 : W1.cell? ⟨p, 6, none⟩ = some (.int .u32 (dr.toNat : Int)) := gd1.out.a.cell 6
  go_wp2_with fail
  refine (q2.out _).mono ?_
  rintro e9 W2 ⟨rfl, he⟩
  have gd2 := hide (gd1.out.ext he)
  clear he x0 x1 x2 x3 x4 x5 x6 gd1 q2
  have x0 : W2.cell? ⟨p + 1, 0, none⟩ = some (.int .i64 ok) := gd2.out.b.cell 0; have x1 : W2.cell? ⟨p + 1, 1, none⟩ = some (.int .i64 oc) := gd2.out.b.cell 1; have x2 : W2.cell? ⟨p + 1, 2, none⟩ = some (.string ⟨op.toArray⟩) := gd2.out.b.cell 2; have x3 : W2.cell? ⟨p + 1, 3, none⟩ = some (.string ⟨ob.toArray⟩) := gd2.out.b.cell 3; have x4 : W2.cell? ⟨p + 1, 4, none⟩ = some (.int .i64 oe) := gd2.out.b.cell 4
  go_wp2_with fail
  refine (q3.out _ gd2.out.e).mono ?_
  rintro e9 W3 ⟨rfl, he⟩
  have gd3 := hide (gd2.out.ext he)
  clear he x0 x1 x2 x3 x4 gd2 q3
  have x0 : W3.cell? ⟨p + 1, 0, none⟩ = some (.int .i64 ok) := gd3.out.b.cell 0; have x1 : W3.cell? ⟨p + 1, 1, none⟩ = some (.int .i64 oc) := gd3.out.b.cell 1; have x2 : W3.cell? ⟨p + 1, 2, none⟩ = some (.string ⟨op.toArray⟩) := gd3.out.b.cell 2; have x3 : W3.cell? ⟨p + 1, 3, none⟩ = some (.string ⟨ob.toArray⟩) := gd3.out.b.cell 3; have x4 : W3.cell? ⟨p + 1, 4, none⟩ = some (.int .i64 oe) := gd3.out.b.cell 4
  go_wp2_with fail
  refine (q4.out _).mono ?_
  rintro e9 W4 ⟨rfl, he⟩
  have E4 := hide (gd3.out.e.trans he)
  clear he x0 x1 x2 x3 x4 gd3 q4
  have q := q5.out W4 E4.out
  cases ho : evO s with
  | some v =>
    have q7 := q6.out
    rw [ho] at q q7
    obtain ⟨a1, a2, a3, a4, a5, a6, a7⟩ := v
    have hq2 := fun W => hqe.out W ⟨a1, a2, a3, a4, a5, a6, a7⟩ ⟨a1, a2, a3, a4, a5, a6, a7⟩
    rw [decide_eq_true rfl] at hq2
    simp only [evCs] at q q7
    dsimp only at hq2
    clear ho q5 q6 hqe
    replace q := hide q
    replace q7 := hide q7
    go_wp2_with fail
    refine q.out.mono ?_
    rintro e9 W5 ⟨rfl, he⟩
    have E5 := E4.out.trans he
    clear he q E4
    have N := Blk.new W5 31 #[.int .i64 a1, .int .i64 a2, .string ⟨a3.toArray⟩, .string ⟨a4.toArray⟩, .string ⟨a5.toArray⟩, .int .i64 a6, .int .u32 (a7.toNat : Int)]
    have E6 := E5.alloc (Obj.cells #[.int .i64 a1, .int .i64 a2, .string ⟨a3.toArray⟩, .string ⟨a4.toArray⟩, .string ⟨a5.toArray⟩, .int .i64 a6, .int .u32 (a7.toNat : Int)] 31)
    clear E5
    replace N := hide N
    replace E6 := hide E6
    go_upto_region 10 with fail
    replace N := N.out
    replace E6 := E6.out
    generalize W5.alloc (Obj.cells #[.int .i64 a1, .int .i64 a2, .string ⟨a3.toArray⟩, .string ⟨a4.toArray⟩, .string ⟨a5.toArray⟩, .int .i64 a6, .int .u32 (a7.toNat : Int)] 31) = W6 at N E6 ⊢
    generalize W5.heap.size = g5 at N ⊢
    replace N := hide N
    replace E6 := hide E6
    go_wp2_with fail
    refine (q7.out _).mono ?_
    rintro e9 W7 ⟨rfl, he⟩
    have N7 := N.out.ext he
    have E7 := E6.out.trans he
    clear he N E6 q7
    have M := Blk.new W7 31 #[.int .i64 a1, .int .i64 a2, .string ⟨a3.toArray⟩, .string ⟨a4.toArray⟩, .string ⟨a5.toArray⟩, .int .i64 a6, .int .u32 (a7.toNat : Int)]
    have N8 := N7.alloc (Obj.cells #[.int .i64 a1, .int .i64 a2, .string ⟨a3.toArray⟩, .string ⟨a4.toArray⟩, .string ⟨a5.toArray⟩, .int .i64 a6, .int .u32 (a7.toNat : Int)] 31)
    have E8 := E7.alloc (Obj.cells #[.int .i64 a1, .int .i64 a2, .string ⟨a3.toArray⟩, .string ⟨a4.toArray⟩, .string ⟨a5.toArray⟩, .int .i64 a6, .int .u32 (a7.toNat : Int)] 31)
    clear N7 E7
    replace M := hide M
    replace N8 := hide N8
    replace E8 := hide E8
    go_upto_region 11 with fail
    replace M := M.out
    replace N8 := N8.out
    replace E8 := E8.out
    generalize W7.alloc (Obj.cells #[.int .i64 a1, .int .i64 a2, .string ⟨a3.toArray⟩, .string ⟨a4.toArray⟩, .string ⟨a5.toArray⟩, .int .i64 a6, .int .u32 (a7.toNat : Int)] 31) = W8 at M N8 E8 ⊢
    generalize W7.heap.size = g7 at M ⊢
    have x0 : W8.cell? ⟨g5, 0, none⟩ = some (.int .i64 a1) := N8.cell 0
    have x1 : W8.cell? ⟨g5, 1, none⟩ = some (.int .i64 a2) := N8.cell 1
    have x2 : W8.cell? ⟨g5, 2, none⟩ = some (.string ⟨a3.toArray⟩) := N8.cell 2
    have x3 : W8.cell? ⟨g5, 3, none⟩ = some (.string ⟨a4.toArray⟩) := N8.cell 3
    have x4 : W8.cell? ⟨g5, 4, none⟩ = some (.string ⟨a5.toArray⟩) := N8.cell 4
    have x5 : W8.cell? ⟨g5, 5, none⟩ = some (.int .i64 a6) := N8.cell 5
    have x6 : W8.cell? ⟨g5, 6, none⟩ = some (.int .u32 (a7.toNat : Int)) := N8.cell 6
    have y0 : W8.cell? ⟨g7, 0, none⟩ = some (.int .i64 a1) := M.cell 0
    have y1 : W8.cell? ⟨g7, 1, none⟩ = some (.int .i64 a2) := M.cell 1
    have y2 : W8.cell? ⟨g7, 2, none⟩ = some (.string ⟨a3.toArray⟩) := M.cell 2
    have y3 : W8.cell? ⟨g7, 3, none⟩ = some (.string ⟨a4.toArray⟩) := M.cell 3
    have y4 : W8.cell? ⟨g7, 4, none⟩ = some (.string ⟨a5.toArray⟩) := M.cell 4
    have y5 : W8.cell? ⟨g7, 5, none⟩ = some (.int .i64 a6) := M.cell 5
    have y6 : W8.cell? ⟨g7, 6, none⟩ = some (.int .u32 (a7.toNat : Int)) := M.cell 6
    clear M N8
    replace E8 := hide E8
    go_wp2_with fail
    refine (qw.out _ E8.out).mono ?_
    rintro e9 W9 ⟨rfl, he⟩
    have E9 := hide (E8.out.trans he)
    clear he x0 x1 x2 x3 x4 x5 x6 y0 y1 y2 y3 y4 y5 y6
    go_wp2
    try go_ret
    exact ⟨rfl, E9.out⟩
  | none =>
    have q7 := q6.out
    rw [ho] at q q7
    have hq2 := fun W => hqe.out W zeroEv zeroEv
    rw [decide_eq_true rfl] at hq2
    simp only [evCs, zeroEv] at q q7 hq2
    clear ho q5 q6 hqe
    replace q := hide q
    replace q7 := hide q7
    go_wp2_with fail
    refine q.out.mono ?_
    rintro e9 W5 ⟨⟨f, rfl, _, F⟩, he⟩
    have E5 := E4.out.trans he
    clear he q E4
    have N := Blk.new W5 31 #[.int .i64 0, .int .i64 0, .string ⟨#[]⟩, .string ⟨#[]⟩, .string ⟨#[]⟩, .int .i64 0, .int .u32 0]
    have F6 := F.alloc (Obj.cells #[.int .i64 0, .int .i64 0, .string ⟨#[]⟩, .string ⟨#[]⟩, .string ⟨#[]⟩, .int .i64 0, .int .u32 0] 31)
    have E6 := E5.alloc (Obj.cells #[.int .i64 0, .int .i64 0, .string ⟨#[]⟩, .string ⟨#[]⟩, .string ⟨#[]⟩, .int .i64 0, .int .u32 0] 31)
    clear E5 F
    replace N := hide N
    replace E6 := hide E6
    replace F6 := hide F6
    go_upto_region 10 with fail
    replace N := N.out
    replace E6 := E6.out
    replace F6 := F6.out
    generalize W5.alloc (Obj.cells #[.int .i64 0, .int .i64 0, .string ⟨#[]⟩, .string ⟨#[]⟩, .string ⟨#[]⟩, .int .i64 0, .int .u32 0] 31) = W6 at N E6 F6 ⊢
    generalize W5.heap.size = g5 at N ⊢
    replace N := hide N
    replace E6 := hide E6
    replace F6 := hide F6
    go_wp2_with fail
    refine (q7.out _).mono ?_
    rintro e9 W7 ⟨rfl, he⟩
    have N7 := N.out.ext he
    have F7 := F6.out.ext he
    have E7 := E6.out.trans he
    clear he N E6 q7 F6
    have N8 := N7.alloc (Obj.cells #[.int .i64 0, .int .i64 0, .string ⟨#[]⟩, .string ⟨#[]⟩, .string ⟨#[]⟩, .int .i64 0, .int .u32 0] 31)
    have F8 := F7.alloc (Obj.cells #[.int .i64 0, .int .i64 0, .string ⟨#[]⟩, .string ⟨#[]⟩, .string ⟨#[]⟩, .int .i64 0, .int .u32 0] 31)
    have E8 := E7.alloc (Obj.cells #[.int .i64 0, .int .i64 0, .string ⟨#[]⟩, .string ⟨#[]⟩, .string ⟨#[]⟩, .int .i64 0, .int .u32 0] 31)
    clear N7 E7 F7
    replace N8 := hide N8
    replace E8 := hide E8
    replace F8 := hide F8
    go_upto_region 11 with fail
    replace N8 := N8.out
    replace E8 := E8.out
    replace F8 := F8.out
    generalize W7.alloc (Obj.cells #[.int .i64 0, .int .i64 0, .string ⟨#[]⟩, .string ⟨#[]⟩, .string ⟨#[]⟩, .int .i64 0, .int .u32 0] 31) = W8 at N8 E8 F8 ⊢
    have x0 : W8.cell? ⟨g5, 0, none⟩ = some (.int .i64 0) := N8.cell 0
    have x1 : W8.cell? ⟨g5, 1, none⟩ = some (.int .i64 0) := N8.cell 1
    have x2 : W8.cell? ⟨g5, 2, none⟩ = some (.string ⟨#[]⟩) := N8.cell 2
    have x3 : W8.cell? ⟨g5, 3, none⟩ = some (.string ⟨#[]⟩) := N8.cell 3
    have x4 : W8.cell? ⟨g5, 4, none⟩ = some (.string ⟨#[]⟩) := N8.cell 4
    have x5 : W8.cell? ⟨g5, 5, none⟩ = some (.int .i64 0) := N8.cell 5
    have x6 : W8.cell? ⟨g5, 6, none⟩ = some (.int .u32 0) := N8.cell 6
    have q := Fault_hit 9 0 (by decide) f W8 F8 (hg2.out _ E8)
    clear N8 F8
    replace E8 := hide E8
    replace q := hide q
    go_wp2_with fail
    refine q.out.mono ?_
    rintro e9 W9 ⟨rfl, he⟩
    have E9 := hide (E8.out.trans he)
    clear he x0 x1 x2 x3 x4 x5 x6 q E8
    go_wp2_with fail
    refine (qw.out _ E9.out).mono ?_
    rintro e9 WA ⟨rfl, he⟩
    have EA := hide (E9.out.trans he)
    clear he
    go_wp2
    try go_ret
    exact ⟨rfl, EA.out⟩
end
end Go.Proofs.YtkinghadgmbhbaaGreatDoor
