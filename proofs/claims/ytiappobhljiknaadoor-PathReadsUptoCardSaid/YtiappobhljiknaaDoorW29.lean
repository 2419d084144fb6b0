/- heraldref02.Value. -/
import Derived.Test.YtiappobhljiknaaDoorW28
namespace Go.Proofs.YtiappobhljiknaaDoor
open Go.RowKit
set_option linter.unusedVariables false

theorem step_call1 {P : Program} {ops : Array Oper} {o : Oper} {a : Act} {w : World} {K : Act → World → Prop} {Q : Exit → Act → World → Prop} {X : Prop} (hg : o.guard = none) (f : FuncId) {fn : Func} (x : Operand) (ts : Array TypeId)
    (hop : o.op = Op.call { callee := Callee.value (Operand.func f), args := #[x], argTypes := ts }) (hf : P.funcs[f]? = some fn) (hname : (fn.name == "runtime.NumGoroutine") = false) (hb : fn.body.isNone = false) (v : Value) (hx : a.eval x = v)
    {R : Ending → World → Prop} (hc : Calls P f #[v] w R) (hk : ∀ e w', R e w' → ∃ u, e = .returned u ∧ K (a.put o.dst u) w') : if Region.wanted o (yielded ops a.tmps) = true then Oper.wp P o a w K Q else X := by
  have hw : Region.wanted o (yielded ops a.tmps) = true := by simp [Region.wanted, hg]
  rw [if_pos hw]
  unfold Oper.wp
  have h1 : fn.name ≠ "runtime.NumGoroutine" := by simpa using hname
  have hev : a.eval (Operand.func f) = .func (.func f) #[] #[] := rfl
  have h2 : ¬ (fn.body = none) := by intro h; simp [h] at hb
  have hrun : (execOp a.eval o).run P w = .ok (.enter f #[v]) w := by
    simp [execOp, hop, resolve, hev, Deferred.ofValue, invoke, hx, callFunc, hf, h1, h2]
  rw [hrun, Oper.upon_enter]
  exact hc.mono fun e w' h => by obtain ⟨u, rfl, hK⟩ := hk e w' h; exact hK

set_option maxRecDepth 20000 in
set_option maxHeartbeats 1000000 in
theorem Value_any (E : ByteArray) (w : World) (hE : E.size ≤ 7) :
    Calls Tryd.prog 64 #[.string E] w fun e w' => e = .returned (.int .u64 (val E.data.toList : Nat)) ∧ w = w' := by
  go_enter Tryd.func64, Tryd.ntmps64
  go_wp2
  go_loopw [3, 4] (fun q i wr => ∃ k v : Nat, k ≤ E.size ∧ q = .int .u64 v ∧ i = .int .i64 k ∧ Hid (v = val (E.data.toList.take k)) ∧ w = wr) (fun _ i _ => E.size - (intOf i).toNat)
  case atStart => exact ⟨0, 0, Nat.zero_le _, rfl, rfl, rfl, rfl⟩
  case round =>
    obtain ⟨k, v, hk, rfl, rfl, hv, rfl⟩ := hrel
    by_cases hlt : k < E.size
    · have hv7 : v < 281474976710656 := by
        have h := val_lt (E.data.toList.take k)
        rw [← hv.out] at h
        refine Nat.lt_of_lt_of_le h (Nat.le_trans (Nat.pow_le_pow_right (by omega) (show _ ≤ 6 by rw [List.length_take]; omega)) (by decide))
      have hEl : k < E.data.toList.length := hlt
      have hnx : v * 256 + E[k].toNat = val (E.data.toList.take (k + 1)) := by
        rw [List.take_succ_eq_append_getElem hEl, val_snoc, ← hv.out]
        rfl
      have hb := E[k].toNat_lt
      replace hnx := hide hnx
      go_wp2
      go_roundw
      case rel => exact ⟨k + 1, v * 256 + E[k].toNat, by omega, by go_num, by go_num, hnx, trivial⟩
      case measure => simp [intOf]; omega
    · obtain rfl : k = E.size := by omega
      have hfin : v = val E.data.toList := by
        rw [hv.out, List.take_of_length_le (Nat.le_refl E.size)]
      go_wp2
      go_ret
      exact ⟨by rw [← hfin]; rfl, rfl⟩
end Go.Proofs.YtiappobhljiknaaDoor
