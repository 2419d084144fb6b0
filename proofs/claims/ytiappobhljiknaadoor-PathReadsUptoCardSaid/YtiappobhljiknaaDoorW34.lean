/- heraldref04.kind. -/
import Derived.Test.YtiappobhljiknaaDoorA17
import Derived.Test.YtiappobhljiknaaDoorW28
namespace Go.Proofs.YtiappobhljiknaaDoor
open Go.RowKit
set_option linter.unusedVariables false

set_option maxRecDepth 20000 in
set_option maxHeartbeats 1000000 in
theorem RKind_any (c : UInt8) (w : World) :
    Calls Tryd.prog 72 #[.int .u8 (c.toNat : Int)] w fun e w' => e = .returned (.int .i64 (refK c)) ∧ w = w' := by
  have hc8 := c.toNat_lt
  have hrk : refK c = if c.toNat = 123 then 1 else if c.toNat = 60 then 2 else if c.toNat = 40 then 3 else if c.toNat = 91 then 4 else 0 := by
    unfold refK
    have e : ∀ n : UInt8, (c = n) = (c.toNat = n.toNat) := fun n => by rw [← UInt8.toNat_inj]
    simp only [e]
    rfl
  generalize c.toNat = x at hc8 hrk ⊢
  generalize refK c = R at hrk ⊢
  replace hrk := hide hrk
  go_enter Tryd.func72, Tryd.ntmps72
  go_wp2
  go_loopw [4] (fun i wr => ∃ j : Nat, 1 ≤ j ∧ j ≤ 5 ∧ i = .int .i64 j ∧ (1 < j → x ≠ 123) ∧ (2 < j → x ≠ 60) ∧ (3 < j → x ≠ 40) ∧ (4 < j → x ≠ 91) ∧ w = wr) (fun i _ => 5 - (intOf i).toNat)
  case atStart => exact ⟨1, by omega, by omega, rfl, by omega, by omega, by omega, by omega, rfl⟩
  case round =>
    obtain ⟨j, h1, h5, rfl, n1, n2, n3, n4, rfl⟩ := hrel
    obtain rfl | rfl | rfl | rfl | rfl : j = 1 ∨ j = 2 ∨ j = 3 ∨ j = 4 ∨ j = 5 := by omega
    · have hby : ((((⟨#[32, 123, 60, 40, 91]⟩ : ByteArray)[1]'(by decide)).toNat : Int) == (x : Int)) = decide (x = 123) := by
        rw [show ((⟨#[32, 123, 60, 40, 91]⟩ : ByteArray)[1]'(by decide)) = 123 from rfl, Bool.eq_iff_iff, beq_iff_eq, decide_eq_true_eq]
        show ((123 : Nat) : Int) = x ↔ x = 123
        omega
      by_cases hx : x = 123
      · have hR : R = 1 := by rw [hrk.out, if_pos hx]
        rw [decide_eq_true hx] at hby
        replace hx := hide hx
        clear n1 n2 n3 n4
        replace hR := hide hR
        go_wp2
        go_ret
        exact ⟨by rw [hR.out]; rfl, rfl⟩
      · rw [decide_eq_false hx] at hby
        go_wp2
        go_roundw
        case rel => exact ⟨2, by omega, by omega, by go_num, fun _ => hx, by omega, by omega, by omega, trivial⟩
        case measure => simp [intOf]
    · have hby : ((((⟨#[32, 123, 60, 40, 91]⟩ : ByteArray)[2]'(by decide)).toNat : Int) == (x : Int)) = decide (x = 60) := by
        rw [show ((⟨#[32, 123, 60, 40, 91]⟩ : ByteArray)[2]'(by decide)) = 60 from rfl, Bool.eq_iff_iff, beq_iff_eq, decide_eq_true_eq]
        show ((60 : Nat) : Int) = x ↔ x = 60
        omega
      have m1 := n1 (by omega)
      by_cases hx : x = 60
      · have hR : R = 2 := by rw [hrk.out, if_neg m1, if_pos hx]
        rw [decide_eq_true hx] at hby
        replace hx := hide hx
        clear m1
        clear n1 n2 n3 n4
        replace hR := hide hR
        go_wp2
        go_ret
        exact ⟨by rw [hR.out]; rfl, rfl⟩
      · rw [decide_eq_false hx] at hby
        go_wp2
        go_roundw
        case rel => exact ⟨3, by omega, by omega, by go_num, fun _ => m1, fun _ => hx, by omega, by omega, trivial⟩
        case measure => simp [intOf]
    · have hby : ((((⟨#[32, 123, 60, 40, 91]⟩ : ByteArray)[3]'(by decide)).toNat : Int) == (x : Int)) = decide (x = 40) := by
        rw [show ((⟨#[32, 123, 60, 40, 91]⟩ : ByteArray)[3]'(by decide)) = 40 from rfl, Bool.eq_iff_iff, beq_iff_eq, decide_eq_true_eq]
        show ((40 : Nat) : Int) = x ↔ x = 40
        omega
      have m1 := n1 (by omega)
      have m2 := n2 (by omega)
      by_cases hx : x = 40
      · have hR : R = 3 := by rw [hrk.out, if_neg m1, if_neg m2, if_pos hx]
        rw [decide_eq_true hx] at hby
        replace hx := hide hx
        clear m1
        clear m2
        clear n1 n2 n3 n4
        replace hR := hide hR
        go_wp2
        go_ret
        exact ⟨by rw [hR.out]; rfl, rfl⟩
      · rw [decide_eq_false hx] at hby
        go_wp2
        go_roundw
        case rel => exact ⟨4, by omega, by omega, by go_num, fun _ => m1, fun _ => m2, fun _ => hx, by omega, trivial⟩
        case measure => simp [intOf]
    · have hby : ((((⟨#[32, 123, 60, 40, 91]⟩ : ByteArray)[4]'(by decide)).toNat : Int) == (x : Int)) = decide (x = 91) := by
        rw [show ((⟨#[32, 123, 60, 40, 91]⟩ : ByteArray)[4]'(by decide)) = 91 from rfl, Bool.eq_iff_iff, beq_iff_eq, decide_eq_true_eq]
        show ((91 : Nat) : Int) = x ↔ x = 91
        omega
      have m1 := n1 (by omega)
      have m2 := n2 (by omega)
      have m3 := n3 (by omega)
      by_cases hx : x = 91
      · have hR : R = 4 := by rw [hrk.out, if_neg m1, if_neg m2, if_neg m3, if_pos hx]
        rw [decide_eq_true hx] at hby
        replace hx := hide hx
        clear m1
        clear m2
        clear m3
        clear n1 n2 n3 n4
        replace hR := hide hR
        go_wp2
        go_ret
        exact ⟨by rw [hR.out]; rfl, rfl⟩
      · rw [decide_eq_false hx] at hby
        go_wp2
        go_roundw
        case rel => exact ⟨5, by omega, by omega, by go_num, fun _ => m1, fun _ => m2, fun _ => m3, fun _ => hx, trivial⟩
        case measure => simp [intOf]
    · have hR : R = 0 := by rw [hrk.out, if_neg (n1 (by omega)), if_neg (n2 (by omega)), if_neg (n3 (by omega)), if_neg (n4 (by omega))]
      clear n1 n2 n3 n4
      replace hR := hide hR
      go_wp2
      go_ret
      exact ⟨by rw [hR.out]; rfl, rfl⟩
end Go.Proofs.YtiappobhljiknaaDoor
