/- Walks: how long a family's addresses are; a bit of an address. -/
import Derived.Test.YtoghdmoldcjedaaGreatDoorProg
import Derived.Test.YtoghdmoldcjedaaGreatDoorP2
import Derived.Test.YtoghdmoldcjedaaGreatDoorP3
namespace Go.Proofs.YtoghdmoldcjedaaGreatDoor
open Go.RowKit
set_option linter.unusedVariables false

theorem fam_cases (f : Int) : f = 1 ∨ f = 2 ∨ f = 3 ∨ f = 4 ∨ f = 5 ∨ (f ≠ 1 ∧ f ≠ 2 ∧ f ≠ 3 ∧ f ≠ 4 ∧ f ≠ 5) := by omega
theorem ASize_any (f : Int) (w : World) : Calls Tryz.prog 77 #[.int .i64 f] w fun e w' => e = .returned (.int .i64 (sizeS f)) ∧ w = w' := by
  rcases fam_cases f with rfl | rfl | rfl | rfl | rfl | ⟨h1, h2, h3, h4, h5⟩
  all_goals
    go_enter Tryz.func77, Tryz.ntmps77
    go_wp2
    go_ret
    exact ⟨by simp [sizeS, *], rfl⟩
theorem RSize_any (f : Int) (w : World) : Calls Tryz.prog 85 #[.int .i64 f] w fun e w' => e = .returned (.int .i64 (sizeS f)) ∧ w = w' := by
  rcases fam_cases f with rfl | rfl | rfl | rfl | rfl | ⟨h1, h2, h3, h4, h5⟩
  all_goals
    go_enter Tryz.func85, Tryz.ntmps85
    go_wp2
    go_ret
    exact ⟨by simp [sizeS, *], rfl⟩
theorem Aapart_any (f : Int) (w : World) : Calls Tryz.prog 99 #[.int .i64 f] w fun e w' => e = .returned (.bool (apartS f)) ∧ w = w' := by
  rcases fam_cases f with rfl | rfl | rfl | rfl | rfl | ⟨h1, h2, h3, h4, h5⟩
  all_goals
    go_enter Tryz.func99, Tryz.ntmps99
    go_wp2
    go_ret
    exact ⟨by simp [apartS, *], rfl⟩
theorem RApart_any (f : Int) (w : World) : Calls Tryz.prog 107 #[.int .i64 f] w fun e w' => e = .returned (.bool (apartS f)) ∧ w = w' := by
  rcases fam_cases f with rfl | rfl | rfl | rfl | rfl | ⟨h1, h2, h3, h4, h5⟩
  all_goals
    go_enter Tryz.func107, Tryz.ntmps107
    go_wp2
    go_ret
    exact ⟨by simp [apartS, *], rfl⟩

/-- A bit as a number. -/
def bitV (b : Bool) : Int := if b then 1 else 0
theorem byte_bit (x : Nat) (j : Nat) : ((x / 2 ^ j % 2 : Nat) : Int) = bitV (x.testBit j) := by
  rw [Nat.testBit_eq_decide_div_mod_eq]
  unfold bitV
  by_cases h : x / 2 ^ j % 2 = 1
  · rw [h, decide_eq_true rfl]; rfl
  · rw [decide_eq_false h, if_neg (by simp)]
    have := Nat.mod_lt (x / 2 ^ j) (show 0 < 2 by omega)
    omega
theorem wrap64_id (x : Int) (h1 : 0 ≤ x) (h2 : x < 9223372036854775808) : wrap64 x = x := by
  unfold wrap64
  omega
theorem and_one (y : Nat) (h : y < 256) : bits .and .i64 (y : Int) 1 = ((y % 2 : Nat) : Int) := by
  have := (bits_nat .i64 8 (by decide) (fun n h1 h2 => by rw [IntKind.wrap_i64]; have : n < 256 := h2; omega) y 1 h (by decide)).1
  rw [Nat.and_one_is_mod] at this
  exact this
set_option maxRecDepth 20000 in
theorem RBit_any (a : List UInt8) (n : Int) (w : World) (ha : a.length ≤ 1048576) (h1 : -9223372036854775808 ≤ n) (h2 : n ≤ 9223372036854775807) :
    Calls Tryz.prog 88 #[.string ⟨a.toArray⟩, .int .i64 n] w fun e w' => e = .returned (.int .i64 (bitV (bitZ a n))) ∧ w = w' := by
  have hz : (ByteArray.mk a.toArray).size = a.length := by simp [ByteArray.size]
  by_cases hn : n < 0
  · have hb : bitV (bitZ a n) = 0 := by unfold bitZ; rw [if_pos hn]; rfl
    rw [hb]
    replace h1 := hide h1
    replace h2 := hide h2
    go_enter Tryz.func88, Tryz.ntmps88
    go_wp2
    go_ret
    exact ⟨rfl, rfl⟩
  · obtain ⟨m, rfl⟩ : ∃ m : Nat, n = m := ⟨n.toNat, by omega⟩
    have hb0 : bitZ a m = bitN a m := by unfold bitZ; rw [if_neg hn]; rfl
    rw [hb0]
    have g1 : wrap64 ((m : Int) / 8) = (m : Int) / 8 := wrap64_id _ (by omega) (by omega)
    have g3 : 0 ≤ (m : Int) / 8 := by omega
    by_cases hk : a.length ≤ m / 8
    · have hb : bitV (bitN a m) = 0 := by rw [bitN_out a m (by omega)]; rfl
      have hd : (a.length : Int) ≤ (m : Int) / 8 := by omega
      rw [hb]
      replace h1 := hide h1
      replace h2 := hide h2
      replace hb0 := hide hb0
      replace hb := hide hb
      replace hk := hide hk
      go_enter Tryz.func88, Tryz.ntmps88
      go_wp2
      go_ret
      exact ⟨rfl, rfl⟩
    · have hk' : m / 8 < a.length := by omega
      have hd : ¬ ((a.length : Int) ≤ (m : Int) / 8) := by omega
      have hd2 : (m : Int) / 8 < (a.length : Int) := by omega
      have hby : (ByteArray.mk a.toArray)[m / 8]'(by omega) = a[m / 8] := rfl
      have hbt : bitN a m = (a[m / 8]).toNat.testBit (7 - m % 8) := by unfold bitN; rw [List.getElem?_eq_getElem hk']
      generalize a[m / 8] = x at hby hbt
      have hx := x.toNat_lt
      have hle : x.toNat / 2 ^ (7 - m % 8) ≤ x.toNat := Nat.div_le_self _ _
      have g5 : ((x.toNat : Int) / 2 ^ (7 - m % 8)) = ((x.toNat / 2 ^ (7 - m % 8) : Nat) : Int) := by simp
      have g6 : wrap64 ((x.toNat : Int) / 2 ^ (7 - m % 8)) = ((x.toNat / 2 ^ (7 - m % 8) : Nat) : Int) := by rw [g5]; exact wrap64_id _ (Int.natCast_nonneg _) (Int.lt_trans (Int.ofNat_lt.2 (Nat.lt_of_le_of_lt hle hx)) (by decide))
      have g7 : bits .and .i64 (wrap64 ((x.toNat : Int) / 2 ^ (7 - m % 8))) 1 = bitV (bitN a m) := by
        rw [g6, and_one _ (Nat.lt_of_le_of_lt hle hx), hbt, ← byte_bit]
      replace h1 := hide h1
      replace h2 := hide h2
      replace hb0 := hide hb0
      replace hk := hide hk
      replace hbt := hide hbt
      replace g5 := hide g5
      replace g6 := hide g6
      go_enter Tryz.func88, Tryz.ntmps88
      go_wp2
      go_ret
      exact ⟨by first | rw [g7] | rfl, rfl⟩
end Go.Proofs.YtoghdmoldcjedaaGreatDoor
