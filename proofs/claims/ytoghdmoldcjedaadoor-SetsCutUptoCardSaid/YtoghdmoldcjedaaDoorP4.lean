/- Walks: how long a family's addresses are; a bit of an address. -/
import Derived.Test.YtoghdmoldcjedaaDoorProg
import Derived.Test.YtoghdmoldcjedaaDoorP2
import Derived.Test.YtoghdmoldcjedaaDoorP3
namespace Go.Proofs.YtoghdmoldcjedaaDoor
open Go.RowKit
set_option linter.unusedVariables false

theorem fam_cases (f : Int) : f = 1 ∨ f = 2 ∨ f = 3 ∨ f = 4 ∨ f = 5 ∨ (f ≠ 1 ∧ f ≠ 2 ∧ f ≠ 3 ∧ f ≠ 4 ∧ f ≠ 5) := by omega
theorem ASize_any (f : Int) (w : World) : Calls Tryd.prog 33 #[.int .i64 f] w fun e w' => e = .returned (.int .i64 (sizeS f)) ∧ w = w' := by
  rcases fam_cases f with rfl | rfl | rfl | rfl | rfl | ⟨h1, h2, h3, h4, h5⟩
  all_goals
    go_enter Tryd.func33, Tryd.ntmps33
    go_wp2
    go_ret
    exact ⟨by simp [sizeS, *], rfl⟩
theorem Aapart_any (f : Int) (w : World) : Calls Tryd.prog 34 #[.int .i64 f] w fun e w' => e = .returned (.bool (apartS f)) ∧ w = w' := by
  rcases fam_cases f with rfl | rfl | rfl | rfl | rfl | ⟨h1, h2, h3, h4, h5⟩
  all_goals
    go_enter Tryd.func34, Tryd.ntmps34
    go_wp2
    go_ret
    exact ⟨by simp [apartS, *], rfl⟩
/-- A bit as a number. -/
def bitV (b : Bool) : Int := if b then 1 else 0
theorem byte_bit (x : Nat) (j : Nat) : ((x / 2 ^ j % 2 : Nat) : Int) = bitV (x.testBit j) := by
  rw [Nat.testBit_eq_decide_div_mod_eq]
  unfold bitV
  by_cases h : x / 2 ^ j % 2 = 1
  · rw [h, decide_eq_true rfl]; rfl
  · rw [decide_eq_false h, if_neg (by simp)]
    have := Nat.mod_lt (x / 2 ^ j) (show 0 < 2 by omega)
    omega
theorem wrap64_id (x : Int) (h1 : 0 ≤ x) (h2 : x < 9223372036854775808) : wrap64 x = x := by
  unfold wrap64
  omega
theorem and_one (y : Nat) (h : y < 256) : bits .and .i64 (y : Int) 1 = ((y % 2 : Nat) : Int) := by
  have := (bits_nat .i64 8 (by decide) (fun n h1 h2 => by rw [IntKind.wrap_i64]; have : n < 256 := h2; omega) y 1 h (by decide)).1
  rw [Nat.and_one_is_mod] at this
  exact this
end Go.Proofs.YtoghdmoldcjedaaDoor
