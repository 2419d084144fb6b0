/- Plain: the elements that a predicate holds of are moved out of a row, in place. -/
import Derived.Test.YtiappobhljiknaaGreatDoorW12
namespace Go.Proofs.YtiappobhljiknaaGreatDoor
open Go.RowKit
set_option linter.unusedVariables false

def Dele (l l' : List Seg) (i j : Nat) : Prop := i < j ∧ j ≤ l.length ∧ l'.length = l.length ∧ l'.take i = bareS (l.take j) ∧ l'.drop j = l.drop j
theorem bareS_append (a b : List Seg) : bareS (a ++ b) = bareS a ++ bareS b := List.filter_append _ _
theorem bareS_snoc_t {l : List Seg} {j : Nat} (hj : j < l.length) (h : confP l[j] = true) : bareS (l.take (j + 1)) = bareS (l.take j) := by
  rw [List.take_succ_eq_append_getElem hj, bareS_append]
  unfold bareS
  rw [List.filter_cons, if_neg (by unfold confP at h; simp [h])]
  simp
theorem bareS_snoc_f {l : List Seg} {j : Nat} (hj : j < l.length) (h : confP l[j] = false) : bareS (l.take (j + 1)) = bareS (l.take j) ++ [l[j]] := by
  rw [List.take_succ_eq_append_getElem hj, bareS_append]
  unfold bareS
  rw [List.filter_cons, if_pos (by unfold confP at h; simp [h])]
  simp
theorem bareS_none {l : List Seg} (h : ∀ x ∈ l, confP x = false) : bareS l = l := by
  unfold bareS
  rw [List.filter_eq_self]
  intro x hx
  have := h x hx
  unfold confP at this
  simp [this]
theorem Dele.start {l : List Seg} {p : Nat} (hp : p < l.length) (h : confP l[p] = true) (hj : ∀ j (h : j < l.length), j < p → confP l[j] = false) : Dele l l p (p + 1) := by
  refine ⟨by omega, by omega, rfl, ?_, rfl⟩
  rw [bareS_snoc_t hp h, bareS_none]
  intro x hx
  obtain ⟨j, hj', rfl⟩ := List.getElem_of_mem hx
  rw [List.length_take] at hj'
  rw [List.getElem_take]
  exact hj j (by omega) (by omega)
theorem Dele.at {l l' : List Seg} {i j : Nat} (d : Dele l l' i j) (hj : j < l.length) (hj' : j < l'.length) : l'[j] = l[j] := by
  obtain ⟨_, _, hl, _, h⟩ := d
  have := congrArg (fun m => m[0]?) h
  simp only [List.getElem?_drop, Nat.add_zero] at this
  rw [List.getElem?_eq_getElem hj, List.getElem?_eq_getElem hj'] at this
  exact Option.some.inj this
theorem Dele.skip {l l' : List Seg} {i j : Nat} (d : Dele l l' i j) (hj : j < l.length) (h : confP l[j] = true) : Dele l l' i (j + 1) := by
  obtain ⟨h1, h2, h3, h4, h5⟩ := d
  refine ⟨by omega, by omega, h3, by rw [bareS_snoc_t hj h, h4], ?_⟩
  rw [← List.drop_drop, ← List.drop_drop, h5]
theorem Dele.keep {l l' : List Seg} {i j : Nat} (d : Dele l l' i j) (hj : j < l.length) (h : confP l[j] = false) : Dele l (l'.set i l[j]) (i + 1) (j + 1) := by
  obtain ⟨h1, h2, h3, h4, h5⟩ := d
  have hi : i < l'.length := by omega
  refine ⟨by omega, by omega, by simp [h3], ?_, ?_⟩
  · rw [bareS_snoc_f hj h, List.take_succ_eq_append_getElem (by simp; omega), List.getElem_set_self, List.take_set_of_le (by omega), h4]
  · rw [List.drop_set_of_lt (by omega), ← List.drop_drop, ← List.drop_drop, h5]
theorem Dele.done {l l' : List Seg} {i : Nat} (d : Dele l l' i l.length) : l'.take i = bareS l := by
  have := d.2.2.2.1
  rwa [List.take_length] at this
theorem Dele.le {l l' : List Seg} {i j : Nat} (d : Dele l l' i j) : i < j ∧ j ≤ l.length ∧ l'.length = l.length := ⟨d.1, d.2.1, d.2.2.1⟩
end Go.Proofs.YtiappobhljiknaaGreatDoor
