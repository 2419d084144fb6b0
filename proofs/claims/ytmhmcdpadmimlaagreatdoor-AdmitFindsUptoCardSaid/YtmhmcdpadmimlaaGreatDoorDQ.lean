/- Plain: which neighbour is the nearest; where one is found that is laid among others. -/
import Derived.Test.YtmhmcdpadmimlaaGreatDoorDI
namespace Go.Proofs.YtmhmcdpadmimlaaGreatDoor
open Go.RowKit
set_option linter.unusedVariables false

/-- The best of the first k: none has the address, or it is the first one of the longest that have it. -/
theorem best_first (l : List Nbr) (a : List UInt8) : ∀ k, (bestS l a k = -1 ∧ ∀ i, i < k → ofS (l.getD i zeroN) a = false) ∨
    ∃ n : Nat, n < k ∧ bestS l a k = (n : Int) ∧ ofS (l.getD n zeroN) a = true ∧ ∀ i : Nat, i < k → ofS (l.getD i zeroN) a = true → lenN l (i : Int) ≤ lenN l (n : Int) ∧ (lenN l (i : Int) = lenN l (n : Int) → n ≤ i)
  | 0 => .inl ⟨rfl, fun i hi => absurd hi (Nat.not_lt_zero i)⟩
  | k + 1 => by
    have e : bestS l a (k + 1) = if ofS (l.getD k zeroN) a && (decide (bestS l a k < 0) || decide (lenN l (bestS l a k) < lenN l k)) then (k : Int) else bestS l a k := rfl
    rcases best_first l a k with ⟨h1, h2⟩ | ⟨n, hn, h1, h2, h3⟩
    · cases ho : ofS (l.getD k zeroN) a with
      | true =>
        refine .inr ⟨k, by omega, ?_, ho, fun i hi hoi => ?_⟩
        · rw [e, ho, h1]; rfl
        · by_cases hik : i = k
          · subst hik; exact ⟨Int.le_refl _, fun _ => Nat.le_refl _⟩
          · rw [h2 i (by omega)] at hoi; cases hoi
      | false =>
        refine .inl ⟨?_, fun i hi => ?_⟩
        · rw [e, ho, Bool.false_and, if_neg (by decide)]; exact h1
        · by_cases hik : i = k
          · subst hik; exact ho
          · exact h2 i (by omega)
    · have hneg : decide (bestS l a k < 0) = false := decide_eq_false (by omega)
      cases ho : ofS (l.getD k zeroN) a with
      | false =>
        refine .inr ⟨n, by omega, ?_, h2, fun i hi hoi => ?_⟩
        · rw [e, ho, Bool.false_and, if_neg (by decide)]; exact h1
        · by_cases hik : i = k
          · subst hik; rw [ho] at hoi; cases hoi
          · exact h3 i (by omega) hoi
      | true =>
        by_cases hlt : lenN l (n : Int) < lenN l (k : Int)
        · refine .inr ⟨k, by omega, ?_, ho, fun i hi hoi => ?_⟩
          · rw [e, ho, hneg, h1, decide_eq_true hlt]; rfl
          · by_cases hik : i = k
            · subst hik; exact ⟨Int.le_refl _, fun _ => Nat.le_refl _⟩
            · have := h3 i (by omega) hoi
              exact ⟨by omega, fun he => by omega⟩
        · refine .inr ⟨n, by omega, ?_, h2, fun i hi hoi => ?_⟩
          · rw [e, ho, hneg, h1, decide_eq_false hlt]
            rfl
          · by_cases hik : i = k
            · subst hik; exact ⟨by omega, fun _ => by omega⟩
            · exact h3 i (by omega) hoi
/-- One laid among others that have no address is found by its own. -/
theorem find_laid (p q : List Nbr) (d : Nbr) (a : List UInt8) (hr : rightA a = true) (hd : d.addr = a) (hp : ∀ x ∈ p, x.addr = []) : findN (p ++ [d] ++ q) a = ((p.length : Int), true) := by
  have hne : a ≠ [] := fun e => by subst e; cases hr
  refine findN_at hr ?_
  induction p with
  | nil =>
    have hx : (d.addr == a) = true := by rw [hd]; exact beq_self_eq_true a
    show List.findIdx? (fun x => x.addr == a) (d :: q) = some 0
    rw [List.findIdx?_cons, hx]
    rfl
  | cons x r ih =>
    have hx : (x.addr == a) = false := by rw [beq_eq_false_iff_ne, hp x (by simp)]; exact fun e => hne e.symm
    have := ih (fun y hy => hp y (by simp [hy]))
    simp only [List.cons_append, List.findIdx?_cons, hx, this, List.length_cons]
    rfl
end Go.Proofs.YtmhmcdpadmimlaaGreatDoor
