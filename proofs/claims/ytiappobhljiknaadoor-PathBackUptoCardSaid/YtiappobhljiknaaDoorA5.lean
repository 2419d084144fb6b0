/- Chapter 4: a path as a text. -/
import Derived.Test.YtiappobhljiknaaDoorA4
import Derived.Lib.Join
import Derived.Lib.ItoaNum
namespace Go.Proofs.YtiappobhljiknaaDoor
open Go.RowKit

def opn (k : Int) : UInt8 := if k = 1 then 123 else if k = 2 then 60 else if k = 3 then 40 else 91
def cls (k : Int) : UInt8 := if k = 1 then 125 else if k = 2 then 62 else if k = 3 then 41 else 93
def asT (a : UInt32) : List UInt8 := Lib.decDigits a.toNat
def segT (s : Seg) : List UInt8 := opn s.kind :: (Lib.join (s.as.map asT) [32] ++ [cls s.kind])
def pathT (l : List Seg) : List UInt8 := Lib.join (l.map segT) [32]
def textS (l : List Seg) : ByteArray := if chk l then (if l = [] then ⟨#[45]⟩ else ⟨(pathT l).toArray⟩) else ⟨#[]⟩

theorem join_two (x y : List UInt8) (r : List (List UInt8)) (sep : List UInt8) : Lib.join (x :: y :: r) sep = x ++ sep ++ Lib.join (y :: r) sep := by
  rw [Lib.join_cons, Lib.join_cons]; simp [Lib.joinTail]
theorem join_snoc (sep : List UInt8) : ∀ (xs : List (List UInt8)) (x : List UInt8), Lib.join (xs ++ [x]) sep = if xs = [] then x else Lib.join xs sep ++ sep ++ x
  | [], x => by simp [Lib.join_one]
  | [y], x => by simp [join_two, Lib.join_one]
  | y :: z :: r, x => by
    have := join_snoc sep (z :: r) x
    rw [if_neg (by simp)] at this
    rw [if_neg (by simp), List.cons_append, List.cons_append, join_two, join_two, ← List.cons_append, this]
    simp
theorem join_le (m : Nat) : ∀ xs : List (List UInt8), (∀ x ∈ xs, x.length ≤ m) → (Lib.join xs [32]).length ≤ (m + 1) * xs.length
  | [], _ => by simp [Lib.join_nil]
  | [x], h => by have := h x (by simp); rw [Lib.join_one]; simp; omega
  | x :: y :: r, h => by
    have h1 := join_le m (y :: r) fun z hz => h z (List.mem_cons_of_mem _ hz)
    have h2 := h x (by simp)
    rw [join_two]
    simp only [List.length_append, List.length_cons, List.length_nil, Nat.mul_add] at h1 ⊢
    omega
theorem asT_le (a : UInt32) : (asT a).length ≤ 20 := by
  unfold asT
  rw [Lib.decDigits_length]
  have h := a.toNat_lt
  rcases Nat.eq_zero_or_pos a.toNat with h0 | h0
  · rw [h0, Lib.nDigits_small (by omega)]; omega
  · have := Lib.numDigits_eq a.toNat h0 (by omega)
    split at this <;> omega
theorem joinAs_le (l : List UInt32) : (Lib.join (l.map asT) [32]).length ≤ 21 * l.length := by
  have := join_le 20 (l.map asT) (by intro x hx; obtain ⟨a, _, rfl⟩ := List.mem_map.1 hx; exact asT_le a)
  simpa using this
theorem segT_le (s : Seg) : (segT s).length ≤ 2 + 21 * s.as.length := by
  have := joinAs_le s.as
  simp only [segT, List.length_cons, List.length_append, List.length_nil]
  omega
theorem pathT_le {l : List Seg} (h : chk l = true) : (pathT l).length ≤ 5358 * l.length := by
  have := join_le 5357 (l.map segT) (by
    intro x hx
    obtain ⟨s, hs, rfl⟩ := List.mem_map.1 hx
    obtain ⟨j, hj, rfl⟩ := List.getElem_of_mem hs
    have h1 := (chk_at h j hj).2.2.2.1
    have h2 := segT_le l[j]
    omega)
  simpa [pathT] using this
end Go.Proofs.YtiappobhljiknaaDoor
