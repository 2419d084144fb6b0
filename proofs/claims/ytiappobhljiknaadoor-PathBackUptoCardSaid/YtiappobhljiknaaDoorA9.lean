/- Segments with the number of the block that each one's own row lies in. -/
import Derived.Test.YtiappobhljiknaaDoorA8
namespace Go.Proofs.YtiappobhljiknaaDoor
open Go.RowKit
set_option linter.unusedVariables false

def ESegB : Enc (Seg × Nat) where
  R w S x cs := ESegO.R w (fun b => S b ∧ b = x.2) x.1 cs
  sz := ESegO.sz
  size h := ESegO.size h
  one h := ESegO.one h
  frame hw h := ESegO.frame (fun b hb => hw b hb.1) h
  mono hS h := ESegO.mono (fun b hb => ⟨hS b hb.1, hb.2⟩) h
theorem okSegB' : ElemOk Tryd.prog 22 48 ESegB.sz 32 := okSeg
theorem Own.plain {e : TypeId} {w : World} {B : Nat} {v : Value} {ls : List (Seg × Nat)} (h : Own ESegB e w B v ls) : Own ESegW e w B v (ls.map (·.1)) := by
  obtain ⟨xs, h1, h2⟩ := h
  refine ⟨xs, by rw [List.length_map]; exact h1, fun k x hx => ?_⟩
  rw [List.getElem?_map] at hx
  cases hk : ls[k]? with
  | none => rw [hk] at hx; cases hx
  | some p =>
    rw [hk] at hx
    obtain rfl : p.1 = x := Option.some.inj hx
    obtain ⟨cs, h3, h4⟩ := h2 k p hk
    exact ⟨cs, ESegO.weak (ESegO.mono (fun b hb => hb.1) h3), h4⟩
theorem segRB {w1 : World} {B : Nat} {v u : Value} {x : Seg} {C : Nat} {T : TypeId} {cs : Array Value} (hv : ∀ k, v.ownBlock = some k → k < C) (hC : B ≤ C) (hCw : C ≤ w1.heap.size) (hk1 : -9223372036854775808 ≤ x.kind) (hk2 : x.kind ≤ 9223372036854775807) (hm : x.as.length ≤ 16777216)
    (ho : Own EU32 31 w1 C u x.as) :
    ∃ h, C ≤ h ∧ h ≤ w1.heap.size ∧ ESegB.R (w1.alloc (.cells cs T)) (fun b => B ≤ b ∧ b < (w1.alloc (.cells cs T)).heap.size ∧ some b ≠ v.ownBlock) (x, h) [.int .i64 x.kind, u] := by
  have hr := ho.rowU
  have hlt := ho.lt
  have key : ∀ h, (∀ g, u.ownBlock = some g → g = h) → ESegB.R (w1.alloc (.cells cs T)) (fun b => B ≤ b ∧ b < (w1.alloc (.cells cs T)).heap.size ∧ some b ≠ v.ownBlock) (x, h) [.int .i64 x.kind, u] := by
    intro h hh
    have base : ESegO.R w1 (fun b => C ≤ b ∧ b < w1.heap.size ∧ b = h) x [.int .i64 x.kind, u] :=
      ⟨[.int .i64 x.kind], [u], rfl, ⟨rfl, hk1, hk2⟩, u, rfl, hm, hr, fun g hg => ⟨(hlt g hg).1, (hlt g hg).2, hh g hg⟩⟩
    have step := ESegO.frame (w' := w1.alloc (.cells cs T)) (fun b hb => Below.heap_alloc _ _ _ hb.2.1) base
    exact ESegO.mono (fun b hb => ⟨⟨by omega, by simp; omega, fun he => by have := hv b he.symm; omega⟩, hb.2.2⟩) step
  cases hu : u.ownBlock with
  | none => exact ⟨C, Nat.le_refl _, hCw, key C fun g hg => by rw [hu] at hg; cases hg⟩
  | some g => exact ⟨g, (hlt g hu).1, Nat.le_of_lt (hlt g hu).2, key g fun g' hg => by rw [hu] at hg; exact (Option.some.inj hg).symm⟩
end Go.Proofs.YtiappobhljiknaaDoor
