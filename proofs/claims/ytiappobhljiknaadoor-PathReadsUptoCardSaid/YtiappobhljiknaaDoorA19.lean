/- What a spoiler may write: rows that lie in given blocks. -/
import Derived.Test.YtiappobhljiknaaDoorA7
namespace Go.Proofs.YtiappobhljiknaaDoor
open Go.RowKit
set_option linter.unusedVariables false

/-- Nothing outside the blocks S has turned. -/
structure Only (S : Nat → Prop) (w w' : World) : Prop where
  os : w'.os = w.os
  tape : w'.tape = w.tape
  output : w'.output = w.output
  size : w'.heap.size = w.heap.size
  block : ∀ b, ¬ S b → w'.heap[b]? = w.heap[b]?
theorem Only.refl (S : Nat → Prop) (w : World) : Only S w w := ⟨rfl, rfl, rfl, rfl, fun _ _ => rfl⟩
theorem Only.setCell {S : Nat → Prop} {a w : World} (h : Only S a w) {g : Nat} (o : Nat) (hg : S g) (u : Value) : Only S a (w.setCell ⟨g, o, none⟩ u) :=
  ⟨h.os, h.tape, h.output, by simpa [World.setCell] using h.size, fun b hb => (Below.heap_setCell _ _ _ _ (show b ≠ g from fun he => hb (he ▸ hg))).trans (h.block b hb)⟩
theorem Only.below {S : Nat → Prop} {w w' : World} (h : Only S w w') {B : Nat} (hS : ∀ b, S b → B ≤ b) : Below B w w' :=
  ⟨h.os, h.tape, h.output, Nat.le_of_eq h.size.symm, fun b hb => h.block b fun hs => by have := hS b hs; omega⟩

/-- A row of n cells from address a on that may be written, in S. -/
def WrS (w : World) (S : Nat → Prop) (a : Option Addr) (n : Nat) : Prop := n = 0 ∨ ∃ h p, a = some ⟨h, p, none⟩ ∧ S h ∧ ∀ j, j < n → (w.cell? ⟨h, p + j, none⟩).isSome = true ∧ w.frozen? ⟨h, p + j, none⟩ = false
theorem WrS.kept {w w' : World} {S : Nat → Prop} {a : Option Addr} {n : Nat} (h : WrS w S a n) (k : Kept w w') : WrS w' S a n := by
  rcases h with h | ⟨b, p, rfl, hb, hc⟩
  · exact .inl h
  · exact .inr ⟨b, p, rfl, hb, fun j hj => ⟨k.cell _ _ (hc j hj).1, k.soft _ _ (hc j hj).2⟩⟩
theorem WrS.frame {w w' : World} {S : Nat → Prop} {a : Option Addr} {n : Nat} (h : WrS w S a n) (k : ∀ b, S b → w'.heap[b]? = w.heap[b]?) : WrS w' S a n := by
  rcases h with h | ⟨b, p, rfl, hb, hc⟩
  · exact .inl h
  · refine .inr ⟨b, p, rfl, hb, fun j hj => ⟨?_, ?_⟩⟩
    · rw [World.cell?_of_block (w := w) (a := ⟨b, p + j, none⟩) (k b hb)]; exact (hc j hj).1
    · rw [frozen_frame (k b hb)]; exact (hc j hj).2
theorem WrS.at {w : World} {S : Nat → Prop} {a : Option Addr} {n : Nat} (h : WrS w S a n) (j : Nat) (hj : j < n) : ∃ b p u, a = some ⟨b, p, none⟩ ∧ S b ∧ w.cell? ⟨b, p + j, none⟩ = some u ∧ w.frozen? ⟨b, p + j, none⟩ = false := by
  rcases h with h | ⟨b, p, rfl, hb, hc⟩
  · omega
  · obtain ⟨u, hu⟩ := Option.isSome_iff_exists.1 (hc j hj).1
    exact ⟨b, p, u, rfl, hb, hu, (hc j hj).2⟩
/-- A row of segments in S, each with a row of its own in S, that may all be written. -/
def JunkS (w : World) (S : Nat → Prop) (g n : Nat) : Prop := S g ∧ ∀ k, k < n → ∃ u b m c, w.cell? ⟨g, k * 2, none⟩ = some u ∧ w.cell? ⟨g, k * 2 + 1, none⟩ = some (.slice b m c) ∧ m ≤ 16777216 ∧ w.frozen? ⟨g, k * 2, none⟩ = false ∧ w.frozen? ⟨g, k * 2 + 1, none⟩ = false ∧
  WrS w S b m ∧ (0 < m → ∀ h p, b = some ⟨h, p, none⟩ → h ≠ g)
theorem JunkS.frame {w w' : World} {S : Nat → Prop} {g n : Nat} (j : JunkS w S g n) (h : ∀ b, S b → w'.heap[b]? = w.heap[b]?) : JunkS w' S g n := by
  refine ⟨j.1, fun k hk => ?_⟩
  obtain ⟨v, b, m, c, h1, h2, h3, h4, h5, h6, h7⟩ := j.2 k hk
  refine ⟨v, b, m, c, ?_, ?_, h3, ?_, ?_, h6.frame h, h7⟩
  · rw [World.cell?_of_block (w := w) (a := ⟨g, k * 2, none⟩) (h g j.1)]; exact h1
  · rw [World.cell?_of_block (w := w) (a := ⟨g, k * 2 + 1, none⟩) (h g j.1)]; exact h2
  · rw [frozen_frame (h g j.1)]; exact h4
  · rw [frozen_frame (h g j.1)]; exact h5
theorem JunkS.setN {w : World} {S : Nat → Prop} {g n : Nat} (j : JunkS w S g n) {h : Nat} (p : Nat) (u : Value) (hg : h ≠ g) : JunkS (w.setCell ⟨h, p, none⟩ u) S g n := by
  refine ⟨j.1, fun k hk => ?_⟩
  obtain ⟨v, b, m, c, h1, h2, h3, h4, h5, h6, h7⟩ := j.2 k hk
  refine ⟨v, b, m, c, ?_, ?_, h3, ?_, ?_, h6.kept ((Kept.refl w).set _ _), h7⟩
  · rw [World.cell?_setCell_far _ _ _ _ (by exact hg)]; exact h1
  · rw [World.cell?_setCell_far _ _ _ _ (by exact hg)]; exact h2
  · rw [World.frozen?_setCell]; exact h4
  · rw [World.frozen?_setCell]; exact h5
theorem JunkS.set2 {w : World} {S : Nat → Prop} {g n : Nat} (j : JunkS w S g n) (i : Nat) (hi : i < n) (u : Value) : JunkS ((w.setCell ⟨g, i * 2, none⟩ u).setCell ⟨g, i * 2 + 1, none⟩ (.slice none 0 0)) S g n := by
  refine ⟨j.1, fun k hk => ?_⟩
  obtain ⟨v, b, m, c, h1, h2, h3, h4, h5, h6, h7⟩ := j.2 k hk
  by_cases hki : k = i
  · subst hki
    refine ⟨u, none, 0, 0, ?_, ?_, by omega, by simpa using h4, by simpa using h5, .inl rfl, fun h => by omega⟩
    · rw [cs_far (by omega)]
      exact cs_same h1
    · refine cs_same (u := .slice b m c) ?_
      rw [cs_far (by omega)]
      exact h2
  · refine ⟨v, b, m, c, ?_, ?_, h3, by simpa using h4, by simpa using h5, h6.kept (((Kept.refl w).set _ _).set _ _), h7⟩
    · rw [cs_far (by omega), cs_far (by omega)]
      exact h1
    · rw [cs_far (by omega), cs_far (by omega)]
      exact h2
theorem Own.junkS {w : World} {B g n c : Nat} {l : List Seg} (h : Own ESegW 48 w B (.slice (some ⟨g, 0, none⟩) n c) l) : JunkS w (fun b => B ≤ b ∧ b < w.heap.size) g n := by
  have hn := h.lenEq
  refine ⟨h.blockLt, fun k hk => ?_⟩
  obtain ⟨cs, ⟨c1, d1, rfl, ⟨rfl, _⟩, b, cc, rfl, hm, hs, hf⟩, hc⟩ := h.at0 k (by omega)
  refine ⟨_, b, _, cc, hc 0 _ rfl, hc 1 _ rfl, hm, h.thaw _, h.thaw _, ?_, ?_⟩
  · rcases hs with hs | ⟨h', p, rfl, hb, hx⟩
    · exact .inl (by rw [hs]; rfl)
    · rcases Nat.eq_zero_or_pos l[k].as.length with h0 | h0
      · exact .inl h0
      · refine .inr ⟨h', p, rfl, ⟨hb.1, hb.2.1⟩, fun j hj => ?_⟩
        obtain ⟨cs, ⟨rfl, _⟩, hcc⟩ := hx j _ (List.getElem?_eq_getElem hj)
        have := hcc 0 _ rfl
        simp only [EU32, Enc.flat, Nat.mul_one, Nat.add_zero] at this
        refine ⟨by rw [this]; rfl, hf (fun h => by have hz : l[k].as = [] := h; rw [hz] at h0; exact absurd h0 (by simp)) _ _ rfl _⟩
  · intro h0 h' p hb
    rcases hs with hs | ⟨h'', p'', rfl, hb', _⟩
    · rw [hs] at h0; simp at h0
    · injection hb with hb
      injection hb with hb
      subst hb
      exact hb'.2.2
/-- A path that may be written: its address and its rows, in S. -/
def Spoilt (w : World) (S : Nat → Prop) (a : Option Addr) (n : Nat) : Prop := n = 0 ∨ ∃ g, a = some ⟨g, 0, none⟩ ∧ JunkS w S g n
theorem Spoilt.frame {w w' : World} {S : Nat → Prop} {a : Option Addr} {n : Nat} (j : Spoilt w S a n) (h : ∀ b, S b → w'.heap[b]? = w.heap[b]?) : Spoilt w' S a n := by
  rcases j with j | ⟨g, rfl, j⟩
  · exact .inl j
  · exact .inr ⟨g, rfl, j.frame h⟩
theorem Own.spoilt {w : World} {B n c : Nat} {a : Option Addr} {l : List Seg} (h : Own ESegW 48 w B (.slice a n c) l) : Spoilt w (fun b => B ≤ b ∧ b < w.heap.size) a n := by
  obtain ⟨xs, ho, hr⟩ := h
  rcases ho.2 with ⟨hv, hz⟩ | ⟨g, cap, cur, hv, h3⟩
  · injection hv with _ hv _
    exact .inl hv
  · injection hv with hv hn hc
    subst hv
    exact .inr ⟨g, rfl, Own.junkS ⟨xs, ho, hr⟩⟩
end Go.Proofs.YtiappobhljiknaaDoor
