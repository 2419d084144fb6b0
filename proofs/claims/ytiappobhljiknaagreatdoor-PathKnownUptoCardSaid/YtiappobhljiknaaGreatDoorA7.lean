/- Rows that may be written: nested rows of the call's own; what a spoiler leaves. -/
import Derived.Test.YtiappobhljiknaaGreatDoorW12
import Derived.Test.YtiappobhljiknaaGreatDoorBytes
namespace Go.Proofs.YtiappobhljiknaaGreatDoor
open Go.RowKit
set_option linter.unusedVariables false

/-- The row may be written. -/
def Soft (w : World) (a : Option Addr) : Prop := ∀ b o, a = some ⟨b, o, none⟩ → ∀ j, w.frozen? ⟨b, j, none⟩ = false
theorem frozen_frame {w w' : World} {b : Nat} (h : w'.heap[b]? = w.heap[b]?) (j : Nat) : w'.frozen? ⟨b, j, none⟩ = w.frozen? ⟨b, j, none⟩ := by
  unfold World.frozen?
  rw [h]
def Enc.sliceW {α : Type} (E : Enc α) : Enc (List α) where
  R w S l cs := ∃ a c, cs = [.slice a l.length c] ∧ l.length ≤ 16777216 ∧ Sl E w S a l ∧ (l ≠ [] → Soft w a)
  sz := 1
  size := by rintro w S x cs ⟨a, c, rfl, _⟩; rfl
  one := by rintro w S x cs ⟨a, c, rfl, _⟩ u hu; simp at hu; subst hu; rfl
  frame := by
    rintro w w' S x cs hw ⟨a, c, rfl, hm, h, hs⟩
    refine ⟨a, c, rfl, hm, h.frame hw, fun hx b o ha j => ?_⟩
    rcases h with h | ⟨b', off, rfl, hb, _⟩
    · exact absurd h hx
    · injection ha with ha
      injection ha with ha
      subst ha
      rw [frozen_frame (hw _ hb)]
      exact hs hx _ _ rfl j
  mono := by rintro w S S' x cs hS ⟨a, c, rfl, hm, h, hs⟩; exact ⟨a, c, rfl, hm, h.mono hS, hs⟩
def ESegW : Enc Seg := (EI64.pair EU32.sliceW).map fun s => (s.kind, s.as)
theorem ESegW.weak {w : World} {S : Nat → Prop} {x : Seg} {cs : List Value} (h : ESegW.R w S x cs) : ESeg.R w S x cs := by
  obtain ⟨c, d, rfl, h1, a, k, rfl, hm, hs, _⟩ := h
  exact ⟨c, _, rfl, h1, a, k, rfl, hm, hs⟩
theorem Own.weak {e : TypeId} {w : World} {B : Nat} {v : Value} {l : List Seg} (h : Own ESegW e w B v l) : Own ESeg e w B v l := by
  obtain ⟨xs, h1, h2⟩ := h
  exact ⟨xs, h1, fun k x hx => let ⟨cs, h3, h4⟩ := h2 k x hx; ⟨cs, ESegW.weak h3, h4⟩⟩
theorem Own.soft {α : Type} {E : Enc α} {e : TypeId} {w : World} {B : Nat} {l : List α} {a : Option Addr} {n c : Nat} (h : Own E e w B (.slice a n c) l) : Soft w a := by
  intro b o ha j
  subst ha
  obtain ⟨xs, ho, _⟩ := h
  rcases ho.2 with ⟨hv, _⟩ | ⟨g, cap, cur, hv, _⟩
  · cases hv
  · injection hv with e1 e2 e3
    injection e1 with e1
    injection e1 with e1 e4
    subst e1 e4 e2
    exact ho.frozenAt j
theorem segRW {w1 : World} {B : Nat} {v : Value} {x : Seg} {b : Option Addr} {d C : Nat} {T : TypeId} {cs : Array Value} (hv : ∀ k, v.ownBlock = some k → k < C) (hC : B ≤ C) (hk1 : -9223372036854775808 ≤ x.kind) (hk2 : x.kind ≤ 9223372036854775807) (hm : x.as.length ≤ 16777216)
    (hsl : Sl EU32 w1 (fun k => C ≤ k ∧ k < w1.heap.size) b x.as) (hsf : Soft w1 b) :
    ESegW.R (w1.alloc (.cells cs T)) (fun b => B ≤ b ∧ b < (w1.alloc (.cells cs T)).heap.size ∧ some b ≠ v.ownBlock) x [.int .i64 x.kind, .slice b x.as.length d] := by
  refine ⟨[.int .i64 x.kind], [.slice b x.as.length d], rfl, ⟨rfl, hk1, hk2⟩, b, d, rfl, hm, ?_, fun hx k o hk j => ?_⟩
  · refine (hsl.frame fun b hb => Below.heap_alloc _ _ _ hb.2).mono fun b hb => ⟨by omega, by simp; omega, fun he => ?_⟩
    have := hv b he.symm
    omega
  · rcases hsl with h | ⟨b', off, rfl, hb, _⟩
    · exact absurd h hx
    · injection hk with hk
      injection hk with hk
      subst hk
      rw [frozen_frame (Below.heap_alloc _ _ _ hb.2)]
      exact hsf _ _ rfl j
theorem okSegW' : ElemOk Tryz.prog 27 24 ESegW.sz 32 := okSeg

theorem cs_same {w : World} {a : Addr} {u v : Value} (h : w.cell? a = some u) : (w.setCell a v).cell? a = some v := World.cell?_setCell_same w a v h
theorem cs_far {w : World} {g x y : Nat} {v : Value} (h : x ≠ y) : (w.setCell ⟨g, x, none⟩ v).cell? ⟨g, y, none⟩ = w.cell? ⟨g, y, none⟩ := by
  refine World.cell?_setCell_other _ _ _ _ ?_
  intro he
  injection he with _ he
  exact h he

/-- A row of n cells from address a on that may be written, at or above B. -/
def Wr (w : World) (B : Nat) (a : Option Addr) (n : Nat) : Prop := n = 0 ∨ ∃ h p, a = some ⟨h, p, none⟩ ∧ B ≤ h ∧ ∀ j, j < n → (w.cell? ⟨h, p + j, none⟩).isSome = true ∧ w.frozen? ⟨h, p + j, none⟩ = false
/-- Cells are written, none is lost. -/
structure Kept (w w' : World) : Prop where
  cell : ∀ b o, (w.cell? ⟨b, o, none⟩).isSome = true → (w'.cell? ⟨b, o, none⟩).isSome = true
  soft : ∀ b o, w.frozen? ⟨b, o, none⟩ = false → w'.frozen? ⟨b, o, none⟩ = false
theorem Kept.refl (w : World) : Kept w w := ⟨fun _ _ h => h, fun _ _ h => h⟩
theorem Kept.trans {a b c : World} (h : Kept a b) (k : Kept b c) : Kept a c := ⟨fun x y z => k.cell x y (h.cell x y z), fun x y z => k.soft x y (h.soft x y z)⟩
theorem Kept.set {a b : World} (h : Kept a b) (p : Addr) (u : Value) : Kept a (b.setCell p u) := by
  refine ⟨fun x y z => ?_, fun x y z => ?_⟩
  · obtain ⟨t, ht⟩ := Option.isSome_iff_exists.1 (h.cell x y z)
    obtain ⟨t', ht'⟩ := Go.RowKit.cell?_setCell_some (p := p) (x := u) ht
    rw [ht']; rfl
  · rw [World.frozen?_setCell]; exact h.soft x y z
theorem Wr.kept {w w' : World} {B : Nat} {a : Option Addr} {n : Nat} (h : Wr w B a n) (k : Kept w w') : Wr w' B a n := by
  rcases h with h | ⟨b, p, rfl, hb, hc⟩
  · exact .inl h
  · exact .inr ⟨b, p, rfl, hb, fun j hj => ⟨k.cell _ _ (hc j hj).1, k.soft _ _ (hc j hj).2⟩⟩
theorem Wr.at {w : World} {B : Nat} {a : Option Addr} {n : Nat} (h : Wr w B a n) (j : Nat) (hj : j < n) : ∃ b p u, a = some ⟨b, p, none⟩ ∧ B ≤ b ∧ w.cell? ⟨b, p + j, none⟩ = some u ∧ w.frozen? ⟨b, p + j, none⟩ = false := by
  rcases h with h | ⟨b, p, rfl, hb, hc⟩
  · omega
  · obtain ⟨u, hu⟩ := Option.isSome_iff_exists.1 (hc j hj).1
    exact ⟨b, p, u, rfl, hb, hu, (hc j hj).2⟩

/-- A row of segments, each with a row of its own, that may all be written. -/
def Junk (w : World) (B g n : Nat) : Prop := B ≤ g ∧ ∀ k, k < n → ∃ u b m c, w.cell? ⟨g, k * 2, none⟩ = some u ∧ w.cell? ⟨g, k * 2 + 1, none⟩ = some (.slice b m c) ∧ m ≤ 16777216 ∧ w.frozen? ⟨g, k * 2, none⟩ = false ∧ w.frozen? ⟨g, k * 2 + 1, none⟩ = false ∧
  Wr w B b m ∧ (0 < m → ∀ h p, b = some ⟨h, p, none⟩ → h ≠ g)
theorem Junk.setN {w : World} {B g n : Nat} (j : Junk w B g n) {h : Nat} (p : Nat) (u : Value) (hg : h ≠ g) : Junk (w.setCell ⟨h, p, none⟩ u) B g n := by
  refine ⟨j.1, fun k hk => ?_⟩
  obtain ⟨v, b, m, c, h1, h2, h3, h4, h5, h6, h7⟩ := j.2 k hk
  refine ⟨v, b, m, c, ?_, ?_, h3, ?_, ?_, h6.kept ((Kept.refl w).set _ _), h7⟩
  · rw [World.cell?_setCell_far _ _ _ _ (by exact hg)]; exact h1
  · rw [World.cell?_setCell_far _ _ _ _ (by exact hg)]; exact h2
  · rw [World.frozen?_setCell]; exact h4
  · rw [World.frozen?_setCell]; exact h5
theorem Junk.set2 {w : World} {B g n : Nat} (j : Junk w B g n) (i : Nat) (hi : i < n) (u : Value) : Junk ((w.setCell ⟨g, i * 2, none⟩ u).setCell ⟨g, i * 2 + 1, none⟩ (.slice none 0 0)) B g n := by
  refine ⟨j.1, fun k hk => ?_⟩
  obtain ⟨v, b, m, c, h1, h2, h3, h4, h5, h6, h7⟩ := j.2 k hk
  by_cases hki : k = i
  · subst hki
    refine ⟨u, none, 0, 0, ?_, ?_, by omega, by simpa using h4, by simpa using h5, .inl rfl, fun h => by omega⟩
    · rw [cs_far (by omega)]
      exact cs_same h1
    · refine cs_same (u := .slice b m c) ?_
      rw [cs_far (by omega)]
      exact h2
  · refine ⟨v, b, m, c, ?_, ?_, h3, by simpa using h4, by simpa using h5, h6.kept (((Kept.refl w).set _ _).set _ _), h7⟩
    · rw [cs_far (by omega), cs_far (by omega)]
      exact h1
    · rw [cs_far (by omega), cs_far (by omega)]
      exact h2
theorem Own.junk {w : World} {B g n c : Nat} {l : List Seg} (h : Own ESegW 24 w B (.slice (some ⟨g, 0, none⟩) n c) l) : Junk w B g n := by
  have hn := h.lenEq
  refine ⟨h.blockLt.1, fun k hk => ?_⟩
  obtain ⟨cs, ⟨c1, d1, rfl, ⟨rfl, _⟩, b, cc, rfl, hm, hs, hf⟩, hc⟩ := h.at0 k (by omega)
  refine ⟨_, b, _, cc, hc 0 _ rfl, hc 1 _ rfl, hm, h.thaw _, h.thaw _, ?_, ?_⟩
  · rcases hs with hs | ⟨h', p, rfl, hb, hx⟩
    · exact .inl (by rw [hs]; rfl)
    · rcases Nat.eq_zero_or_pos l[k].as.length with h0 | h0
      · exact .inl h0
      · refine .inr ⟨h', p, rfl, hb.1, fun j hj => ?_⟩
        obtain ⟨cs, ⟨rfl, _⟩, hcc⟩ := hx j _ (List.getElem?_eq_getElem hj)
        have := hcc 0 _ rfl
        simp only [EU32, Enc.flat, Nat.mul_one, Nat.add_zero] at this
        refine ⟨by rw [this]; rfl, hf (fun h => by have hz : l[k].as = [] := h; rw [hz] at h0; exact absurd h0 (by simp)) _ _ rfl _⟩
  · intro h0 h' p hb
    rcases hs with hs | ⟨h'', p'', rfl, hb', _⟩
    · rw [hs] at h0; simp at h0
    · injection hb with hb
      injection hb with hb
      subst hb
      exact hb'.2.2
theorem Own.wr {w : World} {B : Nat} {a : Option Addr} {n c : Nat} {l : List UInt32} (h : Own EU32 26 w B (.slice a n c) l) : n = l.length ∧ Wr w B a n := by
  obtain ⟨b, d, hv, hs⟩ := h.sl
  injection hv with h1 h2 h3
  subst h1 h2 h3
  refine ⟨rfl, ?_⟩
  rcases hs with hs | ⟨h', p, rfl, hb, hx⟩
  · exact .inl (by rw [hs]; rfl)
  · refine .inr ⟨h', p, rfl, hb.1, fun j hj => ?_⟩
    obtain ⟨cs, ⟨rfl, _⟩, hcc⟩ := hx j _ (List.getElem?_eq_getElem hj)
    have := hcc 0 _ rfl
    simp only [EU32, Enc.flat, Nat.mul_one, Nat.add_zero] at this
    exact ⟨by rw [this]; rfl, h.soft _ _ rfl _⟩
/-- clear of a row's tail, and the row cut to what is ahead of it. -/
theorem Own.clear_tail {α : Type} {E : Enc α} {P : Program} {t e ty : TypeId} {z : Value} (ht : P.underlying t = some (.slice e)) (hv : ∀ w, (zeroValue e).run P w = .ok z w) (hz : z.cells.size = E.sz) (h1 : ∀ u ∈ z.cells.toList, u.oneCell' = true)
    {w : World} {B g n c m k : Nat} {l : List α} (h : Own E e w B (.slice (some ⟨g, 0, none⟩) n c) l) (hk : k + m = n) (hm : 0 < m) (c' : Nat) :
    ∃ w', (Builtin.clear_ #[t] ty #[.slice (some ⟨g, k * E.sz, none⟩) m c']).run P w = .ok (.tuple #[]) w' ∧ Below B w w' ∧ Own E e w' B (.slice (some ⟨g, 0, none⟩) k c) (l.take k) := by
  have hn := h.lenEq
  have hb := h.blockLt
  subst hn
  obtain ⟨xs, ho, hr⟩ := h
  obtain ⟨w', hrun, hg, hsz, ho'⟩ := run_clear_tail (ty := ty) ht hv hz h1 ho hk hm c'
  refine ⟨w', hrun, Below.grown (Below.refl _ _) hg (by omega) (fun j hj => by injection hj with hj; omega), xs.take (k * E.sz), ?_, fun j y hy => ?_⟩
  · have : (l.take k).length = k := by simp; omega
    rw [this]; exact ho'
  · rw [List.getElem?_take] at hy
    split at hy
    · rename_i hjk
      obtain ⟨cs, h3, h4⟩ := hr j y hy
      refine ⟨cs, E.mono (fun b hb => ⟨hb.1, by omega, hb.2.2⟩) (E.frame (fun b hb => hg.block b hb.2.1 hb.2.2) h3), fun i u hu => ?_⟩
      have hi : i < E.sz := by
        have := E.size h3
        rcases Nat.lt_or_ge i E.sz with h | h
        · exact h
        · rw [List.getElem?_eq_none (by omega)] at hu; cases hu
      rw [List.getElem?_take, if_pos]
      · exact h4 i u hu
      · have : (j + 1) * E.sz ≤ k * E.sz := Nat.mul_le_mul_right _ hjk
        rw [Nat.add_mul] at this
        omega
    · cases hy
end Go.Proofs.YtiappobhljiknaaGreatDoor
