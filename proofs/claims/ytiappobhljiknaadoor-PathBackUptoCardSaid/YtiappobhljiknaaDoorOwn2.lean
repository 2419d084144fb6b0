/- Rows of the call's own whose elements have two cells: an element stored, the tail cleared, a part cut off. -/
import Derived.Test.YtiappobhljiknaaDoorBytes
import Derived.Laws.OwnMore
namespace Go.Proofs.YtiappobhljiknaaDoor
open Go.RowKit
set_option linter.unusedVariables false

section
variable {α : Type} {E : Enc α} {e : TypeId} {w w' : World} {B g n c : Nat} {l : List α}
theorem Own.lenEq (h : Own E e w B (.slice (some ⟨g, 0, none⟩) n c) l) : n = l.length := by
  obtain ⟨a, d, hv⟩ := h.form
  injection hv
theorem Own.at0 (h : Own E e w B (.slice (some ⟨g, 0, none⟩) n c) l) (k : Nat) (hk : k < l.length) :
    ∃ cs, E.R w (fun b => B ≤ b ∧ b < w.heap.size ∧ b ≠ g) l[k] cs ∧ ∀ j u, cs[j]? = some u → w.cell? ⟨g, k * E.sz + j, none⟩ = some u := by
  have hn := h.lenEq
  obtain ⟨xs, ho, hr⟩ := h
  obtain ⟨cs, h1, h2⟩ := hr k l[k] (List.getElem?_eq_getElem hk)
  refine ⟨cs, E.mono (fun b hb => ⟨hb.1, hb.2.1, fun he => hb.2.2 (by rw [he]; rfl)⟩) h1, fun j u hu => ?_⟩
  have h3 := h2 j u hu
  have hj := (List.getElem?_eq_some_iff.1 h3).1
  have := ho.cells (g := g) rfl (k * E.sz + j) u h3
  rw [add_lit, Nat.zero_add] at this
  exact this
theorem Own.thaw (h : Own E e w B (.slice (some ⟨g, 0, none⟩) n c) l) (j : Nat) : w.frozen? ⟨g, j, none⟩ = false := by
  have hn := h.lenEq
  obtain ⟨xs, ho, _⟩ := h
  subst hn
  exact ho.frozenAt j
theorem Own.blockLt (h : Own E e w B (.slice (some ⟨g, 0, none⟩) n c) l) : B ≤ g ∧ g < w.heap.size := h.lt g rfl
/-- Element i is stored: its two cells. -/
theorem Own.set2 (h : Own E e w B (.slice (some ⟨g, 0, none⟩) n c) l) (hsz : E.sz = 2) {i : Nat} (hi : i < l.length) {x : α} {c0 c1 : Value} (hx : E.R w (fun b => B ≤ b ∧ b < w.heap.size ∧ b ≠ g) x [c0, c1]) :
    Own E e ((w.setCell ⟨g, i * 2, none⟩ c0).setCell ⟨g, i * 2 + 1, none⟩ c1) B (.slice (some ⟨g, 0, none⟩) n c) (l.set i x) := by
  have hn := h.lenEq
  subst hn
  obtain ⟨xs, ho, hr⟩ := h
  obtain ⟨o1, g1⟩ := ho.stored (i * 2) c0
  obtain ⟨o2, g2⟩ := o1.stored (i * 2 + 1) c1
  have hxl : xs.length = l.length * 2 := by rw [ho.1, hsz]
  have hfr : ∀ b, (B ≤ b ∧ b < w.heap.size ∧ b ≠ g) → ((w.setCell ⟨g, i * 2, none⟩ c0).setCell ⟨g, i * 2 + 1, none⟩ c1).heap[b]? = w.heap[b]? := fun b hb => by
    rw [Below.heap_setCell _ _ _ _ (by exact hb.2.2), Below.heap_setCell _ _ _ _ (by exact hb.2.2)]
  have hmo : ∀ b, (B ≤ b ∧ b < w.heap.size ∧ b ≠ g) → (B ≤ b ∧ b < ((w.setCell ⟨g, i * 2, none⟩ c0).setCell ⟨g, i * 2 + 1, none⟩ c1).heap.size ∧ some b ≠ (Value.slice (some ⟨g, 0, none⟩) l.length c).ownBlock) := fun b hb =>
    ⟨hb.1, by simpa [World.setCell] using hb.2.1, fun he => hb.2.2 (Option.some.inj he)⟩
  refine ⟨(xs.set (i * 2) c0).set (i * 2 + 1) c1, by rw [List.length_set]; exact o2, fun k y hy => ?_⟩
  by_cases hk : k = i
  · subst hk
    rw [List.getElem?_set_self hi] at hy
    obtain rfl : x = y := Option.some.inj hy
    refine ⟨[c0, c1], E.mono hmo (E.frame hfr hx), fun j u hu => ?_⟩
    rw [hsz]
    match j, hu with
    | 0, hu =>
      simp at hu
      subst hu
      rw [List.getElem?_set_ne (by omega), Nat.add_zero, List.getElem?_set_self (by omega)]
    | 1, hu =>
      simp at hu
      subst hu
      rw [List.getElem?_set_self (by rw [List.length_set]; omega)]
  · rw [List.getElem?_set_ne (Ne.symm hk)] at hy
    obtain ⟨cs, h1, h2⟩ := hr k y hy
    refine ⟨cs, E.mono hmo (E.frame hfr (E.mono (fun b hb => ⟨hb.1, hb.2.1, fun he => hb.2.2 (by rw [he]; rfl)⟩) h1)), fun j u hu => ?_⟩
    have hj : j < 2 := by
      have := E.size h1
      rcases Nat.lt_or_ge j 2 with h | h
      · exact h
      · rw [List.getElem?_eq_none (by omega)] at hu; cases hu
    have h3 := h2 j u hu
    rw [hsz] at h3 ⊢
    rw [List.getElem?_set_ne (by omega), List.getElem?_set_ne (by omega)]
    exact h3
theorem ext_set2 {a : World} (h : Ext a w) (hg : a.heap.size ≤ g) (i j : Nat) (u v : Value) : Ext a ((w.setCell ⟨g, i, none⟩ u).setCell ⟨g, j, none⟩ v) := (h.setCell hg u).setCell hg v

/-- The first k elements of a row. -/
theorem Own.cutTo (h : Own E e w B (.slice (some ⟨g, 0, none⟩) n c) l) (k : Nat) (hk : k ≤ l.length) : Own E e w B (.slice (some ⟨g, 0, none⟩) k c) (l.take k) := by
  have hn := h.lenEq
  subst hn
  obtain ⟨xs, ho, hr⟩ := h
  have hl : (l.take k).length = k := by simp; omega
  refine ⟨xs.take (k * E.sz), ?_, fun j y hy => ?_⟩
  · rcases ho.2 with ⟨hv, _⟩ | ⟨g', cap, cur, hv, hb, hg, hn, hm, hcs, ht⟩
    · cases hv
    · rw [hl]
      injection hv with h1 h2 h3
      injection h1 with h1
      injection h1 with h1
      subst h1 h3
      have hle : k * E.sz ≤ l.length * E.sz := Nat.mul_le_mul_right _ hk
      refine ⟨by rw [List.length_take, ho.1]; omega, .inr ⟨g, c, cur, rfl, hb, hg, by omega, hm, hcs, ?_⟩⟩
      rw [← ht, List.take_take, Nat.min_eq_left hle]
  · rw [List.getElem?_take] at hy
    split at hy
    · rename_i hjk
      obtain ⟨cs, h1, h2⟩ := hr j y hy
      refine ⟨cs, h1, fun i u hu => ?_⟩
      have hi : i < E.sz := by
        have := E.size h1
        rcases Nat.lt_or_ge i E.sz with h | h
        · exact h
        · rw [List.getElem?_eq_none (by omega)] at hu; cases hu
      rw [List.getElem?_take, if_pos]
      · exact h2 i u hu
      · have : (j + 1) * E.sz ≤ k * E.sz := Nat.mul_le_mul_right _ hjk
        rw [Nat.add_mul] at this
        omega
    · cases hy
end

/-- clear of a row's tail: what is ahead of it stands. -/
theorem run_clear_tail {P : Program} {t e ty : TypeId} {z : Value} {sz : Nat} (ht : P.underlying t = some (.slice e)) (hv : ∀ w, (zeroValue e).run P w = .ok z w) (hz : z.cells.size = sz) (h1 : ∀ u ∈ z.cells.toList, u.oneCell' = true)
    {w : World} {B g n c m k : Nat} {xs : List Value} (h : w.ownsRow B e sz (.slice (some ⟨g, 0, none⟩) n c) n xs) (hk : k + m = n) (hm : 0 < m) (c' : Nat) :
    ∃ w', (Builtin.clear_ #[t] ty #[.slice (some ⟨g, k * sz, none⟩) m c']).run P w = .ok (.tuple #[]) w' ∧ w.grownBy w' (some g) ∧ w'.heap.size = w.heap.size ∧ w'.ownsRow B e sz (.slice (some ⟨g, 0, none⟩) k c) k (xs.take (k * sz)) := by
  rcases h.2 with ⟨hv', _⟩ | ⟨g', cap, cur, hv', hb, hg, hn, hmx, hcs, htk⟩
  · cases hv'
  · injection hv' with e1 e2 e3
    injection e1 with e1
    injection e1 with e1
    subst e1 e3
    have hzl : (Builtin.zeroCells z.cells m).toList.length = m * sz := by rw [Array.length_toList, size_zeroCells, hz]
    have hone : ∀ v ∈ (Builtin.zeroCells z.cells m).toList, v.oneCell' = true := by
      intro v hv2
      rw [Array.mem_toList_iff] at hv2
      simp only [Builtin.zeroCells, Array.mem_map, Array.mem_range] at hv2
      obtain ⟨i, hi, rfl⟩ := hv2
      have h0 : 0 < z.cells.size := by
        rcases Nat.eq_zero_or_pos z.cells.size with h0 | h0
        · rw [h0] at hi; omega
        · exact h0
      have hi2 : i % z.cells.size < z.cells.size := Nat.mod_lt _ h0
      rw [getElem!_pos z.cells (i % z.cells.size) hi2]
      exact h1 _ (by simp)
    have hle : k * sz + m * sz ≤ cur.size := by
      rw [hcs, ← Nat.add_mul]
      exact Nat.mul_le_mul_right _ (by omega)
    have hst := run_storeCells_at P g (k * sz) e (Builtin.zeroCells z.cells m).toList 0 cur w hg (by rw [hzl]; omega) hone
    simp only [Nat.add_zero] at hst
    obtain ⟨q, rfl⟩ : ∃ q, m = q + 1 := ⟨m - 1, by omega⟩
    have hr : (Builtin.clear_ #[t] ty #[.slice (some ⟨g, k * sz, none⟩) (q + 1) c']).run P w = .ok (.tuple #[]) (w.setRow g (cur.toList.take (k * sz) ++ (Builtin.zeroCells z.cells (q + 1)).toList ++ cur.toList.drop (k * sz + (Builtin.zeroCells z.cells (q + 1)).toList.length)).toArray) := by
      simp [Builtin.clear_, run_underlying ht, hv, hst]
    refine ⟨_, hr, ⟨rfl, rfl, rfl, by simp, fun j _ hj => setRow_other w g j _ (fun e => hj (by rw [e]))⟩, by simp, ?_⟩
    have hlx : (xs.take (k * sz)).length = k * sz := by
      rw [List.length_take, h.1]
      have : k * sz ≤ n * sz := Nat.mul_le_mul_right _ (by omega)
      omega
    refine ⟨hlx, .inr ⟨g, c, _, rfl, hb, setRow_heap w g cur _ e _ hg, by omega, hmx, ?_, ?_⟩⟩
    · simp only [List.size_toArray, List.length_append, List.length_take, List.length_drop, Array.length_toList, hzl]
      omega
    · have hk2 : k * sz ≤ n * sz := Nat.mul_le_mul_right _ (by omega)
      rw [← htk, List.take_take, Nat.min_eq_left hk2, List.append_assoc, List.take_append_of_le_length (by rw [List.length_take, Array.length_toList]; omega)]
      rw [List.take_take, Nat.min_self]
end Go.Proofs.YtiappobhljiknaaDoor
