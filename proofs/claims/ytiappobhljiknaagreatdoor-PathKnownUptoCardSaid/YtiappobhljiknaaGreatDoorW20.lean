/- slices.Insert at 22, at the head, one element: rows of the call's own. slices.Insert at 27, at the head, one element: rows of the call's own. -/
import Derived.Test.YtiappobhljiknaaGreatDoorA9
import Derived.Test.YtiappobhljiknaaGreatDoorW18
import Derived.Test.YtiappobhljiknaaGreatDoorW19
namespace Go.Proofs.YtiappobhljiknaaGreatDoor
open Go.RowKit
set_option linter.unusedVariables false

set_option maxRecDepth 20000 in
set_option maxHeartbeats 1000000 in
theorem Ins32_any {α : Type} {E : Enc α} (hE : E.sz = 1) (hok : ElemOk Tryz.prog 22 26 E.sz 4) (v : Value) (l : List α) (x : α) (xc : List Value) (w : World) (B vb : Nat) (hl : l.length ≤ 16777216) (hB : B ≤ w.heap.size) (h : Own E 26 w B v l)
    (hv : w.heap[vb]? = some (.cells xc.toArray 26 (0, 0))) (hx : E.R w (fun b => B ≤ b ∧ b < w.heap.size ∧ some b ≠ v.ownBlock) x xc) (hvb : some vb ≠ v.ownBlock) :
    Calls Tryz.prog 24 #[v, .int .i64 0, .slice (some ⟨vb, 0, none⟩) 1 1] w fun e w' => ∃ v', e = .returned v' ∧ Own E 26 w' B v' (x :: l) ∧ w.grownBy w' v.ownBlock ∧ (v'.ownBlock = v.ownBlock ∨ ∃ k, v'.ownBlock = some k ∧ w.heap.size ≤ k) := by
  have hxl : xc.length = 1 := by rw [← hE]; exact E.size hx
  have hx1 := E.one hx
  cases l with
  | nil =>
    have hc : ∀ j u, xc[j]? = some u → w.cell? ((⟨vb, 0, none⟩ : Addr).add j) = some u := World.news_of_block (cs := xc.toArray) hv
    have hs : (v = .slice none 0 0) ∨ ∃ g cap, v = .slice (some ⟨g, 0, none⟩) 0 cap := by
      obtain ⟨xs, ho, _⟩ := h
      rcases ho.2 with ⟨h1, _⟩ | ⟨g, cap, cur, h1, _⟩
      · exact .inl h1
      · exact .inr ⟨g, cap, h1⟩
    have hsz0 : 0 < E.sz := by omega
    replace h := hide h
    replace hx := hide hx
    replace hc := hide hc
    replace hok := hide hok
    rcases hs with rfl | ⟨g, cap, rfl⟩
    all_goals
      go_enter Tryz.func24, Tryz.ntmps24
      go_wp2_with (at_builtin; refine wpList_push (E := E) (B := B) (l := []) rfl _ _ _ rfl hok.out hsz0 (by decide) rfl h.out (by simp) hB rfl hx.out hc.out ?_; intro v' w' hown hg hat; replace hown := hide hown; replace hg := hide hg; replace hat := hide hat)
      go_ret
      exact ⟨_, rfl, hown.out, hg.out, hat.out.imp id fun h => ⟨_, h, Nat.le_refl _⟩⟩
  | cons y t =>
    obtain ⟨xs, ho, hr⟩ := h
    have h1c := row_ones ho.1 hr
    rcases ho.2 with ⟨_, h0⟩ | ⟨g, cap, cur, rfl, hbg, hgg, hn, hm, hcs, htk⟩
    · cases h0
    · have hgl : g < w.heap.size := (Array.getElem?_eq_some_iff.1 hgg).1
      have hvb' : vb ≠ g := fun he => hvb (by rw [he]; rfl)
      have hxs : xs.length = (y :: t).length * 1 := by rw [ho.1, hE]
      rw [hE] at hcs htk
      by_cases hroom : (y :: t).length + 1 ≤ cap
      · refine (Ins32_shift g 0 (y :: t).length cap 0 vb 1 1 xs xc cur w (by simp) (by omega) hroom (by unfold maxLen at hm; omega) hvb' rfl hgg hcs hxs (by omega) htk hv h1c hx1).mono ?_
        rintro e w' ⟨rfl, r1, r2, hr1, hr2, hw⟩
        obtain ⟨h3, h4⟩ := owns_shift (B := B) (sz := 1) _ _ _ (by decide) (by decide) (by decide) hgg hbg hroom hm hcs hxs hxl hr1 hr2 hw
        exact ⟨_, rfl, Own.cons_of hr hx (by rw [hE]; exact h3) h4 (.inl rfl), h4, .inl rfl⟩
      · have hcs' : ∀ j v, xs[j]? = some v → w.cell? ⟨g, 0 + j, none⟩ = some v := fun j v hj => by
          have := ho.cells (g := g) rfl j v hj
          rwa [add_lit] at this
        have hvs' : ∀ j v, xc[j]? = some v → w.cell? ⟨vb, 0 + j, none⟩ = some v := fun j v hj => by
          rw [cell_of_row w vb (0 + j) _ _ _ hv, Nat.zero_add]
          simpa using hj
        refine (Ins32_grow g 0 (y :: t).length cap 0 vb 1 1 xs xc w (by simp) (by omega) hn (by omega) (by omega) rfl hxs (by omega) hcs' hvs' h1c hx1).mono ?_
        rintro e w' ⟨G, ROW, rA, rB, hG1, hG2, hR, rfl, hrA, hrB, hw, _⟩
        obtain ⟨h3, h4⟩ := owns_grow (B := B) (sz := 1) _ _ (by decide) (by decide) hB hG1 (by unfold maxLen; omega) hR hxs hxl hrA hrB hw (some g)
        exact ⟨_, rfl, Own.cons_of hr hx (by rw [hE]; exact h3) h4 (.inr ⟨_, rfl, Nat.le_refl _⟩), h4, .inr ⟨_, rfl, Nat.le_refl _⟩⟩

set_option maxRecDepth 20000 in
set_option maxHeartbeats 1000000 in
theorem InsSg_any {α : Type} {E : Enc α} (hE : E.sz = 2) (hok : ElemOk Tryz.prog 27 24 E.sz 32) (v : Value) (l : List α) (x : α) (xc : List Value) (w : World) (B vb : Nat) (hl : l.length ≤ 16777216) (hB : B ≤ w.heap.size) (h : Own E 24 w B v l)
    (hv : w.heap[vb]? = some (.cells xc.toArray 24 (0, 0))) (hx : E.R w (fun b => B ≤ b ∧ b < w.heap.size ∧ some b ≠ v.ownBlock) x xc) (hvb : some vb ≠ v.ownBlock) :
    Calls Tryz.prog 25 #[v, .int .i64 0, .slice (some ⟨vb, 0, none⟩) 1 1] w fun e w' => ∃ v', e = .returned v' ∧ Own E 24 w' B v' (x :: l) ∧ w.grownBy w' v.ownBlock ∧ (v'.ownBlock = v.ownBlock ∨ ∃ k, v'.ownBlock = some k ∧ w.heap.size ≤ k) := by
  have hxl : xc.length = 2 := by rw [← hE]; exact E.size hx
  have hx1 := E.one hx
  cases l with
  | nil =>
    have hc : ∀ j u, xc[j]? = some u → w.cell? ((⟨vb, 0, none⟩ : Addr).add j) = some u := World.news_of_block (cs := xc.toArray) hv
    have hs : (v = .slice none 0 0) ∨ ∃ g cap, v = .slice (some ⟨g, 0, none⟩) 0 cap := by
      obtain ⟨xs, ho, _⟩ := h
      rcases ho.2 with ⟨h1, _⟩ | ⟨g, cap, cur, h1, _⟩
      · exact .inl h1
      · exact .inr ⟨g, cap, h1⟩
    have hsz0 : 0 < E.sz := by omega
    replace h := hide h
    replace hx := hide hx
    replace hc := hide hc
    replace hok := hide hok
    rcases hs with rfl | ⟨g, cap, rfl⟩
    all_goals
      go_enter Tryz.func25, Tryz.ntmps25
      go_wp2_with (at_builtin; refine wpList_push (E := E) (B := B) (l := []) rfl _ _ _ rfl hok.out hsz0 (by decide) rfl h.out (by simp) hB rfl hx.out hc.out ?_; intro v' w' hown hg hat; replace hown := hide hown; replace hg := hide hg; replace hat := hide hat)
      go_ret
      exact ⟨_, rfl, hown.out, hg.out, hat.out.imp id fun h => ⟨_, h, Nat.le_refl _⟩⟩
  | cons y t =>
    obtain ⟨xs, ho, hr⟩ := h
    have h1c := row_ones ho.1 hr
    rcases ho.2 with ⟨_, h0⟩ | ⟨g, cap, cur, rfl, hbg, hgg, hn, hm, hcs, htk⟩
    · cases h0
    · have hgl : g < w.heap.size := (Array.getElem?_eq_some_iff.1 hgg).1
      have hvb' : vb ≠ g := fun he => hvb (by rw [he]; rfl)
      have hxs : xs.length = (y :: t).length * 2 := by rw [ho.1, hE]
      rw [hE] at hcs htk
      by_cases hroom : (y :: t).length + 1 ≤ cap
      · refine (InsSg_shift g 0 (y :: t).length cap 0 vb 1 1 xs xc cur w (by simp) (by omega) hroom (by unfold maxLen at hm; omega) hvb' rfl hgg hcs hxs (by omega) htk hv h1c hx1).mono ?_
        rintro e w' ⟨rfl, r1, r2, hr1, hr2, hw⟩
        obtain ⟨h3, h4⟩ := owns_shift (B := B) (sz := 2) _ _ _ (by decide) (by decide) (by decide) hgg hbg hroom hm hcs hxs hxl hr1 hr2 hw
        exact ⟨_, rfl, Own.cons_of hr hx (by rw [hE]; exact h3) h4 (.inl rfl), h4, .inl rfl⟩
      · have hcs' : ∀ j v, xs[j]? = some v → w.cell? ⟨g, 0 + j, none⟩ = some v := fun j v hj => by
          have := ho.cells (g := g) rfl j v hj
          rwa [add_lit] at this
        have hvs' : ∀ j v, xc[j]? = some v → w.cell? ⟨vb, 0 + j, none⟩ = some v := fun j v hj => by
          rw [cell_of_row w vb (0 + j) _ _ _ hv, Nat.zero_add]
          simpa using hj
        refine (InsSg_grow g 0 (y :: t).length cap 0 vb 1 1 xs xc w (by simp) (by omega) hn (by omega) (by omega) rfl hxs (by omega) hcs' hvs' h1c hx1).mono ?_
        rintro e w' ⟨G, ROW, rA, rB, hG1, hG2, hR, rfl, hrA, hrB, hw, _⟩
        obtain ⟨h3, h4⟩ := owns_grow (B := B) (sz := 2) _ _ (by decide) (by decide) hB hG1 (by unfold maxLen; omega) hR hxs hxl hrA hrB hw (some g)
        exact ⟨_, rfl, Own.cons_of hr hx (by rw [hE]; exact h3) h4 (.inr ⟨_, rfl, Nat.le_refl _⟩), h4, .inr ⟨_, rfl, Nat.le_refl _⟩⟩
end Go.Proofs.YtiappobhljiknaaGreatDoor
