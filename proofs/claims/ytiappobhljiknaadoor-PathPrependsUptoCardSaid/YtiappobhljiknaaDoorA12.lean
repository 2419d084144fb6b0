/- A whole row of many-cell elements appended; the first segment's row changed, the row read as a path. -/
import Derived.Test.YtiappobhljiknaaDoorA11
namespace Go.Proofs.YtiappobhljiknaaDoor
open Go.RowKit
set_option linter.unusedVariables false

theorem run_pushRow {Q : Program} {w : World} {e t ty : TypeId} {sz bytes B n n2 c : Nat} {v : Value} {xs ys : List Value} {a : Option Addr} (hok : ElemOk Q t e sz bytes) (hsz : 0 < sz) (hby : bytes ≤ 4096) (ho : w.ownsRow B e sz v n xs) (hB : B ≤ w.heap.size)
    (hl : n + n2 ≤ 34359738368) (hys : ys.length = n2 * sz) (ha : a = none → n2 = 0) (hc : ∀ ad, a = some ad → ∀ j u, ys[j]? = some u → w.cell? (ad.add j) = some u) (h1 : ∀ u ∈ ys, u.oneCell' = true) :
    ∃ v' w', (Builtin.append_ #[t, t] ty #[v, .slice a n2 c]).run Q w = .ok v' w' ∧ w'.ownsRow B e sz v' (n + n2) (xs ++ ys) ∧ w.grownBy w' v.ownBlock ∧ (v'.ownBlock = v.ownBlock ∨ v'.ownBlock = some w.heap.size) := by
  obtain ⟨ht, i, z, hi, hz, h1', hb, h3⟩ := hok
  rcases a with _ | ad
  · have hn := ha rfl
    subst hn
    have hy : ys = [] := List.eq_nil_of_length_eq_zero (by omega)
    subst hy
    refine ⟨v, w, ?_, by simpa using ho, ⟨rfl, rfl, rfl, Nat.le_refl _, fun _ _ _ => rfl⟩, .inl rfl⟩
    rcases ho.2 with ⟨rfl, h0⟩ | ⟨g, cap, cur, rfl, _, _, hnc, _⟩
    · simp [Builtin.append_, run_underlying ht, sizeOf, typeInfo, hi, Builtin.lenOf, Builtin.firstCells]
    · simp [Builtin.append_, run_underlying ht, sizeOf, typeInfo, hi, Builtin.lenOf, Builtin.firstCells, hnc, storeCells]
  · have hm : (n + n2) * bytes ≤ 34359738368 * 4096 := Nat.mul_le_mul (by omega) hby
    obtain ⟨v', w', hrun, hown, hg, _, hat⟩ := run_append_own_at (P := Q) w B t ty e i z sz bytes ht hi hz h1' hb h3 hsz v n xs ho ad n2 c ys hys (hc ad rfl) h1 (by unfold maxLen; omega) (by omega) hB
    exact ⟨v', w', hrun, hown, hg, hat⟩
theorem wpList_pushRow {Q : Program} {ops : Array Oper} {rest : List Oper} {o : Oper} {ac : Act} {R : Exit → Act → World → Prop} {w : World} {e : TypeId} {sz bytes B n n2 c : Nat} {v : Value} {xs ys : List Value} {a : Option Addr} (hgd : o.guard = none) (s x : Operand) (t : TypeId)
    (hop : o.op = .call { callee := .builtin .append, args := #[s, x], argTypes := #[t, t] }) (hok : ElemOk Q t e sz bytes) (hsz : 0 < sz) (hby : bytes ≤ 4096) (hs : ac.eval s = v) (ho : w.ownsRow B e sz v n xs) (hB : B ≤ w.heap.size)
    (hx : ac.eval x = .slice a n2 c) (hl : n + n2 ≤ 34359738368) (hys : ys.length = n2 * sz) (ha : a = none → n2 = 0) (hc : ∀ ad, a = some ad → ∀ j u, ys[j]? = some u → w.cell? (ad.add j) = some u) (h1 : ∀ u ∈ ys, u.oneCell' = true)
    (hk : ∀ v' w', w'.ownsRow B e sz v' (n + n2) (xs ++ ys) → w.grownBy w' v.ownBlock → (v'.ownBlock = v.ownBlock ∨ v'.ownBlock = some w.heap.size) → wpList Q ops R rest (ac.put o.dst v') w') : wpList Q ops R (o :: rest) ac w :=
  wpList_plain hgd fun _ hK => by
    obtain ⟨v', w', hrun, h3, h4, h5⟩ := run_pushRow (Q := Q) (ty := o.type) (c := c) hok hsz hby ho hB hl hys ha hc h1
    unfold Oper.wp execOp
    simp only [hop, resolve, invoke, builtin, Sem.run_bind, Sem.run_pure, Result.andThen_ok, List.map_toArray, List.map_cons, List.map_nil, hs, hx, hrun]
    exact hK _ _ (hk v' w' h3 h4 h5)

theorem path_headSet {w w3 : World} {B g n c : Nat} {s : Seg} {x : UInt32} {t : List Seg} {v' : Value} (h : Own ESeg 48 w B (.slice (some ⟨g, 0, none⟩) n c) (s :: t))
    (hg : ∀ b, b < w.heap.size → w3.heap[b]? = w.heap[b]?) (hsz : w.heap.size ≤ w3.heap.size) (hv : Own EU32 31 w3 w.heap.size v' (x :: s.as)) (hm : s.as.length < 16777216) :
    Path (w3.setCell ⟨g, 1, none⟩ v') (some ⟨g, 0, none⟩) (⟨s.kind, x :: s.as⟩ :: t) := by
  have hgl := h.blockLt
  have hbk : ∀ b, b ≠ g → (w3.setCell ⟨g, 1, none⟩ v').heap[b]? = w3.heap[b]? := fun b hb => Below.heap_setCell _ _ _ _ (by exact hb)
  have hgc : ∀ o, w3.cell? ⟨g, o, none⟩ = w.cell? ⟨g, o, none⟩ := fun o => World.cell?_of_block (a := ⟨g, o, none⟩) (hg g hgl.2)
  have hss : (w3.setCell ⟨g, 1, none⟩ v').heap.size = w3.heap.size := by simp [World.setCell]
  refine .inr ⟨g, 0, rfl, by show g < _; omega, fun k y hy => ?_⟩
  cases k with
  | zero =>
    simp at hy
    subst hy
    obtain ⟨cs, ⟨c1, d1, rfl, ⟨rfl, hk1, hk2⟩, a1, cc, rfl, _⟩, hc⟩ := h.at0 0 (by simp)
    obtain ⟨b3, d3, rfl, hs3⟩ := hv.sl
    refine ⟨_, ⟨[.int .i64 s.kind], [.slice b3 (x :: s.as).length d3], rfl, ⟨rfl, hk1, hk2⟩, b3, d3, rfl, by simp; omega, ?_⟩, fun j q hq => ?_⟩
    · refine (hs3.frame (w' := w3.setCell ⟨g, 1, none⟩ (.slice b3 (x :: s.as).length d3)) fun b hb => hbk b (by omega)).mono fun b hb => by show b < _; omega
    · match j, hq with
      | 0, hq =>
        simp at hq
        subst hq
        have := hc 0 _ rfl
        simp only [Nat.zero_mul, Nat.add_zero] at this ⊢
        rw [cs_far (by omega), hgc]
        exact this
      | 1, hq =>
        simp at hq
        subst hq
        have := hc 1 _ rfl
        simp only [Nat.zero_mul, Nat.zero_add] at this ⊢
        exact cs_same ((hgc 1).trans this)
  | succ k =>
    rw [List.getElem?_cons_succ] at hy
    have hk : k + 1 < (s :: t).length := by
      have := (List.getElem?_eq_some_iff.1 hy).1
      simp
      omega
    obtain ⟨cs, hR, hc⟩ := h.at0 (k + 1) hk
    have hyk : (s :: t)[k + 1] = y := by
      have := (List.getElem?_eq_some_iff.1 hy).2
      simpa using this
    rw [hyk] at hR
    refine ⟨cs, ESeg.mono (fun b hb => by show b < _; have := hb.2.1; omega) (ESeg.frame (w' := w3.setCell ⟨g, 1, none⟩ v') (fun b hb => (hbk b hb.2.2).trans (hg b hb.2.1)) hR), fun j q hq => ?_⟩
    have h3 := hc j q hq
    have h9 : ESeg.sz = 2 := rfl
    rw [h9] at h3 ⊢
    rw [cs_far (by omega), hgc, Nat.zero_add]
    exact h3

/-- A one-segment row with a path's cells behind it. -/
theorem path_consNew {w W w' : World} {B c : Nat} {a : Option Addr} {K : Int} {x : UInt32} {l : List Seg} {xs : List Value} {v' : Value} {T : TypeId} {ds : Array Value} (h1 : -9223372036854775808 ≤ K) (h2 : K ≤ 9223372036854775807)
    (hB : B ≤ w.heap.size) (hr : ∀ k y, l[k]? = some y → ∃ cs, ESeg.R w (fun b => B ≤ b ∧ b < w.heap.size ∧ some b ≠ (Value.slice a l.length c).ownBlock) y cs ∧ ∀ j u, cs[j]? = some u → xs[k * ESeg.sz + j]? = some u)
    (hW : W = (w.alloc (.cells #[.int .u32 (x.toNat : Int)] 31)).alloc (.cells ds T))
    (ho : w'.ownsRow B 48 ESeg.sz v' (1 + l.length) ([.int .i64 K, .slice (some ⟨w.heap.size, 0, none⟩) 1 1] ++ xs))
    (hg : W.grownBy w' (some (w.heap.size + 1))) (hat : v'.ownBlock = some (w.heap.size + 1) ∨ v'.ownBlock = some W.heap.size) : ∃ a' c', v' = .slice a' (⟨K, [x]⟩ :: l).length c' ∧ Path w' a' (⟨K, [x]⟩ :: l) := by
  have hWs : W.heap.size = w.heap.size + 2 := by rw [hW]; simp
  have hWb : ∀ b, b < w.heap.size → W.heap[b]? = w.heap[b]? := fun b hb => by
    rw [hW, Below.heap_alloc _ _ _ (by simp; omega), Below.heap_alloc _ _ _ hb]
  have hgs := hg.size
  have hown : Own ESeg 48 w' B v' (⟨K, [x]⟩ :: l) := by
    refine Own.cons_gen (w := W) (S := fun b => B ≤ b ∧ b < w.heap.size + 1) (xc := [.int .i64 K, .slice (some ⟨w.heap.size, 0, none⟩) 1 1]) (xs := xs) (fun k y hy => ?_) ?_ (by rw [Nat.add_comm]; exact ho) (fun b hb => ⟨hg.block b (by omega) (fun he => by injection he with he; omega), hb.1, by omega, fun he => ?_⟩)
    · obtain ⟨cs, h3, h4⟩ := hr k y hy
      exact ⟨cs, ESeg.mono (fun b hb => ⟨hb.1, by have := hb.2.1; omega⟩) (ESeg.frame (fun b hb => hWb b hb.2.1) h3), h4⟩
    · have := ESegW.weak (segNew' (w := w) (x := x) (T := T) (cs := ds) h1 h2)
      rw [← hW] at this
      exact ESeg.mono (fun b hb => by show B ≤ b ∧ b < _; omega) this
    · rcases hat with h | h
      · rw [h] at he; injection he with he; omega
      · rw [h] at he; injection he with he; omega
  obtain ⟨a', c', rfl, hs⟩ := hown.sl
  exact ⟨a', c', rfl, hs.mono fun b hb => hb.2⟩
end Go.Proofs.YtiappobhljiknaaDoor
