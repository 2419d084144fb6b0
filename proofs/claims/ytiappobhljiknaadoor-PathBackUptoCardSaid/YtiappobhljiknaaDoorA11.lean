/- An AS put ahead of a path, as plain data; the first segment's own row changed. -/
import Derived.Test.YtiappobhljiknaaDoorA10
import Derived.Test.YtiappobhljiknaaDoorW12
namespace Go.Proofs.YtiappobhljiknaaDoor
open Go.RowKit
set_option linter.unusedVariables false

def prepK (conf : Bool) : Int := if conf then 3 else 2
def prepS (l : List Seg) (x : UInt32) (conf : Bool) : List Seg × Int :=
  if chk l = true ∧ x ≠ 0 then
    match l with
    | s :: t => if s.kind = prepK conf ∧ s.as.length < 255 then (⟨s.kind, x :: s.as⟩ :: t, 0) else if 16 ≤ t.length + 1 then ([], 3) else (⟨prepK conf, [x]⟩ :: s :: t, 0)
    | [] => ([⟨prepK conf, [x]⟩], 0)
  else ([], 2)
theorem prepS_len (l : List Seg) (x : UInt32) (conf : Bool) : (prepS l x conf).1.length ≤ l.length + 1 := by
  unfold prepS
  split
  · split
    · split
      · simp
      · split <;> simp
    · simp
  · simp

/-- The first segment's cells, and its own row. -/
theorem own_headB {w : World} {B g n c hb : Nat} {s : Seg} {ls : List (Seg × Nat)} (h : Own ESegB 48 w B (.slice (some ⟨g, 0, none⟩) n c) ((s, hb) :: ls)) :
    ∃ u, w.cell? ⟨g, 0, none⟩ = some (.int .i64 s.kind) ∧ w.cell? ⟨g, 1, none⟩ = some u ∧ -9223372036854775808 ≤ s.kind ∧ s.kind ≤ 9223372036854775807 ∧ s.as.length ≤ 16777216 ∧ Own EU32 31 w B u s.as ∧ ∀ k, u.ownBlock = some k → k ≠ g ∧ k < w.heap.size ∧ k = hb := by
  obtain ⟨cs, ⟨c1, d1, rfl, ⟨rfl, hk1, hk2⟩, u, rfl, hm, ho, hS⟩, hc⟩ := h.at0 0 (by simp)
  refine ⟨u, ?_, ?_, hk1, hk2, hm, own_flat.2 ⟨⟨ho.1, ?_⟩, fun _ _ => trivial⟩, fun k hk => ⟨(hS k hk).1.2.2, (hS k hk).1.2.1, (hS k hk).2⟩⟩
  · have := hc 0 _ rfl
    simpa using this
  · have := hc 1 _ rfl
    simpa using this
  · rcases ho.2 with h1 | ⟨g', cap, cur, rfl, _, h3⟩
    · exact .inl h1
    · exact .inr ⟨g', cap, cur, rfl, (hS g' rfl).1.1, h3⟩
/-- .. and these changed. -/
theorem own_headSet {w w2 : World} {B g n c hb : Nat} {s : Seg} {x : UInt32} {ls : List (Seg × Nat)} {u v' : Value} (h : Own ESegB 48 w B (.slice (some ⟨g, 0, none⟩) n c) ((s, hb) :: ls)) (hp : (hb :: ls.map (·.2)).Pairwise (· < ·))
    (hu : ∀ k, u.ownBlock = some k → k ≠ g ∧ k < w.heap.size ∧ k = hb) (hg : w.grownBy w2 u.ownBlock) (hv : Own EU32 31 w2 B v' (x :: s.as)) (hm : s.as.length < 16777216) (hat : v'.ownBlock = u.ownBlock ∨ ∃ k, v'.ownBlock = some k ∧ w.heap.size ≤ k) :
    Own ESegW 48 (w2.setCell ⟨g, 1, none⟩ v') B (.slice (some ⟨g, 0, none⟩) n c) (⟨s.kind, x :: s.as⟩ :: ls.map (·.1)) := by
  have hgl := h.blockLt
  have hn := h.lenEq
  obtain ⟨xs, ho, hr⟩ := h
  have hgu : some g ≠ u.ownBlock := fun he => (hu g he.symm).1 rfl
  have ho2 : w2.ownsRow B 48 ESegB.sz (.slice (some ⟨g, 0, none⟩) n c) n xs := by
    subst hn
    refine ⟨ho.1, ?_⟩
    rcases ho.2 with ⟨h1, _⟩ | ⟨g', cap, cur, h1, h2, h3, h4⟩
    · cases h1
    · injection h1 with e1 e2 e3
      injection e1 with e1
      injection e1 with e1
      subst e1 e3
      exact .inr ⟨g, c, cur, rfl, h2, by rw [hg.block g hgl.2 hgu]; exact h3, h4⟩
  obtain ⟨o3, _⟩ := ho2.stored 1 v'
  have hv9 : ∀ k, v'.ownBlock = some k → k ≠ g := fun k hk he => by
    rcases hat with ha | ⟨k', hk', hle⟩
    · rw [ha] at hk
      exact (hu k hk).1 he
    · rw [hk'] at hk
      injection hk with hk
      omega
  have hxl : xs.length = n * 2 := by rw [ho.1, hn]; rfl
  refine ⟨xs.set 1 v', ?_, fun k y hy => ?_⟩
  · have : (⟨s.kind, x :: s.as⟩ :: ls.map (·.1)).length = n := by rw [hn]; simp
    rw [this]
    exact o3
  · have hbk : ∀ b, b ≠ g → (w2.setCell ⟨g, 1, none⟩ v').heap[b]? = w2.heap[b]? := fun b hb => Below.heap_setCell _ _ _ _ (by exact hb)
    cases k with
    | zero =>
      simp at hy
      subst hy
      obtain ⟨cs, ⟨c1, d1, rfl, ⟨rfl, hk1, hk2⟩, _⟩, hc⟩ := hr 0 _ rfl
      have hw9 : rowU.R w2 (fun b => B ≤ b ∧ b < w2.heap.size ∧ b ≠ g) (x :: s.as) [v'] := ⟨v', rfl, by simp; omega, hv.rowU, fun k hk => ⟨(hv.lt k hk).1, (hv.lt k hk).2, hv9 k hk⟩⟩
      have hw8 := rowU.weak (rowU.frame (w' := w2.setCell ⟨g, 1, none⟩ v') (fun b hb => hbk b hb.2.2) hw9)
      refine ⟨[.int .i64 s.kind, v'], ⟨[.int .i64 s.kind], [v'], rfl, ⟨rfl, hk1, hk2⟩, EU32.sliceW.mono (fun b hb => ⟨hb.1, by simpa [World.setCell] using hb.2.1, fun he => hb.2.2 (Option.some.inj he)⟩) hw8⟩, fun j q hq => ?_⟩
      match j, hq with
      | 0, hq =>
        simp at hq
        subst hq
        have := hc 0 _ rfl
        simp only [Nat.zero_mul, Nat.zero_add] at this ⊢
        rw [List.getElem?_set_ne (by omega)]
        exact this
      | 1, hq =>
        simp at hq
        subst hq
        have hn1 : 0 < n := by rw [hn]; simp
        simp only [Nat.zero_mul, Nat.zero_add]
        rw [List.getElem?_set_self (by omega)]
    | succ k =>
      rw [List.getElem?_cons_succ, List.getElem?_map] at hy
      cases hk : ls[k]? with
      | none => rw [hk] at hy; cases hy
      | some p =>
        rw [hk] at hy
        obtain rfl : p.1 = y := Option.some.inj hy
        obtain ⟨cs, h3, h4⟩ := hr (k + 1) p (by rw [List.getElem?_cons_succ]; exact hk)
        have hlt : hb < p.2 := (List.pairwise_cons.1 hp).1 p.2 (List.mem_map.2 ⟨p, List.mem_of_getElem? hk, rfl⟩)
        have h5 : ESegO.R w (fun b => B ≤ b ∧ b < w.heap.size ∧ b ≠ g ∧ some b ≠ u.ownBlock) p.1 cs := ESegO.mono (fun b hb2 => ⟨hb2.1.1, hb2.1.2.1, fun he => hb2.1.2.2 (by rw [he]; rfl), fun he => by
          have := (hu b he.symm).2.2
          have := hb2.2
          omega⟩) h3
        have h6 := ESegO.frame (w' := w2.setCell ⟨g, 1, none⟩ v') (fun b hb2 => (hbk b hb2.2.2.1).trans (hg.block b hb2.2.1 hb2.2.2.2)) h5
        have hsz : w.heap.size ≤ w2.heap.size := hg.size
        refine ⟨cs, ESegW.mono (fun b hb2 => ⟨hb2.1, by have := hb2.2.1; simp [World.setCell]; omega, fun he => hb2.2.2.1 (Option.some.inj he)⟩) (ESegO.weak h6), fun j q hq => ?_⟩
        have h7 := h4 j q hq
        have hj : j < 2 := by
          have := ESegB.size h3
          have := (List.getElem?_eq_some_iff.1 hq).1
          have h9 : ESegB.sz = 2 := rfl
          omega
        have h9 : ESegB.sz = 2 := rfl
        have h10 : ESegW.sz = 2 := rfl
        rw [h9] at h7
        rw [h10, List.getElem?_set_ne (by omega)]
        exact h7
/-- A new segment of one AS. -/
theorem segNew' {w : World} {K : Int} {x : UInt32} {T : TypeId} {cs : Array Value} (h1 : -9223372036854775808 ≤ K) (h2 : K ≤ 9223372036854775807) :
    ESegW.R ((w.alloc (.cells #[.int .u32 (x.toNat : Int)] 31)).alloc (.cells cs T)) (fun b => b = w.heap.size) ⟨K, [x]⟩ [.int .i64 K, .slice (some ⟨w.heap.size, 0, none⟩) 1 1] := by
  have hr : rowU.R (w.alloc (.cells #[.int .u32 (x.toNat : Int)] 31)) (fun b => b = w.heap.size) [x] [.slice (some ⟨w.heap.size, 0, none⟩) 1 1] := by
    refine ⟨_, rfl, by simp, ⟨rfl, .inr ⟨w.heap.size, 1, #[.int .u32 (x.toNat : Int)], rfl, Nat.zero_le _, heap_alloc_new w _, by simp, by unfold maxLen; omega, rfl, rfl⟩⟩, fun g hg => (Option.some.inj hg).symm⟩
  have hr2 := rowU.weak (rowU.frame (w' := (w.alloc (.cells #[.int .u32 (x.toNat : Int)] 31)).alloc (.cells cs T)) (fun b hb => Below.heap_alloc _ _ _ (by rw [hb]; simp)) hr)
  exact ⟨[.int .i64 K], _, rfl, ⟨rfl, h1, h2⟩, hr2⟩
theorem segNew {w : World} {B : Nat} {v : Value} {K : Int} {x : UInt32} {T : TypeId} {cs : Array Value} (hB : B ≤ w.heap.size) (hv : ∀ k, v.ownBlock = some k → k < w.heap.size) (h1 : -9223372036854775808 ≤ K) (h2 : K ≤ 9223372036854775807) :
    ESegW.R ((w.alloc (.cells #[.int .u32 (x.toNat : Int)] 31)).alloc (.cells cs T)) (fun b => B ≤ b ∧ b < ((w.alloc (.cells #[.int .u32 (x.toNat : Int)] 31)).alloc (.cells cs T)).heap.size ∧ some b ≠ v.ownBlock) ⟨K, [x]⟩ [.int .i64 K, .slice (some ⟨w.heap.size, 0, none⟩) 1 1] := by
  refine ESegW.mono (fun b hb => ⟨by omega, by simp; omega, fun he => ?_⟩) (segNew' h1 h2)
  have := hv b he.symm
  omega
end Go.Proofs.YtiappobhljiknaaDoor
