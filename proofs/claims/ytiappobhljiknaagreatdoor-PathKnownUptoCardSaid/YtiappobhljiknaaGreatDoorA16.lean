/- How a text is read, segment by segment: where reading stops, no path has the text. -/
import Derived.Test.YtiappobhljiknaaGreatDoorW32
namespace Go.Proofs.YtiappobhljiknaaGreatDoor
open Go.RowKit
set_option linter.unusedVariables false

theorem text_enter {s r : List UInt8} {out l : List Seg} (h : IsText s l) (hi : pathT out ++ r = s) (hw : ∀ x ∈ out, wk x) (he : out = [] ∨ r ≠ []) :
    ∃ x l3 r1, l = out ++ x :: l3 ∧ r = (if out = [] then r1 else 32 :: r1) ∧ wk x ∧ ∃ q, r1 = segT x ++ q := by
  obtain ⟨l2, h1, h2⟩ := path_pre hw (chk_wk h.1) h.2.1 (by rw [h.2.2, hi])
  cases l2 with
  | nil =>
    rw [if_pos rfl] at h2
    rcases he with he | he
    · rw [he] at h1
      exact absurd h1 h.2.1
    · exact absurd h2 he
  | cons x l3 =>
    rw [if_neg (by simp)] at h2
    exact ⟨x, l3, pathT (x :: l3), h1, h2, chk_wk h.1 x (by rw [h1]; simp), _, pathT_cons x l3⟩
theorem kindOf_opn {k : Int} (h1 : 1 ≤ k) (h4 : k ≤ 4) (t : List UInt8) : kindOf (opn k :: t) = k := (kindOf_at (opn k :: t) k h1 h4).1 (by simp [startsB])
theorem cut_le (t : List UInt8) (c : UInt8) : (Lib.cut t [c]).1.length ≤ t.length ∧ (Lib.cut t [c]).2.1.length ≤ t.length := by
  by_cases h : c ∈ t
  · obtain ⟨a, b, rfl, ha⟩ := first_at h
    rw [cut_hit ha]
    simp
    omega
  · rw [cut_miss h]
    simp
theorem spl_len (c : UInt8) (s : List UInt8) (m : Nat) (h : s.length ≤ m) : (spl c s).length ≤ m + 1 := by
  have : (spl c s).length ≤ s.length + 1 := by
    refine spl_ind (P := fun s => (spl c s).length ≤ s.length + 1) c (fun s h => by rw [spl_no h]; simp) (fun a b h ih => ?_) s.length s (Nat.le_refl _)
    rw [spl_at h]
    simp
    omega
  omega
theorem spl_part (c : UInt8) (s : List UInt8) : ∀ v ∈ spl c s, v.length ≤ s.length := by
  refine spl_ind (P := fun s => ∀ v ∈ spl c s, v.length ≤ s.length) c (fun s h v hv => ?_) (fun a b h ih v hv => ?_) s.length s (Nat.le_refl _)
  · rw [spl_no h] at hv
    rw [List.mem_singleton.1 hv]
    exact Nat.le_refl _
  · rw [spl_at h] at hv
    rcases List.mem_cons.1 hv with rfl | hv
    · simp
    · have := ih v hv
      simp
      omega
section
variable {s r r1 : List UInt8} {out : List Seg}
theorem no_sep (hi : pathT out ++ r = s) (hw : ∀ x ∈ out, wk x) (ho : out ≠ []) (hr : r ≠ []) (h : ∀ r1, r ≠ 32 :: r1) : ∀ l, ¬ IsText s l := by
  intro l hl
  obtain ⟨x, l3, r1, _, h2, _⟩ := text_enter hl hi hw (.inr hr)
  rw [if_neg ho] at h2
  exact h r1 h2
theorem text_body (hi : pathT out ++ r = s) (hw : ∀ x ∈ out, wk x) (he : out = [] ∨ r ≠ []) (hr : r = if out = [] then r1 else 32 :: r1) {l : List Seg} (hl : IsText s l) :
    out.length < 16 ∧ ∃ x q, wk x ∧ kindOf r1 = x.kind ∧ r1 = opn x.kind :: (bodyT x ++ cls x.kind :: q) := by
  obtain ⟨x, l3, r1', h1, h2, h3, q, h4⟩ := text_enter hl hi hw he
  have hrr : r1 = r1' := by
    rw [hr] at h2
    split at h2
    · exact h2
    · injection h2
  subst hrr
  have hc := chk_len hl.1
  rw [h1, List.length_append, List.length_cons] at hc
  refine ⟨by omega, x, q, h3, ?_, ?_⟩
  · rw [h4, segT_eq, List.cons_append]
    exact kindOf_opn h3.1 h3.2.1 _
  · rw [h4, segT_eq]
    simp
theorem no_kind (hi : pathT out ++ r = s) (hw : ∀ x ∈ out, wk x) (he : out = [] ∨ r ≠ []) (hr : r = if out = [] then r1 else 32 :: r1) (hk : kindOf r1 = -1) : ∀ l, ¬ IsText s l := by
  intro l hl
  obtain ⟨_, x, q, h1, h2, _⟩ := text_body hi hw he hr hl
  have := h1.1
  omega
theorem no_more (hi : pathT out ++ r = s) (hw : ∀ x ∈ out, wk x) (he : out = [] ∨ r ≠ []) (hr : r = if out = [] then r1 else 32 :: r1) (h16 : out.length = 16) : ∀ l, ¬ IsText s l := by
  intro l hl
  have := (text_body hi hw he hr hl).1
  omega
theorem text_cut (hi : pathT out ++ r = s) (hw : ∀ x ∈ out, wk x) (he : out = [] ∨ r ≠ []) (hr : r = if out = [] then r1 else 32 :: r1) {K : Int} {t1 : List UInt8} (hK : kindOf r1 = K) (ht : r1 = opn K :: t1) {l : List Seg} (hl : IsText s l) :
    ∃ x q, wk x ∧ Lib.cut t1 [cls K] = (bodyT x, q, true) := by
  obtain ⟨_, x, q, h1, h2, h3⟩ := text_body hi hw he hr hl
  have hxk : x.kind = K := by rw [← h2, hK]
  rw [ht, hxk] at h3
  injection h3 with _ h3
  refine ⟨x, q, h1, ?_⟩
  rw [h3]
  have := cls_no x
  rw [hxk] at this
  exact cut_hit this
theorem no_word (hi : pathT out ++ r = s) (hw : ∀ x ∈ out, wk x) (he : out = [] ∨ r ≠ []) (hr : r = if out = [] then r1 else 32 :: r1) {K : Int} {t1 : List UInt8} (hK : kindOf r1 = K) (ht : r1 = opn K :: t1) {v : List UInt8} (hv : v ∈ spl 32 (Lib.cut t1 [cls K]).1) (hn : num32 v = none) : ∀ l, ¬ IsText s l := by
  intro l hl
  obtain ⟨x, q, h1, h2⟩ := text_cut hi hw he hr hK ht hl
  rw [h2, body_spl h1.2.2] at hv
  obtain ⟨a, _, rfl⟩ := List.mem_map.1 hv
  rw [num32_asT] at hn
  cases hn
theorem no_shut (hi : pathT out ++ r = s) (hw : ∀ x ∈ out, wk x) (he : out = [] ∨ r ≠ []) (hr : r = if out = [] then r1 else 32 :: r1) {K : Int} {t1 : List UInt8} (hK : kindOf r1 = K) (ht : r1 = opn K :: t1) (hn : (Lib.cut t1 [cls K]).2.2 = false) : ∀ l, ¬ IsText s l := by
  intro l hl
  obtain ⟨x, q, h1, h2⟩ := text_cut hi hw he hr hK ht hl
  rw [h2] at hn
  cases hn
theorem no_chk (hi : pathT out ++ [] = s) (hw : ∀ x ∈ out, wk x) (hc : chk out = false) : ∀ l, ¬ IsText s l := by
  intro l hl
  obtain ⟨l2, h1, h2⟩ := path_pre hw (chk_wk hl.1) hl.2.1 (by rw [hl.2.2, hi])
  by_cases h : l2 = []
  · rw [h, List.append_nil] at h1
    rw [← h1, hl.1] at hc
    cases hc
  · rw [if_neg h] at h2
    split at h2
    · cases l2 with
      | nil => exact h rfl
      | cons x t => rw [pathT_cons, segT_eq] at h2; simp at h2
    · cases h2
/-- One more segment is read. -/
theorem text_more (hi : pathT out ++ r = s) (hw : ∀ x ∈ out, wk x) (hr : r = if out = [] then r1 else 32 :: r1) {K : Int} {t1 rest : List UInt8} {ys : List UInt32} (h1 : 1 ≤ K) (h4 : K ≤ 4) (ht : r1 = opn K :: t1)
    (hc : (Lib.cut t1 [cls K]).2 = (rest, true)) (hy : ys.map asT = spl 32 (Lib.cut t1 [cls K]).1) : pathT (out ++ [⟨K, ys⟩]) ++ rest = s ∧ (∀ x ∈ out ++ [⟨K, ys⟩], wk x) := by
  have hin : t1 = (Lib.cut t1 [cls K]).1 ++ cls K :: rest := by
    by_cases hm : cls K ∈ t1
    · obtain ⟨a, b, h5, h6⟩ := first_at hm
      rw [h5, cut_hit h6] at hc ⊢
      injection hc with hc _
      rw [hc]
    · rw [cut_miss hm] at hc
      injection hc with _ hc
      cases hc
  have hb : bodyT ⟨K, ys⟩ = (Lib.cut t1 [cls K]).1 := by
    unfold bodyT
    rw [hy, spl_join]
  refine ⟨?_, fun x hx => ?_⟩
  · rw [pathT_snoc, segT_eq, hb, ← hi, hr, ht]
    conv => rhs; rw [hin]
    by_cases ho : out = []
    · rw [if_pos ho, if_pos ho]
      simp
    · rw [if_neg ho, if_neg ho]
      simp
  · rcases List.mem_append.1 hx with h | h
    · exact hw x h
    · obtain rfl := List.mem_singleton.1 h
      refine ⟨h1, h4, fun h0 => ?_⟩
      have h0' : ys = [] := h0
      rw [h0'] at hy
      exact spl_ne _ _ hy.symm
end
end Go.Proofs.YtiappobhljiknaaGreatDoor
