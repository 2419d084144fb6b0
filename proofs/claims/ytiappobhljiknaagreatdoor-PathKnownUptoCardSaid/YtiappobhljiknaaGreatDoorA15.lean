/- A text cut at a byte, joined; numerals read; the path of a text: at most one. -/
import Derived.Test.YtiappobhljiknaaGreatDoorPN
import Derived.Test.YtiappobhljiknaaGreatDoorA14
import Derived.Test.YtiappobhljiknaaGreatDoorA4
import Derived.Lib.SplitLaws
import Derived.Lib.ParseIntB
import Derived.Lib.ParseIntBCases
namespace Go.Proofs.YtiappobhljiknaaGreatDoor
open Go.RowKit
set_option linter.unusedVariables false

/-- A word that spells an AS in its own form. -/
def num32 (w : List UInt8) : Option UInt32 := match Lib.parseUintB 32 w with
  | .ok u => if Lib.decDigits u = w then some (UInt32.ofNat u) else none
  | _ => none
theorem num32_asT (a : UInt32) : num32 (asT a) = some a := by
  have ha := a.toNat_lt
  unfold num32 asT
  rw [pub_dec 32 (by omega) a.toNat ha]
  simp
theorem num32_some {w : List UInt8} {a : UInt32} (h : num32 w = some a) : asT a = w := by
  unfold num32 at h
  split at h
  · rename_i u hu
    split at h
    · rename_i hd
      obtain rfl := Option.some.inj h
      have hle := Lib.parseUintB_le hu
      unfold asT
      rw [UInt32.toNat_ofNat', Nat.mod_eq_of_lt (by omega)]
      exact hd
    · cases h
  · cases h
theorem asT_inj {a b : UInt32} (h : asT a = asT b) : a = b := by
  have h1 := num32_asT a
  rw [h, num32_asT b] at h1
  exact (Option.some.inj h1).symm
theorem asT_no (c : UInt8) (hc : c.toNat < 48 ∨ 57 < c.toNat) (a : UInt32) : c ∉ asT a := fun h => by
  have := dec_digit a.toNat c h
  omega

/- A segment's text. -/
def wk (s : Seg) : Prop := 1 ≤ s.kind ∧ s.kind ≤ 4 ∧ s.as ≠ []
def bodyT (s : Seg) : List UInt8 := Lib.join (s.as.map asT) [32]
theorem segT_eq (s : Seg) : segT s = opn s.kind :: (bodyT s ++ [cls s.kind]) := rfl
theorem join_mem {x : UInt8} {sep : List UInt8} : ∀ {l : List (List UInt8)}, x ∈ Lib.join l sep → (∃ y ∈ l, x ∈ y) ∨ x ∈ sep
  | [], h => by cases h
  | [y], h => by rw [Lib.join_one] at h; exact .inl ⟨y, by simp, h⟩
  | y :: z :: r, h => by
    rw [join_two] at h
    rcases List.mem_append.1 h with h | h
    · rcases List.mem_append.1 h with h | h
      · exact .inl ⟨y, by simp, h⟩
      · exact .inr h
    · rcases join_mem h with ⟨w, hw, hx⟩ | h
      · exact .inl ⟨w, by simp [List.mem_cons.1 hw], hx⟩
      · exact .inr h
theorem body_no (s : Seg) (c : UInt8) (hc : c.toNat < 48 ∨ 57 < c.toNat) (h32 : c ≠ 32) : c ∉ bodyT s := fun h => by
  rcases join_mem h with ⟨y, hy, hx⟩ | h
  · obtain ⟨a, _, rfl⟩ := List.mem_map.1 hy
    exact asT_no c hc a hx
  · simp at h
    exact h32 h
theorem cls_no (s : Seg) : cls s.kind ∉ bodyT s := by
  refine body_no s _ ?_ ?_ <;> · unfold cls; split <;> (try split) <;> (try split) <;> decide
theorem body_spl {s : Seg} (h : s.as ≠ []) : spl 32 (bodyT s) = s.as.map asT := by
  unfold bodyT
  cases hs : s.as with
  | nil => exact absurd hs h
  | cons a r =>
    rw [List.map_cons]
    refine join_spl 32 _ _ fun y hy => ?_
    rw [← List.map_cons] at hy
    obtain ⟨b, _, rfl⟩ := List.mem_map.1 hy
    exact asT_no 32 (by decide) b
theorem map_asT_inj : ∀ {a b : List UInt32}, a.map asT = b.map asT → a = b
  | [], [], _ => rfl
  | [], _ :: _, h => by cases h
  | _ :: _, [], h => by cases h
  | x :: a, y :: b, h => by
    simp only [List.map_cons, List.cons.injEq] at h
    rw [asT_inj h.1, map_asT_inj h.2]
theorem opn_inj {a b : Int} (ha : 1 ≤ a) (ha' : a ≤ 4) (hb : 1 ≤ b) (hb' : b ≤ 4) (h : opn a = opn b) : a = b := by
  have e1 : a = 1 ∨ a = 2 ∨ a = 3 ∨ a = 4 := by omega
  have e2 : b = 1 ∨ b = 2 ∨ b = 3 ∨ b = 4 := by omega
  rcases e1 with rfl | rfl | rfl | rfl <;> rcases e2 with rfl | rfl | rfl | rfl <;> first | rfl | exact absurd h (by decide)
theorem segT_cancel {s t : Seg} {r q : List UInt8} (hs : wk s) (ht : wk t) (h : segT s ++ r = segT t ++ q) : s = t ∧ r = q := by
  rw [segT_eq, segT_eq] at h
  simp only [List.cons_append, List.append_assoc, List.nil_append, List.cons.injEq] at h
  have hk := opn_inj hs.1 hs.2.1 ht.1 ht.2.1 h.1
  have h2 := h.2
  rw [hk] at h2
  have hn := cls_no s
  rw [hk] at hn
  obtain ⟨h3, h4⟩ := append_at h2 hn (cls_no t)
  have h5 := body_spl hs.2.2
  rw [h3, body_spl ht.2.2] at h5
  refine ⟨?_, h4⟩
  cases s
  cases t
  simp only at hk h5
  rw [hk, map_asT_inj h5]

/- A path's text, one segment after the other. -/
theorem pathT_cons (s : Seg) (t : List Seg) : pathT (s :: t) = segT s ++ (if t = [] then [] else 32 :: pathT t) := by
  unfold pathT
  cases t with
  | nil => rw [List.map_cons, List.map_nil, Lib.join_one, if_pos rfl, List.append_nil]
  | cons u t => rw [List.map_cons, List.map_cons, join_two, if_neg (by simp), List.append_assoc, List.singleton_append]
theorem pathT_snoc (l : List Seg) (s : Seg) : pathT (l ++ [s]) = pathT l ++ (if l = [] then [] else [32]) ++ segT s := by
  unfold pathT
  rw [List.map_append, List.map_cons, List.map_nil, join_snoc]
  by_cases h : l = []
  · subst h; simp [Lib.join_nil]
  · rw [if_neg (by simpa using h), if_neg h]
theorem path_pre : ∀ {out l : List Seg} {r : List UInt8}, (∀ s ∈ out, wk s) → (∀ s ∈ l, wk s) → l ≠ [] → pathT l = pathT out ++ r → ∃ l2, l = out ++ l2 ∧ r = if l2 = [] then [] else if out = [] then pathT l2 else 32 :: pathT l2
  | [], l, r, _, _, hne, h => ⟨l, rfl, by rw [if_neg hne, if_pos rfl, h]; simp [pathT, Lib.join_nil]⟩
  | s :: t, [], r, _, _, hne, _ => absurd rfl hne
  | s :: t, s' :: t', r, ho, hl, _, h => by
    rw [pathT_cons, pathT_cons, List.append_assoc] at h
    obtain ⟨rfl, h2⟩ := segT_cancel (hl s' (by simp)) (ho s (by simp)) h
    cases t with
    | nil =>
      refine ⟨t', rfl, ?_⟩
      rw [if_pos rfl, List.nil_append] at h2
      rw [← h2]
      by_cases ht : t' = []
      · rw [if_pos ht, if_pos ht]
      · rw [if_neg ht, if_neg ht, if_neg (by simp)]
    | cons u t =>
      rw [if_neg (show (u :: t) ≠ [] by simp)] at h2
      cases t' with
      | nil => rw [if_pos rfl] at h2; cases h2
      | cons u' t' =>
        rw [if_neg (by simp)] at h2
        simp only [List.cons_append, List.cons.injEq, true_and] at h2
        obtain ⟨l2, h3, h4⟩ := path_pre (out := u :: t) (l := u' :: t') (fun s hs => ho s (by simp [List.mem_cons.1 hs])) (fun s hs => hl s (by simp [List.mem_cons.1 hs])) (by simp) h2
        refine ⟨l2, by rw [h3]; rfl, ?_⟩
        rw [h4]
        by_cases hl2 : l2 = []
        · rw [if_pos hl2, if_pos hl2]
        · rw [if_neg hl2, if_neg hl2, if_neg (by simp), if_neg (by simp)]

/-- A text of a path that may be, of one segment at least. -/
def IsText (s : List UInt8) (l : List Seg) : Prop := chk l = true ∧ l ≠ [] ∧ pathT l = s
theorem chk_wk {l : List Seg} (h : chk l = true) : ∀ s ∈ l, wk s := by
  intro s hs
  unfold chk at h
  simp only [Bool.and_eq_true, List.all_eq_true] at h
  have := h.2 s hs
  unfold segOk at this
  simp only [Bool.and_eq_true, decide_eq_true_eq] at this
  refine ⟨this.1.1.1.1, this.1.1.1.2, fun h0 => ?_⟩
  have h1 := this.1.1.2
  rw [h0] at h1
  simp at h1
theorem IsText.eq {s : List UInt8} {l m : List Seg} (h : IsText s l) (k : IsText s m) : l = m := by
  obtain ⟨l2, h1, h2⟩ := path_pre (out := m) (l := l) (r := []) (chk_wk k.1) (chk_wk h.1) h.2.1 (by rw [h.2.2, k.2.2, List.append_nil])
  by_cases hl : l2 = []
  · rw [h1, hl, List.append_nil]
  · rw [if_neg hl, if_neg k.2.1] at h2
    cases h2
open Classical in
/-- The path of a text, or the error. -/
noncomputable def parS (s : List UInt8) : List Seg × Int := if s = [45] then ([], 0) else if h : ∃ l, IsText s l then (h.choose, 0) else ([], 4)
theorem parS_dash : parS [45] = ([], 0) := by unfold parS; rw [if_pos rfl]
theorem segT_ne (s : Seg) : segT s ≠ [] := by rw [segT_eq]; simp
theorem text_ne_dash {s : List UInt8} {l : List Seg} (h : IsText s l) : s ≠ [45] := by
  obtain ⟨h1, h2, h3⟩ := h
  intro hs
  cases l with
  | nil => exact h2 rfl
  | cons x t =>
    rw [pathT_cons, segT_eq, hs] at h3
    simp only [List.cons_append, List.cons.injEq] at h3
    have := h3.1
    unfold opn at this
    revert this
    split <;> (try split) <;> (try split) <;> decide
theorem parS_text {s : List UInt8} {l : List Seg} (h : IsText s l) : parS s = (l, 0) := by
  unfold parS
  rw [if_neg (text_ne_dash h)]
  have he : ∃ l, IsText s l := ⟨l, h⟩
  rw [dif_pos he, he.choose_spec.eq h]
theorem parS_none {s : List UInt8} (h : s ≠ [45]) (hn : ∀ l, ¬ IsText s l) : parS s = ([], 4) := by
  unfold parS
  rw [if_neg h, dif_neg (fun ⟨l, hl⟩ => hn l hl)]
end Go.Proofs.YtiappobhljiknaaGreatDoor
