/- Texts, plain: one byte as a separator: found, cut, split, joined; decimal numerals read. -/
import Derived.Lib.SplitLaws
import Derived.Lib.ParseIntB
import Derived.Lib.ParseIntBCases
import Derived.Lib.ItoaNum
import Derived.Lib.Join
namespace Go.Proofs.YtoghdmoldcjedaaGreatDoor
set_option linter.unusedVariables false

theorem join_two (x y : List UInt8) (r : List (List UInt8)) (sep : List UInt8) : Lib.join (x :: y :: r) sep = x ++ sep ++ Lib.join (y :: r) sep := by
  rw [Lib.join_cons, Lib.join_cons]; simp [Lib.joinTail]
theorem join_snoc (sep : List UInt8) : ∀ (xs : List (List UInt8)) (x : List UInt8), Lib.join (xs ++ [x]) sep = if xs = [] then x else Lib.join xs sep ++ sep ++ x
  | [], x => by simp [Lib.join_one]
  | [y], x => by simp [join_two, Lib.join_one]
  | y :: z :: r, x => by
    have := join_snoc sep (z :: r) x
    rw [if_neg (by simp)] at this
    rw [if_neg (by simp), List.cons_append, List.cons_append, join_two, join_two, ← List.cons_append, this]
    simp
/- One byte as the separator. -/
theorem index_at {a b : List UInt8} {c : UInt8} (h : c ∉ a) : Lib.index (a ++ c :: b) [c] = a.length := by
  refine Lib.index_first (by simp) ?_ ?_
  · simp [Lib.occAt, List.isPrefixOf]
  · intro j hj
    simp only [Lib.occAt]
    rw [List.drop_append_of_le_length (by omega), List.drop_eq_getElem_cons hj]
    simp only [List.cons_append, List.isPrefixOf, Bool.and_true]
    rw [beq_eq_false_iff_ne]
    intro he
    exact h (by rw [he]; exact List.getElem_mem hj)
theorem index_no {s : List UInt8} {c : UInt8} (h : c ∉ s) : Lib.index s [c] = -1 := by
  rcases Lib.index_spec s [c] with ⟨h1, _⟩ | ⟨i, _, h2, h3, _⟩
  · exact h1
  · simp only [Lib.occAt] at h3
    cases hd : s.drop i with
    | nil => rw [hd] at h3; simp at h3
    | cons x t =>
      rw [hd] at h3
      simp only [List.isPrefixOf, Bool.and_true, beq_iff_eq] at h3
      exact absurd (by rw [h3]; exact List.mem_of_mem_drop (i := i) (by rw [hd]; simp)) h
theorem first_at {s : List UInt8} {c : UInt8} (h : c ∈ s) : ∃ a b, s = a ++ c :: b ∧ c ∉ a := by
  induction s with
  | nil => cases h
  | cons x t ih =>
    by_cases hx : x = c
    · exact ⟨[], t, by rw [hx]; rfl, by simp⟩
    · have ht : c ∈ t := by
        rcases List.mem_cons.1 h with h | h
        · exact absurd h.symm hx
        · exact h
      obtain ⟨a, b, h1, h2⟩ := ih ht
      exact ⟨x :: a, b, by rw [h1]; rfl, fun hm => by
        rcases List.mem_cons.1 hm with hm | hm
        · exact hx hm.symm
        · exact h2 hm⟩
theorem cut_hit {a b : List UInt8} {c : UInt8} (h : c ∉ a) : Lib.cut (a ++ c :: b) [c] = (a, b, true) := by
  unfold Lib.cut
  rw [index_at h, if_pos (by omega)]
  simp
theorem cut_miss {s : List UInt8} {c : UInt8} (h : c ∉ s) : Lib.cut s [c] = (s, [], false) := by
  unfold Lib.cut
  rw [index_no h, if_neg (by omega)]
theorem append_at {a b a' b' : List UInt8} {c : UInt8} (h : a ++ c :: b = a' ++ c :: b') (ha : c ∉ a) (ha' : c ∉ a') : a = a' ∧ b = b' := by
  have e1 := cut_hit (b := b) ha
  have e2 := cut_hit (b := b') ha'
  rw [h, e2] at e1
  injection e1 with e1 e3
  injection e3 with e3 _
  exact ⟨e1.symm, e3.symm⟩

def spl (c : UInt8) (s : List UInt8) : List (List UInt8) := Lib.split s [c]
theorem spl_no {c : UInt8} {s : List UInt8} (h : c ∉ s) : spl c s = [s] := by
  unfold spl Lib.split
  rw [Lib.count_miss (index_no h)]
  rfl
theorem spl_at {c : UInt8} {a b : List UInt8} (h : c ∉ a) : spl c (a ++ c :: b) = a :: spl c b := by
  unfold spl Lib.split
  have hd : (a ++ c :: b).drop (a.length + 1) = b := by
    rw [← List.drop_drop, List.drop_left]
    rfl
  rw [Lib.count_hit (by simp) (index_at h)]
  simp only [List.length_singleton, hd]
  rw [Nat.add_comm, Lib.splitK, index_at h, if_neg (by rw [beq_iff_eq]; omega)]
  simp only [Int.toNat_natCast, Nat.add_zero, List.take_left', List.length_singleton, hd]
theorem spl_ind {P : List UInt8 → Prop} (c : UInt8) (h0 : ∀ s, c ∉ s → P s) (h1 : ∀ a b, c ∉ a → P b → P (a ++ c :: b)) : ∀ (f : Nat) (s : List UInt8), s.length ≤ f → P s := by
  intro f
  induction f with
  | zero =>
    intro s hs
    have : s = [] := List.eq_nil_of_length_eq_zero (by omega)
    subst this
    exact h0 [] (by simp)
  | succ f ih =>
    intro s hs
    by_cases hm : c ∈ s
    · obtain ⟨a, b, rfl, ha⟩ := first_at hm
      exact h1 a b ha (ih b (by simp at hs; omega))
    · exact h0 s hm
theorem spl_ne (c : UInt8) (s : List UInt8) : spl c s ≠ [] := by
  refine spl_ind (P := fun s => spl c s ≠ []) c (fun s h => by rw [spl_no h]; simp) (fun a b h _ => by rw [spl_at h]; simp) s.length s (Nat.le_refl _)
theorem spl_join (c : UInt8) (s : List UInt8) : Lib.join (spl c s) [c] = s := by
  refine spl_ind (P := fun s => Lib.join (spl c s) [c] = s) c (fun s h => by rw [spl_no h, Lib.join_one]) (fun a b h ih => ?_) s.length s (Nat.le_refl _)
  rw [spl_at h]
  have hne := spl_ne c b
  cases hs : spl c b with
  | nil => exact absurd hs hne
  | cons x r =>
    rw [join_two, ← hs, ih]
    simp
theorem join_spl (c : UInt8) (x : List UInt8) (r : List (List UInt8)) (h : ∀ y ∈ x :: r, c ∉ y) : spl c (Lib.join (x :: r) [c]) = x :: r := by
  induction r generalizing x with
  | nil => rw [Lib.join_one, spl_no (h x (by simp))]
  | cons y r ih =>
    rw [join_two, List.append_assoc, List.singleton_append, spl_at (h x (by simp)), ih y (fun z hz => h z (by simp [List.mem_cons.1 hz]))]

/- Numerals. -/
theorem pu_append (M : Nat) : ∀ (l r : List UInt8) (acc : Nat), Lib.parseUintM M acc (l ++ r) = match Lib.parseUintM M acc l with | .ok v => Lib.parseUintM M v r | e => e := by
  intro l
  induction l with
  | nil => intro r acc; rfl
  | cons c l ih =>
    intro r acc
    simp only [List.cons_append, Lib.parseUintM]
    split
    · split
      · rfl
      · split
        · rfl
        · exact ih r _
    · rfl
theorem digit_of (i : Nat) (h : i < 10) : (UInt8.ofNat (48 + i)).toNat = 48 + i := by rw [UInt8.toNat_ofNat']; omega
theorem pu_dec (M : Nat) (hM : M ≤ 18446744073709551615) (u : Nat) : u ≤ M → Lib.parseUintM M 0 (Lib.decDigits u) = .ok u := by
  induction u using Nat.strongRecOn with
  | _ u ih =>
    intro hu
    by_cases h : u < 10
    · rw [Lib.decDigits_one h]
      simp only [Lib.parseUintM, digit_of u h]
      rw [if_pos (by omega), if_neg (by omega), if_neg (by omega)]
      congr 1
      omega
    · rw [Lib.decDigits, dif_neg h, pu_append, ih (u / 10) (by omega) (by omega)]
      simp only [Lib.parseUintM, digit_of (u % 10) (by omega)]
      rw [if_pos (by omega), if_neg (by omega), if_neg (by omega)]
      congr 1
      omega
theorem dec_ne (u : Nat) : Lib.decDigits u ≠ [] := by
  intro h
  have h1 := Lib.decDigits_length u
  have h2 := Lib.nDigits_pos u
  rw [h, List.length_nil] at h1
  omega
theorem pub_dec (B : Nat) (hB : B ≤ 64) (u : Nat) (h : u < 2 ^ B) : Lib.parseUintB B (Lib.decDigits u) = .ok u := by
  unfold Lib.parseUintB
  have h64 : 2 ^ B ≤ 2 ^ 64 := Nat.pow_le_pow_right (by omega) hB
  rw [if_neg (dec_ne u), pu_dec _ (by omega) u (by omega)]
theorem dec_digit (u : Nat) : ∀ x ∈ Lib.decDigits u, 48 ≤ x.toNat ∧ x.toNat ≤ 57 := by
  induction u using Nat.strongRecOn with
  | _ u ih =>
    by_cases h : u < 10
    · rw [Lib.decDigits_one h]
      intro x hx
      obtain rfl := List.mem_singleton.1 hx
      rw [digit_of u h]
      omega
    · rw [Lib.decDigits, dif_neg h]
      intro x hx
      rcases List.mem_append.1 hx with hx | hx
      · exact ih (u / 10) (by omega) x hx
      · obtain rfl := List.mem_singleton.1 hx
        rw [digit_of (u % 10) (by omega)]
        omega
end Go.Proofs.YtoghdmoldcjedaaGreatDoor
