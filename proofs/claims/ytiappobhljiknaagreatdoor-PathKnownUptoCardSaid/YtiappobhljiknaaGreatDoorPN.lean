/- Texts, plain: one byte as a separator: found, cut, split, joined; decimal numerals read. Numerals to a base, plain: their digits, their values, which texts are numerals in their own form. -/
import Derived.Lib.SplitLaws
import Derived.Lib.ParseIntB
import Derived.Lib.ParseIntBCases
import Derived.Lib.ItoaNum
import Derived.Lib.Join
namespace Go.Proofs.YtiappobhljiknaaGreatDoor
set_option linter.unusedVariables false

theorem join_two (x y : List UInt8) (r : List (List UInt8)) (sep : List UInt8) : Lib.join (x :: y :: r) sep = x ++ sep ++ Lib.join (y :: r) sep := by
  rw [Lib.join_cons, Lib.join_cons]; simp [Lib.joinTail]
theorem join_snoc (sep : List UInt8) : ∀ (xs : List (List UInt8)) (x : List UInt8), Lib.join (xs ++ [x]) sep = if xs = [] then x else Lib.join xs sep ++ sep ++ x
  | [], x => by simp [Lib.join_one]
  | [y], x => by simp [join_two, Lib.join_one]
  | y :: z :: r, x => by
    have := join_snoc sep (z :: r) x
    rw [if_neg (by simp)] at this
    rw [if_neg (by simp), List.cons_append, List.cons_append, join_two, join_two, ← List.cons_append, this]
    simp
/- One byte as the separator. -/
theorem index_at {a b : List UInt8} {c : UInt8} (h : c ∉ a) : Lib.index (a ++ c :: b) [c] = a.length := by
  refine Lib.index_first (by simp) ?_ ?_
  · simp [Lib.occAt, List.isPrefixOf]
  · intro j hj
    simp only [Lib.occAt]
    rw [List.drop_append_of_le_length (by omega), List.drop_eq_getElem_cons hj]
    simp only [List.cons_append, List.isPrefixOf, Bool.and_true]
    rw [beq_eq_false_iff_ne]
    intro he
    exact h (by rw [he]; exact List.getElem_mem hj)
theorem index_no {s : List UInt8} {c : UInt8} (h : c ∉ s) : Lib.index s [c] = -1 := by
  rcases Lib.index_spec s [c] with ⟨h1, _⟩ | ⟨i, _, h2, h3, _⟩
  · exact h1
  · simp only [Lib.occAt] at h3
    cases hd : s.drop i with
    | nil => rw [hd] at h3; simp at h3
    | cons x t =>
      rw [hd] at h3
      simp only [List.isPrefixOf, Bool.and_true, beq_iff_eq] at h3
      exact absurd (by rw [h3]; exact List.mem_of_mem_drop (i := i) (by rw [hd]; simp)) h
theorem first_at {s : List UInt8} {c : UInt8} (h : c ∈ s) : ∃ a b, s = a ++ c :: b ∧ c ∉ a := by
  induction s with
  | nil => cases h
  | cons x t ih =>
    by_cases hx : x = c
    · exact ⟨[], t, by rw [hx]; rfl, by simp⟩
    · have ht : c ∈ t := by
        rcases List.mem_cons.1 h with h | h
        · exact absurd h.symm hx
        · exact h
      obtain ⟨a, b, h1, h2⟩ := ih ht
      exact ⟨x :: a, b, by rw [h1]; rfl, fun hm => by
        rcases List.mem_cons.1 hm with hm | hm
        · exact hx hm.symm
        · exact h2 hm⟩
theorem cut_hit {a b : List UInt8} {c : UInt8} (h : c ∉ a) : Lib.cut (a ++ c :: b) [c] = (a, b, true) := by
  unfold Lib.cut
  rw [index_at h, if_pos (by omega)]
  simp
theorem cut_miss {s : List UInt8} {c : UInt8} (h : c ∉ s) : Lib.cut s [c] = (s, [], false) := by
  unfold Lib.cut
  rw [index_no h, if_neg (by omega)]
theorem append_at {a b a' b' : List UInt8} {c : UInt8} (h : a ++ c :: b = a' ++ c :: b') (ha : c ∉ a) (ha' : c ∉ a') : a = a' ∧ b = b' := by
  have e1 := cut_hit (b := b) ha
  have e2 := cut_hit (b := b') ha'
  rw [h, e2] at e1
  injection e1 with e1 e3
  injection e3 with e3 _
  exact ⟨e1.symm, e3.symm⟩

def spl (c : UInt8) (s : List UInt8) : List (List UInt8) := Lib.split s [c]
theorem spl_no {c : UInt8} {s : List UInt8} (h : c ∉ s) : spl c s = [s] := by
  unfold spl Lib.split
  rw [Lib.count_miss (index_no h)]
  rfl
theorem spl_at {c : UInt8} {a b : List UInt8} (h : c ∉ a) : spl c (a ++ c :: b) = a :: spl c b := by
  unfold spl Lib.split
  have hd : (a ++ c :: b).drop (a.length + 1) = b := by
    rw [← List.drop_drop, List.drop_left]
    rfl
  rw [Lib.count_hit (by simp) (index_at h)]
  simp only [List.length_singleton, hd]
  rw [Nat.add_comm, Lib.splitK, index_at h, if_neg (by rw [beq_iff_eq]; omega)]
  simp only [Int.toNat_natCast, Nat.add_zero, List.take_left', List.length_singleton, hd]
theorem spl_ind {P : List UInt8 → Prop} (c : UInt8) (h0 : ∀ s, c ∉ s → P s) (h1 : ∀ a b, c ∉ a → P b → P (a ++ c :: b)) : ∀ (f : Nat) (s : List UInt8), s.length ≤ f → P s := by
  intro f
  induction f with
  | zero =>
    intro s hs
    have : s = [] := List.eq_nil_of_length_eq_zero (by omega)
    subst this
    exact h0 [] (by simp)
  | succ f ih =>
    intro s hs
    by_cases hm : c ∈ s
    · obtain ⟨a, b, rfl, ha⟩ := first_at hm
      exact h1 a b ha (ih b (by simp at hs; omega))
    · exact h0 s hm
theorem spl_ne (c : UInt8) (s : List UInt8) : spl c s ≠ [] := by
  refine spl_ind (P := fun s => spl c s ≠ []) c (fun s h => by rw [spl_no h]; simp) (fun a b h _ => by rw [spl_at h]; simp) s.length s (Nat.le_refl _)
theorem spl_join (c : UInt8) (s : List UInt8) : Lib.join (spl c s) [c] = s := by
  refine spl_ind (P := fun s => Lib.join (spl c s) [c] = s) c (fun s h => by rw [spl_no h, Lib.join_one]) (fun a b h ih => ?_) s.length s (Nat.le_refl _)
  rw [spl_at h]
  have hne := spl_ne c b
  cases hs : spl c b with
  | nil => exact absurd hs hne
  | cons x r =>
    rw [join_two, ← hs, ih]
    simp
theorem join_spl (c : UInt8) (x : List UInt8) (r : List (List UInt8)) (h : ∀ y ∈ x :: r, c ∉ y) : spl c (Lib.join (x :: r) [c]) = x :: r := by
  induction r generalizing x with
  | nil => rw [Lib.join_one, spl_no (h x (by simp))]
  | cons y r ih =>
    rw [join_two, List.append_assoc, List.singleton_append, spl_at (h x (by simp)), ih y (fun z hz => h z (by simp [List.mem_cons.1 hz]))]

/- Numerals. -/
theorem pu_append (M : Nat) : ∀ (l r : List UInt8) (acc : Nat), Lib.parseUintM M acc (l ++ r) = match Lib.parseUintM M acc l with | .ok v => Lib.parseUintM M v r | e => e := by
  intro l
  induction l with
  | nil => intro r acc; rfl
  | cons c l ih =>
    intro r acc
    simp only [List.cons_append, Lib.parseUintM]
    split
    · split
      · rfl
      · split
        · rfl
        · exact ih r _
    · rfl
theorem digit_of (i : Nat) (h : i < 10) : (UInt8.ofNat (48 + i)).toNat = 48 + i := by rw [UInt8.toNat_ofNat']; omega
theorem pu_dec (M : Nat) (hM : M ≤ 18446744073709551615) (u : Nat) : u ≤ M → Lib.parseUintM M 0 (Lib.decDigits u) = .ok u := by
  induction u using Nat.strongRecOn with
  | _ u ih =>
    intro hu
    by_cases h : u < 10
    · rw [Lib.decDigits_one h]
      simp only [Lib.parseUintM, digit_of u h]
      rw [if_pos (by omega), if_neg (by omega), if_neg (by omega)]
      congr 1
      omega
    · rw [Lib.decDigits, dif_neg h, pu_append, ih (u / 10) (by omega) (by omega)]
      simp only [Lib.parseUintM, digit_of (u % 10) (by omega)]
      rw [if_pos (by omega), if_neg (by omega), if_neg (by omega)]
      congr 1
      omega
theorem dec_ne (u : Nat) : Lib.decDigits u ≠ [] := by
  intro h
  have h1 := Lib.decDigits_length u
  have h2 := Lib.nDigits_pos u
  rw [h, List.length_nil] at h1
  omega
theorem pub_dec (B : Nat) (hB : B ≤ 64) (u : Nat) (h : u < 2 ^ B) : Lib.parseUintB B (Lib.decDigits u) = .ok u := by
  unfold Lib.parseUintB
  have h64 : 2 ^ B ≤ 2 ^ 64 := Nat.pow_le_pow_right (by omega) hB
  rw [if_neg (dec_ne u), pu_dec _ (by omega) u (by omega)]
theorem dec_digit (u : Nat) : ∀ x ∈ Lib.decDigits u, 48 ≤ x.toNat ∧ x.toNat ≤ 57 := by
  induction u using Nat.strongRecOn with
  | _ u ih =>
    by_cases h : u < 10
    · rw [Lib.decDigits_one h]
      intro x hx
      obtain rfl := List.mem_singleton.1 hx
      rw [digit_of u h]
      omega
    · rw [Lib.decDigits, dif_neg h]
      intro x hx
      rcases List.mem_append.1 hx with hx | hx
      · exact ih (u / 10) (by omega) x hx
      · obtain rfl := List.mem_singleton.1 hx
        rw [digit_of (u % 10) (by omega)]
        omega

/-- A digit: 0 to 9, a to f. -/
def dgt (d : Nat) : UInt8 := if d < 10 then UInt8.ofNat (48 + d) else UInt8.ofNat (87 + d)
def digS (b n : Nat) : List UInt8 := if h : n < b ∨ b < 2 then [dgt n] else digS b (n / b) ++ [dgt (n % b)]
termination_by n
decreasing_by exact Nat.div_lt_self (by omega) (by omega)
theorem digS_small {b n : Nat} (h : n < b) : digS b n = [dgt n] := by rw [digS, dif_pos (.inl h)]
theorem digS_big {b n : Nat} (hb : 2 ≤ b) (h : b ≤ n) : digS b n = digS b (n / b) ++ [dgt (n % b)] := by rw [digS, dif_neg (by omega)]
theorem digS_dec (u : Nat) : digS 10 u = Lib.decDigits u := by
  induction u using Nat.strongRecOn with
  | _ u ih =>
    by_cases h : u < 10
    · rw [digS_small h, Lib.decDigits_one h, dgt, if_pos h]
    · rw [digS_big (by omega) (by omega), Lib.decDigits, dif_neg h, ih (u / 10) (by omega), dgt, if_pos (by omega)]
/-- What a byte is worth as a digit. -/
def dval (c : UInt8) : Nat := if 48 ≤ c.toNat ∧ c.toNat ≤ 57 then c.toNat - 48 else if 97 ≤ c.toNat ∧ c.toNat ≤ 102 then c.toNat - 87 else 99
theorem dgt_toNat {d : Nat} (h : d < 16) : (dgt d).toNat = if d < 10 then 48 + d else 87 + d := by
  unfold dgt
  split <;> rw [UInt8.toNat_ofNat'] <;> omega
theorem dval_dgt {d : Nat} (h : d < 16) : dval (dgt d) = d := by
  unfold dval
  rw [dgt_toNat h]
  split <;> split <;> first | omega | (split <;> omega)
/-- The value of digits. -/
def vf (b : Nat) (s : List UInt8) : Nat := s.foldl (fun n c => n * b + dval c) 0
theorem vf_snoc (b : Nat) (s : List UInt8) (c : UInt8) : vf b (s ++ [c]) = vf b s * b + dval c := by unfold vf; rw [List.foldl_append]; rfl
theorem vf_dig {b : Nat} (h2 : 2 ≤ b) (h16 : b ≤ 16) (u : Nat) : vf b (digS b u) = u := by
  induction u using Nat.strongRecOn with
  | _ u ih =>
    by_cases h : u < b
    · rw [digS_small h]
      show 0 * b + dval (dgt u) = u
      rw [dval_dgt (by omega)]
      omega
    · have hm := Nat.mod_lt u (show 0 < b by omega)
      rw [digS_big h2 (by omega), vf_snoc, ih (u / b) (Nat.div_lt_self (by omega) (by omega)), dval_dgt (by omega)]
      exact Nat.div_add_mod' u b
theorem digS_inj {b : Nat} (h2 : 2 ≤ b) (h16 : b ≤ 16) {u v : Nat} (h : digS b u = digS b v) : u = v := by
  rw [← vf_dig h2 h16 u, h, vf_dig h2 h16]
theorem digS_ne (b u : Nat) : digS b u ≠ [] := by
  rw [digS]
  split <;> simp
/-- Every digit is one. -/
theorem digS_mem {b : Nat} (h2 : 2 ≤ b) (h16 : b ≤ 16) (u : Nat) : ∀ c ∈ digS b u, ∃ d, d < b ∧ c = dgt d := by
  induction u using Nat.strongRecOn with
  | _ u ih =>
    by_cases h : u < b
    · rw [digS_small h]
      intro c hc
      exact ⟨u, h, List.mem_singleton.1 hc⟩
    · rw [digS_big h2 (by omega)]
      intro c hc
      rcases List.mem_append.1 hc with hc | hc
      · exact ih (u / b) (Nat.div_lt_self (by omega) (by omega)) c hc
      · exact ⟨u % b, Nat.mod_lt _ (by omega), List.mem_singleton.1 hc⟩
theorem digS_no {b : Nat} (h2 : 2 ≤ b) (h16 : b ≤ 16) (u : Nat) (c : UInt8) (hc : c.toNat < 48 ∨ (57 < c.toNat ∧ c.toNat < 97) ∨ 102 < c.toNat) : c ∉ digS b u := fun h => by
  obtain ⟨d, hd, rfl⟩ := digS_mem h2 h16 u c h
  rw [dgt_toNat (by omega)] at hc
  split at hc <;> omega
theorem digS_len {b : Nat} (h2 : 2 ≤ b) : ∀ (k u : Nat), u < b ^ k → 1 ≤ k → (digS b u).length ≤ k := by
  intro k
  induction k with
  | zero => intro u _ h; omega
  | succ k ih =>
    intro u hu _
    by_cases h : u < b
    · rw [digS_small h]; simp
    · rw [digS_big h2 (by omega), List.length_append, List.length_singleton]
      have hk : 1 ≤ k := by
        rcases Nat.eq_zero_or_pos k with rfl | hk
        · simp at hu; omega
        · exact hk
      have := ih (u / b) (by rw [Nat.pow_succ] at hu; exact Nat.div_lt_of_lt_mul (by rw [Nat.mul_comm]; exact hu)) hk
      omega
/-- A numeral in its own form, up to a greatest number. -/
def rdN (b most : Nat) (s : List UInt8) : Option Nat := if digS b (vf b s) = s ∧ vf b s ≤ most then some (vf b s) else none
theorem rdN_iff {b most : Nat} (h2 : 2 ≤ b) (h16 : b ≤ 16) {s : List UInt8} {u : Nat} : rdN b most s = some u ↔ u ≤ most ∧ digS b u = s := by
  unfold rdN
  constructor
  · intro h
    split at h
    · rename_i hc
      injection h with h
      subst h
      exact ⟨hc.2, hc.1⟩
    · cases h
  · rintro ⟨h1, rfl⟩
    rw [vf_dig h2 h16, if_pos ⟨rfl, h1⟩]
theorem rdN_dig {b most u : Nat} (h2 : 2 ≤ b) (h16 : b ≤ 16) (h : u ≤ most) : rdN b most (digS b u) = some u := (rdN_iff h2 h16).2 ⟨h, rfl⟩
theorem rdN_none {b most : Nat} (h2 : 2 ≤ b) (h16 : b ≤ 16) {s : List UInt8} : rdN b most s = none ↔ ∀ u ≤ most, digS b u ≠ s := by
  constructor
  · intro h u hu he
    rw [(rdN_iff h2 h16).2 ⟨hu, he⟩] at h
    cases h
  · intro h
    cases hr : rdN b most s with
    | none => rfl
    | some u =>
      have := (rdN_iff h2 h16).1 hr
      exact absurd this.2 (h u this.1)
/-- Reading digit by digit, as long as the value stays in bounds. -/
theorem vf_take {b : Nat} (h1 : 1 ≤ b) (s : List UInt8) (k : Nat) : vf b (s.take k) ≤ vf b s := by
  have key : ∀ (r : List UInt8) (a : Nat), a ≤ r.foldl (fun n c => n * b + dval c) a := by
    intro r
    induction r with
    | nil => intro a; exact Nat.le_refl _
    | cons c r ih =>
      intro a
      refine Nat.le_trans ?_ (ih _)
      show a ≤ a * b + dval c
      have := Nat.le_mul_of_pos_right a (show 0 < b by omega)
      omega
  have h := key (s.drop k) (vf b (s.take k))
  have he : (s.drop k).foldl (fun n c => n * b + dval c) (vf b (s.take k)) = vf b s := by
    unfold vf
    rw [← List.foldl_append, List.take_append_drop]
  omega
theorem vf_next (b : Nat) (s : List UInt8) (k : Nat) (hk : k < s.length) : vf b (s.take (k + 1)) = vf b (s.take k) * b + dval s[k] := by
  rw [List.take_succ_eq_append_getElem hk, vf_snoc]
end Go.Proofs.YtiappobhljiknaaGreatDoor
