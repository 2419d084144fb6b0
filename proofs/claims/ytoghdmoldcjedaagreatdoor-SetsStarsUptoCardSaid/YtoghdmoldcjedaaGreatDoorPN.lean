/- Numerals to a base, plain: their digits, their values, which texts are numerals in their own form. -/
import Derived.Test.YtoghdmoldcjedaaGreatDoorPT
namespace Go.Proofs.YtoghdmoldcjedaaGreatDoor
set_option linter.unusedVariables false

/-- A digit: 0 to 9, a to f. -/
def dgt (d : Nat) : UInt8 := if d < 10 then UInt8.ofNat (48 + d) else UInt8.ofNat (87 + d)
def digS (b n : Nat) : List UInt8 := if h : n < b ∨ b < 2 then [dgt n] else digS b (n / b) ++ [dgt (n % b)]
termination_by n
decreasing_by exact Nat.div_lt_self (by omega) (by omega)
theorem digS_small {b n : Nat} (h : n < b) : digS b n = [dgt n] := by rw [digS, dif_pos (.inl h)]
theorem digS_big {b n : Nat} (hb : 2 ≤ b) (h : b ≤ n) : digS b n = digS b (n / b) ++ [dgt (n % b)] := by rw [digS, dif_neg (by omega)]
theorem digS_dec (u : Nat) : digS 10 u = Lib.decDigits u := by
  induction u using Nat.strongRecOn with
  | _ u ih =>
    by_cases h : u < 10
    · rw [digS_small h, Lib.decDigits_one h, dgt, if_pos h]
    · rw [digS_big (by omega) (by omega), Lib.decDigits, dif_neg h, ih (u / 10) (by omega), dgt, if_pos (by omega)]
/-- What a byte is worth as a digit. -/
def dval (c : UInt8) : Nat := if 48 ≤ c.toNat ∧ c.toNat ≤ 57 then c.toNat - 48 else if 97 ≤ c.toNat ∧ c.toNat ≤ 102 then c.toNat - 87 else 99
theorem dgt_toNat {d : Nat} (h : d < 16) : (dgt d).toNat = if d < 10 then 48 + d else 87 + d := by
  unfold dgt
  split <;> rw [UInt8.toNat_ofNat'] <;> omega
theorem dval_dgt {d : Nat} (h : d < 16) : dval (dgt d) = d := by
  unfold dval
  rw [dgt_toNat h]
  split <;> split <;> first | omega | (split <;> omega)
/-- The value of digits. -/
def vf (b : Nat) (s : List UInt8) : Nat := s.foldl (fun n c => n * b + dval c) 0
theorem vf_snoc (b : Nat) (s : List UInt8) (c : UInt8) : vf b (s ++ [c]) = vf b s * b + dval c := by unfold vf; rw [List.foldl_append]; rfl
theorem vf_dig {b : Nat} (h2 : 2 ≤ b) (h16 : b ≤ 16) (u : Nat) : vf b (digS b u) = u := by
  induction u using Nat.strongRecOn with
  | _ u ih =>
    by_cases h : u < b
    · rw [digS_small h]
      show 0 * b + dval (dgt u) = u
      rw [dval_dgt (by omega)]
      omega
    · have hm := Nat.mod_lt u (show 0 < b by omega)
      rw [digS_big h2 (by omega), vf_snoc, ih (u / b) (Nat.div_lt_self (by omega) (by omega)), dval_dgt (by omega)]
      exact Nat.div_add_mod' u b
theorem digS_inj {b : Nat} (h2 : 2 ≤ b) (h16 : b ≤ 16) {u v : Nat} (h : digS b u = digS b v) : u = v := by
  rw [← vf_dig h2 h16 u, h, vf_dig h2 h16]
theorem digS_ne (b u : Nat) : digS b u ≠ [] := by
  rw [digS]
  split <;> simp
/-- Every digit is one. -/
theorem digS_mem {b : Nat} (h2 : 2 ≤ b) (h16 : b ≤ 16) (u : Nat) : ∀ c ∈ digS b u, ∃ d, d < b ∧ c = dgt d := by
  induction u using Nat.strongRecOn with
  | _ u ih =>
    by_cases h : u < b
    · rw [digS_small h]
      intro c hc
      exact ⟨u, h, List.mem_singleton.1 hc⟩
    · rw [digS_big h2 (by omega)]
      intro c hc
      rcases List.mem_append.1 hc with hc | hc
      · exact ih (u / b) (Nat.div_lt_self (by omega) (by omega)) c hc
      · exact ⟨u % b, Nat.mod_lt _ (by omega), List.mem_singleton.1 hc⟩
theorem digS_no {b : Nat} (h2 : 2 ≤ b) (h16 : b ≤ 16) (u : Nat) (c : UInt8) (hc : c.toNat < 48 ∨ (57 < c.toNat ∧ c.toNat < 97) ∨ 102 < c.toNat) : c ∉ digS b u := fun h => by
  obtain ⟨d, hd, rfl⟩ := digS_mem h2 h16 u c h
  rw [dgt_toNat (by omega)] at hc
  split at hc <;> omega
theorem digS_len {b : Nat} (h2 : 2 ≤ b) : ∀ (k u : Nat), u < b ^ k → 1 ≤ k → (digS b u).length ≤ k := by
  intro k
  induction k with
  | zero => intro u _ h; omega
  | succ k ih =>
    intro u hu _
    by_cases h : u < b
    · rw [digS_small h]; simp
    · rw [digS_big h2 (by omega), List.length_append, List.length_singleton]
      have hk : 1 ≤ k := by
        rcases Nat.eq_zero_or_pos k with rfl | hk
        · simp at hu; omega
        · exact hk
      have := ih (u / b) (by rw [Nat.pow_succ] at hu; exact Nat.div_lt_of_lt_mul (by rw [Nat.mul_comm]; exact hu)) hk
      omega
/-- A numeral in its own form, up to a greatest number. -/
def rdN (b most : Nat) (s : List UInt8) : Option Nat := if digS b (vf b s) = s ∧ vf b s ≤ most then some (vf b s) else none
theorem rdN_iff {b most : Nat} (h2 : 2 ≤ b) (h16 : b ≤ 16) {s : List UInt8} {u : Nat} : rdN b most s = some u ↔ u ≤ most ∧ digS b u = s := by
  unfold rdN
  constructor
  · intro h
    split at h
    · rename_i hc
      injection h with h
      subst h
      exact ⟨hc.2, hc.1⟩
    · cases h
  · rintro ⟨h1, rfl⟩
    rw [vf_dig h2 h16, if_pos ⟨rfl, h1⟩]
theorem rdN_dig {b most u : Nat} (h2 : 2 ≤ b) (h16 : b ≤ 16) (h : u ≤ most) : rdN b most (digS b u) = some u := (rdN_iff h2 h16).2 ⟨h, rfl⟩
theorem rdN_none {b most : Nat} (h2 : 2 ≤ b) (h16 : b ≤ 16) {s : List UInt8} : rdN b most s = none ↔ ∀ u ≤ most, digS b u ≠ s := by
  constructor
  · intro h u hu he
    rw [(rdN_iff h2 h16).2 ⟨hu, he⟩] at h
    cases h
  · intro h
    cases hr : rdN b most s with
    | none => rfl
    | some u =>
      have := (rdN_iff h2 h16).1 hr
      exact absurd this.2 (h u this.1)
/-- Reading digit by digit, as long as the value stays in bounds. -/
theorem vf_take {b : Nat} (h1 : 1 ≤ b) (s : List UInt8) (k : Nat) : vf b (s.take k) ≤ vf b s := by
  have key : ∀ (r : List UInt8) (a : Nat), a ≤ r.foldl (fun n c => n * b + dval c) a := by
    intro r
    induction r with
    | nil => intro a; exact Nat.le_refl _
    | cons c r ih =>
      intro a
      refine Nat.le_trans ?_ (ih _)
      show a ≤ a * b + dval c
      have := Nat.le_mul_of_pos_right a (show 0 < b by omega)
      omega
  have h := key (s.drop k) (vf b (s.take k))
  have he : (s.drop k).foldl (fun n c => n * b + dval c) (vf b (s.take k)) = vf b s := by
    unfold vf
    rw [← List.foldl_append, List.take_append_drop]
  omega
theorem vf_next (b : Nat) (s : List UInt8) (k : Nat) (hk : k < s.length) : vf b (s.take (k + 1)) = vf b (s.take k) * b + dval s[k] := by
  rw [List.take_succ_eq_append_getElem hk, vf_snoc]
end Go.Proofs.YtoghdmoldcjedaaGreatDoor
