/- Prefixes: which may be, their order, which covers which, cut. -/
import Derived.Test.YtoghdmoldcjedaaGreatDoorP1
import Derived.Lib.Bytealg
import Derived.Lib.Small
namespace Go.Proofs.YtoghdmoldcjedaaGreatDoor
open Go.RowKit
set_option linter.unusedVariables false

structure Pfx where
  fam : Int
  rd : Nat
  addr : List UInt8
  len : Int
theorem Pfx.eq {a b : Pfx} (h1 : a.fam = b.fam) (h2 : a.rd = b.rd) (h3 : a.addr = b.addr) (h4 : a.len = b.len) : a = b := by
  cases a; cases b; simp_all
def sizeS (f : Int) : Int := if f = 1 ∨ f = 3 ∨ f = 4 then 4 else if f = 2 ∨ f = 5 then 16 else 0
def apartS (f : Int) : Bool := decide (f = 4 ∨ f = 5)
theorem sizeS_cases (f : Int) : sizeS f = 0 ∨ sizeS f = 4 ∨ sizeS f = 16 := by
  unfold sizeS
  split
  · exact .inr (.inl rfl)
  · split
    · exact .inr (.inr rfl)
    · exact .inl rfl
/-- All but the bits. -/
def formP (p : Pfx) : Prop := sizeS p.fam ≠ 0 ∧ (p.addr.length : Int) = sizeS p.fam ∧ 0 ≤ p.len ∧ p.len ≤ 8 * sizeS p.fam ∧ (p.rd = 0 ∨ apartS p.fam = true)
def MayP (p : Pfx) : Prop := formP p ∧ maskS p.addr p.len = p.addr
theorem formP.small {p : Pfx} (h : formP p) : p.addr.length ≤ 16 ∧ 0 ≤ p.len ∧ p.len ≤ 128 := by
  obtain ⟨_, h2, h3, h4, _⟩ := h
  rcases sizeS_cases p.fam with h | h | h <;> rw [h] at h2 h4 <;> omega
theorem MayP.bits {p : Pfx} (h : formP p) : MayP p ↔ ∀ i : Nat, p.len ≤ (i : Int) → (i : Int) < 8 * sizeS p.fam → bitN p.addr i = false := by
  unfold MayP
  rw [mask_self]
  constructor
  · intro ⟨_, h2⟩ i h3 h4
    exact h2 i h3 (by have := h.2.1; omega)
  · intro h2
    exact ⟨h, fun i h3 h4 => h2 i h3 (by have := h.2.1; omega)⟩
def errP (p : Prop) [Decidable p] : Int := if p then 0 else 2
noncomputable instance (p : Pfx) : Decidable (MayP p) := Classical.propDecidable _

/-- A prefix cut. -/
def cutOf (p : Pfx) (n : Int) : Pfx := ⟨p.fam, p.rd, maskS p.addr n, n⟩
def zeroP : Pfx := ⟨0, 0, [], 0⟩
def cutOk (p : Pfx) (n : Int) : Prop := MayP p ∧ 0 ≤ n ∧ n ≤ p.len
theorem cut_form {p : Pfx} {n : Int} (h : cutOk p n) : formP (cutOf p n) := by
  obtain ⟨⟨⟨h1, h2, h3, h4, h5⟩, _⟩, h6, h7⟩ := h
  exact ⟨h1, by show ((maskS p.addr n).length : Int) = _; rw [maskS_len]; exact h2, h6, Int.le_trans h7 h4, h5⟩
theorem cut_may {p : Pfx} {n : Int} (h : cutOk p n) : MayP (cutOf p n) := by
  refine ⟨cut_form h, ?_⟩
  show maskS (maskS p.addr n) n = _
  rw [mask_mask, Int.min_self]
  rfl
theorem zero_not : ¬ MayP zeroP := fun h => h.1.1 rfl
/-- a covers b. -/
def Cov (a b : Pfx) : Prop := MayP b ∧ 0 ≤ a.len ∧ a.len ≤ b.len ∧ cutOf b a.len = a
theorem Cov.iff {a b : Pfx} : Cov a b ↔ MayP a ∧ MayP b ∧ a.fam = b.fam ∧ a.rd = b.rd ∧ a.len ≤ b.len ∧ ∀ i : Nat, (i : Int) < a.len → bitN a.addr i = bitN b.addr i := by
  constructor
  · rintro ⟨hb, h0, hl, hc⟩
    have hm := cut_may ⟨hb, h0, hl⟩
    rw [hc] at hm
    have hf := congrArg Pfx.fam hc
    have hr := congrArg Pfx.rd hc
    replace hf : b.fam = a.fam := hf
    replace hr : b.rd = a.rd := hr
    have ha : maskS b.addr a.len = a.addr := congrArg Pfx.addr hc
    refine ⟨hm, hb, hf.symm, hr.symm, hl, fun i hi => ?_⟩
    rcases Nat.lt_or_ge i (8 * b.addr.length) with hlt | hge
    · rw [← ha, mask_bit _ _ _ hlt, decide_eq_true hi]
      rfl
    · rw [bitN_out _ _ hge, bitN_out _ _ (by rw [← ha, maskS_len]; exact hge)]
  · rintro ⟨ha, hb, hf, hr, hl, hbit⟩
    refine ⟨hb, ha.1.2.2.1, hl, Pfx.eq hf.symm hr.symm ?_ rfl⟩
    have hlen : a.addr.length = b.addr.length := by
      have h1 := ha.1.2.1
      have h2 := hb.1.2.1
      rw [hf] at h1
      omega
    show maskS b.addr a.len = a.addr
    rw [← (mask_eq hlen a.len).2 hbit]
    exact ha.2

/-- The order of two prefixes. -/
def cmpP (a b : Pfx) : Int :=
  if a.fam ≠ b.fam then Lib.compareInt a.fam b.fam else if a.rd ≠ b.rd then Lib.compareInt a.rd b.rd
  else if Lib.compareBytes a.addr b.addr ≠ 0 then Lib.compareBytes a.addr b.addr else Lib.compareInt a.len b.len
theorem ci_zero (x y : Int) : Lib.compareInt x y = 0 ↔ x = y := by
  unfold Lib.compareInt
  split
  · omega
  · split <;> omega
theorem ci_neg (x y : Int) : Lib.compareInt y x = - Lib.compareInt x y := by
  unfold Lib.compareInt
  split <;> split <;> first | rfl | omega | (split <;> first | rfl | omega)
theorem ci_cases (x y : Int) : (Lib.compareInt x y = -1 ∧ x < y) ∨ (Lib.compareInt x y = 0 ∧ x = y) ∨ (Lib.compareInt x y = 1 ∧ y < x) := by
  unfold Lib.compareInt
  split
  · exact .inl ⟨rfl, by assumption⟩
  · split
    · exact .inr (.inr ⟨rfl, by omega⟩)
    · exact .inr (.inl ⟨rfl, by omega⟩)
theorem cb_zero : ∀ (a b : List UInt8), Lib.compareBytes a b = 0 ↔ a = b := by
  intro a
  induction a with
  | nil => intro b; cases b <;> simp [Lib.compareBytes]
  | cons x a ih =>
    intro b
    cases b with
    | nil => simp [Lib.compareBytes]
    | cons y b =>
      simp only [Lib.compareBytes]
      split
      · rename_i h
        simp only [List.cons.injEq]
        constructor
        · intro h; cases h
        · rintro ⟨rfl, _⟩
          exact absurd h (UInt8.lt_irrefl _)
      · split
        · rename_i h
          constructor
          · intro h; cases h
          · intro h2
            injection h2 with h2 _
            subst h2
            exact absurd h (UInt8.lt_irrefl _)
        · rename_i h1 h2
          rw [ih]
          have : x = y := UInt8.le_antisymm (UInt8.not_lt.1 h2) (UInt8.not_lt.1 h1)
          simp [this]
theorem cb_neg : ∀ (a b : List UInt8), Lib.compareBytes b a = - Lib.compareBytes a b := by
  intro a
  induction a with
  | nil => intro b; cases b <;> simp [Lib.compareBytes]
  | cons x a ih =>
    intro b
    cases b with
    | nil => simp [Lib.compareBytes]
    | cons y b =>
      simp only [Lib.compareBytes]
      rcases Nat.lt_trichotomy x.toNat y.toNat with h | h | h
      · have h1 : x < y := UInt8.lt_iff_toNat_lt.2 h
        have h2 : ¬ y < x := fun h3 => by have := UInt8.lt_iff_toNat_lt.1 h3; omega
        simp [h1, h2]
      · obtain rfl : x = y := UInt8.toNat_inj.1 h
        simp [UInt8.lt_irrefl, ih]
      · have h1 : y < x := UInt8.lt_iff_toNat_lt.2 h
        have h2 : ¬ x < y := fun h3 => by have := UInt8.lt_iff_toNat_lt.1 h3; omega
        simp [h1, h2]
theorem cb_cases : ∀ (a b : List UInt8), Lib.compareBytes a b = -1 ∨ Lib.compareBytes a b = 0 ∨ Lib.compareBytes a b = 1 := by
  intro a
  induction a with
  | nil => intro b; cases b <;> simp [Lib.compareBytes]
  | cons x a ih =>
    intro b
    cases b with
    | nil => simp [Lib.compareBytes]
    | cons y b =>
      simp only [Lib.compareBytes]
      split
      · exact .inl rfl
      · split
        · exact .inr (.inr rfl)
        · exact ih b
theorem cb_trans : ∀ (a b c : List UInt8), Lib.compareBytes a b ≤ 0 → Lib.compareBytes b c ≤ 0 → Lib.compareBytes a c ≤ 0 := by
  intro a
  induction a with
  | nil => intro b c _ _; cases c <;> simp [Lib.compareBytes]
  | cons x a ih =>
    intro b c h1 h2
    cases b with
    | nil => simp [Lib.compareBytes] at h1
    | cons y b =>
      cases c with
      | nil => simp [Lib.compareBytes] at h2
      | cons z c =>
        simp only [Lib.compareBytes] at h1 h2 ⊢
        have e : ∀ p q : UInt8, p < q ↔ p.toNat < q.toNat := fun p q => UInt8.lt_iff_toNat_lt
        simp only [e] at h1 h2 ⊢
        split at h1
        · split at h2
          · rw [if_pos (by omega)]; decide
          · split at h2
            · omega
            · rw [if_pos (by omega)]; decide
        · split at h1
          · omega
          · split at h2
            · rw [if_pos (by omega)]; decide
            · split at h2
              · omega
              · rw [if_neg (by omega), if_neg (by omega)]
                exact ih b c h1 h2
theorem cmp_neg (a b : Pfx) : cmpP b a = - cmpP a b := by
  unfold cmpP
  by_cases h1 : a.fam = b.fam
  · by_cases h2 : a.rd = b.rd
    · by_cases h3 : Lib.compareBytes a.addr b.addr = 0
      · have h4 : Lib.compareBytes b.addr a.addr = 0 := by rw [cb_neg, h3]; rfl
        simp [h1, h2, h3, h4, ci_neg a.len b.len]
      · have h4 : ¬ Lib.compareBytes b.addr a.addr = 0 := by rw [cb_neg]; omega
        simp [h1, h2, h3, cb_neg a.addr b.addr]
    · have h4 : ¬ b.rd = a.rd := fun h => h2 h.symm
      simp [h1, h2, h4, ci_neg (a.rd : Int) b.rd]
  · have h4 : ¬ b.fam = a.fam := fun h => h1 h.symm
    simp [h1, h4, ci_neg a.fam b.fam]
theorem cmp_zero (a b : Pfx) : cmpP a b = 0 ↔ a = b := by
  unfold cmpP
  constructor
  · intro h
    split at h
    · rename_i h1; exact absurd ((ci_zero _ _).1 h) h1
    · rename_i h1
      split at h
      · rename_i h2; exact absurd ((ci_zero _ _).1 h) (by omega)
      · rename_i h2
        split at h
        · rename_i h3; exact absurd h h3
        · rename_i h3
          exact Pfx.eq (by simpa using h1) (by simpa using h2) ((cb_zero _ _).1 (by simpa using h3)) ((ci_zero _ _).1 h)
  · rintro rfl
    have h1 : Lib.compareBytes a.addr a.addr = 0 := (cb_zero _ _).2 rfl
    have h2 : Lib.compareInt a.len a.len = 0 := (ci_zero _ _).2 rfl
    simp [h1, h2]
theorem cmp_cases (a b : Pfx) : cmpP a b = -1 ∨ cmpP a b = 0 ∨ cmpP a b = 1 := by
  have hc : ∀ x y : Int, Lib.compareInt x y = -1 ∨ Lib.compareInt x y = 0 ∨ Lib.compareInt x y = 1 := fun x y => by rcases ci_cases x y with ⟨h, _⟩ | ⟨h, _⟩ | ⟨h, _⟩ <;> simp [h]
  unfold cmpP
  split
  · exact hc _ _
  · split
    · exact hc _ _
    · split
      · exact cb_cases _ _
      · exact hc _ _
theorem cmp_le (a b : Pfx) : cmpP a b ≤ 0 ↔ a.fam < b.fam ∨ (a.fam = b.fam ∧ (a.rd < b.rd ∨ (a.rd = b.rd ∧ (Lib.compareBytes a.addr b.addr < 0 ∨ (Lib.compareBytes a.addr b.addr = 0 ∧ a.len ≤ b.len))))) := by
  have hc : ∀ x y : Int, Lib.compareInt x y ≤ 0 ↔ x ≤ y := fun x y => by rcases ci_cases x y with ⟨h, _⟩ | ⟨h, _⟩ | ⟨h, _⟩ <;> rw [h] <;> omega
  unfold cmpP
  by_cases h1 : a.fam = b.fam
  · by_cases h2 : a.rd = b.rd
    · by_cases h3 : Lib.compareBytes a.addr b.addr = 0
      · simp [h1, h2, h3, hc]
      · simp [h1, h2, h3]
        omega
    · simp [h1, h2, hc]
      omega
  · simp [h1, hc]
    omega
theorem cmp_trans (a b c : Pfx) (h1 : cmpP a b ≤ 0) (h2 : cmpP b c ≤ 0) : cmpP a c ≤ 0 := by
  rw [cmp_le] at h1 h2 ⊢
  have ht := cb_trans a.addr b.addr c.addr
  rcases h1 with h1 | ⟨e1, h1⟩
  · rcases h2 with h2 | ⟨e2, _⟩ <;> exact .inl (by omega)
  · rcases h2 with h2 | ⟨e2, h2⟩
    · exact .inl (by omega)
    · refine .inr ⟨by omega, ?_⟩
      rcases h1 with h1 | ⟨f1, h1⟩
      · rcases h2 with h2 | ⟨f2, _⟩ <;> exact .inl (by omega)
      · rcases h2 with h2 | ⟨f2, h2⟩
        · exact .inl (by omega)
        · refine .inr ⟨by omega, ?_⟩
          have h3 := ht (by rcases h1 with h | ⟨h, _⟩ <;> omega) (by rcases h2 with h | ⟨h, _⟩ <;> omega)
          rcases Int.lt_or_eq_of_le h3 with h4 | h4
          · exact .inl h4
          · refine .inr ⟨h4, ?_⟩
            have he : a.addr = c.addr := (cb_zero _ _).1 h4
            rcases h1 with h1 | ⟨g1, h1⟩
            · rcases h2 with h2 | ⟨g2, h2⟩
              · exfalso
                have := cb_neg a.addr b.addr
                rw [he] at this h1
                omega
              · exfalso
                have hb := (cb_zero _ _).1 g2
                rw [he, hb] at h1
                have := (cb_zero c.addr c.addr).2 rfl
                omega
            · rcases h2 with h2 | ⟨g2, h2⟩
              · exfalso
                have hb := (cb_zero _ _).1 g1
                rw [← hb, he] at h2
                have := (cb_zero c.addr c.addr).2 rfl
                omega
              · omega
/- The order of bytes, byte by byte. -/
theorem cb_skip : ∀ (i : Nat) (a b : List UInt8), i ≤ a.length → i ≤ b.length → a.take i = b.take i → Lib.compareBytes a b = Lib.compareBytes (a.drop i) (b.drop i) := by
  intro i
  induction i with
  | zero => intro a b _ _ _; rfl
  | succ i ih =>
    intro a b ha hb h
    cases a with
    | nil => simp at ha
    | cons x a =>
      cases b with
      | nil => simp at hb
      | cons y b =>
        simp only [List.take_succ_cons, List.cons.injEq] at h
        obtain ⟨rfl, h⟩ := h
        simp only [List.length_cons] at ha hb
        rw [List.drop_succ_cons, List.drop_succ_cons, ← ih a b (by omega) (by omega) h]
        simp only [Lib.compareBytes]
        rw [if_neg (UInt8.lt_irrefl x), if_neg (UInt8.lt_irrefl x)]
theorem cb_at {a b : List UInt8} {i : Nat} (hi : i < a.length) (hj : i < b.length) (h : a.take i = b.take i) (hne : a[i] ≠ b[i]) : Lib.compareBytes a b = Lib.compareInt (a[i].toNat : Int) (b[i].toNat : Int) := by
  rw [cb_skip i a b (by omega) (by omega) h, List.drop_eq_getElem_cons hi, List.drop_eq_getElem_cons hj]
  simp only [Lib.compareBytes]
  unfold Lib.compareInt
  have hn : a[i].toNat ≠ b[i].toNat := fun he => hne (UInt8.toNat_inj.1 he)
  simp only [UInt8.lt_iff_toNat_lt]
  by_cases h1 : a[i].toNat < b[i].toNat
  · rw [if_pos h1, if_pos (by omega)]
  · rw [if_neg h1, if_pos (show b[i].toNat < a[i].toNat by omega), if_neg (show ¬ ((a[i].toNat : Int) < (b[i].toNat : Int)) by omega), if_pos (show (b[i].toNat : Int) < (a[i].toNat : Int) by omega)]
theorem cb_end {a b : List UInt8} {i : Nat} (hi : i ≤ a.length) (hj : i ≤ b.length) (he : i = a.length ∨ i = b.length) (h : a.take i = b.take i) : Lib.compareBytes a b = Lib.compareInt (a.length : Int) (b.length : Int) := by
  rw [cb_skip i a b hi hj h]
  have e1 : ((a.length : Int) < (b.length : Int)) ↔ (a.drop i = [] ∧ b.drop i ≠ []) := by
    rw [List.drop_eq_nil_iff, ne_eq, List.drop_eq_nil_iff]
    omega
  have e2 : ((b.length : Int) < (a.length : Int)) ↔ (b.drop i = [] ∧ a.drop i ≠ []) := by
    rw [List.drop_eq_nil_iff, ne_eq, List.drop_eq_nil_iff]
    omega
  have e3 : a.drop i = [] ∨ b.drop i = [] := by
    rw [List.drop_eq_nil_iff, List.drop_eq_nil_iff]
    omega
  unfold Lib.compareInt
  simp only [e1, e2]
  generalize a.drop i = x at *
  generalize b.drop i = y at *
  cases x with
  | nil => cases y <;> simp [Lib.compareBytes]
  | cons p x =>
    cases y with
    | nil => simp [Lib.compareBytes]
    | cons q y => rcases e3 with h | h <;> cases h
theorem take_next {a b : List UInt8} {i : Nat} (hi : i < a.length) (hj : i < b.length) (h : a.take i = b.take i) (he : a[i] = b[i]) : a.take (i + 1) = b.take (i + 1) := by
  rw [List.take_succ_eq_append_getElem hi, List.take_succ_eq_append_getElem hj, h, he]
end Go.Proofs.YtoghdmoldcjedaaGreatDoor
