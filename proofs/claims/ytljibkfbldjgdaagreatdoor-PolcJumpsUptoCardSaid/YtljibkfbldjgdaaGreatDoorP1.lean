/- Bits of an address; an address cut to its first bits. Prefixes: which may be, their order, which covers which, cut. Rows of bytes: one byte stored; a new row of zeros. -/
import Derived.Test.YtljibkfbldjgdaaGreatDoorBytes
import Derived.Lib.Bytealg
import Derived.Lib.Small
namespace Go.Proofs.YtljibkfbldjgdaaGreatDoor
open Go.RowKit
set_option linter.unusedVariables false

/-- Bit i of an address. -/
def bitN (a : List UInt8) (i : Nat) : Bool := match a[i / 8]? with
  | some x => x.toNat.testBit (7 - i % 8)
  | none => false
def bitZ (a : List UInt8) (n : Int) : Bool := if n < 0 then false else bitN a n.toNat
/-- A byte with its first l bits alone. -/
def maskB (l : Int) (x : UInt8) : UInt8 := if l ≤ 0 then 0 else if l < 8 then UInt8.ofNat (x.toNat / 2 ^ (8 - l.toNat) * 2 ^ (8 - l.toNat)) else x
def maskS (a : List UInt8) (n : Int) : List UInt8 := a.mapIdx fun i x => maskB (n - 8 * (i : Int)) x
theorem maskS_len (a : List UInt8) (n : Int) : (maskS a n).length = a.length := by simp [maskS]
theorem maskS_at (a : List UInt8) (n : Int) (k : Nat) (hk : k < a.length) : (maskS a n)[k]? = some (maskB (n - 8 * (k : Int)) a[k]) := by
  simp [maskS, List.getElem?_mapIdx, List.getElem?_eq_getElem hk]
theorem byte_ext {x y : UInt8} (h : ∀ j, j < 8 → x.toNat.testBit j = y.toNat.testBit j) : x = y := by
  apply UInt8.toNat_inj.1
  apply Nat.eq_of_testBit_eq
  intro j
  rcases Nat.lt_or_ge j 8 with hj | hj
  · exact h j hj
  · have h8 : ∀ z : UInt8, z.toNat.testBit j = false := fun z => Nat.testBit_lt_two_pow (Nat.lt_of_lt_of_le z.toNat_lt (Nat.pow_le_pow_right (by omega) hj))
    rw [h8, h8]
theorem bitN_at {a : List UInt8} {k j : Nat} (hj : j < 8) {x : UInt8} (h : a[k]? = some x) : bitN a (8 * k + j) = x.toNat.testBit (7 - j) := by
  unfold bitN
  rw [show (8 * k + j) / 8 = k by omega, show (8 * k + j) % 8 = j by omega, h]
theorem bits_ext {a b : List UInt8} (hl : a.length = b.length) (h : ∀ i, i < 8 * a.length → bitN a i = bitN b i) : a = b := by
  refine List.ext_getElem hl fun k h1 h2 => byte_ext fun j hj => ?_
  have := h (8 * k + (7 - j)) (by omega)
  rw [bitN_at (by omega) (List.getElem?_eq_getElem h1), bitN_at (by omega) (List.getElem?_eq_getElem h2), show 7 - (7 - j) = j by omega] at this
  exact this
theorem maskB_bit (l : Int) (x : UInt8) (j : Nat) (hj : j < 8) : (maskB l x).toNat.testBit (7 - j) = (decide ((j : Int) < l) && x.toNat.testBit (7 - j)) := by
  unfold maskB
  split
  · rw [decide_eq_false (by omega)]
    simp
  · split
    · have hx := x.toNat_lt
      have hle : x.toNat / 2 ^ (8 - l.toNat) * 2 ^ (8 - l.toNat) ≤ x.toNat := Nat.div_mul_le_self _ _
      rw [UInt8.toNat_ofNat', Nat.mod_eq_of_lt (by omega), Nat.testBit_mul_two_pow, Nat.testBit_div_two_pow]
      by_cases h : 8 - l.toNat ≤ 7 - j
      · rw [decide_eq_true h, decide_eq_true (by omega), Nat.sub_add_cancel h]
      · rw [decide_eq_false h, decide_eq_false (by omega)]
        rfl
    · rw [decide_eq_true (by omega)]
      rfl
theorem mask_bit (a : List UInt8) (n : Int) (i : Nat) (hi : i < 8 * a.length) : bitN (maskS a n) i = (decide ((i : Int) < n) && bitN a i) := by
  have hk : i / 8 < a.length := by omega
  have h8 : i = 8 * (i / 8) + i % 8 := by omega
  rw [h8, bitN_at (by omega) (maskS_at a n _ hk), bitN_at (by omega) (List.getElem?_eq_getElem hk), maskB_bit _ _ _ (by omega)]
  congr 1
  apply decide_eq_decide.2
  omega
theorem bitN_out (a : List UInt8) (i : Nat) (hi : 8 * a.length ≤ i) : bitN a i = false := by
  unfold bitN
  rw [List.getElem?_eq_none (by omega)]
/-- Cut to the same bits. -/
theorem mask_eq {a b : List UInt8} (hl : a.length = b.length) (n : Int) : maskS a n = maskS b n ↔ ∀ i : Nat, (i : Int) < n → bitN a i = bitN b i := by
  constructor
  · intro h i hi
    rcases Nat.lt_or_ge i (8 * a.length) with hlt | hge
    · have h1 := mask_bit a n i hlt
      rw [h, mask_bit b n i (by omega), decide_eq_true hi] at h1
      simpa using h1.symm
    · rw [bitN_out a i hge, bitN_out b i (by omega)]
  · intro h
    refine bits_ext (by rw [maskS_len, maskS_len, hl]) fun i hi => ?_
    rw [maskS_len] at hi
    rw [mask_bit a n i hi, mask_bit b n i (by omega)]
    by_cases hn : (i : Int) < n
    · rw [h i hn]
    · rw [decide_eq_false hn]
      rfl
/-- What is cut to its own bits. -/
theorem mask_self (a : List UInt8) (n : Int) : maskS a n = a ↔ ∀ i : Nat, n ≤ (i : Int) → i < 8 * a.length → bitN a i = false := by
  constructor
  · intro h i hn hi
    rw [← h, mask_bit a n i hi, decide_eq_false (by omega)]
    rfl
  · intro h
    refine bits_ext (maskS_len a n) fun i hi => ?_
    rw [maskS_len] at hi
    rw [mask_bit a n i hi]
    by_cases hn : (i : Int) < n
    · rw [decide_eq_true hn]
      rfl
    · rw [decide_eq_false hn, h i (by omega) hi]
      rfl
theorem mask_mask (a : List UInt8) (n m : Int) : maskS (maskS a n) m = maskS a (min n m) := by
  refine bits_ext (by simp [maskS_len]) fun i hi => ?_
  rw [maskS_len, maskS_len] at hi
  rw [mask_bit _ m i (by rw [maskS_len]; exact hi), mask_bit a n i hi, mask_bit a _ i hi, ← Bool.and_assoc]
  congr 1
  rw [← Bool.decide_and]
  apply decide_eq_decide.2
  omega
theorem mask_all (a : List UInt8) (n : Int) (h : 8 * (a.length : Int) ≤ n) : maskS a n = a := (mask_self a n).2 fun i h1 h2 => by omega
theorem mask_none (a : List UInt8) (n : Int) (h : n ≤ 0) : maskS a n = List.replicate a.length 0 := by
  refine List.ext_getElem (by simp [maskS_len]) fun k h1 h2 => ?_
  rw [maskS_len] at h1
  have := maskS_at a n k h1
  rw [List.getElem?_eq_getElem (by rw [maskS_len]; exact h1)] at this
  rw [Option.some.inj this, List.getElem_replicate]
  unfold maskB
  rw [if_pos (by omega)]
/-- One bit more. -/
theorem mask_step (a : List UInt8) (i : Nat) (hi : i < 8 * a.length) : ∃ x, (maskS a i)[i / 8]? = some x ∧
    (maskS a i).set (i / 8) (UInt8.ofNat (x.toNat ||| (if bitN a i then 2 ^ (7 - i % 8) else 0))) = maskS a ((i : Int) + 1) := by
  have hk : i / 8 < a.length := by omega
  have hk2 : i / 8 < (maskS a i).length := by rw [maskS_len]; exact hk
  refine ⟨(maskS a i)[i / 8], List.getElem?_eq_getElem hk2, ?_⟩
  refine bits_ext (by simp [maskS_len]) fun q hq => ?_
  rw [List.length_set, maskS_len] at hq
  rw [mask_bit a _ q hq]
  have hq8 : q = 8 * (q / 8) + q % 8 := by omega
  have h1 := mask_bit a i q hq
  by_cases hqk : q / 8 = i / 8
  · have hx : (maskS a i)[i / 8].toNat.testBit (7 - q % 8) = (decide ((q : Int) < (i : Int)) && bitN a q) := by
      rw [← h1]
      conv => rhs; rw [hq8]
      rw [hqk, bitN_at (by omega) (List.getElem?_eq_getElem hk2)]
    conv => lhs; rw [hq8]
    rw [hqk, bitN_at (x := UInt8.ofNat ((maskS a i)[i / 8].toNat ||| (if bitN a i then 2 ^ (7 - i % 8) else 0))) (by omega) (by rw [List.getElem?_set_self hk2])]
    have hlt : (maskS a i)[i / 8].toNat ||| (if bitN a i then 2 ^ (7 - i % 8) else 0) < 2 ^ 8 := by
      apply Nat.or_lt_two_pow (maskS a i)[i / 8].toNat_lt
      split
      · exact Nat.pow_lt_pow_right (by omega) (by omega)
      · decide
    rw [UInt8.toNat_ofNat', Nat.mod_eq_of_lt hlt, Nat.testBit_or, hx]
    by_cases hqi : q = i
    · subst hqi
      rw [decide_eq_false (by omega), decide_eq_true (by omega)]
      cases bitN a q
      · simp
      · simp [Nat.testBit_two_pow_self]
    · have hne : (if bitN a i then 2 ^ (7 - i % 8) else 0).testBit (7 - q % 8) = false := by
        split
        · rw [Nat.testBit_two_pow]
          simp
          omega
        · simp
      rw [hne, Bool.or_false]
      congr 1
      apply decide_eq_decide.2
      omega
  · have h2 : bitN ((maskS a i).set (i / 8) (UInt8.ofNat ((maskS a i)[i / 8].toNat ||| (if bitN a i then 2 ^ (7 - i % 8) else 0)))) q = bitN (maskS a i) q := by
      unfold bitN
      rw [List.getElem?_set_ne (Ne.symm hqk)]
    rw [h2, h1]
    congr 1
    apply decide_eq_decide.2
    omega
theorem splice_set {α : Type} (x y : List α) (hl : x.length = y.length) (k : Nat) (hk : k < x.length) : (x.take k ++ y.drop k).set k x[k] = x.take (k + 1) ++ y.drop (k + 1) := by
  have h1 : (x.take k).length = k := by simp; omega
  rw [List.set_append_right _ _ (by omega), h1, Nat.sub_self, List.drop_eq_getElem_cons (show k < y.length by omega), List.set_cons_zero, List.take_succ_eq_append_getElem hk, List.append_assoc, List.singleton_append]
theorem maskS_get (a : List UInt8) (n : Int) (k : Nat) (hk : k < a.length) : (maskS a n)[k]'(by rw [maskS_len]; exact hk) = maskB (n - 8 * (k : Int)) a[k] := by
  have := maskS_at a n k hk
  rw [List.getElem?_eq_getElem (by rw [maskS_len]; exact hk)] at this
  exact Option.some.inj this
/-- An address cut up to its byte k. -/
def maskK (a : List UInt8) (n : Int) (k : Nat) : List UInt8 := (maskS a n).take k ++ a.drop k
theorem maskK_len (a : List UInt8) (n : Int) (k : Nat) (hk : k ≤ a.length) : (maskK a n k).length = a.length := by
  unfold maskK
  simp [maskS_len]
  omega
theorem maskK_zero (a : List UInt8) (n : Int) : maskK a n 0 = a := by simp [maskK]
theorem maskK_all (a : List UInt8) (n : Int) : maskK a n a.length = maskS a n := by
  unfold maskK
  rw [List.drop_length, List.append_nil, List.take_of_length_le (by rw [maskS_len]; exact Nat.le_refl _)]
theorem maskK_at (a : List UInt8) (n : Int) (k : Nat) (hk : k < a.length) : (maskK a n k)[k]? = some a[k] := by
  unfold maskK
  rw [List.getElem?_append_right (by simp [maskS_len]; omega)]
  have h1 : ((maskS a n).take k).length = k := by simp [maskS_len]; omega
  rw [h1, Nat.sub_self, List.getElem?_drop, Nat.add_zero, List.getElem?_eq_getElem hk]
theorem maskK_set (a : List UInt8) (n : Int) (k : Nat) (hk : k < a.length) : (maskK a n k).set k (maskB (n - 8 * (k : Int)) a[k]) = maskK a n (k + 1) := by
  have := splice_set (maskS a n) a (maskS_len a n) k (by rw [maskS_len]; exact hk)
  rw [maskS_get a n k hk] at this
  exact this
theorem maskK_skip (a : List UInt8) (n : Int) (k : Nat) (hk : k < a.length) (h : 8 ≤ n - 8 * (k : Int)) : maskK a n k = maskK a n (k + 1) := by
  rw [← maskK_set a n k hk]
  have hb : maskB (n - 8 * (k : Int)) a[k] = a[k] := by unfold maskB; rw [if_neg (by omega), if_neg (by omega)]
  rw [hb]
  refine List.ext_getElem? fun j => ?_
  by_cases hj : j = k
  · subst hj
    rw [maskK_at a n j hk, List.getElem?_set_self (by rw [maskK_len _ _ _ (by omega)]; exact hk)]
  · rw [List.getElem?_set_ne (Ne.symm hj)]
theorem mask_and : ∀ (l : Nat), 1 ≤ l → l ≤ 7 → ∀ x : UInt8, (maskB (l : Int) x).toNat = x.toNat &&& (256 - 2 ^ (8 - l)) := by
  intro l h1 h7 x
  unfold maskB
  rw [if_neg (by omega), if_pos (by omega), Int.toNat_natCast]
  have hx := x.toNat_lt
  have hle : x.toNat / 2 ^ (8 - l) * 2 ^ (8 - l) ≤ x.toNat := Nat.div_mul_le_self _ _
  rw [UInt8.toNat_ofNat', Nat.mod_eq_of_lt (by omega)]
  generalize x.toNat = n at *
  have hd : ∀ n : Fin 256, ∀ l : Fin 8, 1 ≤ l.val → n.val / 2 ^ (8 - l.val) * 2 ^ (8 - l.val) = n.val &&& (256 - 2 ^ (8 - l.val)) := by decide +kernel
  exact hd ⟨n, hx⟩ ⟨l, by omega⟩ h1

structure Pfx where
  fam : Int
  rd : Nat
  addr : List UInt8
  len : Int
theorem Pfx.eq {a b : Pfx} (h1 : a.fam = b.fam) (h2 : a.rd = b.rd) (h3 : a.addr = b.addr) (h4 : a.len = b.len) : a = b := by
  cases a; cases b; simp_all
def sizeS (f : Int) : Int := if f = 1 ∨ f = 3 ∨ f = 4 then 4 else if f = 2 ∨ f = 5 then 16 else 0
def apartS (f : Int) : Bool := decide (f = 4 ∨ f = 5)
theorem sizeS_cases (f : Int) : sizeS f = 0 ∨ sizeS f = 4 ∨ sizeS f = 16 := by
  unfold sizeS
  split
  · exact .inr (.inl rfl)
  · split
    · exact .inr (.inr rfl)
    · exact .inl rfl
/-- All but the bits. -/
def formP (p : Pfx) : Prop := sizeS p.fam ≠ 0 ∧ (p.addr.length : Int) = sizeS p.fam ∧ 0 ≤ p.len ∧ p.len ≤ 8 * sizeS p.fam ∧ (p.rd = 0 ∨ apartS p.fam = true)
def MayP (p : Pfx) : Prop := formP p ∧ maskS p.addr p.len = p.addr
theorem formP.small {p : Pfx} (h : formP p) : p.addr.length ≤ 16 ∧ 0 ≤ p.len ∧ p.len ≤ 128 := by
  obtain ⟨_, h2, h3, h4, _⟩ := h
  rcases sizeS_cases p.fam with h | h | h <;> rw [h] at h2 h4 <;> omega
theorem MayP.bits {p : Pfx} (h : formP p) : MayP p ↔ ∀ i : Nat, p.len ≤ (i : Int) → (i : Int) < 8 * sizeS p.fam → bitN p.addr i = false := by
  unfold MayP
  rw [mask_self]
  constructor
  · intro ⟨_, h2⟩ i h3 h4
    exact h2 i h3 (by have := h.2.1; omega)
  · intro h2
    exact ⟨h, fun i h3 h4 => h2 i h3 (by have := h.2.1; omega)⟩
def errP (p : Prop) [Decidable p] : Int := if p then 0 else 2
noncomputable instance (p : Pfx) : Decidable (MayP p) := Classical.propDecidable _

/-- A prefix cut. -/
def cutOf (p : Pfx) (n : Int) : Pfx := ⟨p.fam, p.rd, maskS p.addr n, n⟩
def zeroP : Pfx := ⟨0, 0, [], 0⟩
def cutOk (p : Pfx) (n : Int) : Prop := MayP p ∧ 0 ≤ n ∧ n ≤ p.len
theorem cut_form {p : Pfx} {n : Int} (h : cutOk p n) : formP (cutOf p n) := by
  obtain ⟨⟨⟨h1, h2, h3, h4, h5⟩, _⟩, h6, h7⟩ := h
  exact ⟨h1, by show ((maskS p.addr n).length : Int) = _; rw [maskS_len]; exact h2, h6, Int.le_trans h7 h4, h5⟩
theorem cut_may {p : Pfx} {n : Int} (h : cutOk p n) : MayP (cutOf p n) := by
  refine ⟨cut_form h, ?_⟩
  show maskS (maskS p.addr n) n = _
  rw [mask_mask, Int.min_self]
  rfl
theorem zero_not : ¬ MayP zeroP := fun h => h.1.1 rfl
/-- a covers b. -/
def Cov (a b : Pfx) : Prop := MayP b ∧ 0 ≤ a.len ∧ a.len ≤ b.len ∧ cutOf b a.len = a
theorem Cov.iff {a b : Pfx} : Cov a b ↔ MayP a ∧ MayP b ∧ a.fam = b.fam ∧ a.rd = b.rd ∧ a.len ≤ b.len ∧ ∀ i : Nat, (i : Int) < a.len → bitN a.addr i = bitN b.addr i := by
  constructor
  · rintro ⟨hb, h0, hl, hc⟩
    have hm := cut_may ⟨hb, h0, hl⟩
    rw [hc] at hm
    have hf := congrArg Pfx.fam hc
    have hr := congrArg Pfx.rd hc
    replace hf : b.fam = a.fam := hf
    replace hr : b.rd = a.rd := hr
    have ha : maskS b.addr a.len = a.addr := congrArg Pfx.addr hc
    refine ⟨hm, hb, hf.symm, hr.symm, hl, fun i hi => ?_⟩
    rcases Nat.lt_or_ge i (8 * b.addr.length) with hlt | hge
    · rw [← ha, mask_bit _ _ _ hlt, decide_eq_true hi]
      rfl
    · rw [bitN_out _ _ hge, bitN_out _ _ (by rw [← ha, maskS_len]; exact hge)]
  · rintro ⟨ha, hb, hf, hr, hl, hbit⟩
    refine ⟨hb, ha.1.2.2.1, hl, Pfx.eq hf.symm hr.symm ?_ rfl⟩
    have hlen : a.addr.length = b.addr.length := by
      have h1 := ha.1.2.1
      have h2 := hb.1.2.1
      rw [hf] at h1
      omega
    show maskS b.addr a.len = a.addr
    rw [← (mask_eq hlen a.len).2 hbit]
    exact ha.2

/-- The order of two prefixes. -/
def cmpP (a b : Pfx) : Int :=
  if a.fam ≠ b.fam then Lib.compareInt a.fam b.fam else if a.rd ≠ b.rd then Lib.compareInt a.rd b.rd
  else if Lib.compareBytes a.addr b.addr ≠ 0 then Lib.compareBytes a.addr b.addr else Lib.compareInt a.len b.len
theorem ci_zero (x y : Int) : Lib.compareInt x y = 0 ↔ x = y := by
  unfold Lib.compareInt
  split
  · omega
  · split <;> omega
theorem ci_neg (x y : Int) : Lib.compareInt y x = - Lib.compareInt x y := by
  unfold Lib.compareInt
  split <;> split <;> first | rfl | omega | (split <;> first | rfl | omega)
theorem ci_cases (x y : Int) : (Lib.compareInt x y = -1 ∧ x < y) ∨ (Lib.compareInt x y = 0 ∧ x = y) ∨ (Lib.compareInt x y = 1 ∧ y < x) := by
  unfold Lib.compareInt
  split
  · exact .inl ⟨rfl, by assumption⟩
  · split
    · exact .inr (.inr ⟨rfl, by omega⟩)
    · exact .inr (.inl ⟨rfl, by omega⟩)
theorem cb_zero : ∀ (a b : List UInt8), Lib.compareBytes a b = 0 ↔ a = b := by
  intro a
  induction a with
  | nil => intro b; cases b <;> simp [Lib.compareBytes]
  | cons x a ih =>
    intro b
    cases b with
    | nil => simp [Lib.compareBytes]
    | cons y b =>
      simp only [Lib.compareBytes]
      split
      · rename_i h
        simp only [List.cons.injEq]
        constructor
        · intro h; cases h
        · rintro ⟨rfl, _⟩
          exact absurd h (UInt8.lt_irrefl _)
      · split
        · rename_i h
          constructor
          · intro h; cases h
          · intro h2
            injection h2 with h2 _
            subst h2
            exact absurd h (UInt8.lt_irrefl _)
        · rename_i h1 h2
          rw [ih]
          have : x = y := UInt8.le_antisymm (UInt8.not_lt.1 h2) (UInt8.not_lt.1 h1)
          simp [this]
theorem cb_neg : ∀ (a b : List UInt8), Lib.compareBytes b a = - Lib.compareBytes a b := by
  intro a
  induction a with
  | nil => intro b; cases b <;> simp [Lib.compareBytes]
  | cons x a ih =>
    intro b
    cases b with
    | nil => simp [Lib.compareBytes]
    | cons y b =>
      simp only [Lib.compareBytes]
      rcases Nat.lt_trichotomy x.toNat y.toNat with h | h | h
      · have h1 : x < y := UInt8.lt_iff_toNat_lt.2 h
        have h2 : ¬ y < x := fun h3 => by have := UInt8.lt_iff_toNat_lt.1 h3; omega
        simp [h1, h2]
      · obtain rfl : x = y := UInt8.toNat_inj.1 h
        simp [UInt8.lt_irrefl, ih]
      · have h1 : y < x := UInt8.lt_iff_toNat_lt.2 h
        have h2 : ¬ x < y := fun h3 => by have := UInt8.lt_iff_toNat_lt.1 h3; omega
        simp [h1, h2]
theorem cb_cases : ∀ (a b : List UInt8), Lib.compareBytes a b = -1 ∨ Lib.compareBytes a b = 0 ∨ Lib.compareBytes a b = 1 := by
  intro a
  induction a with
  | nil => intro b; cases b <;> simp [Lib.compareBytes]
  | cons x a ih =>
    intro b
    cases b with
    | nil => simp [Lib.compareBytes]
    | cons y b =>
      simp only [Lib.compareBytes]
      split
      · exact .inl rfl
      · split
        · exact .inr (.inr rfl)
        · exact ih b
theorem cb_trans : ∀ (a b c : List UInt8), Lib.compareBytes a b ≤ 0 → Lib.compareBytes b c ≤ 0 → Lib.compareBytes a c ≤ 0 := by
  intro a
  induction a with
  | nil => intro b c _ _; cases c <;> simp [Lib.compareBytes]
  | cons x a ih =>
    intro b c h1 h2
    cases b with
    | nil => simp [Lib.compareBytes] at h1
    | cons y b =>
      cases c with
      | nil => simp [Lib.compareBytes] at h2
      | cons z c =>
        simp only [Lib.compareBytes] at h1 h2 ⊢
        have e : ∀ p q : UInt8, p < q ↔ p.toNat < q.toNat := fun p q => UInt8.lt_iff_toNat_lt
        simp only [e] at h1 h2 ⊢
        split at h1
        · split at h2
          · rw [if_pos (by omega)]; decide
          · split at h2
            · omega
            · rw [if_pos (by omega)]; decide
        · split at h1
          · omega
          · split at h2
            · rw [if_pos (by omega)]; decide
            · split at h2
              · omega
              · rw [if_neg (by omega), if_neg (by omega)]
                exact ih b c h1 h2
theorem cmp_neg (a b : Pfx) : cmpP b a = - cmpP a b := by
  unfold cmpP
  by_cases h1 : a.fam = b.fam
  · by_cases h2 : a.rd = b.rd
    · by_cases h3 : Lib.compareBytes a.addr b.addr = 0
      · have h4 : Lib.compareBytes b.addr a.addr = 0 := by rw [cb_neg, h3]; rfl
        simp [h1, h2, h3, h4, ci_neg a.len b.len]
      · have h4 : ¬ Lib.compareBytes b.addr a.addr = 0 := by rw [cb_neg]; omega
        simp [h1, h2, h3, cb_neg a.addr b.addr]
    · have h4 : ¬ b.rd = a.rd := fun h => h2 h.symm
      simp [h1, h2, h4, ci_neg (a.rd : Int) b.rd]
  · have h4 : ¬ b.fam = a.fam := fun h => h1 h.symm
    simp [h1, h4, ci_neg a.fam b.fam]
theorem cmp_zero (a b : Pfx) : cmpP a b = 0 ↔ a = b := by
  unfold cmpP
  constructor
  · intro h
    split at h
    · rename_i h1; exact absurd ((ci_zero _ _).1 h) h1
    · rename_i h1
      split at h
      · rename_i h2; exact absurd ((ci_zero _ _).1 h) (by omega)
      · rename_i h2
        split at h
        · rename_i h3; exact absurd h h3
        · rename_i h3
          exact Pfx.eq (by simpa using h1) (by simpa using h2) ((cb_zero _ _).1 (by simpa using h3)) ((ci_zero _ _).1 h)
  · rintro rfl
    have h1 : Lib.compareBytes a.addr a.addr = 0 := (cb_zero _ _).2 rfl
    have h2 : Lib.compareInt a.len a.len = 0 := (ci_zero _ _).2 rfl
    simp [h1, h2]
theorem cmp_cases (a b : Pfx) : cmpP a b = -1 ∨ cmpP a b = 0 ∨ cmpP a b = 1 := by
  have hc : ∀ x y : Int, Lib.compareInt x y = -1 ∨ Lib.compareInt x y = 0 ∨ Lib.compareInt x y = 1 := fun x y => by rcases ci_cases x y with ⟨h, _⟩ | ⟨h, _⟩ | ⟨h, _⟩ <;> simp [h]
  unfold cmpP
  split
  · exact hc _ _
  · split
    · exact hc _ _
    · split
      · exact cb_cases _ _
      · exact hc _ _
theorem cmp_le (a b : Pfx) : cmpP a b ≤ 0 ↔ a.fam < b.fam ∨ (a.fam = b.fam ∧ (a.rd < b.rd ∨ (a.rd = b.rd ∧ (Lib.compareBytes a.addr b.addr < 0 ∨ (Lib.compareBytes a.addr b.addr = 0 ∧ a.len ≤ b.len))))) := by
  have hc : ∀ x y : Int, Lib.compareInt x y ≤ 0 ↔ x ≤ y := fun x y => by rcases ci_cases x y with ⟨h, _⟩ | ⟨h, _⟩ | ⟨h, _⟩ <;> rw [h] <;> omega
  unfold cmpP
  by_cases h1 : a.fam = b.fam
  · by_cases h2 : a.rd = b.rd
    · by_cases h3 : Lib.compareBytes a.addr b.addr = 0
      · simp [h1, h2, h3, hc]
      · simp [h1, h2, h3]
        omega
    · simp [h1, h2, hc]
      omega
  · simp [h1, hc]
    omega
theorem cmp_trans (a b c : Pfx) (h1 : cmpP a b ≤ 0) (h2 : cmpP b c ≤ 0) : cmpP a c ≤ 0 := by
  rw [cmp_le] at h1 h2 ⊢
  have ht := cb_trans a.addr b.addr c.addr
  rcases h1 with h1 | ⟨e1, h1⟩
  · rcases h2 with h2 | ⟨e2, _⟩ <;> exact .inl (by omega)
  · rcases h2 with h2 | ⟨e2, h2⟩
    · exact .inl (by omega)
    · refine .inr ⟨by omega, ?_⟩
      rcases h1 with h1 | ⟨f1, h1⟩
      · rcases h2 with h2 | ⟨f2, _⟩ <;> exact .inl (by omega)
      · rcases h2 with h2 | ⟨f2, h2⟩
        · exact .inl (by omega)
        · refine .inr ⟨by omega, ?_⟩
          have h3 := ht (by rcases h1 with h | ⟨h, _⟩ <;> omega) (by rcases h2 with h | ⟨h, _⟩ <;> omega)
          rcases Int.lt_or_eq_of_le h3 with h4 | h4
          · exact .inl h4
          · refine .inr ⟨h4, ?_⟩
            have he : a.addr = c.addr := (cb_zero _ _).1 h4
            rcases h1 with h1 | ⟨g1, h1⟩
            · rcases h2 with h2 | ⟨g2, h2⟩
              · exfalso
                have := cb_neg a.addr b.addr
                rw [he] at this h1
                omega
              · exfalso
                have hb := (cb_zero _ _).1 g2
                rw [he, hb] at h1
                have := (cb_zero c.addr c.addr).2 rfl
                omega
            · rcases h2 with h2 | ⟨g2, h2⟩
              · exfalso
                have hb := (cb_zero _ _).1 g1
                rw [← hb, he] at h2
                have := (cb_zero c.addr c.addr).2 rfl
                omega
              · omega
/- The order of bytes, byte by byte. -/
theorem cb_skip : ∀ (i : Nat) (a b : List UInt8), i ≤ a.length → i ≤ b.length → a.take i = b.take i → Lib.compareBytes a b = Lib.compareBytes (a.drop i) (b.drop i) := by
  intro i
  induction i with
  | zero => intro a b _ _ _; rfl
  | succ i ih =>
    intro a b ha hb h
    cases a with
    | nil => simp at ha
    | cons x a =>
      cases b with
      | nil => simp at hb
      | cons y b =>
        simp only [List.take_succ_cons, List.cons.injEq] at h
        obtain ⟨rfl, h⟩ := h
        simp only [List.length_cons] at ha hb
        rw [List.drop_succ_cons, List.drop_succ_cons, ← ih a b (by omega) (by omega) h]
        simp only [Lib.compareBytes]
        rw [if_neg (UInt8.lt_irrefl x), if_neg (UInt8.lt_irrefl x)]
theorem cb_at {a b : List UInt8} {i : Nat} (hi : i < a.length) (hj : i < b.length) (h : a.take i = b.take i) (hne : a[i] ≠ b[i]) : Lib.compareBytes a b = Lib.compareInt (a[i].toNat : Int) (b[i].toNat : Int) := by
  rw [cb_skip i a b (by omega) (by omega) h, List.drop_eq_getElem_cons hi, List.drop_eq_getElem_cons hj]
  simp only [Lib.compareBytes]
  unfold Lib.compareInt
  have hn : a[i].toNat ≠ b[i].toNat := fun he => hne (UInt8.toNat_inj.1 he)
  simp only [UInt8.lt_iff_toNat_lt]
  by_cases h1 : a[i].toNat < b[i].toNat
  · rw [if_pos h1, if_pos (by omega)]
  · rw [if_neg h1, if_pos (show b[i].toNat < a[i].toNat by omega), if_neg (show ¬ ((a[i].toNat : Int) < (b[i].toNat : Int)) by omega), if_pos (show (b[i].toNat : Int) < (a[i].toNat : Int) by omega)]
theorem cb_end {a b : List UInt8} {i : Nat} (hi : i ≤ a.length) (hj : i ≤ b.length) (he : i = a.length ∨ i = b.length) (h : a.take i = b.take i) : Lib.compareBytes a b = Lib.compareInt (a.length : Int) (b.length : Int) := by
  rw [cb_skip i a b hi hj h]
  have e1 : ((a.length : Int) < (b.length : Int)) ↔ (a.drop i = [] ∧ b.drop i ≠ []) := by
    rw [List.drop_eq_nil_iff, ne_eq, List.drop_eq_nil_iff]
    omega
  have e2 : ((b.length : Int) < (a.length : Int)) ↔ (b.drop i = [] ∧ a.drop i ≠ []) := by
    rw [List.drop_eq_nil_iff, ne_eq, List.drop_eq_nil_iff]
    omega
  have e3 : a.drop i = [] ∨ b.drop i = [] := by
    rw [List.drop_eq_nil_iff, List.drop_eq_nil_iff]
    omega
  unfold Lib.compareInt
  simp only [e1, e2]
  generalize a.drop i = x at *
  generalize b.drop i = y at *
  cases x with
  | nil => cases y <;> simp [Lib.compareBytes]
  | cons p x =>
    cases y with
    | nil => simp [Lib.compareBytes]
    | cons q y => rcases e3 with h | h <;> cases h
theorem take_next {a b : List UInt8} {i : Nat} (hi : i < a.length) (hj : i < b.length) (h : a.take i = b.take i) (he : a[i] = b[i]) : a.take (i + 1) = b.take (i + 1) := by
  rw [List.take_succ_eq_append_getElem hi, List.take_succ_eq_append_getElem hj, h, he]

theorem OwnB.set {e : TypeId} {w : World} {B g n c : Nat} {l : List UInt8} (h : OwnB e w B (.slice (some ⟨g, 0, none⟩) n c) l) (j : Nat) (x : UInt8) :
    OwnB e (w.setCell ⟨g, j, none⟩ (.int .u8 (x.toNat : Int))) B (.slice (some ⟨g, 0, none⟩) n c) (l.set j x) := by
  rcases h with ⟨hv, _⟩ | ⟨g', cap, cur, fz, hv, hb, hg, hfz, hlc, hm, hcs, htk⟩
  · cases hv
  · injection hv with e1 e2 e3
    injection e1 with e1
    injection e1 with e1
    subst e1 e2 e3
    refine .inr ⟨g, c, cur.setIfInBounds j (.int .u8 (x.toNat : Int)), fz, by rw [List.length_set], hb, by simp [World.setCell, Array.getElem?_modify, hg], hfz, by simpa using hlc, hm, by simpa using hcs, ?_⟩
    rw [List.length_set, Array.toList_setIfInBounds, List.take_set, htk]
    simp [encB, List.map_set]
theorem OwnB.setExt {a w : World} (h : Ext a w) {g : Nat} (hg : a.heap.size ≤ g) (j : Nat) (u : Value) : Ext a (w.setCell ⟨g, j, none⟩ u) := h.setCell hg u
/-- The row's address. -/
theorem OwnB.formNe {e : TypeId} {w : World} {B : Nat} {v : Value} {l : List UInt8} (h : OwnB e w B v l) (hl : l ≠ []) : ∃ g c, v = .slice (some ⟨g, 0, none⟩) l.length c ∧ B ≤ g := by
  rcases h with ⟨_, h⟩ | ⟨g, cap, cur, fz, rfl, hb, _⟩
  · exact absurd h hl
  · exact ⟨g, cap, rfl, hb⟩
/-- A block of zeros as a row of bytes. -/
theorem OwnB.zeros {e : TypeId} (w : World) (n : Nat) (hn : n ≤ maxLen) : OwnB e (w.alloc (.cells (Array.replicate n (.int .u8 0)) e)) w.heap.size (.slice (some ⟨w.heap.size, 0, none⟩) n n) (List.replicate n 0) := by
  refine .inr ⟨w.heap.size, n, _, (0, 0), by rw [List.length_replicate], Nat.le_refl _, heap_alloc_new w _, .inr rfl, by simp, hn, by simp, ?_⟩
  simp [encB]
end Go.Proofs.YtljibkfbldjgdaaGreatDoor
