/- Bits of an address; an address cut to its first bits. -/
import Derived.Test.YtoghdmoldcjedaaGreatDoorBytes
namespace Go.Proofs.YtoghdmoldcjedaaGreatDoor
open Go.RowKit
set_option linter.unusedVariables false

/-- Bit i of an address. -/
def bitN (a : List UInt8) (i : Nat) : Bool := match a[i / 8]? with
  | some x => x.toNat.testBit (7 - i % 8)
  | none => false
def bitZ (a : List UInt8) (n : Int) : Bool := if n < 0 then false else bitN a n.toNat
/-- A byte with its first l bits alone. -/
def maskB (l : Int) (x : UInt8) : UInt8 := if l ≤ 0 then 0 else if l < 8 then UInt8.ofNat (x.toNat / 2 ^ (8 - l.toNat) * 2 ^ (8 - l.toNat)) else x
def maskS (a : List UInt8) (n : Int) : List UInt8 := a.mapIdx fun i x => maskB (n - 8 * (i : Int)) x
theorem maskS_len (a : List UInt8) (n : Int) : (maskS a n).length = a.length := by simp [maskS]
theorem maskS_at (a : List UInt8) (n : Int) (k : Nat) (hk : k < a.length) : (maskS a n)[k]? = some (maskB (n - 8 * (k : Int)) a[k]) := by
  simp [maskS, List.getElem?_mapIdx, List.getElem?_eq_getElem hk]
theorem byte_ext {x y : UInt8} (h : ∀ j, j < 8 → x.toNat.testBit j = y.toNat.testBit j) : x = y := by
  apply UInt8.toNat_inj.1
  apply Nat.eq_of_testBit_eq
  intro j
  rcases Nat.lt_or_ge j 8 with hj | hj
  · exact h j hj
  · have h8 : ∀ z : UInt8, z.toNat.testBit j = false := fun z => Nat.testBit_lt_two_pow (Nat.lt_of_lt_of_le z.toNat_lt (Nat.pow_le_pow_right (by omega) hj))
    rw [h8, h8]
theorem bitN_at {a : List UInt8} {k j : Nat} (hj : j < 8) {x : UInt8} (h : a[k]? = some x) : bitN a (8 * k + j) = x.toNat.testBit (7 - j) := by
  unfold bitN
  rw [show (8 * k + j) / 8 = k by omega, show (8 * k + j) % 8 = j by omega, h]
theorem bits_ext {a b : List UInt8} (hl : a.length = b.length) (h : ∀ i, i < 8 * a.length → bitN a i = bitN b i) : a = b := by
  refine List.ext_getElem hl fun k h1 h2 => byte_ext fun j hj => ?_
  have := h (8 * k + (7 - j)) (by omega)
  rw [bitN_at (by omega) (List.getElem?_eq_getElem h1), bitN_at (by omega) (List.getElem?_eq_getElem h2), show 7 - (7 - j) = j by omega] at this
  exact this
theorem maskB_bit (l : Int) (x : UInt8) (j : Nat) (hj : j < 8) : (maskB l x).toNat.testBit (7 - j) = (decide ((j : Int) < l) && x.toNat.testBit (7 - j)) := by
  unfold maskB
  split
  · rw [decide_eq_false (by omega)]
    simp
  · split
    · have hx := x.toNat_lt
      have hle : x.toNat / 2 ^ (8 - l.toNat) * 2 ^ (8 - l.toNat) ≤ x.toNat := Nat.div_mul_le_self _ _
      rw [UInt8.toNat_ofNat', Nat.mod_eq_of_lt (by omega), Nat.testBit_mul_two_pow, Nat.testBit_div_two_pow]
      by_cases h : 8 - l.toNat ≤ 7 - j
      · rw [decide_eq_true h, decide_eq_true (by omega), Nat.sub_add_cancel h]
      · rw [decide_eq_false h, decide_eq_false (by omega)]
        rfl
    · rw [decide_eq_true (by omega)]
      rfl
theorem mask_bit (a : List UInt8) (n : Int) (i : Nat) (hi : i < 8 * a.length) : bitN (maskS a n) i = (decide ((i : Int) < n) && bitN a i) := by
  have hk : i / 8 < a.length := by omega
  have h8 : i = 8 * (i / 8) + i % 8 := by omega
  rw [h8, bitN_at (by omega) (maskS_at a n _ hk), bitN_at (by omega) (List.getElem?_eq_getElem hk), maskB_bit _ _ _ (by omega)]
  congr 1
  apply decide_eq_decide.2
  omega
theorem bitN_out (a : List UInt8) (i : Nat) (hi : 8 * a.length ≤ i) : bitN a i = false := by
  unfold bitN
  rw [List.getElem?_eq_none (by omega)]
/-- Cut to the same bits. -/
theorem mask_eq {a b : List UInt8} (hl : a.length = b.length) (n : Int) : maskS a n = maskS b n ↔ ∀ i : Nat, (i : Int) < n → bitN a i = bitN b i := by
  constructor
  · intro h i hi
    rcases Nat.lt_or_ge i (8 * a.length) with hlt | hge
    · have h1 := mask_bit a n i hlt
      rw [h, mask_bit b n i (by omega), decide_eq_true hi] at h1
      simpa using h1.symm
    · rw [bitN_out a i hge, bitN_out b i (by omega)]
  · intro h
    refine bits_ext (by rw [maskS_len, maskS_len, hl]) fun i hi => ?_
    rw [maskS_len] at hi
    rw [mask_bit a n i hi, mask_bit b n i (by omega)]
    by_cases hn : (i : Int) < n
    · rw [h i hn]
    · rw [decide_eq_false hn]
      rfl
/-- What is cut to its own bits. -/
theorem mask_self (a : List UInt8) (n : Int) : maskS a n = a ↔ ∀ i : Nat, n ≤ (i : Int) → i < 8 * a.length → bitN a i = false := by
  constructor
  · intro h i hn hi
    rw [← h, mask_bit a n i hi, decide_eq_false (by omega)]
    rfl
  · intro h
    refine bits_ext (maskS_len a n) fun i hi => ?_
    rw [maskS_len] at hi
    rw [mask_bit a n i hi]
    by_cases hn : (i : Int) < n
    · rw [decide_eq_true hn]
      rfl
    · rw [decide_eq_false hn, h i (by omega) hi]
      rfl
theorem mask_mask (a : List UInt8) (n m : Int) : maskS (maskS a n) m = maskS a (min n m) := by
  refine bits_ext (by simp [maskS_len]) fun i hi => ?_
  rw [maskS_len, maskS_len] at hi
  rw [mask_bit _ m i (by rw [maskS_len]; exact hi), mask_bit a n i hi, mask_bit a _ i hi, ← Bool.and_assoc]
  congr 1
  rw [← Bool.decide_and]
  apply decide_eq_decide.2
  omega
theorem mask_all (a : List UInt8) (n : Int) (h : 8 * (a.length : Int) ≤ n) : maskS a n = a := (mask_self a n).2 fun i h1 h2 => by omega
theorem mask_none (a : List UInt8) (n : Int) (h : n ≤ 0) : maskS a n = List.replicate a.length 0 := by
  refine List.ext_getElem (by simp [maskS_len]) fun k h1 h2 => ?_
  rw [maskS_len] at h1
  have := maskS_at a n k h1
  rw [List.getElem?_eq_getElem (by rw [maskS_len]; exact h1)] at this
  rw [Option.some.inj this, List.getElem_replicate]
  unfold maskB
  rw [if_pos (by omega)]
/-- One bit more. -/
theorem mask_step (a : List UInt8) (i : Nat) (hi : i < 8 * a.length) : ∃ x, (maskS a i)[i / 8]? = some x ∧
    (maskS a i).set (i / 8) (UInt8.ofNat (x.toNat ||| (if bitN a i then 2 ^ (7 - i % 8) else 0))) = maskS a ((i : Int) + 1) := by
  have hk : i / 8 < a.length := by omega
  have hk2 : i / 8 < (maskS a i).length := by rw [maskS_len]; exact hk
  refine ⟨(maskS a i)[i / 8], List.getElem?_eq_getElem hk2, ?_⟩
  refine bits_ext (by simp [maskS_len]) fun q hq => ?_
  rw [List.length_set, maskS_len] at hq
  rw [mask_bit a _ q hq]
  have hq8 : q = 8 * (q / 8) + q % 8 := by omega
  have h1 := mask_bit a i q hq
  by_cases hqk : q / 8 = i / 8
  · have hx : (maskS a i)[i / 8].toNat.testBit (7 - q % 8) = (decide ((q : Int) < (i : Int)) && bitN a q) := by
      rw [← h1]
      conv => rhs; rw [hq8]
      rw [hqk, bitN_at (by omega) (List.getElem?_eq_getElem hk2)]
    conv => lhs; rw [hq8]
    rw [hqk, bitN_at (x := UInt8.ofNat ((maskS a i)[i / 8].toNat ||| (if bitN a i then 2 ^ (7 - i % 8) else 0))) (by omega) (by rw [List.getElem?_set_self hk2])]
    have hlt : (maskS a i)[i / 8].toNat ||| (if bitN a i then 2 ^ (7 - i % 8) else 0) < 2 ^ 8 := by
      apply Nat.or_lt_two_pow (maskS a i)[i / 8].toNat_lt
      split
      · exact Nat.pow_lt_pow_right (by omega) (by omega)
      · decide
    rw [UInt8.toNat_ofNat', Nat.mod_eq_of_lt hlt, Nat.testBit_or, hx]
    by_cases hqi : q = i
    · subst hqi
      rw [decide_eq_false (by omega), decide_eq_true (by omega)]
      cases bitN a q
      · simp
      · simp [Nat.testBit_two_pow_self]
    · have hne : (if bitN a i then 2 ^ (7 - i % 8) else 0).testBit (7 - q % 8) = false := by
        split
        · rw [Nat.testBit_two_pow]
          simp
          omega
        · simp
      rw [hne, Bool.or_false]
      congr 1
      apply decide_eq_decide.2
      omega
  · have h2 : bitN ((maskS a i).set (i / 8) (UInt8.ofNat ((maskS a i)[i / 8].toNat ||| (if bitN a i then 2 ^ (7 - i % 8) else 0)))) q = bitN (maskS a i) q := by
      unfold bitN
      rw [List.getElem?_set_ne (Ne.symm hqk)]
    rw [h2, h1]
    congr 1
    apply decide_eq_decide.2
    omega
theorem splice_set {α : Type} (x y : List α) (hl : x.length = y.length) (k : Nat) (hk : k < x.length) : (x.take k ++ y.drop k).set k x[k] = x.take (k + 1) ++ y.drop (k + 1) := by
  have h1 : (x.take k).length = k := by simp; omega
  rw [List.set_append_right _ _ (by omega), h1, Nat.sub_self, List.drop_eq_getElem_cons (show k < y.length by omega), List.set_cons_zero, List.take_succ_eq_append_getElem hk, List.append_assoc, List.singleton_append]
theorem maskS_get (a : List UInt8) (n : Int) (k : Nat) (hk : k < a.length) : (maskS a n)[k]'(by rw [maskS_len]; exact hk) = maskB (n - 8 * (k : Int)) a[k] := by
  have := maskS_at a n k hk
  rw [List.getElem?_eq_getElem (by rw [maskS_len]; exact hk)] at this
  exact Option.some.inj this
/-- An address cut up to its byte k. -/
def maskK (a : List UInt8) (n : Int) (k : Nat) : List UInt8 := (maskS a n).take k ++ a.drop k
theorem maskK_len (a : List UInt8) (n : Int) (k : Nat) (hk : k ≤ a.length) : (maskK a n k).length = a.length := by
  unfold maskK
  simp [maskS_len]
  omega
theorem maskK_zero (a : List UInt8) (n : Int) : maskK a n 0 = a := by simp [maskK]
theorem maskK_all (a : List UInt8) (n : Int) : maskK a n a.length = maskS a n := by
  unfold maskK
  rw [List.drop_length, List.append_nil, List.take_of_length_le (by rw [maskS_len]; exact Nat.le_refl _)]
theorem maskK_at (a : List UInt8) (n : Int) (k : Nat) (hk : k < a.length) : (maskK a n k)[k]? = some a[k] := by
  unfold maskK
  rw [List.getElem?_append_right (by simp [maskS_len]; omega)]
  have h1 : ((maskS a n).take k).length = k := by simp [maskS_len]; omega
  rw [h1, Nat.sub_self, List.getElem?_drop, Nat.add_zero, List.getElem?_eq_getElem hk]
theorem maskK_set (a : List UInt8) (n : Int) (k : Nat) (hk : k < a.length) : (maskK a n k).set k (maskB (n - 8 * (k : Int)) a[k]) = maskK a n (k + 1) := by
  have := splice_set (maskS a n) a (maskS_len a n) k (by rw [maskS_len]; exact hk)
  rw [maskS_get a n k hk] at this
  exact this
theorem maskK_skip (a : List UInt8) (n : Int) (k : Nat) (hk : k < a.length) (h : 8 ≤ n - 8 * (k : Int)) : maskK a n k = maskK a n (k + 1) := by
  rw [← maskK_set a n k hk]
  have hb : maskB (n - 8 * (k : Int)) a[k] = a[k] := by unfold maskB; rw [if_neg (by omega), if_neg (by omega)]
  rw [hb]
  refine List.ext_getElem? fun j => ?_
  by_cases hj : j = k
  · subst hj
    rw [maskK_at a n j hk, List.getElem?_set_self (by rw [maskK_len _ _ _ (by omega)]; exact hk)]
  · rw [List.getElem?_set_ne (Ne.symm hj)]
theorem mask_and : ∀ (l : Nat), 1 ≤ l → l ≤ 7 → ∀ x : UInt8, (maskB (l : Int) x).toNat = x.toNat &&& (256 - 2 ^ (8 - l)) := by
  intro l h1 h7 x
  unfold maskB
  rw [if_neg (by omega), if_pos (by omega), Int.toNat_natCast]
  have hx := x.toNat_lt
  have hle : x.toNat / 2 ^ (8 - l) * 2 ^ (8 - l) ≤ x.toNat := Nat.div_mul_le_self _ _
  rw [UInt8.toNat_ofNat', Nat.mod_eq_of_lt (by omega)]
  generalize x.toNat = n at *
  have hd : ∀ n : Fin 256, ∀ l : Fin 8, 1 ≤ l.val → n.val / 2 ^ (8 - l.val) * 2 ^ (8 - l.val) = n.val &&& (256 - 2 ^ (8 - l.val)) := by decide +kernel
  exact hd ⟨n, hx⟩ ⟨l, by omega⟩ h1
end Go.Proofs.YtoghdmoldcjedaaGreatDoor
