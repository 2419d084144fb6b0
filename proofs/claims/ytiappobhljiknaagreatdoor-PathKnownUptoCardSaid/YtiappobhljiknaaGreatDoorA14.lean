/- The path of bytes: what is read, and that it is told by the same bytes. -/
import Derived.Test.YtiappobhljiknaaGreatDoorA4
namespace Go.Proofs.YtiappobhljiknaaGreatDoor
open Go.RowKit
set_option linter.unusedVariables false

def szF (four : Bool) : Nat := if four then 4 else 2
def val (l : List UInt8) : Nat := l.foldl (fun v b => v * 256 + b.toNat) 0
def decA (sz : Nat) (n : Nat) (r : List UInt8) : List UInt32 := (List.range n).map fun i => UInt32.ofNat (val ((r.drop (i * sz)).take sz))
def decN (sz : Nat) : Nat → List UInt8 → Option (List Seg)
  | 0, r => if r = [] then some [] else none
  | f + 1, r => match r with
    | [] => some []
    | [_] => none
    | k :: n :: t => if t.length < n.toNat * sz then none else (decN sz f (t.drop (n.toNat * sz))).map (⟨(k.toNat : Int), decA sz n.toNat t⟩ :: ·)
theorem decN_fuel (sz : Nat) : ∀ (f g : Nat) (r : List UInt8), r.length ≤ f → r.length ≤ g → decN sz f r = decN sz g r := by
  intro f
  induction f with
  | zero =>
    intro g r hf hg
    have : r = [] := List.eq_nil_of_length_eq_zero (by omega)
    subst this
    cases g <;> simp [decN]
  | succ f ih =>
    intro g r hf hg
    cases g with
    | zero =>
      have : r = [] := List.eq_nil_of_length_eq_zero (by omega)
      subst this
      simp [decN]
    | succ g =>
      match r with
      | [] => simp [decN]
      | [_] => simp [decN]
      | k :: n :: t =>
        simp only [decN]
        split
        · rfl
        · rw [ih g (t.drop (n.toNat * sz)) (by simp at hf ⊢; omega) (by simp at hg ⊢; omega)]
def bdec (sz : Nat) (r : List UInt8) : Option (List Seg) := decN sz r.length r
theorem dec_nil (sz : Nat) : bdec sz [] = some [] := by simp [bdec, decN]
theorem dec_one (sz : Nat) (k : UInt8) : bdec sz [k] = none := by simp [bdec, decN]
theorem dec_two (sz : Nat) (k n : UInt8) (t : List UInt8) : bdec sz (k :: n :: t) = if t.length < n.toNat * sz then none else (bdec sz (t.drop (n.toNat * sz))).map (⟨(k.toNat : Int), decA sz n.toNat t⟩ :: ·) := by
  unfold bdec
  rw [show decN sz (k :: n :: t).length (k :: n :: t) = if t.length < n.toNat * sz then none else (decN sz (t.length + 1) (t.drop (n.toNat * sz))).map (⟨(k.toNat : Int), decA sz n.toNat t⟩ :: ·) from rfl]
  split
  · rfl
  · rw [decN_fuel sz (t.length + 1) (t.drop (n.toNat * sz)).length _ (by simp; omega) (Nat.le_refl _)]
/-- What is read of bytes: the path, or the error (4: a form that is none). -/
def decS (s : List UInt8) (four : Bool) : List Seg × Int := match bdec (szF four) s with
  | some l => if chk l then (l, 0) else ([], 4)
  | none => ([], 4)

theorem snocInd {α : Type} {P : List α → Prop} (h0 : P []) (hs : ∀ l a, P l → P (l ++ [a])) (l : List α) : P l := by
  have h : ∀ l : List α, P l.reverse := fun l => by
    induction l with
    | nil => exact h0
    | cons a l ih => rw [List.reverse_cons]; exact hs _ _ ih
  have := h l.reverse
  rwa [List.reverse_reverse] at this
theorem val_snoc (l : List UInt8) (b : UInt8) : val (l ++ [b]) = val l * 256 + b.toNat := by simp [val]
theorem val_lt (l : List UInt8) : val l < 256 ^ l.length := by
  refine snocInd (P := fun l => val l < 256 ^ l.length) (by simp [val]) (fun l b ih => ?_) l
  · rw [val_snoc, List.length_append, List.length_singleton, Nat.pow_succ]
    have := b.toNat_lt
    omega
theorem be_val (l : List UInt8) : be l.length (val l) = l := by
  refine snocInd (P := fun l => be l.length (val l) = l) rfl (fun l b ih => ?_) l
  · rw [val_snoc, List.length_append, List.length_singleton]
    have hb := b.toNat_lt
    refine List.ext_getElem (by simp [be]) fun k h1 h2 => ?_
    simp only [be, List.getElem_map, List.getElem_range]
    simp only [be, List.length_map, List.length_range] at h1
    by_cases hk : k < l.length
    · rw [List.getElem_append_left hk]
      have e := congrArg (fun x => x[k]?) ih
      simp only [be, List.getElem?_map, List.getElem?_range hk, Option.map_some, List.getElem?_eq_getElem hk, Option.some.injEq] at e
      rw [← e]
      unfold byt
      have h8 : l.length + 1 - 1 - k = (l.length - 1 - k) + 1 := by omega
      rw [h8, show 2 ^ (8 * (l.length - 1 - k + 1)) = 256 * 2 ^ (8 * (l.length - 1 - k)) by rw [Nat.mul_add, Nat.pow_add]; omega, ← Nat.div_div_eq_div_mul]
      congr 2
      omega
    · have hk' : k = l.length := by omega
      subst hk'
      rw [List.getElem_append_right (Nat.le_refl _)]
      simp only [Nat.sub_self, List.getElem_singleton, Nat.add_sub_cancel]
      unfold byt
      simp only [Nat.mul_zero, Nat.pow_zero, Nat.div_one]
      refine UInt8.toNat_inj.1 ?_
      rw [UInt8.toNat_ofNat']
      omega
theorem val_be (n v : Nat) (h : v < 256 ^ n) : val (be n v) = v := by
  have h1 := be_val (be n v)
  have hl : (be n v).length = n := by simp [be]
  rw [hl] at h1
  induction n generalizing v with
  | zero => simp [be, val] at h ⊢; omega
  | succ n ih =>
    have e : be (n + 1) v = be n (v / 256) ++ [byt v 0] := by
      refine List.ext_getElem (by simp [be]) fun k h3 h4 => ?_
      simp only [be, List.getElem_map, List.getElem_range]
      simp only [be, List.length_map, List.length_range] at h3
      by_cases hk : k < n
      · rw [List.getElem_append_left (by simpa using hk)]
        simp only [List.getElem_map, List.getElem_range]
        unfold byt
        rw [show n + 1 - 1 - k = (n - 1 - k) + 1 by omega, show 2 ^ (8 * (n - 1 - k + 1)) = 256 * 2 ^ (8 * (n - 1 - k)) by rw [Nat.mul_add, Nat.pow_add]; omega, ← Nat.div_div_eq_div_mul]
      · have hk' : k = n := by omega
        subst hk'
        rw [List.getElem_append_right (by simp)]
        simp
    rw [e, val_snoc, ih (v / 256) (by rw [Nat.pow_succ] at h; omega) (by have := be_val (be n (v / 256)); rwa [show (be n (v / 256)).length = n by simp [be]] at this) (by simp [be])]
    unfold byt
    rw [UInt8.toNat_ofNat']
    simp only [Nat.mul_zero, Nat.pow_zero, Nat.div_one]
    omega
theorem decA_len (sz n : Nat) (r : List UInt8) : (decA sz n r).length = n := by simp [decA]
theorem decA_succ (sz n : Nat) (r : List UInt8) : decA sz (n + 1) r = decA sz n r ++ [UInt32.ofNat (val ((r.drop (n * sz)).take sz))] := by simp [decA, List.range_succ]
theorem asB_dec (four : Bool) (c : List UInt8) (hc : c.length = szF four) : asB four (UInt32.ofNat (val c)) = c := by
  have hv := val_lt c
  have hb := be_val c
  unfold asB szF at *
  cases four
  · simp only [Bool.false_eq_true, if_false] at hc ⊢
    rw [hc] at hv hb
    have h : (UInt32.ofNat (val c)).toNat = val c := by rw [UInt32.toNat_ofNat']; omega
    rw [h, if_neg (by omega), hb]
  · simp only [if_true] at hc ⊢
    rw [hc] at hv hb
    have h : (UInt32.ofNat (val c)).toNat = val c := by rw [UInt32.toNat_ofNat']; omega
    rw [h, hb]
theorem decA_flat (four : Bool) (r : List UInt8) : ∀ n : Nat, n * szF four ≤ r.length → (decA (szF four) n r).flatMap (asB four) = r.take (n * szF four) := by
  intro n
  induction n with
  | zero => intro _; simp [decA]
  | succ n ih =>
    intro h
    rw [Nat.add_mul, Nat.one_mul] at h
    rw [decA_succ, List.flatMap_append, ih (by omega), List.flatMap_singleton, asB_dec four _ (by rw [List.length_take, List.length_drop]; omega), Nat.add_mul, Nat.one_mul, List.take_add]
theorem pathB_dec (four : Bool) : ∀ (f : Nat) (r : List UInt8) (l : List Seg), r.length ≤ f → bdec (szF four) r = some l → pathB four l = r := by
  intro f
  induction f with
  | zero =>
    intro r l hf h
    have : r = [] := List.eq_nil_of_length_eq_zero (by omega)
    subst this
    rw [dec_nil] at h
    cases h
    rfl
  | succ f ih =>
    intro r l hf h
    match r, hf, h with
    | [], _, h => rw [dec_nil] at h; cases h; rfl
    | [_], _, h => rw [dec_one] at h; cases h
    | k :: n :: t, hf, h =>
      rw [dec_two] at h
      split at h
      · cases h
      · rename_i hlt
        cases hd : bdec (szF four) (t.drop (n.toNat * szF four)) with
        | none => rw [hd] at h; cases h
        | some l' =>
          rw [hd] at h
          obtain rfl := Option.some.inj h
          have := ih _ l' (by simp at hf ⊢; omega) hd
          unfold pathB at this ⊢
          rw [List.flatMap_cons, this]
          unfold segB
          have hk := be_val [k]
          have hn := be_val [n]
          simp only [List.length_singleton, val, List.foldl_cons, List.foldl_nil, Nat.zero_mul, Nat.zero_add] at hk hn
          rw [decA_flat four t _ (by omega)]
          simp only [Int.toNat_natCast, decA_len, hk, hn, List.cons_append, List.nil_append, List.take_append_drop]
def narrow (four : Bool) (a : UInt32) : UInt32 := if four then a else if 65535 < a.toNat then 23456 else a
def narrowS (four : Bool) (s : Seg) : Seg := ⟨s.kind, s.as.map (narrow four)⟩
theorem asB_len (four : Bool) (a : UInt32) : (asB four a).length = szF four := by
  unfold asB szF
  cases four <;> simp [be]
theorem asB_val (four : Bool) (a : UInt32) : UInt32.ofNat (val (asB four a)) = narrow four a := by
  have ha := a.toNat_lt
  unfold asB narrow
  cases four
  · simp only [Bool.false_eq_true, if_false]
    split
    · rw [val_be 2 23456 (by omega)]; rfl
    · rw [val_be 2 a.toNat (by omega)]; simp
  · simp only [if_true]
    rw [val_be 4 a.toNat (by omega)]; simp
theorem decA_of (four : Bool) (l : List UInt32) (t : List UInt8) : decA (szF four) l.length (l.flatMap (asB four) ++ t) = l.map (narrow four) := by
  induction l with
  | nil => simp [decA]
  | cons a l ih =>
    rw [List.map_cons, ← ih]
    unfold decA
    rw [List.length_cons, List.range_succ_eq_map, List.map_cons, List.map_map]
    congr 1
    · rw [Nat.zero_mul, List.drop_zero, List.flatMap_cons, List.append_assoc, List.take_left' (asB_len four a), asB_val]
    · refine List.map_congr_left fun i _ => ?_
      simp only [Function.comp]
      rw [List.flatMap_cons, List.append_assoc, show (i + 1) * szF four = (asB four a).length + i * szF four by rw [asB_len, Nat.add_mul]; omega, ← List.drop_drop, List.drop_left]
theorem flat_len (four : Bool) (l : List UInt32) : (l.flatMap (asB four)).length = l.length * szF four := by
  induction l with
  | nil => simp
  | cons a l ih => rw [List.flatMap_cons, List.length_append, ih, asB_len, List.length_cons, Nat.add_mul]; omega
theorem dec_pathB (four : Bool) : ∀ l : List Seg, (∀ s ∈ l, segOk s = true) → bdec (szF four) (pathB four l) = some (l.map (narrowS four)) := by
  intro l
  induction l with
  | nil => intro _; exact dec_nil _
  | cons s t ih =>
    intro h
    have hs := h s (by simp)
    unfold segOk at hs
    simp only [Bool.and_eq_true, decide_eq_true_eq] at hs
    obtain ⟨⟨⟨⟨h1, h2⟩, h3⟩, h4⟩, _⟩ := hs
    have e : pathB four (s :: t) = UInt8.ofNat s.kind.toNat :: UInt8.ofNat s.as.length :: (s.as.flatMap (asB four) ++ pathB four t) := by
      unfold pathB segB
      simp [be, byt]
    have hk : ((UInt8.ofNat s.kind.toNat).toNat : Int) = s.kind := by rw [UInt8.toNat_ofNat']; omega
    have hn : (UInt8.ofNat s.as.length).toNat = s.as.length := by rw [UInt8.toNat_ofNat']; omega
    rw [e, dec_two, hn, if_neg (by rw [List.length_append, flat_len]; omega), ← flat_len four s.as, List.drop_left, ih (fun s hs => h s (by simp [hs])), hk, decA_of]
    rfl
end Go.Proofs.YtiappobhljiknaaGreatDoor
