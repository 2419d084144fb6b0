/- Chapter 2: a number in bytes, the highest one first. Chapter 4: paths as data, what is asked of them, and how a path lies in memory. Chapter 4: a path as a text. -/
import Derived.Test.YtiappobhljiknaaGreatDoorBytes
import Derived.Test.YtiappobhljiknaaGreatDoorPN
import Derived.Lib.ItoaNum
import Derived.Lib.Join
namespace Go.Proofs.YtiappobhljiknaaGreatDoor
open Go.RowKit

/-- Byte number i of v, from the lowest. -/
def byt (v i : Nat) : UInt8 := UInt8.ofNat (v / 2 ^ (8 * i))
theorem byt_cast (v i : Nat) : (v : Int) / 2 ^ (8 * i) % 256 = ((byt v i).toNat : Int) := by
  unfold byt
  rw [UInt8.toNat_ofNat']
  have : (v : Int) / 2 ^ (8 * i) = ((v / 2 ^ (8 * i) : Nat) : Int) := by simp
  rw [this]
  omega
def be (n v : Nat) : List UInt8 := (List.range n).map fun j => byt v (n - 1 - j)
@[simp] theorem be_length (n v : Nat) : (be n v).length = n := by simp [be]
theorem be_snoc (n v k : Nat) (hk : k < n) : (be n v).take (k + 1) = (be n v).take k ++ [byt v (n - 1 - k)] := by
  rw [List.take_succ_eq_append_getElem (by simpa using hk)]
  simp [be]
theorem be_all (n v : Nat) : (be n v).take n = be n v := List.take_of_length_le (by simp)
theorem bitLen_le (n v : Nat) (h : v < 2 ^ (8 * n)) (h64 : v < 2 ^ 64) : (Lib.bitLen v : Int) ≤ 8 * n := by
  rcases Nat.eq_zero_or_pos v with h0 | h0
  · subst h0
    have : Lib.bitLen 0 = 0 := by unfold Lib.bitLen; exact Lib.bitLenAux_zero _
    omega
  · have hb := Lib.bitLenAux_bounds 64 v h64 (by omega)
    have e : Lib.bitLen v = Lib.bitLenAux 64 v := rfl
    rw [e]
    have h2 : 2 ^ (Lib.bitLenAux 64 v - 1) < 2 ^ (8 * n) := by omega
    have := (Nat.pow_lt_pow_iff_right (a := 2) (by omega)).1 h2
    omega

structure Seg where
  kind : Int
  as : List UInt32
  deriving DecidableEq
def ESeg : Enc Seg := (EI64.pair EU32.slice).map fun s => (s.kind, s.as)

theorem ESeg.at {w : World} {S : Nat → Prop} {a : Option Addr} {l : List Seg} (h : Sl ESeg w S a l) (k : Nat) (hk : k < l.length) :
    ∃ b off ak ck, a = some ⟨b, off, none⟩ ∧ S b ∧ w.cell? ⟨b, off + k * 2, none⟩ = some (.int .i64 l[k].kind) ∧ w.cell? ⟨b, off + k * 2 + 1, none⟩ = some (.slice ak l[k].as.length ck) ∧
      l[k].as.length ≤ 16777216 ∧ Sl EU32 w S ak l[k].as ∧ -9223372036854775808 ≤ l[k].kind ∧ l[k].kind ≤ 9223372036854775807 := by
  obtain ⟨b, off, cs, rfl, hb, ⟨c, d, rfl, ⟨rfl, h1, h2⟩, ak, ck, rfl, hm, hs⟩, hc⟩ := h.at k hk
  exact ⟨b, off, ak, ck, rfl, hb, hc 0 _ rfl, hc 1 _ rfl, hm, hs, h1, h2⟩

theorem EU32.at {w : World} {S : Nat → Prop} {a : Option Addr} {l : List UInt32} (h : Sl EU32 w S a l) (k : Nat) (hk : k < l.length) :
    ∃ b off, a = some ⟨b, off, none⟩ ∧ S b ∧ w.cell? ⟨b, off + k, none⟩ = some (.int .u32 (l[k].toNat : Int)) := by
  obtain ⟨b, off, cs, rfl, hb, ⟨rfl, _⟩, hc⟩ := h.at k hk
  have h0 := hc 0 _ rfl
  simp only [EU32, Enc.flat, Nat.mul_one, Nat.add_zero] at h0
  exact ⟨b, off, rfl, hb, h0⟩

theorem u32_beq (x y : UInt32) : ((x.toNat : Int) == (y.toNat : Int)) = (x == y) := by
  rw [Bool.eq_iff_iff, beq_iff_eq, beq_iff_eq, Int.natCast_inj, UInt32.toNat_inj]
theorem u32_bne (x y : UInt32) : ((x.toNat : Int) != (y.toNat : Int)) = (x != y) := by
  unfold bne; rw [u32_beq]

def idxU (l : List UInt32) (x : UInt32) : Int := match l.findIdx? (· == x) with | some i => i | none => -1
theorem idxU_at (l : List UInt32) (x : UInt32) (k : Nat) (hk : k < l.length) (hx : l[k] = x) (hj : ∀ j, j < k → l[j]? ≠ some x) : idxU l x = k := by
  have : l.findIdx? (· == x) = some k := by
    rw [List.findIdx?_eq_some_iff_getElem]
    refine ⟨hk, by simp [hx], fun j hjk => ?_⟩
    have := hj j hjk
    rw [List.getElem?_eq_getElem (by omega)] at this
    simpa using this
  simp [idxU, this]
theorem idxU_none (l : List UInt32) (x : UInt32) (hj : ∀ j, j < l.length → l[j]? ≠ some x) : idxU l x = -1 := by
  have : l.findIdx? (· == x) = none := by
    rw [List.findIdx?_eq_none_iff]
    intro y hy
    obtain ⟨j, hj', rfl⟩ := List.getElem_of_mem hy
    have := hj j hj'
    rw [List.getElem?_eq_getElem hj'] at this
    simpa using this
  simp [idxU, this]
theorem idxU_bd (l : List UInt32) (x : UInt32) : -1 ≤ idxU l x ∧ (0 ≤ idxU l x ↔ l.contains x = true) := by
  unfold idxU
  cases h : l.findIdx? (· == x) with
  | none =>
    rw [List.findIdx?_eq_none_iff] at h
    refine ⟨by simp, ⟨fun h' => by simp at h', fun h' => ?_⟩⟩
    have := h x (by simpa using h')
    simp at this
  | some i =>
    rw [List.findIdx?_eq_some_iff_getElem] at h
    obtain ⟨hi, h1, _⟩ := h
    refine ⟨by simp, ⟨fun _ => ?_, fun _ => by simp⟩⟩
    have : l[i] = x := by simpa using h1
    simp only [List.contains_iff_mem]
    exact this ▸ List.getElem_mem hi

/-- May a segment be? -/
def segOk (s : Seg) : Bool := decide (1 ≤ s.kind) && decide (s.kind ≤ 4) && decide (1 ≤ s.as.length) && decide (s.as.length ≤ 255) && !s.as.contains 0
def chk (l : List Seg) : Bool := decide (l.length ≤ 16) && l.all segOk
def errOf (b : Bool) : Int := if b then 0 else 2

def segLen (s : Seg) : Int := if s.kind = 2 then s.as.length else if s.kind = 1 then 1 else 0
def lenS (l : List Seg) : Int := (l.map segLen).sum
theorem lenS_succ (l : List Seg) (k : Nat) (hk : k < l.length) : lenS (l.take (k + 1)) = lenS (l.take k) + segLen l[k] := by
  unfold lenS; rw [List.take_succ_eq_append_getElem hk, List.map_append, List.sum_append]; simp
theorem lenS_bd (l : List Seg) (h : ∀ s ∈ l, s.as.length ≤ 16777216) : 0 ≤ lenS l ∧ lenS l ≤ 16777216 * l.length := by
  induction l with
  | nil => simp [lenS]
  | cons s l ih =>
    have h1 := ih fun s' h' => h s' (List.mem_cons_of_mem _ h')
    have h2 := h s (List.mem_cons_self)
    have h3 : 0 ≤ segLen s ∧ segLen s ≤ 16777216 := by unfold segLen; split <;> (try split) <;> omega
    simp only [lenS, List.map_cons, List.sum_cons, List.length_cons] at *
    omega

/-- An AS, a segment, a path as bytes. -/
def asB (four : Bool) (a : UInt32) : List UInt8 := if four then be 4 a.toNat else be 2 (if 65535 < a.toNat then 23456 else a.toNat)
def segB (four : Bool) (s : Seg) : List UInt8 := be 1 s.kind.toNat ++ be 1 s.as.length ++ s.as.flatMap (asB four)
def pathB (four : Bool) (l : List Seg) : List UInt8 := l.flatMap (segB four)
theorem asB_length (four : Bool) (a : UInt32) : (asB four a).length ≤ 4 := by unfold asB; split <;> simp
theorem flatMap_le {α : Type} (f : α → List UInt8) (m : Nat) (hf : ∀ x, (f x).length ≤ m) (l : List α) : (l.flatMap f).length ≤ m * l.length := by
  induction l with
  | nil => simp
  | cons x l ih =>
    have := hf x
    simp only [List.flatMap_cons, List.length_append, List.length_cons, Nat.mul_add, Nat.mul_one] at *
    omega
theorem flatMap_succ {α : Type} (f : α → List UInt8) (l : List α) (k : Nat) (hk : k < l.length) : (l.take (k + 1)).flatMap f = (l.take k).flatMap f ++ f l[k] := by
  rw [List.take_succ_eq_append_getElem hk, List.flatMap_append]; simp
theorem pathB_succ (four : Bool) (l : List Seg) (k : Nat) (hk : k < l.length) : pathB four (l.take (k + 1)) = pathB four (l.take k) ++ (be 1 l[k].kind.toNat ++ be 1 l[k].as.length ++ l[k].as.flatMap (asB four)) := flatMap_succ (segB four) l k hk
theorem chk_at {l : List Seg} (h : chk l = true) (k : Nat) (hk : k < l.length) : 1 ≤ l[k].kind ∧ l[k].kind ≤ 4 ∧ 1 ≤ l[k].as.length ∧ l[k].as.length ≤ 255 ∧ (0 : UInt32) ∉ l[k].as := by
  simp only [chk, Bool.and_eq_true, List.all_eq_true] at h
  have := h.2 l[k] (List.getElem_mem hk)
  simp only [segOk, Bool.and_eq_true, decide_eq_true_eq, Bool.not_eq_true', List.contains_eq_mem, decide_eq_false_iff_not] at this
  exact ⟨this.1.1.1.1, this.1.1.1.2, this.1.1.2, this.1.2, this.2⟩
theorem chk_len {l : List Seg} (h : chk l = true) : l.length ≤ 16 := by
  simp only [chk, Bool.and_eq_true, decide_eq_true_eq] at h
  exact h.1
theorem segB_le (four : Bool) {l : List Seg} (h : chk l = true) (k : Nat) (hk : k ≤ l.length) : (pathB four (l.take k)).length ≤ 16 * 1022 := by
  have h16 := chk_len h
  have : ∀ s ∈ l, (segB four s).length ≤ 1022 := by
    intro s hs
    obtain ⟨j, hj, rfl⟩ := List.getElem_of_mem hs
    have h1 := (chk_at h j hj).2.2.2.1
    have h2 := flatMap_le (asB four) 4 (asB_length four) l[j].as
    simp only [segB, List.length_append, be_length]
    omega
  have key : ∀ m : List Seg, (∀ s ∈ m, (segB four s).length ≤ 1022) → (pathB four m).length ≤ 1022 * m.length := by
    intro m
    induction m with
    | nil => intro _; simp [pathB]
    | cons x m ih =>
      intro hm
      have h1 := ih fun s hs => hm s (List.mem_cons_of_mem _ hs)
      have h2 := hm x List.mem_cons_self
      simp only [pathB, List.flatMap_cons, List.length_append, List.length_cons] at *
      omega
  have := key (l.take k) fun s hs => this s (List.mem_of_mem_take hs)
  simp only [List.length_take] at this
  omega

def opn (k : Int) : UInt8 := if k = 1 then 123 else if k = 2 then 60 else if k = 3 then 40 else 91
def cls (k : Int) : UInt8 := if k = 1 then 125 else if k = 2 then 62 else if k = 3 then 41 else 93
def asT (a : UInt32) : List UInt8 := Lib.decDigits a.toNat
def segT (s : Seg) : List UInt8 := opn s.kind :: (Lib.join (s.as.map asT) [32] ++ [cls s.kind])
def pathT (l : List Seg) : List UInt8 := Lib.join (l.map segT) [32]
def textS (l : List Seg) : ByteArray := if chk l then (if l = [] then ⟨#[45]⟩ else ⟨(pathT l).toArray⟩) else ⟨#[]⟩

theorem join_le (m : Nat) : ∀ xs : List (List UInt8), (∀ x ∈ xs, x.length ≤ m) → (Lib.join xs [32]).length ≤ (m + 1) * xs.length
  | [], _ => by simp [Lib.join_nil]
  | [x], h => by have := h x (by simp); rw [Lib.join_one]; simp; omega
  | x :: y :: r, h => by
    have h1 := join_le m (y :: r) fun z hz => h z (List.mem_cons_of_mem _ hz)
    have h2 := h x (by simp)
    rw [join_two]
    simp only [List.length_append, List.length_cons, List.length_nil, Nat.mul_add] at h1 ⊢
    omega
theorem asT_le (a : UInt32) : (asT a).length ≤ 20 := by
  unfold asT
  rw [Lib.decDigits_length]
  have h := a.toNat_lt
  rcases Nat.eq_zero_or_pos a.toNat with h0 | h0
  · rw [h0, Lib.nDigits_small (by omega)]; omega
  · have := Lib.numDigits_eq a.toNat h0 (by omega)
    split at this <;> omega
theorem joinAs_le (l : List UInt32) : (Lib.join (l.map asT) [32]).length ≤ 21 * l.length := by
  have := join_le 20 (l.map asT) (by intro x hx; obtain ⟨a, _, rfl⟩ := List.mem_map.1 hx; exact asT_le a)
  simpa using this
theorem segT_le (s : Seg) : (segT s).length ≤ 2 + 21 * s.as.length := by
  have := joinAs_le s.as
  simp only [segT, List.length_cons, List.length_append, List.length_nil]
  omega
theorem pathT_le {l : List Seg} (h : chk l = true) : (pathT l).length ≤ 5358 * l.length := by
  have := join_le 5357 (l.map segT) (by
    intro x hx
    obtain ⟨s, hs, rfl⟩ := List.mem_map.1 hx
    obtain ⟨j, hj, rfl⟩ := List.getElem_of_mem hs
    have h1 := (chk_at h j hj).2.2.2.1
    have h2 := segT_le l[j]
    omega)
  simpa [pathT] using this
end Go.Proofs.YtiappobhljiknaaGreatDoor
