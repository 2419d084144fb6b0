/- The reader, over lists of bytes. -/
import Derived.Test.YtiappobhljiknaaGreatDoorW25
import Derived.Test.YtiappobhljiknaaGreatDoorW22
import Derived.Test.YtiappobhljiknaaGreatDoorW5
namespace Go.Proofs.YtiappobhljiknaaGreatDoor
open Go.RowKit
set_option linter.unusedVariables false

def RdL (w : World) (g : Nat) (r : List UInt8) : Prop := Rd w g ⟨r.toArray⟩
theorem RdL.lt {w : World} {g : Nat} {r : List UInt8} (h : RdL w g r) : g < w.heap.size := Blk.lt h
def strLen (w : World) (g : Nat) : Nat := match w.cell? ⟨g, 1, none⟩ with | some (.string b) => b.size | _ => 0
theorem strLen_rd {w : World} {g : Nat} {r : List UInt8} (h : RdL w g r) : strLen w g = r.length := by
  unfold strLen
  rw [h.cells.2.1]
  simp [ByteArray.size]
theorem ext_list (r : List UInt8) (i j : Nat) : (ByteArray.mk r.toArray).extract i j = ⟨((r.drop i).take (j - i)).toArray⟩ := by
  refine ba_ext ?_
  rw [Lib.extract_data]
theorem grown_trans {a b c : World} {g : Nat} (h : a.grownBy b (some g)) (k : b.grownBy c (some g)) : a.grownBy c (some g) :=
  ⟨k.os.trans h.os, k.tape.trans h.tape, k.output.trans h.output, Nat.le_trans h.size k.size, fun j hj hne => (k.block j (Nat.lt_of_lt_of_le hj h.size) hne).trans (h.block j hj hne)⟩
theorem val_one (b : UInt8) : val [b] = b.toNat := by simp [val]
theorem LeftL (g : Nat) (r : List UInt8) (w : World) (hB : RdL w g r) (hs : r.length ≤ 33554432) :
    Calls Tryz.prog 30 #[.pointer (some ⟨g, 0, none⟩)] w fun e w' => e = .returned (.int .i64 r.length) ∧ w = w' := by
  refine (Left_any g ⟨r.toArray⟩ w hB (by simpa [ByteArray.size] using hs)).mono ?_
  rintro e w' ⟨rfl, rfl⟩
  exact ⟨by simp [ByteArray.size], rfl⟩
theorem NumL_yes (g n : Nat) (r : List UInt8) (w : World) (hB : RdL w g r) (hs : r.length ≤ 1048576) (hn : n ≤ r.length) (h1 : 1 ≤ n) (h8 : n ≤ 8) :
    Calls Tryz.prog 31 #[.pointer (some ⟨g, 0, none⟩), .int .i64 n] w fun e w' => e = .returned (.tuple #[.int .u64 (val (r.take n) : Nat), .bool true]) ∧ w.grownBy w' (some g) ∧ RdL w' g (r.drop n) := by
  have hz : (ByteArray.mk r.toArray).size = r.length := by simp [ByteArray.size]
  refine (Number_yes g n ⟨r.toArray⟩ w hB (by omega) (by omega) h1 h8).mono ?_
  rintro e w' ⟨rfl, h2, h3⟩
  rw [hz, ext_list] at h3
  rw [ext_list]
  refine ⟨by simp, h2, ?_⟩
  unfold RdL
  rwa [List.take_of_length_le (by simp)] at h3
theorem NumL_no (g n : Nat) (r : List UInt8) (w : World) (hB : RdL w g r) (hs : r.length ≤ 1048576) (hn : r.length < n) (h8 : n ≤ 8) :
    Calls Tryz.prog 31 #[.pointer (some ⟨g, 0, none⟩), .int .i64 n] w fun e w' => e = .returned (.tuple #[.int .u64 0, .bool false]) ∧ w.grownBy w' (some g) ∧ RdL w' g r := by
  have hz : (ByteArray.mk r.toArray).size = r.length := by simp [ByteArray.size]
  exact Number_no g n ⟨r.toArray⟩ w hB (by omega) (by omega) h8
theorem decS_ok {s : List UInt8} {four : Bool} {l : List Seg} (h : bdec (szF four) s = some l) (hc : chk l = true) : decS s four = (l, 0) := by
  unfold decS
  rw [h]
  simp [hc]
theorem decS_bad {s : List UInt8} {four : Bool} {l : List Seg} (h : bdec (szF four) s = some l) (hc : chk l = false) : decS s four = ([], 4) := by
  unfold decS
  rw [h]
  simp [hc]
theorem decS_none {s : List UInt8} {four : Bool} (h : bdec (szF four) s = none) : decS s four = ([], 4) := by
  unfold decS
  rw [h]
/-- More than sixteen segments. -/
theorem decS_long {s r : List UInt8} {four : Bool} {l : List Seg} (h : bdec (szF four) s = (bdec (szF four) r).map (l ++ ·)) (hl : l.length = 16) (hr : r ≠ []) : decS s four = ([], 4) := by
  cases hb : bdec (szF four) r with
  | none => rw [hb] at h; exact decS_none h
  | some m =>
    rw [hb] at h
    refine decS_bad (l := l ++ m) h ?_
    have hm : m ≠ [] := fun h0 => by
      subst h0
      have := pathB_dec four r.length r [] (Nat.le_refl _) hb
      exact hr this.symm
    have : 0 < m.length := List.length_pos_iff.2 hm
    unfold chk
    simp only [Bool.and_eq_false_iff, decide_eq_false_iff_not, List.length_append]
    exact .inl (by omega)
theorem NumU (g n : Nat) (r : List UInt8) (w : World) (hB : RdL w g r) (hs : r.length ≤ 1048576) (h1 : 1 ≤ n) (h4 : n ≤ 4) :
    Calls Tryz.prog 31 #[.pointer (some ⟨g, 0, none⟩), .int .i64 n] w fun e w' => ∃ (y : UInt32) (b : Bool) (r2 : List UInt8), e = .returned (.tuple #[.int .u64 (y.toNat : Int), .bool b]) ∧ w.grownBy w' (some g) ∧ RdL w' g r2 ∧ r2.length ≤ r.length ∧
      (b = true → n ≤ r.length ∧ y = UInt32.ofNat (val (r.take n)) ∧ r2 = r.drop n) ∧ (b = false → r.length < n) := by
  rcases Nat.lt_or_ge r.length n with h | h
  · refine (NumL_no g n r w hB hs h (by omega)).mono ?_
    rintro e w' ⟨rfl, h2, h3⟩
    exact ⟨0, false, r, rfl, h2, h3, Nat.le_refl _, fun h => (by cases h), fun _ => h⟩
  · refine (NumL_yes g n r w hB hs h h1 (by omega)).mono ?_
    rintro e w' ⟨rfl, h2, h3⟩
    have hv := val_lt (r.take n)
    have hp : 256 ^ (r.take n).length ≤ 256 ^ 4 := Nat.pow_le_pow_right (by omega) (by rw [List.length_take]; omega)
    refine ⟨UInt32.ofNat (val (r.take n)), true, r.drop n, ?_, h2, h3, by simp, fun _ => ⟨h, rfl, rfl⟩, fun h => by cases h⟩
    rw [UInt32.toNat_ofNat', Nat.mod_eq_of_lt (by omega)]
theorem dec_take {sz : Nat} {k m : UInt8} {t s : List UInt8} {l : List Seg} (h : bdec sz s = (bdec sz (k :: m :: t)).map (l ++ ·)) (hn : m.toNat * sz ≤ t.length) :
    bdec sz s = (bdec sz (t.drop (m.toNat * sz))).map ((l ++ [⟨(k.toNat : Int), decA sz m.toNat t⟩]) ++ ·) := by
  rw [h, dec_two, if_neg (by omega), Option.map_map]
  congr 1
  funext x
  simp
theorem grown_alloc {a b : World} {r : Option Nat} (h : a.grownBy b r) (o : Obj) : a.grownBy (b.alloc o) r :=
  ⟨h.os, h.tape, h.output, Nat.le_trans h.size (by simp), fun j hj hne => (Below.heap_alloc _ _ _ (Nat.lt_of_lt_of_le hj h.size)).trans (h.block j hj hne)⟩
theorem grown_push {a b c : World} {g : Nat} {row : Option Nat} (h : a.grownBy b (some g)) (k : b.grownBy c row) (hr : ∀ q, row = some q → a.heap.size ≤ q) : a.grownBy c (some g) :=
  ⟨k.os.trans h.os, k.tape.trans h.tape, k.output.trans h.output, Nat.le_trans h.size k.size, fun j hj hne => (k.block j (Nat.lt_of_lt_of_le hj h.size) (fun he => by have := hr j he.symm; omega)).trans (h.block j hj hne)⟩
theorem grown_set {a b : World} {g : Nat} (h : a.grownBy b (some g)) {p : Addr} (hp : a.heap.size ≤ p.block) (u : Value) : a.grownBy (b.setCell p u) (some g) :=
  ⟨h.os, h.tape, h.output, by simpa [World.setCell] using h.size, fun j hj hne => (Below.heap_setCell _ _ _ _ (by omega)).trans (h.block j hj hne)⟩
theorem grown_self {a b : World} {g : Nat} (h : a.grownBy b (some g)) (o : Nat) (u : Value) : a.grownBy (b.setCell ⟨g, o, none⟩ u) (some g) :=
  ⟨h.os, h.tape, h.output, by simpa [World.setCell] using h.size, fun j hj hne => (Below.heap_setCell _ _ _ _ (fun he => hne (by rw [he]))).trans (h.block j hj hne)⟩
def DInv (sz n : Nat) (t r1 : List UInt8) (ys : List UInt32) (j : Nat) (ok : Bool) : Prop := (ok = true → j * sz ≤ t.length ∧ r1 = t.drop (j * sz) ∧ ys = decA sz j t) ∧ (ok = false → t.length < n * sz)
theorem dec_inv {sz j n : Nat} {t r1 r2 : List UInt8} {ys : List UInt32} {y : UInt32} {ok b : Bool} (hinv : DInv sz n t r1 ys j ok) (hj : j < n)
    (hb1 : b = true → sz ≤ r1.length ∧ y = UInt32.ofNat (val (r1.take sz)) ∧ r2 = r1.drop sz) (hb0 : b = false → r1.length < sz) :
    DInv sz n t r2 (ys ++ [y]) (j + 1) (ok && b) := by
  unfold DInv at *
  have hle : (j + 1) * sz ≤ n * sz := Nat.mul_le_mul_right _ hj
  rw [Nat.add_mul, Nat.one_mul] at hle ⊢
  cases ok with
  | false => exact ⟨fun h => (by cases h), fun _ => hinv.2 rfl⟩
  | true =>
    obtain ⟨h1, h2, h3⟩ := hinv.1 rfl
    have hrl : r1.length = t.length - j * sz := by rw [h2, List.length_drop]
    cases b with
    | false =>
      have := hb0 rfl
      exact ⟨fun h => (by cases h), fun _ => by omega⟩
    | true =>
      obtain ⟨h4, h5, h6⟩ := hb1 rfl
      refine ⟨fun _ => ⟨by omega, by rw [h6, h2, List.drop_drop], by rw [decA_succ, h3, h5, h2]⟩, fun h => by cases h⟩
end Go.Proofs.YtiappobhljiknaaGreatDoor
