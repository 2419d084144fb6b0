/- The reader of bytes. -/
import Derived.Test.YtiappobhljiknaaGreatDoorA14
import Derived.Test.YtiappobhljiknaaGreatDoorW1
import Derived.Laws.BitsAllLaws
namespace Go.Proofs.YtiappobhljiknaaGreatDoor
open Go.RowKit
set_option linter.unusedVariables false

def Rd (w : World) (g : Nat) (b : ByteArray) : Prop := Blk w g 85 #[.bool true, .string b]
theorem Rd.cells {w : World} {g : Nat} {b : ByteArray} (h : Rd w g b) : w.cell? ⟨g, 0, none⟩ = some (.bool true) ∧ w.cell? ⟨g, 1, none⟩ = some (.string b) ∧ w.frozen? ⟨g, 1, none⟩ = false := ⟨h.cell 0, h.cell 1, h.frozen 1⟩

set_option maxRecDepth 20000 in
theorem New_any (s : ByteArray) (w : World) :
    Calls Tryz.prog 29 #[.string s] w fun e w' => e = .returned (.pointer (some ⟨w.heap.size, 0, none⟩)) ∧ w' = w.alloc (.cells #[.bool true, .string s] 85) := by
  go_enter Tryz.func29, Tryz.ntmps29
  go_wp2
  go_ret
  exact ⟨rfl, rfl⟩
set_option maxRecDepth 20000 in
theorem Left_any (g : Nat) (b : ByteArray) (w : World) (hB : Rd w g b) (hs : b.size ≤ 33554432) :
    Calls Tryz.prog 30 #[.pointer (some ⟨g, 0, none⟩)] w fun e w' => e = .returned (.int .i64 b.size) ∧ w' = w := by
  obtain ⟨c0, c1, f1⟩ := hB.cells
  go_enter Tryz.func30, Tryz.ntmps30
  go_wp2
  go_ret
  exact ⟨rfl, rfl⟩
set_option maxRecDepth 20000 in
theorem Take_yes (g n : Nat) (b : ByteArray) (w : World) (hB : Rd w g b) (hs : b.size ≤ 33554432) (hn : n ≤ b.size) :
    Calls Tryz.prog 51 #[.pointer (some ⟨g, 0, none⟩), .int .i64 n] w fun e w' => e = .returned (.tuple #[.string (b.extract 0 n), .bool true]) ∧ w' = w.setCell ⟨g, 1, none⟩ (.string (b.extract n b.size)) := by
  obtain ⟨c0, c1, f1⟩ := hB.cells
  go_enter Tryz.func51, Tryz.ntmps51
  go_wp2
  go_ret2
  exact ⟨rfl, rfl⟩
set_option maxRecDepth 20000 in
theorem Take_no (g n : Nat) (b : ByteArray) (w : World) (hB : Rd w g b) (hs : b.size ≤ 33554432) (hn : b.size < n) (hn8 : n ≤ 33554432) :
    Calls Tryz.prog 51 #[.pointer (some ⟨g, 0, none⟩), .int .i64 n] w fun e w' => e = .returned (.tuple #[.string ⟨#[]⟩, .bool false]) ∧ w' = w := by
  obtain ⟨c0, c1, f1⟩ := hB.cells
  go_enter Tryz.func51, Tryz.ntmps51
  go_wp2
  go_ret2
  exact ⟨rfl, rfl⟩

set_option maxRecDepth 20000 in
theorem sum_any (w : World) :
    Calls Tryz.prog 52 #[] w fun e w' => e = .returned (.tuple #[.func (Fn.func 66) #[] #[.pointer (some ⟨w.heap.size, 0, none⟩)], .func (Fn.func 67) #[] #[.pointer (some ⟨w.heap.size, 0, none⟩)]]) ∧ w' = w.alloc (.cells #[.int .u64 0] 58) := by
  go_enter Tryz.func52, Tryz.ntmps52
  go_wp2
  go_ret2
  exact ⟨rfl, rfl⟩
theorem or_byte (v : Nat) (b : UInt8) (hv : v < 72057594037927936) : bits BinOp.or IntKind.u64 ((v : Int) * 256) (b.toNat : Int) = ((v * 256 + b.toNat : Nat) : Int) := by
  have hb := b.toNat_lt
  rw [show (v : Int) * 256 = ((v * 256 : Nat) : Int) by omega, u64_or_nat _ _ (by omega) (by omega)]
  have h := Nat.shiftLeft_add_eq_or_of_lt (show b.toNat < 2 ^ 8 from hb) v
  rw [Nat.shiftLeft_eq] at h
  rw [← h]
set_option maxRecDepth 20000 in
theorem more_any (g v : Nat) (b : UInt8) (w : World) (hB : Blk w g 58 #[.int .u64 v]) (hv : v < 72057594037927936) :
    Calls Tryz.prog 66 #[.int .u8 (b.toNat : Int), .pointer (some ⟨g, 0, none⟩)] w fun e w' => e = .returned (.tuple #[]) ∧ w' = w.setCell ⟨g, 0, none⟩ (.int .u64 ((v * 256 + b.toNat : Nat) : Int)) := by
  have c0 : w.cell? ⟨g, 0, none⟩ = some (.int .u64 v) := hB.cell 0
  have f0 := hB.frozen 0
  have hb := b.toNat_lt
  go_enter Tryz.func66, Tryz.ntmps66
  go_wp2
  go_end0
  exact ⟨rfl, by rw [or_byte v b hv]⟩
set_option maxRecDepth 20000 in
theorem value_any (g v : Nat) (w : World) (hB : Blk w g 58 #[.int .u64 v]) :
    Calls Tryz.prog 67 #[.pointer (some ⟨g, 0, none⟩)] w fun e w' => e = .returned (.int .u64 v) ∧ w' = w := by
  have c0 : w.cell? ⟨g, 0, none⟩ = some (.int .u64 v) := hB.cell 0
  go_enter Tryz.func67, Tryz.ntmps67
  go_wp2
  go_ret
  exact ⟨rfl, rfl⟩

set_option maxRecDepth 20000 in
set_option maxHeartbeats 1000000 in
theorem Number_yes (g n : Nat) (b : ByteArray) (w : World) (hB : Rd w g b) (hs : b.size ≤ 33554432) (hn : n ≤ b.size) (h1 : 1 ≤ n) (h8 : n ≤ 8) :
    Calls Tryz.prog 31 #[.pointer (some ⟨g, 0, none⟩), .int .i64 n] w fun e w' => e = .returned (.tuple #[.int .u64 (val (b.extract 0 n).data.toList : Nat), .bool true]) ∧ w.grownBy w' (some g) ∧ Rd w' g (b.extract n b.size) := by
  replace hB := hide hB
  go_enter Tryz.func31, Tryz.ntmps31
  go_wp2_with fail
  refine (Take_yes g n b w hB.out hs hn).mono ?_
  rintro e w1 ⟨rfl, hw1⟩
  have hB1 : Rd w1 g (b.extract n b.size) := by rw [hw1]; exact hB.out.set_ 1 _
  have hg1 : w.grownBy w1 (some g) := by rw [hw1]; exact ⟨rfl, rfl, rfl, by simp [World.setCell], fun k _ hk => Below.heap_setCell _ _ _ _ (fun he => hk (by rw [he]))⟩
  clear hw1
  replace hB1 := hide hB1
  replace hg1 := hide hg1
  go_wp2_with fail
  refine (sum_any w1).mono ?_
  rintro e w2 ⟨rfl, rfl⟩
  have hV := hide (Blk.new w1 58 #[.int .u64 0])
  obtain ⟨E, hE⟩ : ∃ E, E = b.extract 0 n := ⟨_, rfl⟩
  have hex : E.size = n := by rw [hE, ByteArray.size_extract]; omega
  rw [← hE]
  replace hE := hide hE
  go_wp2
  go_loopw [32] (fun i wr => ∃ k v : Nat, k ≤ n ∧ i = .int .i64 k ∧ Blk wr w1.heap.size 58 #[.int .u64 v] ∧ Hid (v = val (E.data.toList.take k)) ∧ Rd wr g (b.extract n b.size) ∧ w.grownBy wr (some g)) (fun i _ => n - (intOf i).toNat)
  case atStart =>
    exact ⟨0, 0, Nat.zero_le _, rfl, hV.out, rfl, hB1.out.alloc _, ⟨hg1.out.os, hg1.out.tape, hg1.out.output, Nat.le_trans hg1.out.size (by simp), fun j hj hne => (Below.heap_alloc _ _ _ (Nat.lt_of_lt_of_le hj hg1.out.size)).trans (hg1.out.block j hj hne)⟩⟩
  case round =>
    clear hV
    obtain ⟨k, v, hk, rfl, hV, hv, hR, hG⟩ := hrel
    replace hV := hide hV
    replace hR := hide hR
    replace hG := hide hG
    have hwg : g < w1.heap.size := hB1.out.lt
    by_cases hlt : k < n
    · have hv7 : v < 72057594037927936 := by
        have h := val_lt (E.data.toList.take k)
        rw [← hv.out] at h
        refine Nat.lt_of_lt_of_le h (Nat.le_trans (Nat.pow_le_pow_right (by omega) (show _ ≤ 7 by rw [List.length_take]; omega)) (by decide))
      have hEl : k < E.data.toList.length := by
        have : E.data.toList.length = n := hex
        omega
      have hnx : v * 256 + E[k].toNat = val (E.data.toList.take (k + 1)) := by
        rw [List.take_succ_eq_append_getElem hEl, val_snoc, ← hv.out]
        rfl
      replace hnx := hide hnx
      go_wp2_with fail
      refine (more_any w1.heap.size v E[k] wr hV.out hv7).mono ?_
      rintro e w3 ⟨rfl, rfl⟩
      go_wp2
      go_roundw
      case rel =>
        have hw1w : w.heap.size ≤ w1.heap.size := hg1.out.size
        exact ⟨k + 1, v * 256 + E[k].toNat, by omega, by go_num, by simpa using hV.out.set_ 0 (.int .u64 ((v * 256 + E[k].toNat : Nat) : Int)), hnx, hR.out.far (p := ⟨w1.heap.size, 0, none⟩) (by show g ≠ w1.heap.size; omega) _,
          ⟨hG.out.os, hG.out.tape, hG.out.output, by simpa [World.setCell] using hG.out.size, fun j hj hne => (Below.heap_setCell _ _ _ _ (by show j ≠ w1.heap.size; omega)).trans (hG.out.block j hj hne)⟩⟩
      case measure => simp [intOf]; omega
    · obtain rfl : k = n := by omega
      go_wp2_with fail
      refine (value_any w1.heap.size v wr hV.out).mono ?_
      rintro e w3 ⟨rfl, rfl⟩
      go_wp2
      go_ret2
      have hfin : v = val (b.extract 0 k).data.toList := by
        rw [hv.out, List.take_of_length_le (by have : E.data.toList.length = k := hex; omega), hE.out]
      exact ⟨by rw [← hfin]; rfl, hG.out, hR.out⟩

set_option maxRecDepth 20000 in
set_option maxHeartbeats 1000000 in
theorem Number_no (g n : Nat) (b : ByteArray) (w : World) (hB : Rd w g b) (hs : b.size ≤ 33554432) (hn : b.size < n) (h8 : n ≤ 8) :
    Calls Tryz.prog 31 #[.pointer (some ⟨g, 0, none⟩), .int .i64 n] w fun e w' => e = .returned (.tuple #[.int .u64 0, .bool false]) ∧ w.grownBy w' (some g) ∧ Rd w' g b := by
  replace hB := hide hB
  go_enter Tryz.func31, Tryz.ntmps31
  go_wp2_with fail
  refine (Take_no g n b w hB.out hs hn (by omega)).mono ?_
  rintro e w1 ⟨rfl, rfl⟩
  go_wp2_with fail
  refine (sum_any w1).mono ?_
  rintro e w2 ⟨rfl, rfl⟩
  have hV := hide (Blk.new w1 58 #[.int .u64 0])
  go_wp2
  go_loopw [32] (fun i wr => i = .int .i64 0 ∧ wr = w1.alloc (.cells #[.int .u64 0] 58)) (fun _ _ => 0)
  case atStart => exact ⟨rfl, rfl⟩
  case round =>
    obtain ⟨rfl, rfl⟩ := hrel
    go_wp2_with fail
    refine (value_any w1.heap.size 0 _ hV.out).mono ?_
    rintro e w3 ⟨rfl, rfl⟩
    go_wp2
    go_ret2
    exact ⟨rfl, ⟨rfl, rfl, rfl, by simp, fun j hj _ => Below.heap_alloc _ _ _ hj⟩, hB.out.alloc _⟩
end Go.Proofs.YtiappobhljiknaaGreatDoor
