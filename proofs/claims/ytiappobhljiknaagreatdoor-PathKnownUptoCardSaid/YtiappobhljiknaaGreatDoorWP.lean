/- Walks: a number is put behind bytes: wire.Put. -/
import Derived.Test.YtiappobhljiknaaGreatDoorA4
import Derived.Test.YtiappobhljiknaaGreatDoorLib
import Derived.Test.YtiappobhljiknaaGreatDoorBytes
namespace Go.Proofs.YtiappobhljiknaaGreatDoor
open Go.RowKit
set_option linter.unusedVariables false
theorem okU8 : ElemOk Tryz.prog 94 5 1 1 := elemOk (z := .int .u8 0) Tryz.underlying94 (by kernel_rfl) rfl
theorem okU8z : Tryz.prog.info? 5 = none ∨ ∀ i, Tryz.prog.info? 5 = some i → i.zero = some (.int .u8 0) := by
  right; intro i hi
  have h : (Tryz.prog.info? 5).map (fun i => i.zero) = some (some (.int .u8 0)) := by kernel_rfl
  rw [hi] at h; simpa using h
def put (s : ByteArray) (n v : Nat) : ByteArray := ⟨(s.data.toList ++ be n v).toArray⟩

set_option maxRecDepth 20000 in
set_option maxHeartbeats 1000000 in
theorem WPut_any (s : ByteArray) (v n : Nat) (w : World) (h1 : 1 ≤ n) (h8 : n ≤ 8) (hv : v < 18446744073709551616) (hvn : v < 2 ^ (8 * n)) (hs : s.size ≤ 33554432) :
    Calls Tryz.prog 43 #[.string s, .int .u64 v, .int .i64 n] w fun e w' => e = .returned (.tuple #[.string (put s n v), .int .i64 0]) ∧ Ext w w' := by
  have hln : (Lib.bitLen v : Int) ≤ 8 * n := bitLen_le n v hvn hv
  have hml : s.size ≤ maxLen := by unfold maxLen; omega
  have kc := fun (w : World) => Lib.run_convert_string_bytes (P := Tryz.prog) w 9 94 5 s Tryz.underlying9 Tryz.underlying94 Tryz.underlying5
  have e0 : decide ((n : Int) < 1) = false := by simp; omega
  have e8 : decide ((8 : Int) < (n : Int)) = false := by simp; omega
  have e9 : decide (8 * (n : Int) < (Lib.bitLen v : Int)) = false := by simp; omega
  replace hvn := hide hvn
  go_enter Tryz.func43, Tryz.ntmps43
  go_wp2_with (go_at_call 63; refine (Len64_any v hv _).mono ?_; rintro e w' ⟨rfl, rfl⟩)
  have hcv := hide (OwnB.conv (w := w) (e := 5) s hml)
  clear kc
  go_loopw [8, 9] (fun o i wr => ∃ k : Nat, k ≤ n ∧ i = .int .i64 ((n : Int) - 1 - k) ∧ OwnB 5 wr w.heap.size o (s.data.toList ++ (be n v).take k) ∧ Ext w wr) (fun _ i _ => (intOf i + 1).toNat)
  case atStart => exact ⟨0, Nat.zero_le _, by simp, by simpa using hcv.out, ext_bytesWorld w _ s⟩
  case round =>
    obtain ⟨k, hk, rfl, hown, hE⟩ := hrel
    have hsz := hE.size
    replace hE := hide hE
    replace hown := hide hown
    have hle : (s.data.toList ++ (be n v).take k).length ≤ 33554440 := by
      have : s.data.toList.length = s.size := by simp
      simp only [List.length_append, List.length_take, be_length]
      omega
    by_cases hlt : k < n
    · have hb := byt_cast v (n - 1 - k)
      go_wp2_with (at_builtin
                   have hox := hown.out.alloc (Obj.cells #[.int .u8 ((byt v (n - 1 - k)).toNat : Int)] 5)
                   refine wpList_appendB rfl _ _ _ rfl okU8 okU8z rfl hox (by simp; omega) [byt v (n - 1 - k)] rfl (by simp at hle ⊢; omega) (byte_new _ _ _) ?_
                   intro v' w1 hown1 hg hat)
      go_roundw
      case rel => exact ⟨k + 1, by omega, by simp; omega, by rw [be_snoc n v k hlt, ← List.append_assoc]; exact hown1, (hE.out.alloc _).push (fun j hj => (hown.out.lt j hj).1) hg⟩
      case measure => simp [intOf]; omega
    · obtain rfl : k = n := by omega
      have hown1 := hown.out
      rw [be_all] at hown1
      have kd := fun (W : World) (h : OwnB 5 W w.heap.size u8 (s.data.toList ++ be k v)) => run_stringB (P := Tryz.prog) (src := 94) (dst := 9) Tryz.underlying94 Tryz.underlying5 Tryz.underlying9 h
      have kd := kd wr hown1
      replace hown1 := hide hown1
      go_wp2
      go_ret2
      exact ⟨rfl, hE.out⟩

end Go.Proofs.YtiappobhljiknaaGreatDoor
