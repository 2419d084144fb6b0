/- Walks: a number is put behind bytes: wire.Put, and the document's. -/
import Derived.Test.YtiappobhljiknaaDoorW4
import Derived.Test.YtiappobhljiknaaDoorBytes
namespace Go.Proofs.YtiappobhljiknaaDoor
open Go.RowKit
set_option linter.unusedVariables false
theorem okU8 : ElemOk Tryd.prog 89 5 1 1 := elemOk (z := .int .u8 0) Tryd.underlying89 (by kernel_rfl) rfl
theorem okU8z : Tryd.prog.info? 5 = none ∨ ∀ i, Tryd.prog.info? 5 = some i → i.zero = some (.int .u8 0) := by
  right; intro i hi
  have h : (Tryd.prog.info? 5).map (fun i => i.zero) = some (some (.int .u8 0)) := by kernel_rfl
  rw [hi] at h; simpa using h
def put (s : ByteArray) (n v : Nat) : ByteArray := ⟨(s.data.toList ++ be n v).toArray⟩

set_option maxRecDepth 20000 in
set_option maxHeartbeats 1000000 in
theorem WPut_any (s : ByteArray) (v n : Nat) (w : World) (h1 : 1 ≤ n) (h8 : n ≤ 8) (hv : v < 18446744073709551616) (hvn : v < 2 ^ (8 * n)) (hs : s.size ≤ 33554432) :
    Calls Tryd.prog 43 #[.string s, .int .u64 v, .int .i64 n] w fun e w' => e = .returned (.tuple #[.string (put s n v), .int .i64 0]) ∧ Ext w w' := by
  have hln : (Lib.bitLen v : Int) ≤ 8 * n := bitLen_le n v hvn hv
  have hml : s.size ≤ maxLen := by unfold maxLen; omega
  have kc := fun (w : World) => Lib.run_convert_string_bytes (P := Tryd.prog) w 9 89 5 s Tryd.underlying9 Tryd.underlying89 Tryd.underlying5
  have e0 : decide ((n : Int) < 1) = false := by simp; omega
  have e8 : decide ((8 : Int) < (n : Int)) = false := by simp; omega
  have e9 : decide (8 * (n : Int) < (Lib.bitLen v : Int)) = false := by simp; omega
  replace hvn := hide hvn
  go_enter Tryd.func43, Tryd.ntmps43
  go_wp2_with (go_at_call 73; refine (Len64_any v hv _).mono ?_; rintro e w' ⟨rfl, rfl⟩)
  have hcv := hide (OwnB.conv (w := w) (e := 5) s hml)
  clear kc
  go_loopw [8, 9] (fun o i wr => ∃ k : Nat, k ≤ n ∧ i = .int .i64 ((n : Int) - 1 - k) ∧ OwnB 5 wr w.heap.size o (s.data.toList ++ (be n v).take k) ∧ Ext w wr) (fun _ i _ => (intOf i + 1).toNat)
  case atStart => exact ⟨0, Nat.zero_le _, by simp, by simpa using hcv.out, ext_bytesWorld w _ s⟩
  case round =>
    obtain ⟨k, hk, rfl, hown, hE⟩ := hrel
    have hsz := hE.size
    replace hE := hide hE
    replace hown := hide hown
    have hle : (s.data.toList ++ (be n v).take k).length ≤ 33554440 := by
      have : s.data.toList.length = s.size := by simp
      simp only [List.length_append, List.length_take, be_length]
      omega
    by_cases hlt : k < n
    · have hb := byt_cast v (n - 1 - k)
      go_wp2_with (at_builtin
                   have hox := hown.out.alloc (Obj.cells #[.int .u8 ((byt v (n - 1 - k)).toNat : Int)] 5)
                   refine wpList_appendB rfl _ _ _ rfl okU8 okU8z rfl hox (by simp; omega) [byt v (n - 1 - k)] rfl (by simp at hle ⊢; omega) (byte_new _ _ _) ?_
                   intro v' w1 hown1 hg hat)
      go_roundw
      case rel => exact ⟨k + 1, by omega, by simp; omega, by rw [be_snoc n v k hlt, ← List.append_assoc]; exact hown1, (hE.out.alloc _).push (fun j hj => (hown.out.lt j hj).1) hg⟩
      case measure => simp [intOf]; omega
    · obtain rfl : k = n := by omega
      have hown1 := hown.out
      rw [be_all] at hown1
      have kd := fun (W : World) (h : OwnB 5 W w.heap.size u8 (s.data.toList ++ be k v)) => run_stringB (P := Tryd.prog) (src := 89) (dst := 9) Tryd.underlying89 Tryd.underlying5 Tryd.underlying9 h
      have kd := kd wr hown1
      replace hown1 := hide hown1
      go_wp2
      go_ret2
      exact ⟨rfl, hE.out⟩

set_option maxRecDepth 20000 in
set_option maxHeartbeats 1000000 in
theorem RPut_any (s : ByteArray) (v n : Nat) (w : World) (h1 : 1 ≤ n) (h8 : n ≤ 8) (hv : v < 18446744073709551616) (hvn : v < 2 ^ (8 * n)) (hs : s.size ≤ 33554432) :
    Calls Tryd.prog 44 #[.string s, .int .u64 v, .int .i64 n] w fun e w' => e = .returned (.tuple #[.string (put s n v), .int .i64 0]) ∧ Ext w w' := by
  have e0 : decide ((n : Int) < 1) = false := by simp; omega
  have e8 : decide ((8 : Int) < (n : Int)) = false := by simp; omega
  have e9 : ((v : Int) / 2 ^ (8 * n) != 0) = false := by
    have h0 : v / 2 ^ (8 * n) = 0 := Nat.div_eq_of_lt hvn
    have : (v : Int) / 2 ^ (8 * n) = ((v / 2 ^ (8 * n) : Nat) : Int) := by simp
    rw [this, h0]; rfl
  have kd := fun (W : World) (b : UInt8) => run_convert_bytes_back (P := Tryd.prog) (W.alloc (.cells #[.int .u8 (b.toNat : Int)] 5)) 89 9 5 ⟨W.heap.size, 0, none⟩ 1 [b] Tryd.underlying89 Tryd.underlying5 Tryd.underlying9 (byte_new W b _)
  simp only [List.length_cons, List.length_nil, Nat.zero_add] at kd
  replace hvn := hide hvn
  by_cases h9 : n < 8
  all_goals
    go_enter Tryd.func44, Tryd.ntmps44
    go_wp2
    go_loopw [0, 8] (fun o i wr => ∃ (k : Nat) (t : ByteArray), k ≤ n ∧ i = .int .i64 ((n : Int) - 1 - k) ∧ o = .string t ∧ t.data.toList = s.data.toList ++ (be n v).take k ∧ Ext w wr) (fun _ i _ => (intOf i + 1).toNat)
    case atStart => exact ⟨0, s, Nat.zero_le _, by simp, rfl, by simp, Ext.refl _⟩
    case round =>
      obtain ⟨k, t, hk, rfl, rfl, ht, hE⟩ := hrel
      replace hE := hide hE
      have hts : t.size ≤ 33554440 := by
        have h := congrArg List.length ht
        have h2 : t.data.toList.length = t.size := by simp
        have h3 : s.data.toList.length = s.size := by simp
        rw [List.length_append, List.length_take, be_length] at h
        omega
      replace ht := hide ht
      by_cases hlt : k < n
      · have hb := byt_cast v (n - 1 - k)
        go_wp2
        go_roundw
        case rel => exact ⟨k + 1, _, by omega, by simp; omega, rfl, by rw [be_snoc n v k hlt, ← List.append_assoc, ← ht.out]; simp, hE.out.alloc _⟩
        case measure => simp [intOf]; omega
      · obtain rfl : k = n := by omega
        go_wp2
        go_ret2
        have h := ht.out
        rw [be_all] at h
        refine ⟨?_, hE.out⟩
        have : t = put s k v := by
          unfold put; rw [← h]
        rw [this]
        rfl
end Go.Proofs.YtiappobhljiknaaDoor
