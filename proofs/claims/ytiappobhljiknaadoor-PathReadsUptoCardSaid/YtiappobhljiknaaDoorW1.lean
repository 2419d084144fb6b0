/- Walks: slices.Index, slices.Contains at uint32; aspath.Check and its answer by the document; lengths. -/
import Derived.Test.YtiappobhljiknaaDoorLib
import Derived.Test.YtiappobhljiknaaDoorA4
namespace Go.Proofs.YtiappobhljiknaaDoor
open Go.RowKit


set_option maxHeartbeats 1000000 in
theorem Index_any (a : Option Addr) (c : Nat) (l : List UInt32) (x : UInt32) (w : World) (S : Nat → Prop) (hl : l.length ≤ 16777216) (hs : Sl EU32 w S a l) :
    Calls Tryd.prog 78 #[.slice a l.length c, .int .u32 (x.toNat : Int)] w fun e w' => e = .returned (.int .i64 (idxU l x)) ∧ w = w' := by
  replace hs := hide hs
  go_enter Tryd.func78, Tryd.ntmps78
  go_wp2
  go_loop [5, 8] (fun _ i => ∃ k : Nat, k ≤ l.length ∧ i = .int .i64 k ∧ ∀ j, j < k → l[j]? ≠ some x) (fun _ i => l.length - (intOf i).toNat)
  case atStart => exact ⟨0, Nat.zero_le _, rfl, fun j h => by omega⟩
  case round =>
    obtain ⟨k, hk, rfl, hj⟩ := hrel
    replace hj := hide hj
    by_cases hlt : k < l.length
    · obtain ⟨b, off, rfl, _, h0⟩ := EU32.at hs.out k hlt
      have hb := u32_beq x l[k]
      by_cases hq : x = l[k]
      · rw [show (x == l[k]) = true by simpa using hq] at hb
        replace hq := hide hq
        go_wp2
        go_ret
        exact ⟨ret_int (idxU_at l x k hlt hq.out.symm hj.out).symm, rfl⟩
      · rw [show (x == l[k]) = false by simpa using hq] at hb
        replace hq := hide hq
        go_wp2
        go_round
        case rel => exact ⟨k + 1, by omega, by go_num, fun j hjk => by
          rcases Nat.lt_or_ge j k with h | h
          · exact hj.out j h
          · obtain rfl : j = k := by omega
            rw [List.getElem?_eq_getElem hlt]
            intro he; injection he with he; exact hq.out he.symm⟩
        case measure => simp [intOf]; omega
    · go_wp2
      go_ret
      exact ⟨ret_int (idxU_none l x fun j hj' => hj.out j (by omega)).symm, rfl⟩

set_option maxHeartbeats 1000000 in
theorem Contains_any (a : Option Addr) (c : Nat) (l : List UInt32) (x : UInt32) (w : World) (S : Nat → Prop) (hl : l.length ≤ 16777216) (hs : Sl EU32 w S a l) :
    Calls Tryd.prog 53 #[.slice a l.length c, .int .u32 (x.toNat : Int)] w fun e w' => e = .returned (.bool (l.contains x)) ∧ w = w' := by
  replace hs := hide hs
  have hi := hide (idxU_bd l x)
  go_enter Tryd.func53, Tryd.ntmps53
  go_wp2_with (go_at_call 78; refine (Index_any a c l x _ S hl hs.out).mono ?_; rintro e w' ⟨rfl, rfl⟩)
  go_ret
  refine ⟨ret_bool ?_, rfl⟩
  rw [Bool.eq_iff_iff]
  simpa using hi.out.2
end Go.Proofs.YtiappobhljiknaaDoor
