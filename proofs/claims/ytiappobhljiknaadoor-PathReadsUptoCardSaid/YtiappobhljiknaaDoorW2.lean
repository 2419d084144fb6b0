/- Walks: aspath.Check, lengths. -/
import Derived.Test.YtiappobhljiknaaDoorW1
namespace Go.Proofs.YtiappobhljiknaaDoor
open Go.RowKit

/-- A path at an address in a world, all below its heap's end. -/
def Path (w : World) (a : Option Addr) (l : List Seg) : Prop := Sl ESeg w (· < w.heap.size) a l
theorem Path.ext {w w' : World} {a : Option Addr} {l : List Seg} (h : Path w a l) (he : Ext w w') : Path w' a l := Sl.ext h he
theorem Path.take {w : World} {a : Option Addr} {l : List Seg} (h : Path w a l) (n : Nat) : Path w a (l.take n) := Sl.take h n

theorem errOf_t : errOf true = 0 := rfl
theorem errOf_f : errOf false = 2 := rfl
theorem all_take_succ (l : List Seg) (k : Nat) (hk : k < l.length) (f : Seg → Bool) : (l.take (k + 1)).all f = ((l.take k).all f && f l[k]) := by
  rw [List.take_succ_eq_append_getElem hk, List.all_append]; simp
theorem all_false (l : List Seg) (k : Nat) (hk : k < l.length) (f : Seg → Bool) (h : f l[k] = false) : l.all f = false := by
  rw [List.all_eq_false]; exact ⟨l[k], List.getElem_mem hk, by simp [h]⟩

theorem chk_bad (l : List Seg) (k : Nat) (hk : k < l.length) (h : segOk l[k] = false) : errOf (chk l) = 2 := by
  have : chk l = false := by simp [chk, all_false l k hk segOk h]
  rw [this]; rfl
set_option maxHeartbeats 1000000 in
theorem Check_any (a : Option Addr) (c : Nat) (l : List Seg) (w : World) (hl : l.length ≤ 16777216) (hs : Path w a l) :
    Calls Tryd.prog 22 #[.slice a l.length c] w fun e w' => e = .returned (.int .i64 (errOf (chk l))) ∧ Ext w w' := by
  replace hs := hide hs
  by_cases h16 : 16 < l.length
  · have hc : chk l = false := by simp [chk]; omega
    replace hc := hide hc
    go_enter Tryd.func22, Tryd.ntmps22
    go_wp2
    go_ret
    exact ⟨by rw [hc.out]; rfl, Ext.refl _⟩
  · go_enter Tryd.func22, Tryd.ntmps22
    go_wp2
    go_loopw [10] (fun i wr => ∃ k : Nat, k ≤ l.length ∧ i = .int .i64 k ∧ Ext w wr ∧ (l.take k).all segOk = true) (fun i _ => l.length - (intOf i).toNat)
    case atStart => exact ⟨0, Nat.zero_le _, rfl, Ext.refl _, rfl⟩
    case round =>
      obtain ⟨k, hk, rfl, he, ha⟩ := hrel
      replace ha := hide ha
      replace he := hide he
      by_cases hlt : k < l.length
      · obtain ⟨b, off, ak, ck, rfl, _, h0, h1, hm, hs', hk1, hk2⟩ := ESeg.at (hs.out.ext he.out) k hlt
        replace hs' := hide hs'
        go_wp2_with (go_at_call 53; refine (Contains_any _ _ _ 0 _ _ hm (hs'.out.ext ((Ext.refl _).alloc _))).mono ?_; rintro e w' ⟨rfl, rfl⟩)
        case roundEnd =>
          have hz : ¬0 ∈ l[k].as := (‹_ ∧ ¬0 ∈ l[k].as›).2
          have hok : segOk l[k] = true := by simp [segOk, hz]; omega
          go_round
          case rel => exact ⟨k + 1, by omega, by go_num, he.out.alloc _, by rw [all_take_succ l k hlt, ha.out, hok]; rfl⟩
          case measure => simp [intOf]; omega
        all_goals
          have hno : segOk l[k] = false := by
            by_cases hz : 0 ∈ l[k].as
            · simp [segOk, hz]
            · simp only [hz, or_false] at *
              simp [segOk]
              omega
          go_ret
          exact ⟨ret_int (chk_bad l k hlt hno).symm, he.out.alloc _⟩
      · go_wp2
        go_ret
        refine ⟨ret_int ?_, he.out⟩
        obtain rfl : k = l.length := by omega
        have := ha.out
        rw [List.take_length] at this
        simp [chk, this, errOf]; omega

theorem Check_ok (a : Option Addr) (c : Nat) (l : List Seg) (w : World) (hl : l.length ≤ 16777216) (hs : Path w a l) (h : chk l = true) :
    Calls Tryd.prog 22 #[.slice a l.length c] w fun e w' => e = .returned (.int .i64 0) ∧ Ext w w' := by
  have := Check_any a c l w hl hs
  rw [h] at this
  exact this
theorem Check_no (a : Option Addr) (c : Nat) (l : List Seg) (w : World) (hl : l.length ≤ 16777216) (hs : Path w a l) (h : chk l = false) :
    Calls Tryd.prog 22 #[.slice a l.length c] w fun e w' => e = .returned (.int .i64 2) ∧ Ext w w' := by
  have := Check_any a c l w hl hs
  rw [h] at this
  exact this
theorem lenS_bd_take (l : List Seg) (k : Nat) (hk : k ≤ l.length) (hl : l.length ≤ 16777216) (h : ∀ s ∈ l, s.as.length ≤ 16777216) : 0 ≤ lenS (l.take k) ∧ lenS (l.take k) ≤ 281474976710656 := by
  have := lenS_bd (l.take k) fun s hs => h s (List.mem_of_mem_take hs)
  simp only [List.length_take] at this
  omega
theorem Path.as_le {w : World} {a : Option Addr} {l : List Seg} (h : Path w a l) : ∀ s ∈ l, s.as.length ≤ 16777216 := by
  intro s hs
  obtain ⟨k, hk, rfl⟩ := List.getElem_of_mem hs
  obtain ⟨_, _, _, _, _, _, _, _, hm, _⟩ := ESeg.at h k hk
  exact hm

set_option maxHeartbeats 1000000 in
theorem Length_any (a : Option Addr) (c : Nat) (l : List Seg) (w : World) (hl : l.length ≤ 16777216) (hs : Path w a l) :
    Calls Tryd.prog 24 #[.slice a l.length c] w fun e w' => e = .returned (.int .i64 (lenS l)) ∧ Ext w w' := by
  replace hs := hide hs
  go_enter Tryd.func24, Tryd.ntmps24
  go_wp2
  go_loopw [3, 8] (fun n i wr => ∃ k : Nat, k ≤ l.length ∧ i = .int .i64 k ∧ Ext w wr ∧ n = .int .i64 (lenS (l.take k))) (fun _ i _ => l.length - (intOf i).toNat)
  case atStart => exact ⟨0, Nat.zero_le _, rfl, Ext.refl _, rfl⟩
  case round =>
    obtain ⟨k, hk, rfl, he, rfl⟩ := hrel
    replace he := hide he
    have hbd := lenS_bd_take l k hk hl hs.out.as_le
    by_cases hlt : k < l.length
    · obtain ⟨b, off, ak, ck, rfl, _, h0, h1, hm, hs', hk1, hk2⟩ := ESeg.at (hs.out.ext he.out) k hlt
      have hsu := hide (lenS_succ l k hlt)
      clear hs'
      by_cases h2 : l[k].kind = 2
      · have e1 : (l[k].kind == 2) = true := by simpa using h2
        replace h2 := hide h2
        go_wp2
        go_round
        case rel => exact ⟨k + 1, by omega, by go_num, he.out.alloc _, by rw [hsu.out, segLen, if_pos h2.out]⟩
        case measure => simp [intOf]; omega
      · by_cases h3 : l[k].kind = 1
        · have e1 : (l[k].kind == 2) = false := by simpa using h2
          have e3 : (l[k].kind == 1) = true := by simpa using h3
          replace h2 := hide h2
          replace h3 := hide h3
          go_wp2
          go_round
          case rel => exact ⟨k + 1, by omega, by go_num, he.out.alloc _, by rw [hsu.out, segLen, if_neg h2.out, if_pos h3.out]⟩
          case measure => simp [intOf]; omega
        · have e1 : (l[k].kind == 2) = false := by simpa using h2
          have e3 : (l[k].kind == 1) = false := by simpa using h3
          replace h2 := hide h2
          replace h3 := hide h3
          go_wp2
          go_round
          case rel => exact ⟨k + 1, by omega, by go_num, he.out.alloc _, by rw [hsu.out, segLen, if_neg h2.out, if_neg h3.out, Int.add_zero]⟩
          case measure => simp [intOf]; omega
    · go_wp2
      go_ret
      refine ⟨ret_int ?_, he.out⟩
      rw [List.take_of_length_le (by omega)]
end Go.Proofs.YtiappobhljiknaaDoor
