/- Walks: slices.Index, slices.Contains at uint32; aspath.Check and its answer by the document; lengths. Walks: aspath.Check, lengths. Walks: are two the same? slices.Equal, slices.EqualFunc, aspath.Same; the document's Same. Walks: paths in memory of one's own. -/
import Derived.Test.YtiappobhljiknaaGreatDoorLib
import Derived.Test.YtiappobhljiknaaGreatDoorA4
namespace Go.Proofs.YtiappobhljiknaaGreatDoor
open Go.RowKit


set_option maxHeartbeats 1000000 in
theorem Index_any (a : Option Addr) (c : Nat) (l : List UInt32) (x : UInt32) (w : World) (S : Nat → Prop) (hl : l.length ≤ 16777216) (hs : Sl EU32 w S a l) :
    Calls Tryz.prog 46 #[.slice a l.length c, .int .u32 (x.toNat : Int)] w fun e w' => e = .returned (.int .i64 (idxU l x)) ∧ w = w' := by
  replace hs := hide hs
  go_enter Tryz.func46, Tryz.ntmps46
  go_wp2
  go_loop [5, 8] (fun _ i => ∃ k : Nat, k ≤ l.length ∧ i = .int .i64 k ∧ ∀ j, j < k → l[j]? ≠ some x) (fun _ i => l.length - (intOf i).toNat)
  case atStart => exact ⟨0, Nat.zero_le _, rfl, fun j h => by omega⟩
  case round =>
    obtain ⟨k, hk, rfl, hj⟩ := hrel
    replace hj := hide hj
    by_cases hlt : k < l.length
    · obtain ⟨b, off, rfl, _, h0⟩ := EU32.at hs.out k hlt
      have hb := u32_beq x l[k]
      by_cases hq : x = l[k]
      · rw [show (x == l[k]) = true by simpa using hq] at hb
        replace hq := hide hq
        go_wp2
        go_ret
        exact ⟨ret_int (idxU_at l x k hlt hq.out.symm hj.out).symm, rfl⟩
      · rw [show (x == l[k]) = false by simpa using hq] at hb
        replace hq := hide hq
        go_wp2
        go_round
        case rel => exact ⟨k + 1, by omega, by go_num, fun j hjk => by
          rcases Nat.lt_or_ge j k with h | h
          · exact hj.out j h
          · obtain rfl : j = k := by omega
            rw [List.getElem?_eq_getElem hlt]
            intro he; injection he with he; exact hq.out he.symm⟩
        case measure => simp [intOf]; omega
    · go_wp2
      go_ret
      exact ⟨ret_int (idxU_none l x fun j hj' => hj.out j (by omega)).symm, rfl⟩

set_option maxHeartbeats 1000000 in
theorem Contains_any (a : Option Addr) (c : Nat) (l : List UInt32) (x : UInt32) (w : World) (S : Nat → Prop) (hl : l.length ≤ 16777216) (hs : Sl EU32 w S a l) :
    Calls Tryz.prog 23 #[.slice a l.length c, .int .u32 (x.toNat : Int)] w fun e w' => e = .returned (.bool (l.contains x)) ∧ w = w' := by
  replace hs := hide hs
  have hi := hide (idxU_bd l x)
  go_enter Tryz.func23, Tryz.ntmps23
  go_wp2_with (go_at_call 46; refine (Index_any a c l x _ S hl hs.out).mono ?_; rintro e w' ⟨rfl, rfl⟩)
  go_ret
  refine ⟨ret_bool ?_, rfl⟩
  rw [Bool.eq_iff_iff]
  simpa using hi.out.2

/-- A path at an address in a world, all below its heap's end. -/
def Path (w : World) (a : Option Addr) (l : List Seg) : Prop := Sl ESeg w (· < w.heap.size) a l
theorem Path.ext {w w' : World} {a : Option Addr} {l : List Seg} (h : Path w a l) (he : Ext w w') : Path w' a l := Sl.ext h he
theorem Path.take {w : World} {a : Option Addr} {l : List Seg} (h : Path w a l) (n : Nat) : Path w a (l.take n) := Sl.take h n

theorem errOf_t : errOf true = 0 := rfl
theorem errOf_f : errOf false = 2 := rfl
theorem all_take_succ (l : List Seg) (k : Nat) (hk : k < l.length) (f : Seg → Bool) : (l.take (k + 1)).all f = ((l.take k).all f && f l[k]) := by
  rw [List.take_succ_eq_append_getElem hk, List.all_append]; simp
theorem all_false (l : List Seg) (k : Nat) (hk : k < l.length) (f : Seg → Bool) (h : f l[k] = false) : l.all f = false := by
  rw [List.all_eq_false]; exact ⟨l[k], List.getElem_mem hk, by simp [h]⟩

theorem chk_bad (l : List Seg) (k : Nat) (hk : k < l.length) (h : segOk l[k] = false) : errOf (chk l) = 2 := by
  have : chk l = false := by simp [chk, all_false l k hk segOk h]
  rw [this]; rfl
set_option maxHeartbeats 1000000 in
theorem Check_any (a : Option Addr) (c : Nat) (l : List Seg) (w : World) (hl : l.length ≤ 16777216) (hs : Path w a l) :
    Calls Tryz.prog 17 #[.slice a l.length c] w fun e w' => e = .returned (.int .i64 (errOf (chk l))) ∧ Ext w w' := by
  replace hs := hide hs
  by_cases h16 : 16 < l.length
  · have hc : chk l = false := by simp [chk]; omega
    replace hc := hide hc
    go_enter Tryz.func17, Tryz.ntmps17
    go_wp2
    go_ret
    exact ⟨by rw [hc.out]; rfl, Ext.refl _⟩
  · go_enter Tryz.func17, Tryz.ntmps17
    go_wp2
    go_loopw [10] (fun i wr => ∃ k : Nat, k ≤ l.length ∧ i = .int .i64 k ∧ Ext w wr ∧ (l.take k).all segOk = true) (fun i _ => l.length - (intOf i).toNat)
    case atStart => exact ⟨0, Nat.zero_le _, rfl, Ext.refl _, rfl⟩
    case round =>
      obtain ⟨k, hk, rfl, he, ha⟩ := hrel
      replace ha := hide ha
      replace he := hide he
      by_cases hlt : k < l.length
      · obtain ⟨b, off, ak, ck, rfl, _, h0, h1, hm, hs', hk1, hk2⟩ := ESeg.at (hs.out.ext he.out) k hlt
        replace hs' := hide hs'
        go_wp2_with (go_at_call 23; refine (Contains_any _ _ _ 0 _ _ hm (hs'.out.ext ((Ext.refl _).alloc _))).mono ?_; rintro e w' ⟨rfl, rfl⟩)
        case roundEnd =>
          have hz : ¬0 ∈ l[k].as := (‹_ ∧ ¬0 ∈ l[k].as›).2
          have hok : segOk l[k] = true := by simp [segOk, hz]; omega
          go_round
          case rel => exact ⟨k + 1, by omega, by go_num, he.out.alloc _, by rw [all_take_succ l k hlt, ha.out, hok]; rfl⟩
          case measure => simp [intOf]; omega
        all_goals
          have hno : segOk l[k] = false := by
            by_cases hz : 0 ∈ l[k].as
            · simp [segOk, hz]
            · simp only [hz, or_false] at *
              simp [segOk]
              omega
          go_ret
          exact ⟨ret_int (chk_bad l k hlt hno).symm, he.out.alloc _⟩
      · go_wp2
        go_ret
        refine ⟨ret_int ?_, he.out⟩
        obtain rfl : k = l.length := by omega
        have := ha.out
        rw [List.take_length] at this
        simp [chk, this, errOf]; omega

theorem Check_ok (a : Option Addr) (c : Nat) (l : List Seg) (w : World) (hl : l.length ≤ 16777216) (hs : Path w a l) (h : chk l = true) :
    Calls Tryz.prog 17 #[.slice a l.length c] w fun e w' => e = .returned (.int .i64 0) ∧ Ext w w' := by
  have := Check_any a c l w hl hs
  rw [h] at this
  exact this
theorem Check_no (a : Option Addr) (c : Nat) (l : List Seg) (w : World) (hl : l.length ≤ 16777216) (hs : Path w a l) (h : chk l = false) :
    Calls Tryz.prog 17 #[.slice a l.length c] w fun e w' => e = .returned (.int .i64 2) ∧ Ext w w' := by
  have := Check_any a c l w hl hs
  rw [h] at this
  exact this
theorem lenS_bd_take (l : List Seg) (k : Nat) (hk : k ≤ l.length) (hl : l.length ≤ 16777216) (h : ∀ s ∈ l, s.as.length ≤ 16777216) : 0 ≤ lenS (l.take k) ∧ lenS (l.take k) ≤ 281474976710656 := by
  have := lenS_bd (l.take k) fun s hs => h s (List.mem_of_mem_take hs)
  simp only [List.length_take] at this
  omega
theorem Path.as_le {w : World} {a : Option Addr} {l : List Seg} (h : Path w a l) : ∀ s ∈ l, s.as.length ≤ 16777216 := by
  intro s hs
  obtain ⟨k, hk, rfl⟩ := List.getElem_of_mem hs
  obtain ⟨_, _, _, _, _, _, _, _, hm, _⟩ := ESeg.at h k hk
  exact hm

set_option maxHeartbeats 1000000 in
theorem Length_any (a : Option Addr) (c : Nat) (l : List Seg) (w : World) (hl : l.length ≤ 16777216) (hs : Path w a l) :
    Calls Tryz.prog 6 #[.slice a l.length c] w fun e w' => e = .returned (.int .i64 (lenS l)) ∧ Ext w w' := by
  replace hs := hide hs
  go_enter Tryz.func6, Tryz.ntmps6
  go_wp2
  go_loopw [3, 8] (fun n i wr => ∃ k : Nat, k ≤ l.length ∧ i = .int .i64 k ∧ Ext w wr ∧ n = .int .i64 (lenS (l.take k))) (fun _ i _ => l.length - (intOf i).toNat)
  case atStart => exact ⟨0, Nat.zero_le _, rfl, Ext.refl _, rfl⟩
  case round =>
    obtain ⟨k, hk, rfl, he, rfl⟩ := hrel
    replace he := hide he
    have hbd := lenS_bd_take l k hk hl hs.out.as_le
    by_cases hlt : k < l.length
    · obtain ⟨b, off, ak, ck, rfl, _, h0, h1, hm, hs', hk1, hk2⟩ := ESeg.at (hs.out.ext he.out) k hlt
      have hsu := hide (lenS_succ l k hlt)
      clear hs'
      by_cases h2 : l[k].kind = 2
      · have e1 : (l[k].kind == 2) = true := by simpa using h2
        replace h2 := hide h2
        go_wp2
        go_round
        case rel => exact ⟨k + 1, by omega, by go_num, he.out.alloc _, by rw [hsu.out, segLen, if_pos h2.out]⟩
        case measure => simp [intOf]; omega
      · by_cases h3 : l[k].kind = 1
        · have e1 : (l[k].kind == 2) = false := by simpa using h2
          have e3 : (l[k].kind == 1) = true := by simpa using h3
          replace h2 := hide h2
          replace h3 := hide h3
          go_wp2
          go_round
          case rel => exact ⟨k + 1, by omega, by go_num, he.out.alloc _, by rw [hsu.out, segLen, if_neg h2.out, if_pos h3.out]⟩
          case measure => simp [intOf]; omega
        · have e1 : (l[k].kind == 2) = false := by simpa using h2
          have e3 : (l[k].kind == 1) = false := by simpa using h3
          replace h2 := hide h2
          replace h3 := hide h3
          go_wp2
          go_round
          case rel => exact ⟨k + 1, by omega, by go_num, he.out.alloc _, by rw [hsu.out, segLen, if_neg h2.out, if_neg h3.out, Int.add_zero]⟩
          case measure => simp [intOf]; omega
    · go_wp2
      go_ret
      refine ⟨ret_int ?_, he.out⟩
      rw [List.take_of_length_le (by omega)]
set_option linter.unusedVariables false

def sameU (x y : List UInt32) : Bool := decide (x = y)
theorem sameU_ne {x y : List UInt32} (h : x.length ≠ y.length) : sameU x y = false := by
  simp only [sameU, decide_eq_false_iff_not]; rintro rfl; exact h rfl
theorem sameU_at {x y : List UInt32} {k : Nat} (hx : k < x.length) (hy : k < y.length) (h : x[k] ≠ y[k]) : sameU x y = false := by
  simp only [sameU, decide_eq_false_iff_not]; rintro rfl; exact h rfl
theorem sameU_end {x y : List UInt32} {k : Nat} (hx : ¬ k < x.length) (hl : x.length = y.length) (h : x.take k = y.take k) : sameU x y = true := by
  simp only [sameU, decide_eq_true_eq]
  rwa [List.take_of_length_le (by omega), List.take_of_length_le (by omega)] at h
theorem take_same {α : Type} {x y : List α} {k : Nat} (hx : k < x.length) (hy : k < y.length) (h : x.take k = y.take k) (he : x[k] = y[k]) : x.take (k + 1) = y.take (k + 1) := by
  rw [List.take_succ_eq_append_getElem hx, List.take_succ_eq_append_getElem hy, h, he]
set_option maxHeartbeats 1000000 in
theorem Equal_any (a b : Option Addr) (c d : Nat) (x y : List UInt32) (w : World) (S T : Nat → Prop) (hx : x.length ≤ 16777216) (hy : y.length ≤ 16777216) (hs : Sl EU32 w S a x) (ht : Sl EU32 w T b y) :
    Calls Tryz.prog 28 #[.slice a x.length c, .slice b y.length d] w fun e w' => e = .returned (.bool (sameU x y)) ∧ Drew w w' := by
  replace hs := hide hs
  replace ht := hide ht
  by_cases hne : x.length = y.length
  · have e0 : ((x.length : Int) != (y.length : Int)) = false := by simp [hne]
    replace hne := hide hne
    go_enter Tryz.func28, Tryz.ntmps28
    go_wp2
    go_loopw [5, 13] (fun _ i wr => ∃ k : Nat, k ≤ x.length ∧ i = .int .i64 k ∧ x.take k = y.take k ∧ Drew w wr) (fun _ i _ => x.length - (intOf i).toNat)
    case atStart => exact ⟨0, Nat.zero_le _, rfl, by simp, Drew.refl _⟩
    case round =>
      obtain ⟨k, hk, rfl, hj, hd⟩ := hrel
      replace hd := hide hd
      replace hj := hide hj
      by_cases hlt : k < x.length
      · have hlt' : k < y.length := by have := hne.out; omega
        obtain ⟨b1, o1, rfl, _, h0⟩ := EU32.at (hs.out.drew hd.out) k hlt
        obtain ⟨b2, o2, rfl, _, h1⟩ := EU32.at (ht.out.drew hd.out) k hlt'
        have hb := u32_bne x[k] y[k]
        by_cases hq : x[k] = y[k]
        · rw [show (x[k] != y[k]) = false by simpa using hq] at hb
          replace hq := hide hq
          go_wp2
          go_quiet (fail)
          go_wp2
          go_roundw
          case rel => exact ⟨k + 1, by omega, by go_num, take_same hlt hlt' hj.out hq.out, hd.out.more _⟩
          case measure => simp [intOf]; omega
        · rw [show (x[k] != y[k]) = true by simpa using hq] at hb
          replace hq := hide hq
          go_wp2
          go_quiet (fail)
          go_wp2
          go_ret
          exact ⟨ret_bool (sameU_at hlt hlt' hq.out).symm, hd.out.more _⟩
      · go_wp2
        go_ret
        exact ⟨ret_bool (sameU_end hlt hne.out hj.out).symm, hd.out⟩
  · have e0 : ((x.length : Int) != (y.length : Int)) = true := by simp; omega
    replace hne := hide hne
    go_enter Tryz.func28, Tryz.ntmps28
    go_wp2
    go_ret
    exact ⟨ret_bool (sameU_ne hne.out).symm, Drew.refl _⟩


def sameSeg (x y : Seg) : Bool := x.kind == y.kind && sameU x.as y.as
theorem sameSeg_iff (x y : Seg) : sameSeg x y = true ↔ x = y := by
  cases x; cases y; simp [sameSeg, sameU]
def sameP (x y : List Seg) : Bool := decide (x = y)
theorem sameP_ne {x y : List Seg} (h : x.length ≠ y.length) : sameP x y = false := by
  simp only [sameP, decide_eq_false_iff_not]; rintro rfl; exact h rfl
theorem sameP_at {x y : List Seg} {k : Nat} (hx : k < x.length) (hy : k < y.length) (h : sameSeg x[k] y[k] = false) : sameP x y = false := by
  simp only [sameP, decide_eq_false_iff_not]; rintro rfl
  have := (sameSeg_iff x[k] x[k]).2 rfl
  rw [h] at this; cases this
theorem sameP_end {x y : List Seg} {k : Nat} (hx : ¬ k < x.length) (hl : x.length = y.length) (h : x.take k = y.take k) : sameP x y = true := by
  simp only [sameP, decide_eq_true_eq]
  rwa [List.take_of_length_le (by omega), List.take_of_length_le (by omega)] at h

set_option maxHeartbeats 1000000 in
/-- The closure of aspath.Same. -/
theorem Same1_any (a b : Option Addr) (c d : Nat) (x y : Seg) (w : World) (hx : x.as.length ≤ 16777216) (hy : y.as.length ≤ 16777216) (hs : Sl EU32 w (· < w.heap.size) a x.as) (ht : Sl EU32 w (· < w.heap.size) b y.as) :
    Calls Tryz.prog 27 #[.agg #[.int .i64 x.kind, .slice a x.as.length c], .agg #[.int .i64 y.kind, .slice b y.as.length d]] w fun e w' => e = .returned (.bool (sameSeg x y)) ∧ Ext w w' := by
  replace hs := hide hs
  replace ht := hide ht
  by_cases hkd : x.kind = y.kind
  · have e1 : (x.kind == y.kind) = true := by simp [hkd]
    have hss : sameSeg x y = sameU x.as y.as := by simp [sameSeg, hkd]
    replace hss := hide hss
    replace hkd := hide hkd
    go_enter Tryz.func27, Tryz.ntmps27
    go_wp2_with (go_at_call 28; refine (Equal_any _ _ _ _ _ _ _ _ _ hx hy (hs.out.ext (((Ext.refl _).alloc _).alloc _)) (ht.out.ext (((Ext.refl _).alloc _).alloc _))).mono ?_; rintro e w' ⟨rfl, hd⟩; replace hd := hide hd)
    go_ret
    exact ⟨ret_bool hss.out.symm, (((Ext.refl _).alloc _).alloc _).trans hd.out.ext⟩
  · have e1 : (x.kind == y.kind) = false := by simp [hkd]
    have hss : sameSeg x y = false := by simp [sameSeg, hkd]
    replace hss := hide hss
    replace hkd := hide hkd
    go_enter Tryz.func27, Tryz.ntmps27
    go_wp2
    go_ret
    exact ⟨ret_bool hss.out.symm, (((Ext.refl _).alloc _).alloc _)⟩

set_option maxHeartbeats 1000000 in
theorem EqualFunc_any (a b : Option Addr) (c d : Nat) (x y : List Seg) (w : World) (hx : x.length ≤ 16777216) (hy : y.length ≤ 16777216) (hs : Path w a x) (ht : Path w b y) :
    Calls Tryz.prog 26 #[.slice a x.length c, .slice b y.length d, .func (.func 27) #[] #[]] w fun e w' => e = .returned (.bool (sameP x y)) ∧ Ext w w' := by
  replace hs := hide hs
  replace ht := hide ht
  by_cases hne : x.length = y.length
  · have e0 : ((x.length : Int) != (y.length : Int)) = false := by simp [hne]
    replace hne := hide hne
    go_enter Tryz.func26, Tryz.ntmps26
    go_wp2
    go_loopw [7, 17] (fun _ i wr => ∃ k : Nat, k ≤ x.length ∧ i = .int .i64 k ∧ x.take k = y.take k ∧ Ext w wr) (fun _ i _ => x.length - (intOf i).toNat)
    case atStart => exact ⟨0, Nat.zero_le _, rfl, by simp, Ext.refl _⟩
    case round =>
      obtain ⟨k, hk, rfl, hj, hd⟩ := hrel
      replace hd := hide hd
      replace hj := hide hj
      by_cases hlt : k < x.length
      · have hlt' : k < y.length := by have := hne.out; omega
        obtain ⟨b1, o1, a1, c1, rfl, _, h0, h1, hm1, hs1, hk1, hk2⟩ := ESeg.at (hs.out.ext hd.out) k hlt
        obtain ⟨b2, o2, a2, c2, rfl, _, g0, g1, hm2, hs2, hk3, hk4⟩ := ESeg.at (ht.out.ext hd.out) k hlt'
        replace hs1 := hide hs1
        replace hs2 := hide hs2
        have hlt2 : (k : Int) < (y.length : Int) := by omega
        by_cases hq : sameSeg x[k] y[k] = true
        · replace hq := hide hq
          go_wp2_with (go_at_call 27; refine (Same1_any _ _ _ _ x[k] y[k] _ hm1 hm2 (hs1.out.ext (((Ext.refl _).alloc _).alloc _)) (hs2.out.ext (((Ext.refl _).alloc _).alloc _))).mono ?_; rw [hq.out]; rintro e w' ⟨rfl, he⟩; replace he := hide he)
          go_roundw
          case rel => exact ⟨k + 1, by omega, by go_num, take_same hlt hlt' hj.out ((sameSeg_iff _ _).1 hq.out), hd.out.trans ((((Ext.refl _).alloc _).alloc _).trans he.out)⟩
          case measure => simp [intOf]; omega
        · replace hq : sameSeg x[k] y[k] = false := by simpa using hq
          replace hq := hide hq
          go_wp2_with (go_at_call 27; refine (Same1_any _ _ _ _ x[k] y[k] _ hm1 hm2 (hs1.out.ext (((Ext.refl _).alloc _).alloc _)) (hs2.out.ext (((Ext.refl _).alloc _).alloc _))).mono ?_; rw [hq.out]; rintro e w' ⟨rfl, he⟩; replace he := hide he)
          go_ret
          exact ⟨ret_bool (sameP_at hlt hlt' hq.out).symm, hd.out.trans ((((Ext.refl _).alloc _).alloc _).trans he.out)⟩
      · go_wp2
        go_ret
        exact ⟨ret_bool (sameP_end hlt hne.out hj.out).symm, hd.out⟩
  · have e0 : ((x.length : Int) != (y.length : Int)) = true := by simp; omega
    replace hne := hide hne
    go_enter Tryz.func26, Tryz.ntmps26
    go_wp2
    go_ret
    exact ⟨ret_bool (sameP_ne hne.out).symm, Ext.refl _⟩

set_option maxHeartbeats 1000000 in
theorem ASame_any (a b : Option Addr) (c d : Nat) (x y : List Seg) (w : World) (hx : x.length ≤ 16777216) (hy : y.length ≤ 16777216) (hs : Path w a x) (ht : Path w b y) :
    Calls Tryz.prog 11 #[.slice a x.length c, .slice b y.length d] w fun e w' => e = .returned (.bool (sameP x y)) ∧ Ext w w' := by
  replace hs := hide hs
  replace ht := hide ht
  go_enter Tryz.func11, Tryz.ntmps11
  go_wp2_with (go_at_call 26; refine (EqualFunc_any _ _ _ _ _ _ _ hx hy hs.out ht.out).mono ?_; rintro e w' ⟨rfl, he⟩; replace he := hide he)
  go_ret
  exact ⟨rfl, he.out⟩

theorem okU32 : ElemOk Tryz.prog 22 26 1 4 := elemOk (z := .int .u32 0) Tryz.underlying22 (by kernel_rfl) rfl
theorem okSeg : ElemOk Tryz.prog 27 24 2 32 := elemOk (z := .agg #[.int .i64 0, .slice none 0 0]) Tryz.underlying27 (by kernel_rfl) rfl
theorem okU32q : ElemOk Tryz.prog 22 26 EU32.sz 4 := okU32
theorem okSeg' : ElemOk Tryz.prog 27 24 ESeg.sz 32 := okSeg
theorem take_snoc' {α : Type} (l : List α) (k : Nat) (hk : k < l.length) : l.take (k + 1) = l.take k ++ [l[k]] := List.take_succ_eq_append_getElem hk

/-- One way to read the own row: a path in memory of the call's own. -/
theorem Own.path {w w' : World} {v : Value} {B : Nat} {l : List Seg} (h : Own ESeg 24 w B v l) : ∃ a c, v = .slice a l.length c ∧ Path w a l := by
  obtain ⟨a, c, rfl, hs⟩ := h.sl
  exact ⟨a, c, rfl, hs.mono fun _ hb => hb.2⟩

set_option maxHeartbeats 1000000 in
theorem Clone_any (a : Option Addr) (c : Nat) (l : List UInt32) (w : World) (hl : l.length ≤ 16777216) (hs : Sl EU32 w (· < w.heap.size) a l) :
    Calls Tryz.prog 45 #[.slice a l.length c] w fun e w' => ∃ v, e = .returned v ∧ Ext w w' ∧ Own EU32 26 w' w.heap.size v l := by
  replace hs := hide hs
  have q1 := fun (w : World) (a : Option Addr) (n c : Nat) => Lib.run_eql_slice_nil (P := Tryz.prog) w 22 26 a n c 0 0 Tryz.underlying22
  rcases a with _ | ad
  · have hn : l = [] := by
      rcases hs.out with h2 | ⟨_, _, h2, _⟩
      · exact h2
      · cases h2
    subst hn
    go_enter Tryz.func45, Tryz.ntmps45
    go_wp2
    go_ret
    exact ⟨_, rfl, Ext.refl _, Own.nil⟩
  · go_enter Tryz.func45, Tryz.ntmps45
    go_wp2_with (at_builtin; go_must (refine wpList_pushes (B := w.heap.size) rfl _ _ _ rfl okU32 (by decide) rfl (Own.empty (Nat.le_refl _)) (by simp) rfl (by simp; omega) (hs.out.ext ((Ext.refl _).alloc _)) ?_); intro v' w1 hown hg hat)
    go_ret
    refine ⟨_, rfl, ((Ext.refl _).alloc _).push (fun j hj => ?_) hg, by rw [List.nil_append] at hown; exact hown⟩
    have : w.heap.size = j := Option.some.inj hj
    omega

theorem segR {w1 : World} {B : Nat} {v : Value} {x : Seg} {b : Option Addr} {d C : Nat} {T : TypeId} {cs : Array Value} (hv : ∀ k, v.ownBlock = some k → k < C) (hC : B ≤ C) (hk1 : -9223372036854775808 ≤ x.kind) (hk2 : x.kind ≤ 9223372036854775807) (hm : x.as.length ≤ 16777216)
    (hsl : Sl EU32 w1 (fun k => C ≤ k ∧ k < w1.heap.size) b x.as) :
    ESeg.R (w1.alloc (.cells cs T)) (fun b => B ≤ b ∧ b < (w1.alloc (.cells cs T)).heap.size ∧ some b ≠ v.ownBlock) x [.int .i64 x.kind, .slice b x.as.length d] := by
  refine ⟨[.int .i64 x.kind], [.slice b x.as.length d], rfl, ⟨rfl, hk1, hk2⟩, b, d, rfl, hm, ?_⟩
  refine (hsl.frame fun b hb => Below.heap_alloc _ _ _ hb.2).mono fun b hb => ⟨by omega, by simp; omega, fun he => ?_⟩
  have := hv b he.symm
  omega

set_option maxRecDepth 20000 in
set_option maxHeartbeats 1000000 in
theorem clone_any (a : Option Addr) (c : Nat) (l : List Seg) (w : World) (hl : l.length ≤ 16777216) (hs : Path w a l) :
    Calls Tryz.prog 20 #[.slice a l.length c] w fun e w' => ∃ v, e = .returned v ∧ Ext w w' ∧ Own ESeg 24 w' w.heap.size v l := by
  replace hs := hide hs
  go_enter Tryz.func20, Tryz.ntmps20
  go_wp2
  go_loopw [3, 8] (fun v i wr => ∃ k : Nat, k ≤ l.length ∧ i = .int .i64 k ∧ Own ESeg 24 wr w.heap.size v (l.take k) ∧ Ext w wr) (fun _ i _ => l.length - (intOf i).toNat)
  case atStart => exact ⟨0, Nat.zero_le _, rfl, Own.nil, Ext.refl _⟩
  case round =>
    obtain ⟨k, hk, rfl, hown, hE⟩ := hrel
    have hsz := hE.size
    replace hE := hide hE
    replace hown := hide hown
    by_cases hlt : k < l.length
    · obtain ⟨b1, o1, a1, c1, rfl, _, h0, h1, hm1, hs1, hk1, hk2⟩ := ESeg.at (hs.out.ext hE.out) k hlt
      replace hs1 := hide hs1
      go_wp2
      go_region_held3 (fun w' => w'.cell? ⟨wr.heap.size, 0, none⟩ = some (.int .i64 l[k].kind) ∧ w'.cell? ⟨wr.heap.size, 1, none⟩ = some (.slice a1 l[k].as.length c1))
        (go_keep)
        (first
          | (go_at_call 45; refine (Clone_any _ _ l[k].as _ hm1 ?_).mono ?_; exact hs1.out.ext ((Ext.refl _).alloc _).drew; rintro e w1 ⟨v1, rfl, he1, hv1⟩; obtain ⟨b2, d2, rfl, hsl⟩ := hv1.sl
             replace hsl := hsl.mono (S' := fun b => wr.heap.size ≤ b ∧ b < w1.heap.size) fun b hb => ⟨by have := hb.1; simp at this; omega, hb.2⟩
             have hsz1 : wr.heap.size ≤ w1.heap.size := by have := he1.size; simp at this; omega
             have j0 : w1.cell? ⟨wr.heap.size, 0, none⟩ = some (.int .i64 l[k].kind) := ((Blk.new wr 24 #[.int .i64 l[k].kind, .slice a1 l[k].as.length c1]).drew.ext he1).cell 0
             have j1 : w1.cell? ⟨wr.heap.size, 1, none⟩ = some (.slice a1 l[k].as.length c1) := ((Blk.new wr 24 #[.int .i64 l[k].kind, .slice a1 l[k].as.length c1]).drew.ext he1).cell 1
             replace he1 := hide he1; replace hv1 := hide hv1; replace hsl := hide hsl)
          | (refine step_push (E := ESeg) (B := w.heap.size) (v := u3) (l := l.take k) rfl _ _ _ (by rfl) okSeg' (by decide) (by decide) (by rfl) ((hown.out.ext (((Ext.refl _).alloc _).drew.trans he1.out)).alloc _) (by simp; omega) (by simp; omega) (by rfl)
              (segR (C := wr.heap.size) (fun j hj => (hown.out.lt j hj).2) hsz hk1 hk2 hm1 hsl.out) (cells_new w1 #[.int .i64 l[k].kind, .slice b2 l[k].as.length d2] _) ?_
             intro v' w2 hown' hg hat
             have k0 := hg.cell ((((Blk.new wr 24 #[.int .i64 l[k].kind, .slice a1 l[k].as.length c1]).drew.ext he1.out).alloc _).cell 0) (fun h => Nat.lt_irrefl _ (hown.out.lt _ h.symm).2)
             have k1 := hg.cell ((((Blk.new wr 24 #[.int .i64 l[k].kind, .slice a1 l[k].as.length c1]).drew.ext he1.out).alloc _).cell 1) (fun h => Nat.lt_irrefl _ (hown.out.lt _ h.symm).2)))
      go_wp2
      go_roundw
      case rel => exact ⟨k + 1, by omega, by go_num, by rw [take_snoc' _ _ hlt]; exact hown', ((hE.out.trans (((Ext.refl _).alloc _).drew.trans he1.out)).alloc _).push (fun j hj => (hown.out.lt j hj).1) hg⟩
      case measure => simp [intOf]; omega
    · obtain rfl : k = l.length := by omega
      go_wp2
      go_ret
      refine ⟨_, rfl, hE.out, ?_⟩
      have := hown.out
      rwa [List.take_length] at this
end Go.Proofs.YtiappobhljiknaaGreatDoor
