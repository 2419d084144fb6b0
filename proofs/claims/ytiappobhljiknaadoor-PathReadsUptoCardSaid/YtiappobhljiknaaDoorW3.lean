/- Walks: are two the same? slices.Equal, slices.EqualFunc, aspath.Same; the document's Same. -/
import Derived.Test.YtiappobhljiknaaDoorW2
namespace Go.Proofs.YtiappobhljiknaaDoor
open Go.RowKit
set_option linter.unusedVariables false

def sameU (x y : List UInt32) : Bool := decide (x = y)
theorem sameU_ne {x y : List UInt32} (h : x.length ≠ y.length) : sameU x y = false := by
  simp only [sameU, decide_eq_false_iff_not]; rintro rfl; exact h rfl
theorem sameU_at {x y : List UInt32} {k : Nat} (hx : k < x.length) (hy : k < y.length) (h : x[k] ≠ y[k]) : sameU x y = false := by
  simp only [sameU, decide_eq_false_iff_not]; rintro rfl; exact h rfl
theorem sameU_end {x y : List UInt32} {k : Nat} (hx : ¬ k < x.length) (hl : x.length = y.length) (h : x.take k = y.take k) : sameU x y = true := by
  simp only [sameU, decide_eq_true_eq]
  rwa [List.take_of_length_le (by omega), List.take_of_length_le (by omega)] at h
theorem take_same {α : Type} {x y : List α} {k : Nat} (hx : k < x.length) (hy : k < y.length) (h : x.take k = y.take k) (he : x[k] = y[k]) : x.take (k + 1) = y.take (k + 1) := by
  rw [List.take_succ_eq_append_getElem hx, List.take_succ_eq_append_getElem hy, h, he]
set_option maxHeartbeats 1000000 in
theorem Equal_any (a b : Option Addr) (c d : Nat) (x y : List UInt32) (w : World) (S T : Nat → Prop) (hx : x.length ≤ 16777216) (hy : y.length ≤ 16777216) (hs : Sl EU32 w S a x) (ht : Sl EU32 w T b y) :
    Calls Tryd.prog 51 #[.slice a x.length c, .slice b y.length d] w fun e w' => e = .returned (.bool (sameU x y)) ∧ Drew w w' := by
  replace hs := hide hs
  replace ht := hide ht
  by_cases hne : x.length = y.length
  · have e0 : ((x.length : Int) != (y.length : Int)) = false := by simp [hne]
    replace hne := hide hne
    go_enter Tryd.func51, Tryd.ntmps51
    go_wp2
    go_loopw [5, 13] (fun _ i wr => ∃ k : Nat, k ≤ x.length ∧ i = .int .i64 k ∧ x.take k = y.take k ∧ Drew w wr) (fun _ i _ => x.length - (intOf i).toNat)
    case atStart => exact ⟨0, Nat.zero_le _, rfl, by simp, Drew.refl _⟩
    case round =>
      obtain ⟨k, hk, rfl, hj, hd⟩ := hrel
      replace hd := hide hd
      replace hj := hide hj
      by_cases hlt : k < x.length
      · have hlt' : k < y.length := by have := hne.out; omega
        obtain ⟨b1, o1, rfl, _, h0⟩ := EU32.at (hs.out.drew hd.out) k hlt
        obtain ⟨b2, o2, rfl, _, h1⟩ := EU32.at (ht.out.drew hd.out) k hlt'
        have hb := u32_bne x[k] y[k]
        by_cases hq : x[k] = y[k]
        · rw [show (x[k] != y[k]) = false by simpa using hq] at hb
          replace hq := hide hq
          go_wp2
          go_quiet (fail)
          go_wp2
          go_roundw
          case rel => exact ⟨k + 1, by omega, by go_num, take_same hlt hlt' hj.out hq.out, hd.out.more _⟩
          case measure => simp [intOf]; omega
        · rw [show (x[k] != y[k]) = true by simpa using hq] at hb
          replace hq := hide hq
          go_wp2
          go_quiet (fail)
          go_wp2
          go_ret
          exact ⟨ret_bool (sameU_at hlt hlt' hq.out).symm, hd.out.more _⟩
      · go_wp2
        go_ret
        exact ⟨ret_bool (sameU_end hlt hne.out hj.out).symm, hd.out⟩
  · have e0 : ((x.length : Int) != (y.length : Int)) = true := by simp; omega
    replace hne := hide hne
    go_enter Tryd.func51, Tryd.ntmps51
    go_wp2
    go_ret
    exact ⟨ret_bool (sameU_ne hne.out).symm, Drew.refl _⟩


set_option maxHeartbeats 1000000 in
theorem SameAS_any (a b : Option Addr) (c d : Nat) (x y : List UInt32) (w : World) (S T : Nat → Prop) (hx : x.length ≤ 1099511627776) (hy : y.length ≤ 1099511627776) (hs : Sl EU32 w S a x) (ht : Sl EU32 w T b y) :
    Calls Tryd.prog 31 #[.slice a x.length c, .slice b y.length d] w fun e w' => e = .returned (.bool (sameU x y)) ∧ Drew w w' := by
  replace hs := hide hs
  replace ht := hide ht
  by_cases hne : x.length = y.length
  · have e0 : ((x.length : Int) != (y.length : Int)) = false := by simp [hne]
    replace hne := hide hne
    go_enter Tryd.func31, Tryd.ntmps31
    go_wp2
    go_loopw [5] (fun i wr => ∃ k : Nat, k ≤ x.length ∧ i = .int .i64 k ∧ x.take k = y.take k ∧ Drew w wr) (fun i _ => x.length - (intOf i).toNat)
    case atStart => exact ⟨0, Nat.zero_le _, rfl, by simp, Drew.refl _⟩
    case round =>
      obtain ⟨k, hk, rfl, hj, hd⟩ := hrel
      replace hd := hide hd
      replace hj := hide hj
      by_cases hlt : k < x.length
      · have hlt' : k < y.length := by have := hne.out; omega
        obtain ⟨b1, o1, rfl, _, h0⟩ := EU32.at (hs.out.drew hd.out) k hlt
        obtain ⟨b2, o2, rfl, _, h1⟩ := EU32.at (ht.out.drew hd.out) k hlt'
        have hb := u32_bne x[k] y[k]
        by_cases hq : x[k] = y[k]
        · rw [show (x[k] != y[k]) = false by simpa using hq] at hb
          replace hq := hide hq
          go_wp2
          go_quiet (fail)
          go_wp2
          go_roundw
          case rel => exact ⟨k + 1, by omega, by go_num, take_same hlt hlt' hj.out hq.out, hd.out.more _⟩
          case measure => simp [intOf]; omega
        · rw [show (x[k] != y[k]) = true by simpa using hq] at hb
          replace hq := hide hq
          go_wp2
          go_quiet (fail)
          go_wp2
          go_ret
          exact ⟨ret_bool (sameU_at hlt hlt' hq.out).symm, hd.out.more _⟩
      · go_wp2
        go_ret
        exact ⟨ret_bool (sameU_end hlt hne.out hj.out).symm, hd.out⟩
  · have e0 : ((x.length : Int) != (y.length : Int)) = true := by simp; omega
    replace hne := hide hne
    go_enter Tryd.func31, Tryd.ntmps31
    go_wp2
    go_ret
    exact ⟨ret_bool (sameU_ne hne.out).symm, Drew.refl _⟩

def sameSeg (x y : Seg) : Bool := x.kind == y.kind && sameU x.as y.as
theorem sameSeg_iff (x y : Seg) : sameSeg x y = true ↔ x = y := by
  cases x; cases y; simp [sameSeg, sameU]
def sameP (x y : List Seg) : Bool := decide (x = y)
theorem sameP_ne {x y : List Seg} (h : x.length ≠ y.length) : sameP x y = false := by
  simp only [sameP, decide_eq_false_iff_not]; rintro rfl; exact h rfl
theorem sameP_at {x y : List Seg} {k : Nat} (hx : k < x.length) (hy : k < y.length) (h : sameSeg x[k] y[k] = false) : sameP x y = false := by
  simp only [sameP, decide_eq_false_iff_not]; rintro rfl
  have := (sameSeg_iff x[k] x[k]).2 rfl
  rw [h] at this; cases this
theorem sameP_end {x y : List Seg} {k : Nat} (hx : ¬ k < x.length) (hl : x.length = y.length) (h : x.take k = y.take k) : sameP x y = true := by
  simp only [sameP, decide_eq_true_eq]
  rwa [List.take_of_length_le (by omega), List.take_of_length_le (by omega)] at h

set_option maxHeartbeats 1000000 in
theorem RSame_any (a b : Option Addr) (c d : Nat) (x y : List Seg) (w : World) (hx : x.length ≤ 16777216) (hy : y.length ≤ 16777216) (hs : Path w a x) (ht : Path w b y) :
    Calls Tryd.prog 17 #[.slice a x.length c, .slice b y.length d] w fun e w' => e = .returned (.bool (sameP x y)) ∧ Drew w w' := by
  replace hs := hide hs
  replace ht := hide ht
  by_cases hne : x.length = y.length
  · have e0 : ((x.length : Int) != (y.length : Int)) = false := by simp [hne]
    replace hne := hide hne
    go_enter Tryd.func17, Tryd.ntmps17
    go_wp2
    go_loopw [5] (fun i wr => ∃ k : Nat, k ≤ x.length ∧ i = .int .i64 k ∧ x.take k = y.take k ∧ Drew w wr) (fun i _ => x.length - (intOf i).toNat)
    case atStart => exact ⟨0, Nat.zero_le _, rfl, by simp, Drew.refl _⟩
    case round =>
      obtain ⟨k, hk, rfl, hj, hd⟩ := hrel
      replace hd := hide hd
      replace hj := hide hj
      by_cases hlt : k < x.length
      · have hlt' : k < y.length := by have := hne.out; omega
        obtain ⟨b1, o1, a1, c1, rfl, _, h0, h1, hm1, hs1, hk1, hk2⟩ := ESeg.at (hs.out.drew hd.out) k hlt
        obtain ⟨b2, o2, a2, c2, rfl, _, g0, g1, hm2, hs2, hk3, hk4⟩ := ESeg.at (ht.out.drew hd.out) k hlt'
        replace hs1 := hide hs1
        replace hs2 := hide hs2
        by_cases hkd : x[k].kind = y[k].kind
        · have e1 : (x[k].kind != y[k].kind) = false := by simp [hkd]
          by_cases hq : sameU x[k].as y[k].as = true
          · have hss : sameSeg x[k] y[k] = true := by simp [sameSeg, hkd, hq]
            replace hss := hide hss
            replace hkd := hide hkd
            go_wp2
            go_quiet ((go_at_call 31; exact Calls.quiet_of (SameAS_any _ _ _ _ _ _ _ _ _ (Nat.le_trans hm1 (by decide)) (Nat.le_trans hm2 (by decide)) (hs1.out.drewN _) (hs2.out.drewN _))))
            go_wp2
            go_roundw
            case rel => exact ⟨k + 1, by omega, by go_num, take_same hlt hlt' hj.out ((sameSeg_iff _ _).1 hss.out), hd.out.more _⟩
            case measure => simp [intOf]; omega
          · replace hq : sameU x[k].as y[k].as = false := by simpa using hq
            have hss : sameSeg x[k] y[k] = false := by simp [sameSeg, hq]
            replace hss := hide hss
            replace hkd := hide hkd
            go_wp2
            go_quiet ((go_at_call 31; exact Calls.quiet_of (SameAS_any _ _ _ _ _ _ _ _ _ (Nat.le_trans hm1 (by decide)) (Nat.le_trans hm2 (by decide)) (hs1.out.drewN _) (hs2.out.drewN _))))
            go_wp2
            go_ret
            exact ⟨ret_bool (sameP_at hlt hlt' hss.out).symm, hd.out.more _⟩
        · have e1 : (x[k].kind != y[k].kind) = true := by simp [hkd]
          have hss : sameSeg x[k] y[k] = false := by simp [sameSeg, hkd]
          replace hss := hide hss
          replace hkd := hide hkd
          go_wp2
          go_quiet (fail)
          go_wp2
          go_ret
          exact ⟨ret_bool (sameP_at hlt hlt' hss.out).symm, hd.out.more _⟩
      · go_wp2
        go_ret
        exact ⟨ret_bool (sameP_end hlt hne.out hj.out).symm, hd.out⟩
  · have e0 : ((x.length : Int) != (y.length : Int)) = true := by simp; omega
    replace hne := hide hne
    go_enter Tryd.func17, Tryd.ntmps17
    go_wp2
    go_ret
    exact ⟨ret_bool (sameP_ne hne.out).symm, Drew.refl _⟩

set_option maxHeartbeats 1000000 in
/-- The closure of aspath.Same. -/
theorem Same1_any (a b : Option Addr) (c d : Nat) (x y : Seg) (w : World) (hx : x.as.length ≤ 16777216) (hy : y.as.length ≤ 16777216) (hs : Sl EU32 w (· < w.heap.size) a x.as) (ht : Sl EU32 w (· < w.heap.size) b y.as) :
    Calls Tryd.prog 50 #[.agg #[.int .i64 x.kind, .slice a x.as.length c], .agg #[.int .i64 y.kind, .slice b y.as.length d]] w fun e w' => e = .returned (.bool (sameSeg x y)) ∧ Ext w w' := by
  replace hs := hide hs
  replace ht := hide ht
  by_cases hkd : x.kind = y.kind
  · have e1 : (x.kind == y.kind) = true := by simp [hkd]
    have hss : sameSeg x y = sameU x.as y.as := by simp [sameSeg, hkd]
    replace hss := hide hss
    replace hkd := hide hkd
    go_enter Tryd.func50, Tryd.ntmps50
    go_wp2_with (go_at_call 51; refine (Equal_any _ _ _ _ _ _ _ _ _ hx hy (hs.out.ext (((Ext.refl _).alloc _).alloc _)) (ht.out.ext (((Ext.refl _).alloc _).alloc _))).mono ?_; rintro e w' ⟨rfl, hd⟩; replace hd := hide hd)
    go_ret
    exact ⟨ret_bool hss.out.symm, (((Ext.refl _).alloc _).alloc _).trans hd.out.ext⟩
  · have e1 : (x.kind == y.kind) = false := by simp [hkd]
    have hss : sameSeg x y = false := by simp [sameSeg, hkd]
    replace hss := hide hss
    replace hkd := hide hkd
    go_enter Tryd.func50, Tryd.ntmps50
    go_wp2
    go_ret
    exact ⟨ret_bool hss.out.symm, (((Ext.refl _).alloc _).alloc _)⟩

set_option maxHeartbeats 1000000 in
theorem EqualFunc_any (a b : Option Addr) (c d : Nat) (x y : List Seg) (w : World) (hx : x.length ≤ 16777216) (hy : y.length ≤ 16777216) (hs : Path w a x) (ht : Path w b y) :
    Calls Tryd.prog 49 #[.slice a x.length c, .slice b y.length d, .func (.func 50) #[] #[]] w fun e w' => e = .returned (.bool (sameP x y)) ∧ Ext w w' := by
  replace hs := hide hs
  replace ht := hide ht
  by_cases hne : x.length = y.length
  · have e0 : ((x.length : Int) != (y.length : Int)) = false := by simp [hne]
    replace hne := hide hne
    go_enter Tryd.func49, Tryd.ntmps49
    go_wp2
    go_loopw [7, 17] (fun _ i wr => ∃ k : Nat, k ≤ x.length ∧ i = .int .i64 k ∧ x.take k = y.take k ∧ Ext w wr) (fun _ i _ => x.length - (intOf i).toNat)
    case atStart => exact ⟨0, Nat.zero_le _, rfl, by simp, Ext.refl _⟩
    case round =>
      obtain ⟨k, hk, rfl, hj, hd⟩ := hrel
      replace hd := hide hd
      replace hj := hide hj
      by_cases hlt : k < x.length
      · have hlt' : k < y.length := by have := hne.out; omega
        obtain ⟨b1, o1, a1, c1, rfl, _, h0, h1, hm1, hs1, hk1, hk2⟩ := ESeg.at (hs.out.ext hd.out) k hlt
        obtain ⟨b2, o2, a2, c2, rfl, _, g0, g1, hm2, hs2, hk3, hk4⟩ := ESeg.at (ht.out.ext hd.out) k hlt'
        replace hs1 := hide hs1
        replace hs2 := hide hs2
        have hlt2 : (k : Int) < (y.length : Int) := by omega
        by_cases hq : sameSeg x[k] y[k] = true
        · replace hq := hide hq
          go_wp2_with (go_at_call 50; refine (Same1_any _ _ _ _ x[k] y[k] _ hm1 hm2 (hs1.out.ext (((Ext.refl _).alloc _).alloc _)) (hs2.out.ext (((Ext.refl _).alloc _).alloc _))).mono ?_; rw [hq.out]; rintro e w' ⟨rfl, he⟩; replace he := hide he)
          go_roundw
          case rel => exact ⟨k + 1, by omega, by go_num, take_same hlt hlt' hj.out ((sameSeg_iff _ _).1 hq.out), hd.out.trans ((((Ext.refl _).alloc _).alloc _).trans he.out)⟩
          case measure => simp [intOf]; omega
        · replace hq : sameSeg x[k] y[k] = false := by simpa using hq
          replace hq := hide hq
          go_wp2_with (go_at_call 50; refine (Same1_any _ _ _ _ x[k] y[k] _ hm1 hm2 (hs1.out.ext (((Ext.refl _).alloc _).alloc _)) (hs2.out.ext (((Ext.refl _).alloc _).alloc _))).mono ?_; rw [hq.out]; rintro e w' ⟨rfl, he⟩; replace he := hide he)
          go_ret
          exact ⟨ret_bool (sameP_at hlt hlt' hq.out).symm, hd.out.trans ((((Ext.refl _).alloc _).alloc _).trans he.out)⟩
      · go_wp2
        go_ret
        exact ⟨ret_bool (sameP_end hlt hne.out hj.out).symm, hd.out⟩
  · have e0 : ((x.length : Int) != (y.length : Int)) = true := by simp; omega
    replace hne := hide hne
    go_enter Tryd.func49, Tryd.ntmps49
    go_wp2
    go_ret
    exact ⟨ret_bool (sameP_ne hne.out).symm, Ext.refl _⟩

set_option maxHeartbeats 1000000 in
theorem ASame_any (a b : Option Addr) (c d : Nat) (x y : List Seg) (w : World) (hx : x.length ≤ 16777216) (hy : y.length ≤ 16777216) (hs : Path w a x) (ht : Path w b y) :
    Calls Tryd.prog 19 #[.slice a x.length c, .slice b y.length d] w fun e w' => e = .returned (.bool (sameP x y)) ∧ Ext w w' := by
  replace hs := hide hs
  replace ht := hide ht
  go_enter Tryd.func19, Tryd.ntmps19
  go_wp2_with (go_at_call 49; refine (EqualFunc_any _ _ _ _ _ _ _ hx hy hs.out ht.out).mono ?_; rintro e w' ⟨rfl, he⟩; replace he := hide he)
  go_ret
  exact ⟨rfl, he.out⟩

end Go.Proofs.YtiappobhljiknaaDoor
