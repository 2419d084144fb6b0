/- Walks: an address as a text, by the document. -/
import Derived.Test.YtljibkfbldjgdaaGreatDoorQ1
import Derived.Test.YtljibkfbldjgdaaGreatDoorQ7
namespace Go.Proofs.YtljibkfbldjgdaaGreatDoor
open Go.RowKit Go.Sort
set_option linter.unusedVariables false

theorem digS_len20 (b n : Nat) (h10 : 10 ≤ b) (h16 : b ≤ 16) (h : n ≤ 65535) : (digS b n).length ≤ 5 := digS_len (by omega) 5 n (Nat.lt_of_lt_of_le (show n < 10 ^ 5 by omega) (Nat.pow_le_pow_left h10 5)) (by decide)
theorem join_grow (c : UInt8) (xs : List (List UInt8)) (x : List UInt8) : Lib.join (xs ++ [x]) [c] = if xs = [] then Lib.join xs [c] ++ x else Lib.join xs [c] ++ [c] ++ x := by
  rw [join_snoc]
  by_cases h : xs = []
  · subst h; simp [Lib.join]
  · rw [if_neg h, if_neg h]
set_option maxRecDepth 20000 in
set_option maxHeartbeats 2000000 in
theorem RAddrText4 (a : List UInt8) (h4 : a.length = 4) (w : World) :
    Calls Tryz.prog 98 #[.string ⟨a.toArray⟩] w fun e w' => e = .returned (.tuple #[.string ⟨(txt4 a).toArray⟩, .int .i64 0]) ∧ Ext w w' := by
  have hz : (ByteArray.mk a.toArray).size = 4 := by simp [ByteArray.size, h4]
  have qn := fun x hx W => RNumber_any 10 (by decide) (by decide) x hx W
  replace qn := hide qn
  go_enter Tryz.func98, Tryz.ntmps98
  go_wp2
  go_loopw [4, 5] (fun v q wr => ∃ (k : Nat) (S : List UInt8), k ≤ 4 ∧ q = .int .i64 k ∧ v = .string ⟨S.toArray⟩ ∧ S = Lib.join ((a.take k).map fun x => digS 10 x.toNat) [46] ∧ S.length ≤ 6 * k ∧ Ext w wr) (fun _ q _ => 4 - (intOf q).toNat)
  case atStart => exact ⟨0, [], by omega, rfl, rfl, by rw [List.take_zero]; rfl, by simp, Ext.refl _⟩
  case round =>
    obtain ⟨k, S, hk, rfl, rfl, hS, hSl, hE⟩ := hrel
    replace hE := hide hE
    by_cases hlt : k < 4
    · have hka : k < a.length := by omega
      have e1 : (ByteArray.mk a.toArray)[k]'(by omega) = a[k] := rfl
      have hnx := join_grow 46 ((a.take k).map fun x => digS 10 x.toNat) (digS 10 a[k].toNat)
      rw [show ((a.take k).map fun x => digS 10 x.toNat) ++ [digS 10 a[k].toNat] = (a.take (k + 1)).map fun x => digS 10 x.toNat by rw [List.take_succ_eq_append_getElem hka, List.map_append]; rfl, ← hS] at hnx
      have hemp : ((a.take k).map fun x => digS 10 x.toNat) = [] ↔ k = 0 := ⟨fun h => by have := congrArg List.length h; rw [List.length_map, List.length_take, List.length_nil] at this; omega, fun h => by subst h; rfl⟩
      generalize a[k] = u at e1 hnx
      have hu := u.toNat_lt
      have hdl := digS_len20 10 u.toNat (by decide) (by decide) (by omega)
      have hq := fun W => qn.out u.toNat (by omega) W
      generalize digS 10 u.toNat = d at hdl hq hnx
      have w1 : IntKind.u64.wrap (u.toNat : Int) = (u.toNat : Int) := by rw [IntKind.wrap_u64]; omega
      have hs1 : ¬ 9223372036854775807 < (ByteArray.mk S.toArray).size + (ByteArray.mk d.toArray).size := by rw [ba_size, ba_size]; omega
      have hs2 : ¬ 9223372036854775807 < (ByteArray.mk S.toArray).size + (ByteArray.mk #[46]).size := by rw [ba_size]; show ¬ _ < S.length + 1; omega
      have hs3 : ¬ 9223372036854775807 < ((ByteArray.mk S.toArray) ++ ⟨#[46]⟩).size + (ByteArray.mk d.toArray).size := by rw [ba_sz_app, ba_size, ba_size]; show ¬ _ < S.length + 1 + d.length; omega
      replace hq := hide hq
      replace hS := hide hS
      by_cases hk0 : k = 0
      · rw [if_pos (hemp.2 hk0)] at hnx
        subst hk0
        clear hemp
        replace hnx := hide hnx
        go_wp2_with fail
        refine (hq.out _).mono ?_
        rintro e w1 ⟨rfl, he⟩
        replace hE := hide (hE.out.trans he)
        clear he
        go_wp2
        go_roundw
        case rel => exact ⟨1, S ++ d, by omega, by go_num, by rw [ba_app], hnx.out.symm, by simp; omega, hE.out⟩
        case measure => simp [intOf]
      · rw [if_neg fun h => hk0 (hemp.1 h)] at hnx
        have b1 : decide ((0 : Int) < (k : Int)) = true := decide_eq_true (by omega)
        clear hemp
        replace hnx := hide hnx
        go_wp2_with fail
        refine (hq.out _).mono ?_
        rintro e w1 ⟨rfl, he⟩
        replace hE := hide (hE.out.trans he)
        clear he
        go_wp2
        go_roundw
        case rel => exact ⟨k + 1, S ++ [46] ++ d, by omega, by go_num, by rw [ba_app1, ba_app], hnx.out.symm, by simp; omega, hE.out⟩
        case measure => simp [intOf]; omega
    · obtain rfl : k = 4 := by omega
      have hall : S = txt4 a := by rw [hS, List.take_of_length_le (by omega)]; rfl
      clear hS hSl
      subst hall
      go_wp2
      go_ret2
      exact ⟨rfl, hE.out⟩
set_option maxRecDepth 20000 in
set_option maxHeartbeats 2000000 in
theorem RAddrText16 (a : List UInt8) (h16 : a.length = 16) (w : World) :
    Calls Tryz.prog 98 #[.string ⟨a.toArray⟩] w fun e w' => e = .returned (.tuple #[.string ⟨(txt16 a).toArray⟩, .int .i64 0]) ∧ Ext w w' := by
  have mixed : Tryz.prog.follows Departure.mixedOrders = true := by kernel_rfl
  have hz : (ByteArray.mk a.toArray).size = 16 := by simp [ByteArray.size, h16]
  have hpl : (pairs a).length = 8 := by rw [pairs_length, h16]
  have qn : ∀ x : Nat, x < 18446744073709551616 → ∀ W, Calls Tryz.prog 132 #[.int .u64 (x : Int), .int .u64 16] W fun e w' => e = .returned (.string ⟨(digS 16 x).toArray⟩) ∧ Ext W w' := fun x hx W => RNumber_any 16 (by decide) (by decide) x hx W
  replace qn := hide qn
  go_enter Tryz.func98, Tryz.ntmps98
  go_wp2
  go_loopw [4, 6] (fun v q wr => ∃ (k : Nat) (S : List UInt8), k ≤ 8 ∧ q = .int .i64 k ∧ v = .string ⟨S.toArray⟩ ∧ S = Lib.join (((pairs a).take k).map (digS 16)) [58] ∧ S.length ≤ 6 * k ∧ Ext w wr) (fun _ q _ => 8 - (intOf q).toNat)
  case atStart => exact ⟨0, [], by omega, rfl, rfl, by rw [List.take_zero]; rfl, by simp, Ext.refl _⟩
  case round =>
    obtain ⟨k, S, hk, rfl, rfl, hS, hSl, hE⟩ := hrel
    replace hE := hide hE
    by_cases hlt : k < 8
    · have hpk : k < (pairs a).length := by omega
      have hnx := join_grow 58 (((pairs a).take k).map (digS 16)) (digS 16 (pairs a)[k])
      rw [show ((pairs a).take k).map (digS 16) ++ [digS 16 (pairs a)[k]] = ((pairs a).take (k + 1)).map (digS 16) by rw [List.take_succ_eq_append_getElem hpk, List.map_append]; rfl, ← hS] at hnx
      have hemp : (((pairs a).take k).map (digS 16)) = [] ↔ k = 0 := ⟨fun h => by have := congrArg List.length h; rw [List.length_map, List.length_take, List.length_nil] at this; omega, fun h => by subst h; rfl⟩
      obtain ⟨j, hj⟩ : ∃ j, j = 2 * k := ⟨_, rfl⟩
      have hjb : j + 1 < a.length := by omega
      have hjz : j + 1 < (ByteArray.mk a.toArray).size := by omega
      have hj1 : j + 1 < 16 := by omega
      have w0 : IntKind.i64.wrap (2 * (k : Int)) = (j : Int) := by rw [IntKind.wrap_i64]; omega
      have hp : (pairs a)[k]? = some (256 * (a[j]'(Nat.lt_of_succ_lt hjb)).toNat + (a[j + 1]'hjb).toNat) := by
        subst hj
        exact pairs_at a k hjb
      replace hj := hide hj
      rw [List.getElem?_eq_getElem hpk] at hp
      replace hp := Option.some.inj hp
      rw [hp] at hnx
      have e1 : (ByteArray.mk a.toArray)[j]'(Nat.lt_of_succ_lt hjz) = a[j]'(Nat.lt_of_succ_lt hjb) := rfl
      have e2 : (ByteArray.mk a.toArray)[j + 1]'hjz = a[j + 1]'hjb := rfl
      generalize a[j]'(Nat.lt_of_succ_lt hjb) = u1 at e1 hp hnx
      generalize a[j + 1]'hjb = u2 at e2 hp hnx
      have l1 := u1.toNat_lt
      have l2 := u2.toNat_lt
      clear hp
      have hdl := digS_len20 16 (256 * u1.toNat + u2.toNat) (by decide) (by decide) (by omega)
      have hq := fun W => qn.out (256 * u1.toNat + u2.toNat) (by omega) W
      generalize hdd : digS 16 (256 * u1.toNat + u2.toNat) = d at hdl hq hnx
      clear hdd
      have w1 : IntKind.u64.wrap (u1.toNat : Int) = (u1.toNat : Int) := by rw [IntKind.wrap_u64]; omega
      have w2 : IntKind.u64.wrap (u2.toNat : Int) = (u2.toNat : Int) := by rw [IntKind.wrap_u64]; omega
      have w3 : IntKind.i64.wrap ((j : Int) + 1) = (j : Int) + 1 := by rw [IntKind.wrap_i64]; omega
      have w4 : ((j : Int) + 1).toNat = j + 1 := by omega
      have w5 : IntKind.u64.wrap ((u1.toNat : Int) * 256) = (u1.toNat : Int) * 256 := by rw [IntKind.wrap_u64]; omega
      have hor := or_byte16 u1.toNat u2 (by omega)
      rw [Nat.mul_comm u1.toNat 256] at hor
      generalize 256 * u1.toNat + u2.toNat = n at hq hor
      have hb0 : (0 : Int) ≤ (j : Int) + 1 := by omega
      have hb1 : (j : Int) < 16 := by omega
      have hb2 : (j : Int) + 1 < 16 := by omega
      have hs1 : ¬ 9223372036854775807 < (ByteArray.mk S.toArray).size + (ByteArray.mk d.toArray).size := by rw [ba_size, ba_size]; omega
      have hs2 : ¬ 9223372036854775807 < (ByteArray.mk S.toArray).size + (ByteArray.mk #[58]).size := by rw [ba_size]; show ¬ _ < S.length + 1; omega
      have hs3 : ¬ 9223372036854775807 < ((ByteArray.mk S.toArray) ++ ⟨#[58]⟩).size + (ByteArray.mk d.toArray).size := by rw [ba_sz_app, ba_size, ba_size]; show ¬ _ < S.length + 1 + d.length; omega
      have hz1 := ba_size S
      have hz2 := ba_size d
      have hs4 : ¬ 9223372036854775807 < S.length + d.length := by omega
      have hs5 : ¬ 9223372036854775807 < S.length + 1 + d.length := by omega
      replace hq := hide hq
      replace hS := hide hS
      replace hSl := hide hSl
      replace hdl := hide hdl
      by_cases hk0 : k = 0
      · rw [if_pos (hemp.2 hk0)] at hnx
        subst hk0
        have w00 : IntKind.i64.wrap 0 = (j : Int) := by have := hj.out; rw [IntKind.wrap_i64]; omega
        clear hemp w0
        replace hnx := hide hnx
        go_wp2_with fail
        have cq0 := Calls.regr hq.out wr
        refine wp_region_quiet_below (by assumption) (by kernel_rfl) ?_
        repeat (quiet_step (first | (with_reducible exact cq0 _ _)))
        refine wpQuiet_nil ?_
        intro _ hw_
        obtain ⟨⟨dq_, osq_⟩, hw_'⟩ := hw_
        subst hw_'
        replace hE := hide (hE.out.trans (below_regrown _ dq_ osq_))
        clear cq0
        generalize grow (redrawn wr dq_) osq_ = W2 at hE ⊢
        go_wp2
        go_roundw
        case rel => exact ⟨1, S ++ d, by omega, by go_num, by rw [ba_app], hnx.out.symm, by have := hSl.out; have := hdl.out; simp; omega, hE.out⟩
        case measure => simp [intOf]
      · rw [if_neg fun h => hk0 (hemp.1 h)] at hnx
        have b1 : decide ((0 : Int) < (k : Int)) = true := decide_eq_true (by omega)
        clear hemp
        replace hnx := hide hnx
        go_wp2_with fail
        have cq0 := Calls.regr hq.out wr
        refine wp_region_quiet_below (by assumption) (by kernel_rfl) ?_
        repeat (quiet_step (first | (with_reducible exact cq0 _ _)))
        refine wpQuiet_nil ?_
        intro _ hw_
        obtain ⟨⟨dq_, osq_⟩, hw_'⟩ := hw_
        subst hw_'
        replace hE := hide (hE.out.trans (below_regrown _ dq_ osq_))
        clear cq0
        generalize grow (redrawn wr dq_) osq_ = W2 at hE ⊢
        go_wp2
        go_roundw
        case rel => exact ⟨k + 1, S ++ [58] ++ d, by omega, by go_num, by rw [ba_app1, ba_app], hnx.out.symm, by have := hSl.out; have := hdl.out; simp; omega, hE.out⟩
        case measure => simp [intOf]; omega
    · obtain rfl : k = 8 := by omega
      have hall : S = txt16 a := by rw [hS, List.take_of_length_le (by omega)]; rfl
      clear hS hSl
      subst hall
      go_wp2
      go_ret2
      exact ⟨rfl, hE.out⟩
theorem RAddrText_any (a : List UInt8) (ha : a.length ≤ 1048576) (w : World) :
    Calls Tryz.prog 98 #[.string ⟨a.toArray⟩] w fun e w' => e = .returned (.tuple #[.string ⟨(addrT a).1.toArray⟩, .int .i64 (addrT a).2]) ∧ Ext w w' := by
  unfold addrT
  by_cases h4 : a.length = 4
  · rw [if_pos h4]
    exact RAddrText4 a h4 w
  · by_cases h16 : a.length = 16
    · rw [if_neg h4, if_pos h16]
      exact RAddrText16 a h16 w
    · rw [if_neg h4, if_neg h16]
      have hz : (ByteArray.mk a.toArray).size = a.length := by simp [ByteArray.size]
      have b1 : ((a.length : Int) == 4) = false := by rw [beq_eq_false_iff_ne]; omega
      have b2 : ((a.length : Int) == 16) = false := by rw [beq_eq_false_iff_ne]; omega
      go_enter Tryz.func98, Tryz.ntmps98
      go_wp2
      go_ret2
      exact ⟨rfl, Ext.refl _⟩
theorem RFamN_any (f : Int) (w : World) : Calls Tryz.prog 96 #[.int .i64 f] w fun e w' => e = .returned (.string ⟨(nameS f).toArray⟩) ∧ w = w' := by
  rcases fam_cases f with rfl | rfl | rfl | rfl | rfl | ⟨h1, h2, h3, h4, h5⟩
  all_goals
    try
      have e0 : nameS f = [] := by unfold nameS; rw [if_neg h1, if_neg h2, if_neg h3, if_neg h4, if_neg h5]
      rw [e0]
    go_enter Tryz.func96, Tryz.ntmps96
    go_wp2
    go_ret
    exact ⟨rfl, rfl⟩
end Go.Proofs.YtljibkfbldjgdaaGreatDoor
