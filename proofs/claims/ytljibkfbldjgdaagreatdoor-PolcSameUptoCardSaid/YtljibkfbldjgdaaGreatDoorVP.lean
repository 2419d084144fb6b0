/- Walks: may a set be, has it a community, by the document; sets.Comm. -/
import Derived.Test.YtljibkfbldjgdaaGreatDoorVH
import Derived.Test.YtljibkfbldjgdaaGreatDoorW1
import Derived.Test.YtljibkfbldjgdaaGreatDoorP15
import Derived.Test.YtljibkfbldjgdaaGreatDoorP9
namespace Go.Proofs.YtljibkfbldjgdaaGreatDoor
open Go.RowKit Go.Sort
set_option linter.unusedVariables false

theorem nameCh_cases (c : UInt8) : ∃ b1 b2 b3 b4 b5 r : Bool, decide ((97 : Int) ≤ (c.toNat : Int)) = b1 ∧ decide ((c.toNat : Int) ≤ 122) = b2 ∧ decide ((48 : Int) ≤ (c.toNat : Int)) = b3 ∧ decide ((c.toNat : Int) ≤ 57) = b4 ∧ ((c.toNat : Int) == 45) = b5 ∧ nameCh c = r ∧ ((b1 && b2) || ((b3 && b4) || b5)) = r := by
  refine ⟨_, _, _, _, _, _, rfl, rfl, rfl, rfl, rfl, rfl, ?_⟩
  unfold nameCh runeOk
  rw [show decide ((97 : Int) ≤ (c.toNat : Int)) = decide (97 ≤ c.toNat) from decide_eq_decide.2 (by omega), show decide ((c.toNat : Int) ≤ 122) = decide (c.toNat ≤ 122) from decide_eq_decide.2 (by omega), show decide ((48 : Int) ≤ (c.toNat : Int)) = decide (48 ≤ c.toNat) from decide_eq_decide.2 (by omega), show decide ((c.toNat : Int) ≤ 57) = decide (c.toNat ≤ 57) from decide_eq_decide.2 (by omega)]
  rw [show ((c.toNat : Int) == 45) = decide (c.toNat = 45) by rw [Bool.eq_iff_iff, beq_iff_eq, decide_eq_true_eq]; omega]
theorem allN_succ (s : List UInt8) (k : Nat) (hk : k < s.length) : (s.take (k + 1)).all nameCh = ((s.take k).all nameCh && nameCh s[k]) := by
  rw [List.take_succ_eq_append_getElem hk, List.all_append, List.all_cons, List.all_nil, Bool.and_true]
set_option maxRecDepth 20000 in
set_option maxHeartbeats 2000000 in
theorem RName_any (s : List UInt8) (w : World) : Calls Tryz.prog 151 #[.string ⟨s.toArray⟩] w fun e w' => e = .returned (.bool (nameOk s)) ∧ w = w' := by
  have hz : (ByteArray.mk s.toArray).size = s.length := by simp [ByteArray.size]
  cases s with
  | nil =>
    go_enter Tryz.func151, Tryz.ntmps151
    go_wp2
    go_ret
    exact ⟨rfl, rfl⟩
  | cons x t =>
    have hix := ba_index0 (x :: t) x t rfl
    have hdef : nameOk (x :: t) = (decide ((x :: t).length ≤ 16) && (decide (97 ≤ x.toNat) && (x :: t).all nameCh)) := by
      unfold nameOk
      rw [decide_eq_true (p := 1 ≤ (x :: t).length) (by simp), Bool.true_and]
      rfl
    have hlen : 1 ≤ (x :: t).length := by simp
    have hhd : ∀ h : 0 < (x :: t).length, (x :: t)[0] = x := fun _ => rfl
    generalize hs : x :: t = s at *
    have e1 : decide ((s.length : Int) < 1) = false := decide_eq_false (by omega)
    by_cases h16 : 16 < s.length
    · have e2 : decide ((16 : Int) < (s.length : Int)) = true := decide_eq_true (by omega)
      have hr := hide (show nameOk s = false by rw [hdef, decide_eq_false (by omega), Bool.false_and])
      clear h16 hdef hs hhd
      go_enter Tryz.func151, Tryz.ntmps151
      go_wp2
      go_ret
      exact ⟨ret_bool hr.out.symm, rfl⟩
    have e2 : decide ((16 : Int) < (s.length : Int)) = false := decide_eq_false (by omega)
    rw [decide_eq_true (p := s.length ≤ 16) (by omega), Bool.true_and] at hdef
    by_cases h97 : x.toNat < 97
    · have e3 : decide ((x.toNat : Int) < 97) = true := decide_eq_true (by omega)
      have hr := hide (show nameOk s = false by rw [hdef, decide_eq_false (by omega), Bool.false_and])
      clear h16 hdef hs hhd h97
      go_enter Tryz.func151, Tryz.ntmps151
      go_wp2
      go_ret
      exact ⟨ret_bool hr.out.symm, rfl⟩
    have e3 : decide ((x.toNat : Int) < 97) = false := decide_eq_false (by omega)
    rw [decide_eq_true (p := 97 ≤ x.toNat) (by omega), Bool.true_and] at hdef
    by_cases h122 : 122 < x.toNat
    · have e4 : decide ((122 : Int) < (x.toNat : Int)) = true := decide_eq_true (by omega)
      have hr := hide (show nameOk s = false by
        rw [hdef, ← hs, List.all_cons]
        have : nameCh x = false := by unfold nameCh runeOk; simp; omega
        rw [this, Bool.false_and])
      clear h16 hdef hs hhd h97 h122
      go_enter Tryz.func151, Tryz.ntmps151
      go_wp2
      go_ret
      exact ⟨ret_bool hr.out.symm, rfl⟩
    have e4 : decide ((122 : Int) < (x.toNat : Int)) = false := decide_eq_false (by omega)
    have hle : s.length ≤ 16 := by omega
    clear hs hhd h16 h97 h122
    replace hdef := hide hdef
    go_enter Tryz.func151, Tryz.ntmps151
    go_wp2
    clear hix e1 e2 e3 e4
    go_loop [3] (fun i => ∃ k : Nat, k ≤ s.length ∧ i = .int .i64 k ∧ (s.take k).all nameCh = true) (fun i => s.length - (intOf i).toNat)
    case atStart => exact ⟨0, Nat.zero_le _, rfl, rfl⟩
    case round =>
      obtain ⟨k, hk, rfl, ha⟩ := hrel
      by_cases hlt : k < s.length
      · have e1 : (ByteArray.mk s.toArray)[k]'(by rw [hz]; exact hlt) = s[k] := rfl
        have hsu := allN_succ s k hlt
        rw [ha, Bool.true_and] at hsu
        have hbad : nameCh s[k] = false → nameOk s = false := fun h => by
          rw [hdef.out, List.all_eq_false]
          exact ⟨s[k], List.getElem_mem hlt, by rw [h]; decide⟩
        obtain ⟨b1, b2, b3, b4, b5, r, d1, d2, d3, d4, d5, d6, d7⟩ := nameCh_cases s[k]
        rw [d6] at hsu hbad
        clear d6 ha
        generalize s[k] = c at *
        replace hsu := hide hsu
        replace hbad := hide hbad
        cases b1 <;> cases b2 <;> cases b3 <;> cases b4 <;> cases b5 <;> subst d7 <;> first
          | (go_wp2; go_round; (case rel => exact ⟨k + 1, by omega, by go_num, hsu.out⟩); (case measure => simp [intOf]; omega))
          | (go_wp2; go_ret; exact ⟨ret_bool (hbad.out rfl).symm, rfl⟩)
      · obtain rfl : k = s.length := by omega
        have hr := hide (show nameOk s = true by rw [hdef.out]; rwa [List.take_length] at ha)
        clear ha
        go_wp2
        go_ret
        exact ⟨ret_bool hr.out.symm, rfl⟩

set_option maxRecDepth 20000 in
set_option maxHeartbeats 2000000 in
theorem RMayC_any (a : Option Addr) (c : Nat) (l : List UInt32) (w : World) (hl : l.length ≤ 16777216) (hs : Sl EU32 w (· < w.heap.size) a l) :
    Calls Tryz.prog 154 #[.slice a l.length c] w fun e w' => e = .returned (.bool (commsOk l)) ∧ Ext w w' := by
  replace hs := hide hs
  go_enter Tryz.func154, Tryz.ntmps154
  go_wp2
  go_loopw [3] (fun i wr => ∃ j : Nat, (j ≤ l.length) ∧ i = .int .i64 ((j : Int) + 1) ∧ Ext w wr ∧ ∀ m (h : m + 1 < l.length), m < j → l[m].toNat < l[m + 1].toNat) (fun i _ => l.length + 1 - (intOf i).toNat)
  case atStart => exact ⟨0, Nat.zero_le _, rfl, Ext.refl _, fun m _ h => by omega⟩
  case round =>
    obtain ⟨j, hj, rfl, E, ha⟩ := hrel
    by_cases hlt : j + 1 < l.length
    · obtain ⟨b, off, rfl, _, x0⟩ := EU32.at (hs.out.ext E) j (by omega)
      obtain ⟨b', off', he, _, x1⟩ := EU32.at (hs.out.ext E) (j + 1) hlt
      injection he with he
      injection he with h1 h2 _
      subst h1 h2
      have e1 : decide ((j : Int) + 1 < (l.length : Int)) = true := decide_eq_true (by omega)
      have hbad := fun h => risU_bad hlt h
      have hnx : l[j].toNat < l[j + 1].toNat → ∀ m (h : m + 1 < l.length), m < j + 1 → l[m].toNat < l[m + 1].toNat := fun h m hm hmj => by
        rcases Nat.lt_or_ge m j with h3 | h3
        · exact ha m hm h3
        · obtain rfl : m = j := by omega
          exact h
      have hj0 : ((j : Int) + 1).toNat = j + 1 := by omega
      generalize l[j].toNat = y at *
      generalize l[j + 1].toNat = z at *
      clear ha
      by_cases hyz : y < z
      · have e2 : decide ((z : Int) ≤ (y : Int)) = false := decide_eq_false (by omega)
        have hn := hide (hnx hyz)
        have e3 : ¬ (z ≤ y) := by omega
        clear hnx hbad hyz
        replace E := hide E
        go_wp2_with fail
        go_region
        go_wp2
        go_roundw
        case rel => exact ⟨j + 1, by omega, by go_num, E.out.drew, hn.out⟩
        case measure => simp [intOf]; omega
      · have e2 : decide ((z : Int) ≤ (y : Int)) = true := decide_eq_true (by omega)
        have hb := hide (hbad hyz)
        have e3 : z ≤ y := by omega
        clear hnx hbad hyz
        replace E := hide E
        go_wp2_with fail
        go_region
        go_wp2
        go_ret
        exact ⟨ret_bool hb.out.symm, E.out.drew⟩
    · have e1 : decide ((j : Int) + 1 < (l.length : Int)) = false := decide_eq_false (by omega)
      have hr : commsOk l = decide (l.length ≤ 64) := by
        unfold commsOk
        rw [(risU_iff l).2 fun i h => ha i h (by omega), Bool.true_and]
      have e2 : decide ((l.length : Int) ≤ 64) = commsOk l := by rw [hr]; exact decide_eq_decide.2 (by omega)
      clear hr ha
      replace E := hide E
      go_wp2
      go_ret
      exact ⟨rfl, E.out⟩

/-! ### functions over lists of numbers -/
end Go.Proofs.YtljibkfbldjgdaaGreatDoor
