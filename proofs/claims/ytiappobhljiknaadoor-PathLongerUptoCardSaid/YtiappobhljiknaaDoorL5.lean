/- The walk of the law PathLonger. -/
import Derived.Test.YtiappobhljiknaaDoorL3
import Derived.Test.YtiappobhljiknaaDoorW22
import Derived.Test.YtiappobhljiknaaDoorW24
namespace Go.Proofs.YtiappobhljiknaaDoor
open Go.RowKit
set_option linter.unusedVariables false

set_option maxRecDepth 20000 in
set_option maxHeartbeats 1000000 in
theorem PathLonger_walk (a : Option Addr) (c : Nat) (l : List Seg) (x : UInt32) (w : World) (hl : l.length ≤ 16777216) (hs : Path w a l) (htab : Tab w) :
    Calls Tryd.prog 7 #[.slice a l.length c, .int .u32 (x.toNat : Int)] w fun e w' => e = .returned (.bool true) ∧ Ext w w' := by
  replace hs := hide hs
  replace htab := hide htab
  go_enter Tryd.func7, Tryd.ntmps7
  go_wp2_with fail
  refine (works_any _ htab.out).mono ?_
  rintro e w1 ⟨rfl, he1⟩
  have q1 := hide (hs.out.ext he1)
  replace he1 := hide he1
  go_wp2_with fail
  refine (right_any _ _ l _ hl q1.out).mono ?_
  rintro e w2 ⟨v2, rfl, he2, o2⟩
  obtain ⟨b2, c2, rfl, p2⟩ := o2.path (w' := w2)
  have e2 := hide (he1.out.trans he2)
  replace p2 := hide p2
  clear o2 he2 q1 he1 hs
  have hm6 := rightS_len l
  have hch := hide (rightS_chk l)
  have h3 := hide (fun s (h : s ∈ rightS l) => (rightS_mem h).2.2.2.1)
  generalize rightS l = m at hm6 hch h3 p2 ⊢
  have hm' : m.length ≤ 16777216 := by omega
  have hm64 : m.length ≤ 64 := by omega
  have hmx := max1_int x
  have hyne := hide (max1_ne x)
  generalize max1 x = y at hmx hyne
  obtain ⟨p, hp, hpl, hpL, hpF, hpX, hpH⟩ := prep_seq hch.out hyne.out hm6 h3.out
  obtain ⟨q, hq, hql, hqL, hqB, hqH⟩ := prep_conf hch.out hyne.out hm6 h3.out
  have hp' : p.length ≤ 16777216 := by omega
  have hp64 : p.length ≤ 64 := by omega
  have hq' : q.length ≤ 16777216 := by omega
  have hbd := lenS_bd m p2.out.as_le
  have hfl := flatS_take_le m m.length hm64 p2.out.as_le
  rw [List.take_length] at hfl
  have hbl : (bareS m).length ≤ 16777216 := Nat.le_trans (bareS_le m) hm'
  have hbL := hide (bareS_lens m)
  replace hp := hide hp
  replace hq := hide hq
  replace hpL := hide hpL
  replace hpF := hide hpF
  replace hpX := hide hpX
  replace hpH := hide hpH
  replace hqL := hide hqL
  replace hqB := hide hqB
  replace hqH := hide hqH
  go_wp2_with fail
  refine (APrepend_any _ _ m y false _ hm' p2.out).mono ?_
  rw [hp.out]
  rintro e w3 ⟨v3, rfl, he3, o3⟩
  obtain ⟨b3, c3, rfl, _, r3⟩ := o3.weak.toPath
  have p3 := hide (p2.out.ext he3)
  have e3 := hide (e2.out.trans he3)
  replace r3 := hide r3
  clear o3 he3 p2
  go_wp2_with fail
  refine (APrepend_any _ _ m y true _ hm' p3.out).mono ?_
  rw [hq.out]
  rintro e w4 ⟨v4, rfl, he4, o4⟩
  obtain ⟨b4, c4, rfl, _, t4⟩ := o4.weak.toPath
  have p4 := hide (p3.out.ext he4)
  have r4 := hide (r3.out.ext he4)
  have e4 := hide (e3.out.trans he4)
  replace t4 := hide t4
  clear o4 he4 p3 r3
  go_wp2_with fail
  refine (AFirst_any _ _ p _ hp' r4.out).mono ?_
  rw [hpF.out, fstOut]
  rintro e w5 ⟨rfl, he5⟩
  have p5 := hide (p4.out.ext he5)
  have r5 := hide (r4.out.ext he5)
  have t5 := hide (t4.out.ext he5)
  have e5 := hide (e4.out.trans he5)
  clear he5 p4 r4 t4
  go_wp2_with fail
  refine (AFlat_any _ _ p _ hp64 r5.out).mono ?_
  rw [hpX.out]
  rintro e w6 ⟨v6, rfl, he6, o6⟩
  obtain ⟨b6, c6, rfl, s6⟩ := o6.sl
  have p6 := hide (p5.out.ext he6)
  have r6 := hide (r5.out.ext he6)
  have t6 := hide (t5.out.ext he6)
  have e6 := hide (e5.out.trans he6)
  have u6 := hide (s6.mono (S' := (· < w6.heap.size)) fun b hb => hb.2)
  clear he6 o6 s6 p5 r5 t5
  go_wp2_with fail
  refine (Length_any _ _ p _ hp' r6.out).mono ?_
  rw [hpL.out]
  rintro e w7 ⟨rfl, he7⟩
  have p7 := hide (p6.out.ext he7)
  have r7 := hide (r6.out.ext he7)
  have t7 := hide (t6.out.ext he7)
  have e7 := hide (e6.out.trans he7)
  have u7 := hide (u6.out.ext he7)
  clear he7 p6 r6 t6 u6
  go_wp2_with fail
  refine (Length_any _ _ m _ hm' p7.out).mono ?_
  rintro e w8 ⟨rfl, he8⟩
  have p8 := hide (p7.out.ext he8)
  have r8 := hide (r7.out.ext he8)
  have t8 := hide (t7.out.ext he8)
  have e8 := hide (e7.out.trans he8)
  have u8 := hide (u7.out.ext he8)
  clear he8 p7 r7 t7 u7
  obtain ⟨g6, f6, rfl, _, z6⟩ := EU32.at u8.out 0 (by simp)
  simp only [List.getElem_cons_zero, Nat.add_zero] at z6
  go_wp2_with fail
  refine (AHas_any _ _ p y _ hp' r8.out).mono ?_
  rw [hpH.out]
  rintro e w9 ⟨rfl, he9⟩
  have p9 := hide (p8.out.ext he9)
  have t9 := hide (t8.out.ext he9)
  have e9 := hide (e8.out.trans he9)
  have u9 := hide (u8.out.ext he9)
  clear he9 p8 r8 t8 u8 z6
  go_wp2_with fail
  refine (AFlat_any _ _ m _ hm64 p9.out).mono ?_
  rintro e w10 ⟨v10, rfl, he10, o10⟩
  obtain ⟨b10, c10, rfl, s10⟩ := o10.sl
  have p10 := hide (p9.out.ext he10)
  have t10 := hide (t9.out.ext he10)
  have e10 := hide (e9.out.trans he10)
  have u10 := hide (u9.out.ext he10)
  have x10 := hide (s10.mono (S' := (· < w10.heap.size)) fun b hb => hb.2)
  clear he10 o10 s10 p9 t9 u9
  go_wp2
  go_loopw [13] (fun i wr => ∃ k : Nat, k ≤ (flatS m).length ∧ i = .int .i64 k ∧ Ext w10 wr) (fun i _ => (flatS m).length - (intOf i).toNat)
  case atStart => exact ⟨0, Nat.zero_le _, rfl, Ext.refl _⟩
  case round =>
    obtain ⟨k, hk, rfl, hE⟩ := hrel
    by_cases hlt : k < (flatS m).length
    · obtain ⟨gb, fb, hb1, _, z1⟩ := EU32.at (u10.out.ext hE) (k + 1) (by simp; omega)
      injection hb1 with hb1
      injection hb1 with hb1 hb2
      subst hb1 hb2
      obtain ⟨gw, fw, rfl, _, z2⟩ := EU32.at (x10.out.ext hE) k hlt
      simp only [List.getElem_cons_succ] at z1
      replace hE := hide hE
      go_wp2
      go_quiet (fail)
      go_wp2
      go_roundw
      case rel => exact ⟨k + 1, by omega, by go_num, hE.out.drewN _⟩
      case measure => simp [intOf]; omega
    · have p11 := hide (p10.out.ext hE)
      have t11 := hide (t10.out.ext hE)
      have e11 := hide (e10.out.trans hE)
      clear hE u10 x10 p10 t10
      go_wp2_with fail
      refine (ABare_any _ _ m _ hm' p11.out).mono ?_
      rintro e w12 ⟨v12, rfl, he12, o12⟩
      obtain ⟨b12, c12, rfl, _, y12⟩ := o12.weak.toPath
      have p12 := hide (p11.out.ext he12)
      have t12 := hide (t11.out.ext he12)
      have e12 := hide (e11.out.trans he12)
      replace y12 := hide y12
      clear he12 o12 p11 t11
      go_wp2_with fail
      refine (Length_any _ _ q _ hq' t12.out).mono ?_
      rw [hqL.out]
      rintro e w13 ⟨rfl, he13⟩
      have p13 := hide (p12.out.ext he13)
      have t13 := hide (t12.out.ext he13)
      have y13 := hide (y12.out.ext he13)
      have e13 := hide (e12.out.trans he13)
      clear he13 p12 t12 y12
      go_wp2_with fail
      refine (Length_any _ _ m _ hm' p13.out).mono ?_
      rintro e w14 ⟨rfl, he14⟩
      have p14 := hide (p13.out.ext he14)
      have t14 := hide (t13.out.ext he14)
      have y14 := hide (y13.out.ext he14)
      have e14 := hide (e13.out.trans he14)
      clear he14 p13 t13 y13
      go_wp2_with fail
      refine (ABare_any _ _ q _ hq' t14.out).mono ?_
      rw [hqB.out]
      rintro e w15 ⟨v15, rfl, he15, o15⟩
      obtain ⟨b15, c15, rfl, _, z15⟩ := o15.weak.toPath
      have p15 := hide (p14.out.ext he15)
      have t15 := hide (t14.out.ext he15)
      have y15 := hide (y14.out.ext he15)
      have e15 := hide (e14.out.trans he15)
      replace z15 := hide z15
      clear he15 o15 p14 t14 y14
      go_wp2_with fail
      refine (ASame_any _ _ _ _ (bareS m) (bareS m) _ hbl hbl z15.out y15.out).mono ?_
      rw [sameP_refl]
      rintro e w16 ⟨rfl, he16⟩
      have p16 := hide (p15.out.ext he16)
      have t16 := hide (t15.out.ext he16)
      have y16 := hide (y15.out.ext he16)
      have e16 := hide (e15.out.trans he16)
      clear he16 p15 t15 y15 z15
      go_wp2_with fail
      refine (Length_any _ _ (bareS m) _ hbl y16.out).mono ?_
      rw [hbL.out]
      rintro e w17 ⟨rfl, he17⟩
      have p17 := hide (p16.out.ext he17)
      have t17 := hide (t16.out.ext he17)
      have e17 := hide (e16.out.trans he17)
      clear he17 p16 t16 y16
      go_wp2_with fail
      refine (Length_any _ _ m _ hm' p17.out).mono ?_
      rintro e w18 ⟨rfl, he18⟩
      have t18 := hide (t17.out.ext he18)
      have e18 := hide (e17.out.trans he18)
      clear he18 p17 t17
      go_wp2_with fail
      refine (AHas_any _ _ q y _ hq' t18.out).mono ?_
      rw [hqH.out]
      rintro e w19 ⟨rfl, he19⟩
      have e19 := hide (e18.out.trans he19)
      clear he19
      go_wp2
      go_ret
      exact ⟨rfl, e19.out⟩
end Go.Proofs.YtiappobhljiknaaDoor
