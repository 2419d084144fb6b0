/- The walk of the law PathAgain. -/
import Derived.Test.YtiappobhljiknaaDoorL1
import Derived.Test.YtiappobhljiknaaDoorW26
import Derived.Test.YtiappobhljiknaaDoorW27
import Derived.Test.YtiappobhljiknaaDoorW33
namespace Go.Proofs.YtiappobhljiknaaDoor
open Go.RowKit
set_option linter.unusedVariables false

theorem ADecode_any (s : List UInt8) (four : Bool) (w : World) (hs : s.length ≤ 1048576) :
    Calls Tryd.prog 37 #[.string ⟨s.toArray⟩, .bool four] w fun e w' => ∃ v, e = .returned (.tuple #[v, .int .i64 (decS s four).2]) ∧ Ext w w' ∧ Own ESegW 48 w' w.heap.size v (decS s four).1 := by
  cases four
  · exact ADecode_F s w hs
  · exact ADecode_T s w hs
theorem decS_cases (s : List UInt8) (four : Bool) : (∃ l, decS s four = (l, 0) ∧ chk l = true ∧ pathB four l = s) ∨ decS s four = ([], 4) := by
  cases h : bdec (szF four) s with
  | none => exact .inr (decS_none h)
  | some l =>
    cases hc : chk l with
    | true => exact .inl ⟨l, decS_ok h hc, hc, pathB_dec four _ s l (Nat.le_refl _) h⟩
    | false => exact .inr (decS_bad h hc)
theorem parS_cases (s : List UInt8) : (∃ l, parS s = (l, 0) ∧ chk l = true ∧ textS l = ⟨s.toArray⟩) ∨ parS s = ([], 4) := by
  by_cases h : s = [45]
  · subst h
    exact .inl ⟨[], parS_dash, rfl, rfl⟩
  · by_cases he : ∃ l, IsText s l
    · obtain ⟨l, hl⟩ := he
      refine .inl ⟨l, parS_text hl, hl.1, ?_⟩
      unfold textS
      rw [if_pos hl.1, if_neg hl.2.1, hl.2.2]
    · exact .inr (parS_none h (fun l hl => he ⟨l, hl⟩))

set_option maxRecDepth 20000 in
set_option maxHeartbeats 2000000 in
theorem PathAgain_walk (s : List UInt8) (four : Bool) (w : World) (hs : s.length ≤ 1048576) (htab : Tab w) (hV : Vars w) :
    Calls Tryd.prog 9 #[.string ⟨s.toArray⟩, .bool four] w fun e w' => e = .returned (.bool true) ∧ Ext w w' := by
  replace htab := hide htab
  replace hV := hide hV
  have hpc := parS_cases s
  rcases decS_cases s four with ⟨l, hdec, hc, hpb⟩ | hdec
  · have hl16 := chk_len hc
    replace hc := hide hc
    replace hdec := hide hdec
    replace hpb := hide hpb
    rcases hpc with ⟨m, hpar, hcm, htx⟩ | hpar
    all_goals
      replace hpar := hide hpar
      go_enter Tryd.func9, Tryd.ntmps9
      go_wp2_with fail
      refine (works_any _ htab.out).mono ?_
      rintro e w1 ⟨rfl, he1⟩
      replace he1 := hide he1
      go_wp2_with fail
      refine (ADecode_any s four _ hs).mono ?_
      rw [hdec.out]
      rintro e w2 ⟨v2, rfl, he2, o2⟩
      obtain ⟨b2, c2, rfl, _, p2⟩ := o2.weak.toPath
      have e2 := hide (he1.out.trans he2)
      replace p2 := hide p2
      clear o2 he2 he1
      have hEn := AEncode_ok b2 c2 l four w2 (by omega) p2.out hc.out
      rw [hpb.out] at hEn
      replace hEn := hide hEn
      go_wp2_with fail
      refine hEn.out.mono ?_
      rintro e w3 ⟨rfl, he3⟩
      have e3 := hide (e2.out.trans he3)
      have p3 := hide (p2.out.ext he3)
      clear he3 e2 p2 hEn
      go_wp2_with fail
      refine (Check_ok _ _ l _ (by omega) p3.out hc.out).mono ?_
      rintro e w4 ⟨rfl, he4⟩
      have e4 := hide (e3.out.trans he4)
      clear he4 e3 p3
      go_wp2_with fail
      refine (AParse_any s _ hs (htab.out.ext e4.out) (hV.out.ext e4.out)).mono ?_
      rw [hpar.out]
      rintro e w5 ⟨v5, rfl, he5, o5⟩
      have e5 := hide (e4.out.trans he5)
      obtain ⟨b5, c5, rfl, _, p5⟩ := o5.weak.toPath
      replace p5 := hide p5
      clear he5 e4 o5
    · have hm16 := chk_len hcm
      have hTx := AText_any b5 c5 m w5 (by omega) p5.out (htab.out.ext e5.out)
      rw [htx, hcm] at hTx
      simp only [errOf, if_true] at hTx
      replace hTx := hide hTx
      replace hcm := hide hcm
      replace htx := hide htx
      go_wp2_with fail
      refine hTx.out.mono ?_
      rintro e w6 ⟨rfl, he6⟩
      have e6 := hide (e5.out.trans he6)
      have p6 := hide (p5.out.ext he6)
      clear he6 e5 p5 hTx
      go_wp2_with fail
      refine (Check_ok _ _ m _ (by omega) p6.out hcm.out).mono ?_
      rintro e w7 ⟨rfl, he7⟩
      have e7 := hide (e6.out.trans he7)
      clear he7
      go_wp2
      go_ret
      exact ⟨rfl, e7.out⟩
    · go_wp2
      go_ret
      exact ⟨rfl, e5.out⟩
  · replace hdec := hide hdec
    rcases hpc with ⟨m, hpar, hcm, htx⟩ | hpar
    all_goals
      replace hpar := hide hpar
      go_enter Tryd.func9, Tryd.ntmps9
      go_wp2_with fail
      refine (works_any _ htab.out).mono ?_
      rintro e w1 ⟨rfl, he1⟩
      replace he1 := hide he1
      go_wp2_with fail
      refine (ADecode_any s four _ hs).mono ?_
      rw [hdec.out]
      rintro e w2 ⟨v2, rfl, he2, o2⟩
      have e4 := hide (he1.out.trans he2)
      obtain ⟨b2, c2, rfl, _, p2⟩ := o2.weak.toPath
      clear o2 he2 he1 p2
      go_wp2_with fail
      refine (AParse_any s _ hs (htab.out.ext e4.out) (hV.out.ext e4.out)).mono ?_
      rw [hpar.out]
      rintro e w5 ⟨v5, rfl, he5, o5⟩
      have e5 := hide (e4.out.trans he5)
      obtain ⟨b5, c5, rfl, _, p5⟩ := o5.weak.toPath
      replace p5 := hide p5
      clear he5 e4 o5
    · have hm16 := chk_len hcm
      have hTx := AText_any b5 c5 m w5 (by omega) p5.out (htab.out.ext e5.out)
      rw [htx, hcm] at hTx
      simp only [errOf, if_true] at hTx
      replace hTx := hide hTx
      replace hcm := hide hcm
      replace htx := hide htx
      go_wp2_with fail
      refine hTx.out.mono ?_
      rintro e w6 ⟨rfl, he6⟩
      have e6 := hide (e5.out.trans he6)
      have p6 := hide (p5.out.ext he6)
      clear he6 e5 p5 hTx
      go_wp2_with fail
      refine (Check_ok _ _ m _ (by omega) p6.out hcm.out).mono ?_
      rintro e w7 ⟨rfl, he7⟩
      have e7 := hide (e6.out.trans he7)
      clear he7
      go_wp2
      go_ret
      exact ⟨rfl, e7.out⟩
    · go_wp2
      go_ret
      exact ⟨rfl, e5.out⟩
end Go.Proofs.YtiappobhljiknaaDoor
