/- The walk of the law PathTells. -/
import Derived.Test.YtiappobhljiknaaDoorL1
import Derived.Test.YtiappobhljiknaaDoorW13
import Derived.Test.YtiappobhljiknaaDoorW15
import Derived.Test.YtiappobhljiknaaDoorW16
namespace Go.Proofs.YtiappobhljiknaaDoor
open Go.RowKit
set_option linter.unusedVariables false

theorem Wr.low {w : World} {B B' : Nat} {a : Option Addr} {n : Nat} (h : Wr w B a n) (hB : B' ≤ B) : Wr w B' a n := by
  rcases h with h | ⟨b, p, rfl, hb, hc⟩
  · exact .inl h
  · exact .inr ⟨b, p, rfl, by omega, hc⟩
theorem sameU_refl (l : List UInt32) : sameU l l = true := by simp [sameU]

set_option maxRecDepth 20000 in
set_option maxHeartbeats 1000000 in
theorem PathTells_walk (a : Option Addr) (c : Nat) (l : List Seg) (x : UInt32) (w : World) (hl : l.length ≤ 16777216) (hc : l.length ≤ c) (hs : Path w a l) (htab : Tab w) :
    Calls Tryd.prog 5 #[.slice a l.length c, .int .u32 (x.toNat : Int)] w fun e w' => e = .returned (.bool true) ∧ Ext w w' := by
  replace hs := hide (hs.take 20)
  replace htab := hide htab
  have hm : (l.take 20).length ≤ 16777216 := by simp; omega
  have h64 : (l.take 20).length ≤ 64 := by simp; omega
  have hcut := hide (cut_any a c l w hl hc)
  generalize l.take 20 = m at hs hm h64 hcut
  have hfl : (flatS m).length ≤ 1099511627776 := by
    have := flatS_take_le m m.length h64 hs.out.as_le
    rw [List.take_length] at this
    omega
  have hfl2 : (flatS m).length ≤ 1099511627776 := hfl
  have hbl : (bareS m).length ≤ 16777216 := Nat.le_trans (bareS_le m) hm
  obtain ⟨⟨fx, fb⟩, hfv⟩ : ∃ p, firstV m = p := ⟨_, rfl⟩
  replace hfv := hide hfv
  go_enter Tryd.func5, Tryd.ntmps5
  go_wp2_with fail
  refine hcut.out.mono ?_
  rintro e w' ⟨rfl, rfl⟩
  go_wp2_with fail
  refine (ROwnAll_any _ _ m _ hm hs.out).mono ?_
  rintro e w1 ⟨v1, rfl, e1, o1⟩
  obtain ⟨b1, c1, rfl, p1⟩ := o1.path (w' := w1)
  clear o1
  have q1 := hide (hs.out.ext e1)
  replace e1 := hide e1
  replace p1 := hide p1
  go_wp2_with fail
  refine (AFirst_any _ _ m _ hm p1.out).mono ?_
  rw [hfv.out, fstOut]
  rintro e w2 ⟨rfl, he2⟩
  have p2 := hide (p1.out.ext he2)
  have q2 := hide (q1.out.ext he2)
  have e2 := hide (e1.out.trans he2)
  clear he2
  go_wp2_with fail
  refine (RFirst_any _ _ m _ hm q2.out).mono ?_
  rw [hfv.out, fstOut]
  rintro e w3 ⟨rfl, he3⟩
  have p3 := hide (p2.out.ext he3)
  have q3 := hide (q2.out.ext he3)
  have e3 := hide (e2.out.trans he3)
  clear he3
  go_wp2_with fail
  refine (Check_any _ _ m _ hm p3.out).mono ?_
  rintro e w4 ⟨rfl, he4⟩
  have p4 := hide (p3.out.ext he4)
  have q4 := hide (q3.out.ext he4)
  have e4 := hide (e3.out.trans he4)
  clear he4
  go_wp2_with fail
  refine (RCheck_any _ _ m _ hm q4.out).mono ?_
  rintro e w4' ⟨rfl, rfl⟩
  go_wp2_with fail
  refine (Length_any _ _ m _ hm p4.out).mono ?_
  rintro e w5 ⟨rfl, he5⟩
  have p5 := hide (p4.out.ext he5)
  have q5 := hide (q4.out.ext he5)
  have e5 := hide (e4.out.trans he5)
  clear he5
  go_wp2_with fail
  refine (RLength_any _ _ m _ hm q5.out).mono ?_
  rintro e w5' ⟨rfl, rfl⟩
  go_wp2_with fail
  refine (AHas_any _ _ m x _ hm p5.out).mono ?_
  rintro e w6 ⟨rfl, he6⟩
  have p6 := hide (p5.out.ext he6)
  have q6 := hide (q5.out.ext he6)
  have e6 := hide (e5.out.trans he6)
  clear he6
  go_wp2_with fail
  refine (RHas_any _ _ m x _ h64 q6.out).mono ?_
  rintro e w7 ⟨rfl, he7⟩
  have p7 := hide (p6.out.ext he7)
  have q7 := hide (q6.out.ext he7)
  have e7 := hide (e6.out.trans he7)
  clear he7
  go_wp2_with fail
  refine (ABare_any _ _ m _ hm p7.out).mono ?_
  rintro e w8 ⟨v8, rfl, he8, o8⟩
  have p8 := hide (p7.out.ext he8)
  have q8 := hide (q7.out.ext he8)
  have e8 := hide (e7.out.trans he8)
  have x8 := hide he8
  replace o8 := hide o8
  clear he8
  go_wp2_with fail
  refine (AFlat_any _ _ m _ h64 p8.out).mono ?_
  rintro e w9 ⟨v9, rfl, he9, o9⟩
  have q9 := hide (q8.out.ext he9)
  have e9 := hide (e8.out.trans he9)
  have x9 := hide (x8.out.trans he9)
  replace o8 := hide (o8.out.ext he9)
  have hsz9 : w7.heap.size ≤ w8.heap.size := x8.out.size
  replace o9 := hide (o9.low hsz9)
  clear he9
  obtain ⟨b8, c8, rfl, hc8, _⟩ := o8.out.slc
  obtain ⟨b9, c9, rfl, hc9, _⟩ := o9.out.slc
  go_wp2_with fail
  refine (RBare_any _ _ m _ hm q9.out).mono ?_
  rintro e w10 ⟨v10, rfl, he10, o10⟩
  have q10 := hide (q9.out.ext he10)
  have e10 := hide (e9.out.trans he10)
  have x10 := hide (x9.out.trans he10)
  replace o8 := hide (o8.out.ext he10)
  replace o9 := hide (o9.out.ext he10)
  obtain ⟨b10, c10, rfl, p10⟩ := o10.path (w' := w10)
  replace p10 := hide p10
  clear he10 o10
  obtain ⟨_, _, hv8, p8'⟩ := o8.out.weak.path (w' := w10)
  injection hv8 with hb8 _ hd8
  subst hb8 hd8
  replace p8' := hide p8'
  go_wp2_with fail
  refine (RSame_any _ _ _ _ (bareS m) (bareS m) _ hbl hbl p8'.out p10.out).mono ?_
  rw [sameP_refl]
  rintro e w11 ⟨rfl, hd11⟩
  have he11 := hd11.ext
  have q11 := hide (q10.out.ext he11)
  have e11 := hide (e10.out.trans he11)
  have x11 := hide (x10.out.trans he11)
  replace o8 := hide (o8.out.ext he11)
  replace o9 := hide (o9.out.ext he11)
  clear he11 hd11 p10 p8'
  go_wp2_with fail
  refine (RFlat_any _ _ m _ h64 q11.out).mono ?_
  rintro e w12 ⟨v12, rfl, he12, o12⟩
  have q12 := hide (q11.out.ext he12)
  have e12 := hide (e11.out.trans he12)
  have x12 := hide (x11.out.trans he12)
  replace o8 := hide (o8.out.ext he12)
  replace o9 := hide (o9.out.ext he12)
  obtain ⟨b12, c12, rfl, s12⟩ := o12.sl
  replace s12 := hide s12
  clear he12 o12
  obtain ⟨_, _, hv9, s9⟩ := o9.out.sl
  injection hv9 with hb9 _ hd9
  subst hb9 hd9
  replace s9 := hide s9
  go_wp2_with fail
  refine (SameAS_any _ _ _ _ (flatS m) (flatS m) _ _ _ hfl hfl s9.out s12.out).mono ?_
  rw [sameU_refl]
  rintro e w13 ⟨rfl, hd13⟩
  have he13 := hd13.ext
  have q13 := hide (q12.out.ext he13)
  have e13 := hide (e12.out.trans he13)
  have x13 := hide (x12.out.trans he13)
  replace o8 := hide (o8.out.ext he13)
  replace o9 := hide (o9.out.ext he13)
  clear he13 hd13 s9 s12
  go_wp2_with fail
  refine (spoil_any _ _ (bareS m) _ hbl o8.out).mono ?_
  rintro e w14 ⟨rfl, hb14, hK14⟩
  have x14 := hide (Below.trans x13.out hb14)
  have r14 := hide (o9.out.wr.2.kept hK14)
  clear hb14 hK14 o8 o9
  go_wp2
  go_loopw [12] (fun i wr => ∃ k : Nat, k ≤ (flatS m).length ∧ i = .int .i64 k ∧ Wr wr w7.heap.size _ (flatS m).length ∧ Below w7.heap.size w7 wr) (fun i _ => (flatS m).length - (intOf i).toNat)
  case atStart => exact ⟨0, Nat.zero_le _, rfl, r14.out, x14.out⟩
  case round =>
    obtain ⟨k, hk, rfl, hw, hb⟩ := hrel
    by_cases hlt : k < (flatS m).length
    · obtain ⟨b, p, u, hbb, hB, h0, h1⟩ := hw.at k hlt
      subst hbb
      replace hw := hide hw
      replace hb := hide hb
      go_wp2
      go_roundw
      case rel => exact ⟨k + 1, by omega, by go_num, hw.out.kept ((Kept.refl _).set _ _), hb.out.setCell hB _⟩
      case measure => simp [intOf]; omega
    · have pe := hide (p7.out.ext hb)
      have qe := hide (q7.out.ext hb)
      have ee := hide (e7.out.trans hb)
      clear hb hw
      go_wp2_with fail
      refine (RSame_any _ _ _ _ m m _ hm hm pe.out qe.out).mono ?_
      rw [sameP_refl]
      rintro e w15 ⟨rfl, he15⟩
      have e15 := hide (ee.out.trans he15.ext)
      clear he15
      go_wp2_with fail
      refine (works_any _ (htab.out.ext e15.out)).mono ?_
      rintro e w16 ⟨rfl, he16⟩
      have e16 := hide (e15.out.trans he16)
      clear he16
      go_wp2
      go_ret
      exact ⟨rfl, e16.out⟩
end Go.Proofs.YtiappobhljiknaaDoor
