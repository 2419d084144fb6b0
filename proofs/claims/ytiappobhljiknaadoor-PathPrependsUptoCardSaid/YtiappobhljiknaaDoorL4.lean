/- The walk of the law PathPrepends. -/
import Derived.Test.YtiappobhljiknaaDoorL1
import Derived.Test.YtiappobhljiknaaDoorW16
import Derived.Test.YtiappobhljiknaaDoorW22
import Derived.Test.YtiappobhljiknaaDoorW23
namespace Go.Proofs.YtiappobhljiknaaDoor
open Go.RowKit
set_option linter.unusedVariables false

set_option maxRecDepth 20000 in
set_option maxHeartbeats 1000000 in
theorem PathPrepends_walk (a : Option Addr) (c : Nat) (l : List Seg) (x : UInt32) (conf : Bool) (w : World) (hl : l.length ≤ 16777216) (hc : l.length ≤ c) (hs : Path w a l) (htab : Tab w) :
    Calls Tryd.prog 6 #[.slice a l.length c, .int .u32 (x.toNat : Int), .bool conf] w fun e w' => e = .returned (.bool true) ∧ Ext w w' := by
  replace hs := hide (hs.take 20)
  replace htab := hide htab
  have hm : (l.take 20).length ≤ 16777215 := by simp; omega
  have hcut := hide (cut_any a c l w hl hc)
  generalize l.take 20 = m at hs hm hcut
  have hm' : m.length ≤ 16777216 := by omega
  have hpl := prepS_len m x conf
  obtain ⟨⟨q, r⟩, hpq⟩ : ∃ p, prepS m x conf = p := ⟨_, rfl⟩
  rw [hpq] at hpl
  replace hpq := hide hpq
  have hq : q.length ≤ 16777216 := by have : q.length ≤ m.length + 1 := hpl; omega
  clear hpl
  go_enter Tryd.func6, Tryd.ntmps6
  go_wp2_with fail
  refine hcut.out.mono ?_
  rintro e w' ⟨rfl, rfl⟩
  go_wp2_with fail
  refine (ROwnAll_any _ _ m _ hm' hs.out).mono ?_
  rintro e w1 ⟨v1, rfl, e1, o1⟩
  obtain ⟨b1, c1, rfl, p1⟩ := o1.path (w' := w1)
  clear o1
  have q1 := hide (hs.out.ext e1)
  replace e1 := hide e1
  replace p1 := hide p1
  go_wp2_with fail
  refine (APrepend_any _ _ m x conf _ hm' p1.out).mono ?_
  rw [hpq.out]
  rintro e w2 ⟨v2, rfl, he2, o2⟩
  have q2 := hide (q1.out.ext he2)
  have x2 := hide he2
  replace o2 := hide o2
  clear he2
  obtain ⟨b2, c2, rfl, hc2, _⟩ := o2.out.slc
  go_wp2_with fail
  refine (RPrepend_any _ _ m x conf _ hm' q2.out).mono ?_
  rw [hpq.out]
  rintro e w3 ⟨b3, c3, rfl, he3, r3⟩
  have x3 := hide (x2.out.trans he3)
  replace o2 := hide (o2.out.ext he3)
  replace r3 := hide r3
  clear he3
  obtain ⟨_, _, hv2, p2⟩ := o2.out.weak.path (w' := w3)
  injection hv2 with hb2 _ hd2
  subst hb2 hd2
  replace p2 := hide p2
  go_wp2_with fail
  refine (RSame_any _ _ _ _ q q _ hq hq p2.out r3.out).mono ?_
  rw [sameP_refl]
  rintro e w4 ⟨rfl, hd4⟩
  have he4 := hd4.ext
  have x4 := hide (x3.out.trans he4)
  replace o2 := hide (o2.out.ext he4)
  clear he4 hd4 p2 r3
  go_wp2_with fail
  refine (spoil_any _ _ q _ hq o2.out).mono ?_
  rintro e w5 ⟨rfl, hb5, _⟩
  have x5 := Below.trans x4.out hb5
  have pe := hide (p1.out.ext x5)
  have qe := hide (q1.out.ext x5)
  have ee := hide (e1.out.trans x5)
  clear hb5 o2 x5
  go_wp2_with fail
  refine (RSame_any _ _ _ _ m m _ hm' hm' pe.out qe.out).mono ?_
  rw [sameP_refl]
  rintro e w6 ⟨rfl, he6⟩
  have e6 := hide (ee.out.trans he6.ext)
  clear he6
  go_wp2_with fail
  refine (works_any _ (htab.out.ext e6.out)).mono ?_
  rintro e w7 ⟨rfl, he7⟩
  have e7 := hide (e6.out.trans he7)
  clear he7
  go_wp2
  go_ret
  exact ⟨rfl, e7.out⟩
end Go.Proofs.YtiappobhljiknaaDoor
