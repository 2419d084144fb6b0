/- The walks of the laws PathLays and PathSame. -/
import Derived.Test.YtiappobhljiknaaDoorW10
namespace Go.Proofs.YtiappobhljiknaaDoor
open Go.RowKit
set_option linter.unusedVariables false

theorem sameP_refl (l : List Seg) : sameP l l = true := by simp [sameP]

set_option maxRecDepth 20000 in
set_option maxHeartbeats 4000000 in
theorem PathLays_walk (a : Option Addr) (c : Nat) (l : List Seg) (four : Bool) (w : World) (hl : l.length ≤ 16777216) (hc : l.length ≤ c) (hs : Path w a l) (htab : Tab w) :
    Calls Tryd.prog 3 #[.slice a l.length c, .bool four] w fun e w' => e = .returned (.bool true) ∧ Ext w w' := by
  replace hs := hide (hs.take 20)
  replace htab := hide htab
  have hm : (l.take 20).length ≤ 16777216 := by simp; omega
  have hcut := hide (cut_any a c l w hl hc)
  generalize l.take 20 = m at hs hm hcut
  go_enter Tryd.func3, Tryd.ntmps3
  go_wp2_with fail
  refine hcut.out.mono ?_
  rintro e w' ⟨rfl, rfl⟩
  go_wp2_with fail
  refine (ROwnAll_any _ _ m _ hm hs.out).mono ?_
  rintro e w1 ⟨v1, rfl, e1, o1⟩
  obtain ⟨b1, c1, rfl, p1⟩ := o1.path (w' := w1)
  clear o1
  have q1 := hide (hs.out.ext e1)
  replace e1 := hide e1
  replace p1 := hide p1
  go_wp2_with fail
  refine (AEncode_any _ _ m _ _ hm p1.out).mono ?_
  rintro e w2 ⟨rfl, he2⟩
  have p2 := hide (p1.out.ext he2)
  have q2 := hide (q1.out.ext he2)
  have e2 := hide (e1.out.trans he2)
  clear he2
  go_wp2_with fail
  refine (REncode_any _ _ m _ _ hm q2.out).mono ?_
  rintro e w3 ⟨rfl, he3⟩
  have p3 := hide (p2.out.ext he3)
  have q3 := hide (q2.out.ext he3)
  have e3 := hide (e2.out.trans he3)
  clear he3
  go_wp2_with fail
  refine (AText_any _ _ m _ hm p3.out (htab.out.ext e3.out)).mono ?_
  rintro e w4 ⟨rfl, he4⟩
  have p4 := hide (p3.out.ext he4)
  have q4 := hide (q3.out.ext he4)
  have e4 := hide (e3.out.trans he4)
  clear he4
  go_wp2_with fail
  refine (RText_any _ _ m _ hm q4.out (htab.out.ext e4.out)).mono ?_
  rintro e w5 ⟨rfl, he5⟩
  have p5 := hide (p4.out.ext he5)
  have q5 := hide (q4.out.ext he5)
  have e5 := hide (e4.out.trans he5)
  clear he5
  go_wp2_with fail
  refine (RSame_any _ _ _ _ m m _ hm hm p5.out q5.out).mono ?_
  rw [sameP_refl]
  rintro e w6 ⟨rfl, he6⟩
  have e6 := hide (e5.out.trans he6.ext)
  clear he6
  go_wp2_with fail
  refine (works_any _ (htab.out.ext e6.out)).mono ?_
  rintro e w7 ⟨rfl, he7⟩
  have e7 := hide (e6.out.trans he7)
  clear he7
  go_wp2
  go_ret
  exact ⟨rfl, e7.out⟩
end Go.Proofs.YtiappobhljiknaaDoor
