/- The walk of the law PathSame. -/
import Derived.Test.YtiappobhljiknaaDoorL1
namespace Go.Proofs.YtiappobhljiknaaDoor
open Go.RowKit
set_option linter.unusedVariables false

set_option maxRecDepth 20000 in
set_option maxHeartbeats 4000000 in
theorem PathSame_walk (a b : Option Addr) (c d : Nat) (x y : List Seg) (w : World) (hx : x.length ≤ 16777216) (hy : y.length ≤ 16777216) (hc : x.length ≤ c) (hd : y.length ≤ d) (hs : Path w a x) (ht : Path w b y) (htab : Tab w) :
    Calls Tryd.prog 4 #[.slice a x.length c, .slice b y.length d] w fun e w' => e = .returned (.bool true) ∧ Ext w w' := by
  replace hs := hide (hs.take 20)
  replace ht := hide (ht.take 20)
  replace htab := hide htab
  have hm : (x.take 20).length ≤ 16777216 := by simp; omega
  have hn : (y.take 20).length ≤ 16777216 := by simp; omega
  have hcut := hide (cut_any a c x w hx hc)
  have hcuu := hide (cut_any b d y w hy hd)
  generalize x.take 20 = m at hs hm hcut
  generalize y.take 20 = n at ht hn hcuu
  go_enter Tryd.func4, Tryd.ntmps4
  go_wp2_with fail
  refine hcut.out.mono ?_
  rintro e w' ⟨rfl, rfl⟩
  go_wp2_with fail
  refine hcuu.out.mono ?_
  rintro e w' ⟨rfl, rfl⟩
  go_wp2_with fail
  refine (ASame_any _ _ _ _ m n _ hm hn hs.out ht.out).mono ?_
  rintro e w1 ⟨rfl, he1⟩
  have p1 := hide (hs.out.ext he1)
  have q1 := hide (ht.out.ext he1)
  have e1 := hide he1
  clear he1
  go_wp2_with fail
  refine (RSame_any _ _ _ _ m n _ hm hn p1.out q1.out).mono ?_
  rintro e w2 ⟨rfl, he2⟩
  have p2 := hide (p1.out.ext he2.ext)
  have e2 := hide (e1.out.trans he2.ext)
  clear he2
  go_wp2_with fail
  refine (ROwnAll_any _ _ m _ hm p2.out).mono ?_
  rintro e w3 ⟨v3, rfl, e3, o3⟩
  obtain ⟨b3, c3, rfl, q3⟩ := o3.path (w' := w3)
  have p3 := hide (p2.out.ext e3)
  clear o3
  replace q3 := hide q3
  have e3 := hide (e2.out.trans e3)
  go_wp2_with fail
  refine (ASame_any _ _ _ _ m m _ hm hm p3.out q3.out).mono ?_
  rw [sameP_refl]
  rintro e w4 ⟨rfl, he4⟩
  have e4 := hide (e3.out.trans he4)
  clear he4
  go_wp2_with fail
  refine (works_any _ (htab.out.ext e4.out)).mono ?_
  rintro e w5 ⟨rfl, he5⟩
  have e5 := hide (e4.out.trans he5)
  clear he5
  go_wp2
  go_ret
  exact ⟨rfl, e5.out⟩
end Go.Proofs.YtiappobhljiknaaDoor
