/- The walk of the law PathReads. -/
import Derived.Test.YtiappobhljiknaaDoorL6
import Derived.Test.YtiappobhljiknaaDoorW30
import Derived.Test.YtiappobhljiknaaDoorW31
import Derived.Test.YtiappobhljiknaaDoorW35
import Derived.Test.YtiappobhljiknaaDoorW36
namespace Go.Proofs.YtiappobhljiknaaDoor
open Go.RowKit
set_option linter.unusedVariables false

theorem RDecode_any (s : List UInt8) (four : Bool) (w : World) (hs : s.length ≤ 1048576) :
    Calls Tryd.prog 38 #[.string ⟨s.toArray⟩, .bool four] w fun e w' => ∃ a c, e = .returned (.tuple #[.slice a (decS s four).1.length c, .int .i64 (decS s four).2]) ∧ Ext w w' ∧ Sl ESeg w' (fun b => w.heap.size ≤ b ∧ b < w'.heap.size) a (decS s four).1 := by
  cases four
  · exact RDecode_F s w hs
  · exact RDecode_T s w hs
theorem decS_len (s : List UInt8) (four : Bool) : (decS s four).1.length ≤ 16 := by
  rcases decS_cases s four with ⟨l, h, hc, _⟩ | h
  · rw [h]; exact chk_len hc
  · rw [h]; simp
theorem parS_len (s : List UInt8) : (parS s).1.length ≤ 16 := by
  rcases parS_cases s with ⟨l, h, hc, _⟩ | h
  · rw [h]; exact chk_len hc
  · rw [h]; simp

set_option maxRecDepth 20000 in
set_option maxHeartbeats 2000000 in
theorem PathReads_walk (s : List UInt8) (four : Bool) (w : World) (hs : s.length ≤ 1048576) (htab : Tab w) (hV : Vars w) :
    Calls Tryd.prog 8 #[.string ⟨s.toArray⟩, .bool four] w fun e w' => e = .returned (.bool true) ∧ Ext w w' := by
  replace htab := hide htab
  replace hV := hide hV
  have hql := decS_len s four
  have hml := parS_len s
  obtain ⟨⟨q, r⟩, hpq⟩ : ∃ p, decS s four = p := ⟨_, rfl⟩
  obtain ⟨⟨m, t⟩, hmt⟩ : ∃ p, parS s = p := ⟨_, rfl⟩
  rw [hpq] at hql
  rw [hmt] at hml
  have hq : q.length ≤ 16777216 := Nat.le_trans hql (by decide)
  have hm : m.length ≤ 16777216 := Nat.le_trans hml (by decide)
  clear hql hml
  replace hpq := hide hpq
  replace hmt := hide hmt
  go_enter Tryd.func8, Tryd.ntmps8
  go_wp2_with fail
  refine (ADecode_any s four _ hs).mono ?_
  rw [hpq.out]
  rintro e w1 ⟨v1, rfl, e1, o1⟩
  obtain ⟨b1, c1, rfl, _, p1⟩ := o1.weak.toPath
  have j1 := hide o1.spoilt
  have z1 := hide e1.size
  replace e1 := hide e1
  replace p1 := hide p1
  clear o1
  go_wp2_with fail
  refine (RDecode_any s four _ hs).mono ?_
  rw [hpq.out]
  rintro e w2 ⟨b2, c2, rfl, e2, s2⟩
  have x2 := hide (e1.out.trans e2)
  have z2 := hide e2.size
  replace j1 := hide (j1.out.frame fun b hb => e2.block b hb.2)
  replace p1 := hide (p1.out.ext e2)
  replace s2 := hide s2
  clear e2 e1
  go_wp2_with fail
  refine (AParse_any s _ hs (htab.out.ext x2.out) (hV.out.ext x2.out)).mono ?_
  rw [hmt.out]
  rintro e w3 ⟨v3, rfl, e3, o3⟩
  obtain ⟨b3, c3, rfl, _, p3⟩ := o3.weak.toPath
  have j3 := hide o3.spoilt
  have x3 := hide (x2.out.trans e3)
  have z3 := hide e3.size
  replace j1 := hide (j1.out.frame fun b hb => e3.block b (by have := z2.out; have := hb.2; omega))
  replace p1 := hide (p1.out.ext e3)
  replace s2 := hide (s2.out.frame fun b hb => e3.block b hb.2)
  replace p3 := hide p3
  clear o3 e3 x2
  go_wp2_with fail
  refine (RParse_any s _ hs (htab.out.ext x3.out)).mono ?_
  rw [hmt.out]
  rintro e w4 ⟨b4, c4, rfl, e4, p4⟩
  have x4 := hide (x3.out.trans e4)
  have z4 := hide e4.size
  replace j1 := hide (j1.out.frame fun b hb => e4.block b (by have := z2.out; have := z3.out; have := hb.2; omega))
  replace j3 := hide (j3.out.frame fun b hb => e4.block b hb.2)
  replace p1 := hide (p1.out.ext e4)
  replace p3 := hide (p3.out.ext e4)
  replace s2 := hide (s2.out.frame fun b hb => e4.block b (by have := z3.out; have := hb.2; omega))
  have p2 : Path w4 b2 q := s2.out.mono fun b hb => by have := z3.out; have := z4.out; have := hb.2; show b < w4.heap.size; omega
  replace p2 := hide p2
  replace p4 := hide p4
  clear e4 x3
  have tok := 1
  go_wp2_with fail
  refine (RSame_any _ _ _ _ q q _ hq hq p1.out p2.out).mono ?_
  rw [sameP_refl]
  rintro e w5 ⟨rfl, hd5⟩
  clear tok
  have e5 := hd5.ext
  have x5 := hide (x4.out.trans e5)
  have z5 := hide e5.size
  replace j1 := hide (j1.out.frame fun b hb => e5.block b (by have := z2.out; have := z3.out; have := z4.out; have := hb.2; omega))
  replace j3 := hide (j3.out.frame fun b hb => e5.block b (by have := z4.out; have := hb.2; omega))
  replace p3 := hide (p3.out.ext e5)
  replace p4 := hide (p4.out.ext e5)
  replace s2 := hide (s2.out.frame fun b hb => e5.block b (by have := z3.out; have := z4.out; have := hb.2; omega))
  clear e5 hd5 x4 p1 p2
  go_wp2_with fail
  refine (RSame_any _ _ _ _ m m _ hm hm p3.out p4.out).mono ?_
  rw [sameP_refl]
  rintro e w6 ⟨rfl, hd6⟩
  have e6 := hd6.ext
  have x6 := hide (x5.out.trans e6)
  replace j1 := hide (j1.out.frame fun b hb => e6.block b (by have := z2.out; have := z3.out; have := z4.out; have := z5.out; have := hb.2; omega))
  replace j3 := hide (j3.out.frame fun b hb => e6.block b (by have := z4.out; have := z5.out; have := hb.2; omega))
  replace s2 := hide (s2.out.frame fun b hb => e6.block b (by have := z3.out; have := z4.out; have := z5.out; have := hb.2; omega))
  have z6 := hide e6.size
  clear e6 hd6 x5 p3 p4
  go_wp2_with fail
  refine (spoil_only _ _ _ _ _ hq j1.out).mono ?_
  rintro e w7 ⟨rfl, n7⟩
  have x7 : Below w.heap.size w w7 := Below.trans x6.out (n7.below fun b hb => hb.1)
  replace x7 := hide x7
  replace j3 := hide (j3.out.frame fun b hb => n7.block b (fun h => by have := z2.out; have := h.2; have := hb.1; omega))
  replace s2 := hide (s2.out.frame fun b hb => n7.block b (fun h => by have := h.2; have := hb.1; omega))
  have z7 := hide n7.size
  clear n7 x6 j1
  go_wp2_with fail
  refine (spoil_only _ _ _ _ _ hm j3.out).mono ?_
  rintro e w8 ⟨rfl, n8⟩
  have x8 : Below w.heap.size w w8 := Below.trans x7.out (n8.below fun b hb => by have := z1.out; have := z2.out; have := hb.1; omega)
  have x8 : Ext w w8 := x8
  replace x8 := hide x8
  replace s2 := hide (s2.out.frame fun b hb => n8.block b (fun h => by have := h.1; have := hb.2; omega))
  have z8 := hide n8.size
  clear n8 x7 j3
  go_wp2_with fail
  refine (ADecode_any s four _ hs).mono ?_
  rw [hpq.out]
  rintro e w9 ⟨v9, rfl, e9, o9⟩
  obtain ⟨b9, c9, rfl, _, p9⟩ := o9.weak.toPath
  have z9 := e9.size
  have hz : w2.heap.size ≤ w9.heap.size := by have := z3.out; have := z4.out; have := z5.out; have := z6.out; have := z7.out; have := z8.out; omega
  have hz8 : w2.heap.size ≤ w8.heap.size := by have := z3.out; have := z4.out; have := z5.out; have := z6.out; have := z7.out; have := z8.out; omega
  have p2 : Path w9 b2 q := (s2.out.frame fun b hb => e9.block b (Nat.lt_of_lt_of_le hb.2 hz8)).mono fun b hb => Nat.lt_of_lt_of_le hb.2 hz
  have x9 := hide (x8.out.trans e9)
  replace p9 := hide p9
  replace p2 := hide p2
  clear o9 e9 x8 s2 hz hz8 z9
  go_wp2_with fail
  refine (RSame_any _ _ _ _ q q _ hq hq p9.out p2.out).mono ?_
  rw [sameP_refl]
  rintro e w10 ⟨rfl, hd10⟩
  have x10 := hide (x9.out.trans hd10.ext)
  clear hd10 x9 p9 p2
  go_wp2_with fail
  refine (works_any _ (htab.out.ext x10.out)).mono ?_
  rintro e w11 ⟨rfl, he11⟩
  have x11 := hide (x10.out.trans he11)
  clear he11 x10
  go_wp2
  go_ret
  exact ⟨rfl, x11.out⟩
end Go.Proofs.YtiappobhljiknaaDoor
