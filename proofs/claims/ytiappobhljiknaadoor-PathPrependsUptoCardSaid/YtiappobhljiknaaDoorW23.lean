/- heraldref04.Prepend. -/
import Derived.Test.YtiappobhljiknaaDoorA12
import Derived.Test.YtiappobhljiknaaDoorW7
import Derived.Test.YtiappobhljiknaaDoorW22
namespace Go.Proofs.YtiappobhljiknaaDoor
open Go.RowKit
set_option linter.unusedVariables false

set_option maxRecDepth 20000 in
set_option maxHeartbeats 1000000 in
theorem RPrepend_no (a : Option Addr) (c : Nat) (l : List Seg) (x : UInt32) (conf : Bool) (w : World) (hl : l.length ≤ 16777216) (hs : Path w a l) (hck : ¬ (chk l = true ∧ x ≠ 0)) :
    Calls Tryd.prog 35 #[.slice a l.length c, .int .u32 (x.toNat : Int), .bool conf] w fun e w' => e = .returned (.tuple #[.slice none 0 0, .int .i64 2]) ∧ w = w' := by
  replace hs := hide hs
  cases hk : chk l with
  | false =>
    replace hk := hide hk
    clear hck
    go_enter Tryd.func35, Tryd.ntmps35
    go_wp2_with fail
    refine (RCheck_no _ _ l _ hl hs.out hk.out).mono ?_
    rintro e w1 ⟨rfl, rfl⟩
    go_wp2_with fail
    go_ret2
    exact ⟨rfl, rfl⟩
  | true =>
    have hx : x = 0 := Decidable.byContradiction fun h => hck ⟨hk, h⟩
    subst hx
    replace hk := hide hk
    clear hck
    go_enter Tryd.func35, Tryd.ntmps35
    go_wp2_with fail
    refine (RCheck_ok _ _ l _ hl hs.out hk.out).mono ?_
    rintro e w1 ⟨rfl, rfl⟩
    go_wp2_with fail
    go_ret2
    exact ⟨rfl, rfl⟩

set_option maxRecDepth 20000 in
set_option maxHeartbeats 1000000 in
theorem RPrepend_in (a : Option Addr) (c : Nat) (l : List Seg) (x : UInt32) (conf : Bool) (w : World) (hl' : l.length ≤ 16777216) (hs : Path w a l) (hck : chk l = true) (hx : x ≠ 0) (s : Seg) (t : List Seg) (hls : l = s :: t) (hkk : s.kind = prepK conf) (h255 : s.as.length < 255) :
    Calls Tryd.prog 35 #[.slice a l.length c, .int .u32 (x.toNat : Int), .bool conf] w fun e w' => ∃ b c', e = .returned (.tuple #[.slice b (⟨s.kind, x :: s.as⟩ :: t).length c', .int .i64 0]) ∧ Ext w w' ∧ Path w' b (⟨s.kind, x :: s.as⟩ :: t) := by
  have hk1 := hide (RCheck_ok a c l w hl' hs hck)
  have hk2 := hide (fun w1 h => ROwnAll_any a c l w1 hl' h)
  replace hs := hide hs
  clear hck
  have hx0 := u32_ne0 hx
  have hl0 : 0 < l.length := by rw [hls]; simp
  have hs0 : l[0] = s := by simp [hls]
  have hlen : l.length = t.length + 1 := by rw [hls]; rfl
  replace hlen := hide hlen
  replace hls := hide hls
  cases conf with
  | false =>
    try simp only [prepK, if_false, if_true, Bool.false_eq_true] at hge
    try simp only [prepK, if_false, if_true, Bool.false_eq_true] at hkk
    try replace hkk := hide hkk
    go_enter Tryd.func35, Tryd.ntmps35
    go_wp2_with fail
    refine hk1.out.mono ?_
    rintro e w1 ⟨rfl, rfl⟩
    go_wp2_with fail
    refine (hk2.out _ hs.out).mono ?_
    rintro e w2 ⟨v2, rfl, he2, o2⟩
    obtain ⟨g, d, rfl⟩ : ∃ g d, v2 = .slice (some ⟨g, 0, none⟩) l.length d := by
      obtain ⟨xs, ho, _⟩ := o2
      rcases ho.2 with ⟨_, h0⟩ | ⟨g, cap, cur, h1, _⟩
      · omega
      · exact ⟨g, cap, h1⟩
    have hgl := o2.blockLt
    have f1 := o2.thaw 1
    obtain ⟨a2, d2, hv2, _, q2⟩ := o2.toPath
    injection hv2 with e1 _ e3
    subst e1 e3
    obtain ⟨g', off', b, d', hgg, _, c0, c1, hma, hsl, hk3, hk4⟩ := ESeg.at q2 0 hl0
    injection hgg with hgg
    injection hgg with e4 e5
    subst e4 e5
    simp only [hs0, Nat.zero_mul, Nat.add_zero, Nat.zero_add] at c0 c1 hma hk3 hk4 hsl
    rw [hkk.out] at c0
    have hsz2 := he2.size
    have c1' : (w2.alloc (.cells #[.int .u32 (x.toNat : Int)] 31)).cell? ⟨g, 1, none⟩ = some (.slice b s.as.length d') := (World.cell?_of_block (a := ⟨g, 1, none⟩) (Below.heap_alloc _ _ _ hgl.2)).trans c1
    replace he2 := hide he2
    replace hsl := hide hsl
    have hox : Own EU32 31 (w2.alloc (.cells #[.int .u32 (x.toNat : Int)] 31)) w2.heap.size (.slice (some ⟨w2.heap.size, 0, none⟩) 1 1) [x] := own_flat.2 ⟨World.ownsRow_lit w2 #[.int .u32 (x.toNat : Int)] 1 (Nat.le_refl _) (by unfold maxLen; omega) rfl, fun _ _ => trivial⟩
    replace hox := hide hox
    rw [hls.out] at o2
    replace o2 := hide o2
    clear q2 
    go_wp2_with (at_builtin
                 refine wpList_pushes (B := w2.heap.size) rfl _ _ _ rfl okU32 (by decide) rfl hox.out (by simp) rfl (by simp; omega) (hsl.out.ext ((Ext.refl _).alloc _)) ?_
                 intro v3 w3 o3 hg3 hat3
                 obtain ⟨b3, d3, rfl⟩ := o3.form
                 have hb3 : ∀ k, k < w2.heap.size → w3.heap[k]? = w2.heap[k]? := fun k hk => (hg3.block k (by simp; omega) (fun he => absurd (Option.some.inj (show some k = some w2.heap.size from he)) (by omega))).trans (Below.heap_alloc _ _ _ hk)
                 have hs3 : w2.heap.size ≤ w3.heap.size := Nat.le_trans (by simp) hg3.size
                 have c3 : w3.cell? ⟨g, 1, none⟩ = some (.slice b s.as.length d') := (World.cell?_of_block (a := ⟨g, 1, none⟩) (hb3 g hgl.2)).trans c1
                 have f3 : w3.frozen? ⟨g, 1, none⟩ = false := (frozen_frame (hb3 g hgl.2) 1).trans f1
                 have hfin := hide (path_headSet o2.out hb3 hs3 o3 (by omega))
                 have hext : Ext w w3 := (he2.out.alloc _).grown hg3 fun k hk => by have := Option.some.inj (show some w2.heap.size = some k from hk); omega
                 replace hext := hide hext
                 replace hb3 := hide hb3
                 clear c1 c1' c0 f1 o3 hg3 hat3 hox)
    go_ret2
    exact ⟨_, _, by first | rfl | (rw [← hlen.out]; rfl), hext.out.setCell (by show w.heap.size ≤ g; omega) _, hfin.out⟩
  | true =>
    try simp only [prepK, if_false, if_true, Bool.false_eq_true] at hge
    try simp only [prepK, if_false, if_true, Bool.false_eq_true] at hkk
    try replace hkk := hide hkk
    go_enter Tryd.func35, Tryd.ntmps35
    go_wp2_with fail
    refine hk1.out.mono ?_
    rintro e w1 ⟨rfl, rfl⟩
    go_wp2_with fail
    refine (hk2.out _ hs.out).mono ?_
    rintro e w2 ⟨v2, rfl, he2, o2⟩
    obtain ⟨g, d, rfl⟩ : ∃ g d, v2 = .slice (some ⟨g, 0, none⟩) l.length d := by
      obtain ⟨xs, ho, _⟩ := o2
      rcases ho.2 with ⟨_, h0⟩ | ⟨g, cap, cur, h1, _⟩
      · omega
      · exact ⟨g, cap, h1⟩
    have hgl := o2.blockLt
    have f1 := o2.thaw 1
    obtain ⟨a2, d2, hv2, _, q2⟩ := o2.toPath
    injection hv2 with e1 _ e3
    subst e1 e3
    obtain ⟨g', off', b, d', hgg, _, c0, c1, hma, hsl, hk3, hk4⟩ := ESeg.at q2 0 hl0
    injection hgg with hgg
    injection hgg with e4 e5
    subst e4 e5
    simp only [hs0, Nat.zero_mul, Nat.add_zero, Nat.zero_add] at c0 c1 hma hk3 hk4 hsl
    rw [hkk.out] at c0
    have hsz2 := he2.size
    have c1' : (w2.alloc (.cells #[.int .u32 (x.toNat : Int)] 31)).cell? ⟨g, 1, none⟩ = some (.slice b s.as.length d') := (World.cell?_of_block (a := ⟨g, 1, none⟩) (Below.heap_alloc _ _ _ hgl.2)).trans c1
    replace he2 := hide he2
    replace hsl := hide hsl
    have hox : Own EU32 31 (w2.alloc (.cells #[.int .u32 (x.toNat : Int)] 31)) w2.heap.size (.slice (some ⟨w2.heap.size, 0, none⟩) 1 1) [x] := own_flat.2 ⟨World.ownsRow_lit w2 #[.int .u32 (x.toNat : Int)] 1 (Nat.le_refl _) (by unfold maxLen; omega) rfl, fun _ _ => trivial⟩
    replace hox := hide hox
    rw [hls.out] at o2
    replace o2 := hide o2
    clear q2 
    go_wp2_with (at_builtin
                 refine wpList_pushes (B := w2.heap.size) rfl _ _ _ rfl okU32 (by decide) rfl hox.out (by simp) rfl (by simp; omega) (hsl.out.ext ((Ext.refl _).alloc _)) ?_
                 intro v3 w3 o3 hg3 hat3
                 obtain ⟨b3, d3, rfl⟩ := o3.form
                 have hb3 : ∀ k, k < w2.heap.size → w3.heap[k]? = w2.heap[k]? := fun k hk => (hg3.block k (by simp; omega) (fun he => absurd (Option.some.inj (show some k = some w2.heap.size from he)) (by omega))).trans (Below.heap_alloc _ _ _ hk)
                 have hs3 : w2.heap.size ≤ w3.heap.size := Nat.le_trans (by simp) hg3.size
                 have c3 : w3.cell? ⟨g, 1, none⟩ = some (.slice b s.as.length d') := (World.cell?_of_block (a := ⟨g, 1, none⟩) (hb3 g hgl.2)).trans c1
                 have f3 : w3.frozen? ⟨g, 1, none⟩ = false := (frozen_frame (hb3 g hgl.2) 1).trans f1
                 have hfin := hide (path_headSet o2.out hb3 hs3 o3 (by omega))
                 have hext : Ext w w3 := (he2.out.alloc _).grown hg3 fun k hk => by have := Option.some.inj (show some w2.heap.size = some k from hk); omega
                 replace hext := hide hext
                 replace hb3 := hide hb3
                 clear c1 c1' c0 f1 o3 hg3 hat3 hox)
    go_ret2
    exact ⟨_, _, by first | rfl | (rw [← hlen.out]; rfl), hext.out.setCell (by show w.heap.size ≤ g; omega) _, hfin.out⟩

set_option maxRecDepth 20000 in
set_option maxHeartbeats 1000000 in
theorem RPrepend_long1 (a : Option Addr) (c : Nat) (l : List Seg) (x : UInt32) (conf : Bool) (w : World) (hl' : l.length ≤ 16777216) (hs : Path w a l) (hck : chk l = true) (hx : x ≠ 0) (s : Seg) (hl : l.length = 16) (h0 : 0 < l.length) (hs0 : l[0] = s) (hkk : s.kind = prepK conf) (hge : ¬ (s.as.length < 255)) :
    Calls Tryd.prog 35 #[.slice a l.length c, .int .u32 (x.toNat : Int), .bool conf] w fun e w' => e = .returned (.tuple #[.slice none 0 0, .int .i64 3]) ∧ Ext w w' := by
  have hk1 := hide (RCheck_ok a c l w hl' hs hck)
  have hk2 := hide (fun w1 h => ROwnAll_any a c l w1 hl' h)
  replace hs := hide hs
  clear hck
  have hx0 := u32_ne0 hx
  have hl0 : 0 < l.length := h0
  replace hl := hide hl
  cases conf with
  | false =>
    try simp only [prepK, if_false, if_true, Bool.false_eq_true] at hge
    try simp only [prepK, if_false, if_true, Bool.false_eq_true] at hkk
    try replace hkk := hide hkk
    go_enter Tryd.func35, Tryd.ntmps35
    go_wp2_with fail
    refine hk1.out.mono ?_
    rintro e w1 ⟨rfl, rfl⟩
    go_wp2_with fail
    refine (hk2.out _ hs.out).mono ?_
    rintro e w2 ⟨v2, rfl, he2, o2⟩
    obtain ⟨a2, d, rfl, _, q2⟩ := o2.toPath
    obtain ⟨g, off, b, d', rfl, _, c0, c1, hma, hsl, hk3, hk4⟩ := ESeg.at q2 0 hl0
    simp only [hs0, Nat.zero_mul, Nat.add_zero] at c0 c1 hma hk3 hk4 hsl
    try rw [hkk.out] at c0
    replace he2 := hide he2
    replace hsl := hide hsl
    clear q2
    clear o2 hsl
    have hl16 := hl.out
    rw [hl16]
    go_wp2_with fail
    go_ret2
    exact ⟨rfl, he2.out⟩
  | true =>
    try simp only [prepK, if_false, if_true, Bool.false_eq_true] at hge
    try simp only [prepK, if_false, if_true, Bool.false_eq_true] at hkk
    try replace hkk := hide hkk
    go_enter Tryd.func35, Tryd.ntmps35
    go_wp2_with fail
    refine hk1.out.mono ?_
    rintro e w1 ⟨rfl, rfl⟩
    go_wp2_with fail
    refine (hk2.out _ hs.out).mono ?_
    rintro e w2 ⟨v2, rfl, he2, o2⟩
    obtain ⟨a2, d, rfl, _, q2⟩ := o2.toPath
    obtain ⟨g, off, b, d', rfl, _, c0, c1, hma, hsl, hk3, hk4⟩ := ESeg.at q2 0 hl0
    simp only [hs0, Nat.zero_mul, Nat.add_zero] at c0 c1 hma hk3 hk4 hsl
    try rw [hkk.out] at c0
    replace he2 := hide he2
    replace hsl := hide hsl
    clear q2
    clear o2 hsl
    have hl16 := hl.out
    rw [hl16]
    go_wp2_with fail
    go_ret2
    exact ⟨rfl, he2.out⟩

set_option maxRecDepth 20000 in
set_option maxHeartbeats 1000000 in
theorem RPrepend_long2 (a : Option Addr) (c : Nat) (l : List Seg) (x : UInt32) (conf : Bool) (w : World) (hl' : l.length ≤ 16777216) (hs : Path w a l) (hck : chk l = true) (hx : x ≠ 0) (s : Seg) (hl : l.length = 16) (h0 : 0 < l.length) (hs0 : l[0] = s) (hge : (s.kind == prepK conf) = false) :
    Calls Tryd.prog 35 #[.slice a l.length c, .int .u32 (x.toNat : Int), .bool conf] w fun e w' => e = .returned (.tuple #[.slice none 0 0, .int .i64 3]) ∧ Ext w w' := by
  have hk1 := hide (RCheck_ok a c l w hl' hs hck)
  have hk2 := hide (fun w1 h => ROwnAll_any a c l w1 hl' h)
  replace hs := hide hs
  clear hck
  have hx0 := u32_ne0 hx
  have hl0 : 0 < l.length := h0
  replace hl := hide hl
  cases conf with
  | false =>
    try simp only [prepK, if_false, if_true, Bool.false_eq_true] at hge
    try simp only [prepK, if_false, if_true, Bool.false_eq_true] at hkk
    try replace hkk := hide hkk
    go_enter Tryd.func35, Tryd.ntmps35
    go_wp2_with fail
    refine hk1.out.mono ?_
    rintro e w1 ⟨rfl, rfl⟩
    go_wp2_with fail
    refine (hk2.out _ hs.out).mono ?_
    rintro e w2 ⟨v2, rfl, he2, o2⟩
    obtain ⟨a2, d, rfl, _, q2⟩ := o2.toPath
    obtain ⟨g, off, b, d', rfl, _, c0, c1, hma, hsl, hk3, hk4⟩ := ESeg.at q2 0 hl0
    simp only [hs0, Nat.zero_mul, Nat.add_zero] at c0 c1 hma hk3 hk4 hsl
    try rw [hkk.out] at c0
    replace he2 := hide he2
    replace hsl := hide hsl
    clear q2
    clear o2 hsl
    have hl16 := hl.out
    rw [hl16]
    go_wp2_with fail
    go_ret2
    exact ⟨rfl, he2.out⟩
  | true =>
    try simp only [prepK, if_false, if_true, Bool.false_eq_true] at hge
    try simp only [prepK, if_false, if_true, Bool.false_eq_true] at hkk
    try replace hkk := hide hkk
    go_enter Tryd.func35, Tryd.ntmps35
    go_wp2_with fail
    refine hk1.out.mono ?_
    rintro e w1 ⟨rfl, rfl⟩
    go_wp2_with fail
    refine (hk2.out _ hs.out).mono ?_
    rintro e w2 ⟨v2, rfl, he2, o2⟩
    obtain ⟨a2, d, rfl, _, q2⟩ := o2.toPath
    obtain ⟨g, off, b, d', rfl, _, c0, c1, hma, hsl, hk3, hk4⟩ := ESeg.at q2 0 hl0
    simp only [hs0, Nat.zero_mul, Nat.add_zero] at c0 c1 hma hk3 hk4 hsl
    try rw [hkk.out] at c0
    replace he2 := hide he2
    replace hsl := hide hsl
    clear q2
    clear o2 hsl
    have hl16 := hl.out
    rw [hl16]
    go_wp2_with fail
    go_ret2
    exact ⟨rfl, he2.out⟩

set_option maxRecDepth 20000 in
set_option maxHeartbeats 1000000 in
theorem RPrepend_new1 (a : Option Addr) (c : Nat) (l : List Seg) (x : UInt32) (conf : Bool) (w : World) (hl' : l.length ≤ 16777216) (hs : Path w a l) (hck : chk l = true) (hx : x ≠ 0) (hl : l.length < 16) (hl0 : 0 < l.length) (hkk : l[0].kind = prepK conf) (hge : ¬ (l[0].as.length < 255)) :
    Calls Tryd.prog 35 #[.slice a l.length c, .int .u32 (x.toNat : Int), .bool conf] w fun e w' => ∃ b c', e = .returned (.tuple #[.slice b (⟨prepK conf, [x]⟩ :: l).length c', .int .i64 0]) ∧ Ext w w' ∧ Path w' b (⟨prepK conf, [x]⟩ :: l) := by
  have hk1 := hide (RCheck_ok a c l w hl' hs hck)
  have hk2 := hide (fun w1 h => ROwnAll_any a c l w1 hl' h)
  replace hs := hide hs
  clear hck
  have hx0 := u32_ne0 hx
  cases conf with
  | false =>
    try simp only [prepK, if_false, if_true, Bool.false_eq_true] at hge
    try simp only [prepK, if_false, if_true, Bool.false_eq_true] at hkk
    try replace hkk := hide hkk
    go_enter Tryd.func35, Tryd.ntmps35
    go_wp2_with fail
    refine hk1.out.mono ?_
    rintro e w1 ⟨rfl, rfl⟩
    go_wp2_with fail
    refine (hk2.out _ hs.out).mono ?_
    rintro e w2 ⟨v2, rfl, he2, o2⟩
    have hsz2 := he2.size
    obtain ⟨a2, d, rfl, _, q2⟩ := o2.toPath
    obtain ⟨g, off, b, d', rfl, _, c0, c1, hma, hsl, hk3, hk4⟩ := ESeg.at q2 0 hl0
    simp only [Nat.zero_mul, Nat.add_zero] at c0 c1 hma hk3 hk4 hsl
    try rw [hkk.out] at c0
    replace he2 := hide he2
    replace hsl := hide hsl
    clear q2 hsl
    obtain ⟨xs, ho2, hr2⟩ := o2
    have hxl : xs.length = l.length * 2 := ho2.1
    have h1x := hide (row_ones ho2.1 hr2)
    have hcx : ∀ ad, (some ⟨g, off, none⟩ : Option Addr) = some ad → ∀ j u, xs[j]? = some u → ((w2.alloc (.cells #[.int .u32 (x.toNat : Int)] 31)).alloc (.cells #[.int .i64 2, .slice (some ⟨w2.heap.size, 0, none⟩) 1 1] 48)).cell? (ad.add j) = some u := fun ad had j u hu => by
      have hsome : ∃ g', ad = ⟨g', 0, none⟩ ∧ g' < w2.heap.size ∧ w2.cell? (ad.add j) = some u := by
        rcases ho2.2 with ⟨h1, _⟩ | ⟨g', cap, cur, h1, _, h3, _⟩
        · injection h1 with h1
          rw [h1] at had
          cases had
        · injection h1 with h1
          injection had with had
          have he := Option.some.inj h1
          refine ⟨g', by rw [← had, he], (Array.getElem?_eq_some_iff.1 h3).1, ?_⟩
          have := ho2.cells (g := g') (by show some _ = some g'; injection he with e1; rw [e1]) j u hu
          rw [← had, he]
          exact this
      obtain ⟨g', rfl, hlt', hcc⟩ := hsome
      rw [add_lit] at hcc ⊢
      rw [World.cell?_of_block (a := ⟨g', 0 + j, none⟩) (Below.heap_alloc _ _ _ (by simp; omega)), World.cell?_of_block (a := ⟨g', 0 + j, none⟩) (Below.heap_alloc _ _ _ hlt')]
      exact hcc
    have hna : (some ⟨g, off, none⟩ : Option Addr) = none → l.length = 0 := fun h => by
      rcases ho2.2 with ⟨_, h0⟩ | ⟨g', cap, cur, h1, _⟩
      · exact h0
      · injection h1 with h1
        rw [h1] at h
        cases h
    have hom : ((w2.alloc (.cells #[.int .u32 (x.toNat : Int)] 31)).alloc (.cells #[.int .i64 2, .slice (some ⟨w2.heap.size, 0, none⟩) 1 1] 48)).ownsRow w.heap.size 48 2 (.slice (some ⟨w2.heap.size + 1, 0, none⟩) 1 1) 1 [.int .i64 2, .slice (some ⟨w2.heap.size, 0, none⟩) 1 1] := by
      have := World.ownsRow_lit (base := w.heap.size) (e := 48) (size := 2) (w2.alloc (.cells #[.int .u32 (x.toNat : Int)] 31)) #[.int .i64 2, .slice (some ⟨w2.heap.size, 0, none⟩) 1 1] 1 (by simp; omega) (by unfold maxLen; omega) rfl
      simpa using this
    have hwB : w.heap.size ≤ ((w2.alloc (.cells #[.int .u32 (x.toNat : Int)] 31)).alloc (.cells #[.int .i64 2, .slice (some ⟨w2.heap.size, 0, none⟩) 1 1] 48)).heap.size := by simp; omega
    have hl34 : 1 + l.length ≤ 34359738368 := by omega
    replace hcx := hide hcx
    replace hna := hide hna
    replace hom := hide hom
    replace hr2 := hide hr2
    replace ho2 := hide ho2
    replace hxl := hide hxl
    obtain ⟨v3, w3, hrun, o3, hg3, hat3⟩ := run_pushRow (Q := Tryd.prog) (ty := 22) (a := some ⟨g, off, none⟩) (c := d) okSeg (by decide) (by decide) hom.out hwB hl34 hxl.out hna.out hcx.out h1x.out
    obtain ⟨a3, c3, rfl, hfin⟩ := path_consNew (by decide) (by decide) hsz2 hr2.out rfl o3 hg3 hat3
    have hext : Ext w w3 := ((he2.out.alloc _).alloc _).grown hg3 fun k hk => by have := Option.some.inj (show some (w2.heap.size + 1) = some k from hk); omega
    replace hext := hide hext
    replace hfin := hide hfin
    clear o3 hg3 hat3
    go_wp2_with (at_builtin; refine Lib.wpList_append_run _ rfl _ _ _ _ rfl _ _ rfl rfl _ _ hrun ?_)
    go_ret2
    exact ⟨_, _, rfl, hext.out, hfin.out⟩
  | true =>
    try simp only [prepK, if_false, if_true, Bool.false_eq_true] at hge
    try simp only [prepK, if_false, if_true, Bool.false_eq_true] at hkk
    try replace hkk := hide hkk
    go_enter Tryd.func35, Tryd.ntmps35
    go_wp2_with fail
    refine hk1.out.mono ?_
    rintro e w1 ⟨rfl, rfl⟩
    go_wp2_with fail
    refine (hk2.out _ hs.out).mono ?_
    rintro e w2 ⟨v2, rfl, he2, o2⟩
    have hsz2 := he2.size
    obtain ⟨a2, d, rfl, _, q2⟩ := o2.toPath
    obtain ⟨g, off, b, d', rfl, _, c0, c1, hma, hsl, hk3, hk4⟩ := ESeg.at q2 0 hl0
    simp only [Nat.zero_mul, Nat.add_zero] at c0 c1 hma hk3 hk4 hsl
    try rw [hkk.out] at c0
    replace he2 := hide he2
    replace hsl := hide hsl
    clear q2 hsl
    obtain ⟨xs, ho2, hr2⟩ := o2
    have hxl : xs.length = l.length * 2 := ho2.1
    have h1x := hide (row_ones ho2.1 hr2)
    have hcx : ∀ ad, (some ⟨g, off, none⟩ : Option Addr) = some ad → ∀ j u, xs[j]? = some u → ((w2.alloc (.cells #[.int .u32 (x.toNat : Int)] 31)).alloc (.cells #[.int .i64 3, .slice (some ⟨w2.heap.size, 0, none⟩) 1 1] 48)).cell? (ad.add j) = some u := fun ad had j u hu => by
      have hsome : ∃ g', ad = ⟨g', 0, none⟩ ∧ g' < w2.heap.size ∧ w2.cell? (ad.add j) = some u := by
        rcases ho2.2 with ⟨h1, _⟩ | ⟨g', cap, cur, h1, _, h3, _⟩
        · injection h1 with h1
          rw [h1] at had
          cases had
        · injection h1 with h1
          injection had with had
          have he := Option.some.inj h1
          refine ⟨g', by rw [← had, he], (Array.getElem?_eq_some_iff.1 h3).1, ?_⟩
          have := ho2.cells (g := g') (by show some _ = some g'; injection he with e1; rw [e1]) j u hu
          rw [← had, he]
          exact this
      obtain ⟨g', rfl, hlt', hcc⟩ := hsome
      rw [add_lit] at hcc ⊢
      rw [World.cell?_of_block (a := ⟨g', 0 + j, none⟩) (Below.heap_alloc _ _ _ (by simp; omega)), World.cell?_of_block (a := ⟨g', 0 + j, none⟩) (Below.heap_alloc _ _ _ hlt')]
      exact hcc
    have hna : (some ⟨g, off, none⟩ : Option Addr) = none → l.length = 0 := fun h => by
      rcases ho2.2 with ⟨_, h0⟩ | ⟨g', cap, cur, h1, _⟩
      · exact h0
      · injection h1 with h1
        rw [h1] at h
        cases h
    have hom : ((w2.alloc (.cells #[.int .u32 (x.toNat : Int)] 31)).alloc (.cells #[.int .i64 3, .slice (some ⟨w2.heap.size, 0, none⟩) 1 1] 48)).ownsRow w.heap.size 48 2 (.slice (some ⟨w2.heap.size + 1, 0, none⟩) 1 1) 1 [.int .i64 3, .slice (some ⟨w2.heap.size, 0, none⟩) 1 1] := by
      have := World.ownsRow_lit (base := w.heap.size) (e := 48) (size := 2) (w2.alloc (.cells #[.int .u32 (x.toNat : Int)] 31)) #[.int .i64 3, .slice (some ⟨w2.heap.size, 0, none⟩) 1 1] 1 (by simp; omega) (by unfold maxLen; omega) rfl
      simpa using this
    have hwB : w.heap.size ≤ ((w2.alloc (.cells #[.int .u32 (x.toNat : Int)] 31)).alloc (.cells #[.int .i64 3, .slice (some ⟨w2.heap.size, 0, none⟩) 1 1] 48)).heap.size := by simp; omega
    have hl34 : 1 + l.length ≤ 34359738368 := by omega
    replace hcx := hide hcx
    replace hna := hide hna
    replace hom := hide hom
    replace hr2 := hide hr2
    replace ho2 := hide ho2
    replace hxl := hide hxl
    obtain ⟨v3, w3, hrun, o3, hg3, hat3⟩ := run_pushRow (Q := Tryd.prog) (ty := 22) (a := some ⟨g, off, none⟩) (c := d) okSeg (by decide) (by decide) hom.out hwB hl34 hxl.out hna.out hcx.out h1x.out
    obtain ⟨a3, c3, rfl, hfin⟩ := path_consNew (by decide) (by decide) hsz2 hr2.out rfl o3 hg3 hat3
    have hext : Ext w w3 := ((he2.out.alloc _).alloc _).grown hg3 fun k hk => by have := Option.some.inj (show some (w2.heap.size + 1) = some k from hk); omega
    replace hext := hide hext
    replace hfin := hide hfin
    clear o3 hg3 hat3
    go_wp2_with (at_builtin; refine Lib.wpList_append_run _ rfl _ _ _ _ rfl _ _ rfl rfl _ _ hrun ?_)
    go_ret2
    exact ⟨_, _, rfl, hext.out, hfin.out⟩

set_option maxRecDepth 20000 in
set_option maxHeartbeats 1000000 in
theorem RPrepend_new2 (a : Option Addr) (c : Nat) (l : List Seg) (x : UInt32) (conf : Bool) (w : World) (hl' : l.length ≤ 16777216) (hs : Path w a l) (hck : chk l = true) (hx : x ≠ 0) (hl : l.length < 16) (hl0 : 0 < l.length) (hge : (l[0].kind == prepK conf) = false) :
    Calls Tryd.prog 35 #[.slice a l.length c, .int .u32 (x.toNat : Int), .bool conf] w fun e w' => ∃ b c', e = .returned (.tuple #[.slice b (⟨prepK conf, [x]⟩ :: l).length c', .int .i64 0]) ∧ Ext w w' ∧ Path w' b (⟨prepK conf, [x]⟩ :: l) := by
  have hk1 := hide (RCheck_ok a c l w hl' hs hck)
  have hk2 := hide (fun w1 h => ROwnAll_any a c l w1 hl' h)
  replace hs := hide hs
  clear hck
  have hx0 := u32_ne0 hx
  cases conf with
  | false =>
    try simp only [prepK, if_false, if_true, Bool.false_eq_true] at hge
    try simp only [prepK, if_false, if_true, Bool.false_eq_true] at hkk
    try replace hkk := hide hkk
    go_enter Tryd.func35, Tryd.ntmps35
    go_wp2_with fail
    refine hk1.out.mono ?_
    rintro e w1 ⟨rfl, rfl⟩
    go_wp2_with fail
    refine (hk2.out _ hs.out).mono ?_
    rintro e w2 ⟨v2, rfl, he2, o2⟩
    have hsz2 := he2.size
    obtain ⟨a2, d, rfl, _, q2⟩ := o2.toPath
    obtain ⟨g, off, b, d', rfl, _, c0, c1, hma, hsl, hk3, hk4⟩ := ESeg.at q2 0 hl0
    simp only [Nat.zero_mul, Nat.add_zero] at c0 c1 hma hk3 hk4 hsl
    try rw [hkk.out] at c0
    replace he2 := hide he2
    replace hsl := hide hsl
    clear q2 hsl
    obtain ⟨xs, ho2, hr2⟩ := o2
    have hxl : xs.length = l.length * 2 := ho2.1
    have h1x := hide (row_ones ho2.1 hr2)
    have hcx : ∀ ad, (some ⟨g, off, none⟩ : Option Addr) = some ad → ∀ j u, xs[j]? = some u → ((w2.alloc (.cells #[.int .u32 (x.toNat : Int)] 31)).alloc (.cells #[.int .i64 2, .slice (some ⟨w2.heap.size, 0, none⟩) 1 1] 48)).cell? (ad.add j) = some u := fun ad had j u hu => by
      have hsome : ∃ g', ad = ⟨g', 0, none⟩ ∧ g' < w2.heap.size ∧ w2.cell? (ad.add j) = some u := by
        rcases ho2.2 with ⟨h1, _⟩ | ⟨g', cap, cur, h1, _, h3, _⟩
        · injection h1 with h1
          rw [h1] at had
          cases had
        · injection h1 with h1
          injection had with had
          have he := Option.some.inj h1
          refine ⟨g', by rw [← had, he], (Array.getElem?_eq_some_iff.1 h3).1, ?_⟩
          have := ho2.cells (g := g') (by show some _ = some g'; injection he with e1; rw [e1]) j u hu
          rw [← had, he]
          exact this
      obtain ⟨g', rfl, hlt', hcc⟩ := hsome
      rw [add_lit] at hcc ⊢
      rw [World.cell?_of_block (a := ⟨g', 0 + j, none⟩) (Below.heap_alloc _ _ _ (by simp; omega)), World.cell?_of_block (a := ⟨g', 0 + j, none⟩) (Below.heap_alloc _ _ _ hlt')]
      exact hcc
    have hna : (some ⟨g, off, none⟩ : Option Addr) = none → l.length = 0 := fun h => by
      rcases ho2.2 with ⟨_, h0⟩ | ⟨g', cap, cur, h1, _⟩
      · exact h0
      · injection h1 with h1
        rw [h1] at h
        cases h
    have hom : ((w2.alloc (.cells #[.int .u32 (x.toNat : Int)] 31)).alloc (.cells #[.int .i64 2, .slice (some ⟨w2.heap.size, 0, none⟩) 1 1] 48)).ownsRow w.heap.size 48 2 (.slice (some ⟨w2.heap.size + 1, 0, none⟩) 1 1) 1 [.int .i64 2, .slice (some ⟨w2.heap.size, 0, none⟩) 1 1] := by
      have := World.ownsRow_lit (base := w.heap.size) (e := 48) (size := 2) (w2.alloc (.cells #[.int .u32 (x.toNat : Int)] 31)) #[.int .i64 2, .slice (some ⟨w2.heap.size, 0, none⟩) 1 1] 1 (by simp; omega) (by unfold maxLen; omega) rfl
      simpa using this
    have hwB : w.heap.size ≤ ((w2.alloc (.cells #[.int .u32 (x.toNat : Int)] 31)).alloc (.cells #[.int .i64 2, .slice (some ⟨w2.heap.size, 0, none⟩) 1 1] 48)).heap.size := by simp; omega
    have hl34 : 1 + l.length ≤ 34359738368 := by omega
    replace hcx := hide hcx
    replace hna := hide hna
    replace hom := hide hom
    replace hr2 := hide hr2
    replace ho2 := hide ho2
    replace hxl := hide hxl
    obtain ⟨v3, w3, hrun, o3, hg3, hat3⟩ := run_pushRow (Q := Tryd.prog) (ty := 22) (a := some ⟨g, off, none⟩) (c := d) okSeg (by decide) (by decide) hom.out hwB hl34 hxl.out hna.out hcx.out h1x.out
    obtain ⟨a3, c3, rfl, hfin⟩ := path_consNew (by decide) (by decide) hsz2 hr2.out rfl o3 hg3 hat3
    have hext : Ext w w3 := ((he2.out.alloc _).alloc _).grown hg3 fun k hk => by have := Option.some.inj (show some (w2.heap.size + 1) = some k from hk); omega
    replace hext := hide hext
    replace hfin := hide hfin
    clear o3 hg3 hat3
    go_wp2_with (at_builtin; refine Lib.wpList_append_run _ rfl _ _ _ _ rfl _ _ rfl rfl _ _ hrun ?_)
    go_ret2
    exact ⟨_, _, rfl, hext.out, hfin.out⟩
  | true =>
    try simp only [prepK, if_false, if_true, Bool.false_eq_true] at hge
    try simp only [prepK, if_false, if_true, Bool.false_eq_true] at hkk
    try replace hkk := hide hkk
    go_enter Tryd.func35, Tryd.ntmps35
    go_wp2_with fail
    refine hk1.out.mono ?_
    rintro e w1 ⟨rfl, rfl⟩
    go_wp2_with fail
    refine (hk2.out _ hs.out).mono ?_
    rintro e w2 ⟨v2, rfl, he2, o2⟩
    have hsz2 := he2.size
    obtain ⟨a2, d, rfl, _, q2⟩ := o2.toPath
    obtain ⟨g, off, b, d', rfl, _, c0, c1, hma, hsl, hk3, hk4⟩ := ESeg.at q2 0 hl0
    simp only [Nat.zero_mul, Nat.add_zero] at c0 c1 hma hk3 hk4 hsl
    try rw [hkk.out] at c0
    replace he2 := hide he2
    replace hsl := hide hsl
    clear q2 hsl
    obtain ⟨xs, ho2, hr2⟩ := o2
    have hxl : xs.length = l.length * 2 := ho2.1
    have h1x := hide (row_ones ho2.1 hr2)
    have hcx : ∀ ad, (some ⟨g, off, none⟩ : Option Addr) = some ad → ∀ j u, xs[j]? = some u → ((w2.alloc (.cells #[.int .u32 (x.toNat : Int)] 31)).alloc (.cells #[.int .i64 3, .slice (some ⟨w2.heap.size, 0, none⟩) 1 1] 48)).cell? (ad.add j) = some u := fun ad had j u hu => by
      have hsome : ∃ g', ad = ⟨g', 0, none⟩ ∧ g' < w2.heap.size ∧ w2.cell? (ad.add j) = some u := by
        rcases ho2.2 with ⟨h1, _⟩ | ⟨g', cap, cur, h1, _, h3, _⟩
        · injection h1 with h1
          rw [h1] at had
          cases had
        · injection h1 with h1
          injection had with had
          have he := Option.some.inj h1
          refine ⟨g', by rw [← had, he], (Array.getElem?_eq_some_iff.1 h3).1, ?_⟩
          have := ho2.cells (g := g') (by show some _ = some g'; injection he with e1; rw [e1]) j u hu
          rw [← had, he]
          exact this
      obtain ⟨g', rfl, hlt', hcc⟩ := hsome
      rw [add_lit] at hcc ⊢
      rw [World.cell?_of_block (a := ⟨g', 0 + j, none⟩) (Below.heap_alloc _ _ _ (by simp; omega)), World.cell?_of_block (a := ⟨g', 0 + j, none⟩) (Below.heap_alloc _ _ _ hlt')]
      exact hcc
    have hna : (some ⟨g, off, none⟩ : Option Addr) = none → l.length = 0 := fun h => by
      rcases ho2.2 with ⟨_, h0⟩ | ⟨g', cap, cur, h1, _⟩
      · exact h0
      · injection h1 with h1
        rw [h1] at h
        cases h
    have hom : ((w2.alloc (.cells #[.int .u32 (x.toNat : Int)] 31)).alloc (.cells #[.int .i64 3, .slice (some ⟨w2.heap.size, 0, none⟩) 1 1] 48)).ownsRow w.heap.size 48 2 (.slice (some ⟨w2.heap.size + 1, 0, none⟩) 1 1) 1 [.int .i64 3, .slice (some ⟨w2.heap.size, 0, none⟩) 1 1] := by
      have := World.ownsRow_lit (base := w.heap.size) (e := 48) (size := 2) (w2.alloc (.cells #[.int .u32 (x.toNat : Int)] 31)) #[.int .i64 3, .slice (some ⟨w2.heap.size, 0, none⟩) 1 1] 1 (by simp; omega) (by unfold maxLen; omega) rfl
      simpa using this
    have hwB : w.heap.size ≤ ((w2.alloc (.cells #[.int .u32 (x.toNat : Int)] 31)).alloc (.cells #[.int .i64 3, .slice (some ⟨w2.heap.size, 0, none⟩) 1 1] 48)).heap.size := by simp; omega
    have hl34 : 1 + l.length ≤ 34359738368 := by omega
    replace hcx := hide hcx
    replace hna := hide hna
    replace hom := hide hom
    replace hr2 := hide hr2
    replace ho2 := hide ho2
    replace hxl := hide hxl
    obtain ⟨v3, w3, hrun, o3, hg3, hat3⟩ := run_pushRow (Q := Tryd.prog) (ty := 22) (a := some ⟨g, off, none⟩) (c := d) okSeg (by decide) (by decide) hom.out hwB hl34 hxl.out hna.out hcx.out h1x.out
    obtain ⟨a3, c3, rfl, hfin⟩ := path_consNew (by decide) (by decide) hsz2 hr2.out rfl o3 hg3 hat3
    have hext : Ext w w3 := ((he2.out.alloc _).alloc _).grown hg3 fun k hk => by have := Option.some.inj (show some (w2.heap.size + 1) = some k from hk); omega
    replace hext := hide hext
    replace hfin := hide hfin
    clear o3 hg3 hat3
    go_wp2_with (at_builtin; refine Lib.wpList_append_run _ rfl _ _ _ _ rfl _ _ rfl rfl _ _ hrun ?_)
    go_ret2
    exact ⟨_, _, rfl, hext.out, hfin.out⟩

set_option maxRecDepth 20000 in
set_option maxHeartbeats 1000000 in
theorem RPrepend_new0 (a : Option Addr) (c : Nat) (x : UInt32) (conf : Bool) (w : World) (hs : Path w a []) (hck : chk [] = true) (hx : x ≠ 0) :
    Calls Tryd.prog 35 #[.slice a 0 c, .int .u32 (x.toNat : Int), .bool conf] w fun e w' => ∃ b c', e = .returned (.tuple #[.slice b 1 c', .int .i64 0]) ∧ Ext w w' ∧ Path w' b [⟨prepK conf, [x]⟩] := by
  have hk1 := hide (show Calls Tryd.prog 23 #[.slice a 0 c] w fun e w' => e = .returned (.int .i64 0) ∧ w = w' from RCheck_ok a c [] w (by simp) hs hck)
  have hk2 := hide (show ∀ w1, Path w1 a [] → Calls Tryd.prog 12 #[.slice a 0 c] w1 fun e w' => ∃ v, e = .returned v ∧ Ext w1 w' ∧ Own ESeg 48 w' w1.heap.size v [] from fun w1 h => ROwnAll_any a c [] w1 (by simp) h)
  replace hs := hide hs
  clear hck
  have hx0 := u32_ne0 hx
  cases conf with
  | false =>
    go_enter Tryd.func35, Tryd.ntmps35
    go_wp2_with fail
    refine hk1.out.mono ?_
    rintro e w1 ⟨rfl, rfl⟩
    go_wp2_with fail
    refine (hk2.out _ hs.out).mono ?_
    rintro e w2 ⟨v2, rfl, he2, o2⟩
    have hsz2 := he2.size
    obtain ⟨a2, d, hv2⟩ := o2.form
    replace hv2 : v2 = .slice a2 0 d := hv2
    subst hv2
    replace he2 := hide he2
    obtain ⟨xs, ho2, hr2⟩ := o2
    have hxl : xs.length = 0 * 2 := ho2.1
    have h1x := hide (row_ones ho2.1 hr2)
    have hcx : ∀ ad, (a2 : Option Addr) = some ad → ∀ j u, xs[j]? = some u → ((w2.alloc (.cells #[.int .u32 (x.toNat : Int)] 31)).alloc (.cells #[.int .i64 2, .slice (some ⟨w2.heap.size, 0, none⟩) 1 1] 48)).cell? (ad.add j) = some u := fun ad had j u hu => by
      rw [List.eq_nil_of_length_eq_zero (l := xs) (by omega)] at hu
      cases hu
    have hna : (a2 : Option Addr) = none → 0 = 0 := fun _ => rfl
    have hom : ((w2.alloc (.cells #[.int .u32 (x.toNat : Int)] 31)).alloc (.cells #[.int .i64 2, .slice (some ⟨w2.heap.size, 0, none⟩) 1 1] 48)).ownsRow w.heap.size 48 2 (.slice (some ⟨w2.heap.size + 1, 0, none⟩) 1 1) 1 [.int .i64 2, .slice (some ⟨w2.heap.size, 0, none⟩) 1 1] := by
      have := World.ownsRow_lit (base := w.heap.size) (e := 48) (size := 2) (w2.alloc (.cells #[.int .u32 (x.toNat : Int)] 31)) #[.int .i64 2, .slice (some ⟨w2.heap.size, 0, none⟩) 1 1] 1 (by simp; omega) (by unfold maxLen; omega) rfl
      simpa using this
    have hwB : w.heap.size ≤ ((w2.alloc (.cells #[.int .u32 (x.toNat : Int)] 31)).alloc (.cells #[.int .i64 2, .slice (some ⟨w2.heap.size, 0, none⟩) 1 1] 48)).heap.size := by simp; omega
    have hl34 : 1 + 0 ≤ 34359738368 := by omega
    replace hcx := hide hcx
    replace hna := hide hna
    replace hom := hide hom
    replace hr2 := hide hr2
    replace ho2 := hide ho2
    replace hxl := hide hxl
    obtain ⟨v3, w3, hrun, o3, hg3, hat3⟩ := run_pushRow (Q := Tryd.prog) (ty := 22) (a := a2) (c := d) okSeg (by decide) (by decide) hom.out hwB hl34 hxl.out hna.out hcx.out h1x.out
    obtain ⟨a3, c3, rfl, hfin⟩ := path_consNew (l := []) (by decide) (by decide) hsz2 hr2.out rfl o3 hg3 hat3
    have hext : Ext w w3 := ((he2.out.alloc _).alloc _).grown hg3 fun k hk => by have := Option.some.inj (show some (w2.heap.size + 1) = some k from hk); omega
    replace hext := hide hext
    replace hfin := hide hfin
    clear o3 hg3 hat3
    go_wp2_with (at_builtin; refine Lib.wpList_append_run _ rfl _ _ _ _ rfl _ _ rfl rfl _ _ hrun ?_)
    go_ret2
    exact ⟨_, _, rfl, hext.out, hfin.out⟩
  | true =>
    go_enter Tryd.func35, Tryd.ntmps35
    go_wp2_with fail
    refine hk1.out.mono ?_
    rintro e w1 ⟨rfl, rfl⟩
    go_wp2_with fail
    refine (hk2.out _ hs.out).mono ?_
    rintro e w2 ⟨v2, rfl, he2, o2⟩
    have hsz2 := he2.size
    obtain ⟨a2, d, hv2⟩ := o2.form
    replace hv2 : v2 = .slice a2 0 d := hv2
    subst hv2
    replace he2 := hide he2
    obtain ⟨xs, ho2, hr2⟩ := o2
    have hxl : xs.length = 0 * 2 := ho2.1
    have h1x := hide (row_ones ho2.1 hr2)
    have hcx : ∀ ad, (a2 : Option Addr) = some ad → ∀ j u, xs[j]? = some u → ((w2.alloc (.cells #[.int .u32 (x.toNat : Int)] 31)).alloc (.cells #[.int .i64 3, .slice (some ⟨w2.heap.size, 0, none⟩) 1 1] 48)).cell? (ad.add j) = some u := fun ad had j u hu => by
      rw [List.eq_nil_of_length_eq_zero (l := xs) (by omega)] at hu
      cases hu
    have hna : (a2 : Option Addr) = none → 0 = 0 := fun _ => rfl
    have hom : ((w2.alloc (.cells #[.int .u32 (x.toNat : Int)] 31)).alloc (.cells #[.int .i64 3, .slice (some ⟨w2.heap.size, 0, none⟩) 1 1] 48)).ownsRow w.heap.size 48 2 (.slice (some ⟨w2.heap.size + 1, 0, none⟩) 1 1) 1 [.int .i64 3, .slice (some ⟨w2.heap.size, 0, none⟩) 1 1] := by
      have := World.ownsRow_lit (base := w.heap.size) (e := 48) (size := 2) (w2.alloc (.cells #[.int .u32 (x.toNat : Int)] 31)) #[.int .i64 3, .slice (some ⟨w2.heap.size, 0, none⟩) 1 1] 1 (by simp; omega) (by unfold maxLen; omega) rfl
      simpa using this
    have hwB : w.heap.size ≤ ((w2.alloc (.cells #[.int .u32 (x.toNat : Int)] 31)).alloc (.cells #[.int .i64 3, .slice (some ⟨w2.heap.size, 0, none⟩) 1 1] 48)).heap.size := by simp; omega
    have hl34 : 1 + 0 ≤ 34359738368 := by omega
    replace hcx := hide hcx
    replace hna := hide hna
    replace hom := hide hom
    replace hr2 := hide hr2
    replace ho2 := hide ho2
    replace hxl := hide hxl
    obtain ⟨v3, w3, hrun, o3, hg3, hat3⟩ := run_pushRow (Q := Tryd.prog) (ty := 22) (a := a2) (c := d) okSeg (by decide) (by decide) hom.out hwB hl34 hxl.out hna.out hcx.out h1x.out
    obtain ⟨a3, c3, rfl, hfin⟩ := path_consNew (l := []) (by decide) (by decide) hsz2 hr2.out rfl o3 hg3 hat3
    have hext : Ext w w3 := ((he2.out.alloc _).alloc _).grown hg3 fun k hk => by have := Option.some.inj (show some (w2.heap.size + 1) = some k from hk); omega
    replace hext := hide hext
    replace hfin := hide hfin
    clear o3 hg3 hat3
    go_wp2_with (at_builtin; refine Lib.wpList_append_run _ rfl _ _ _ _ rfl _ _ rfl rfl _ _ hrun ?_)
    go_ret2
    exact ⟨_, _, rfl, hext.out, hfin.out⟩

theorem RPrepend_any (a : Option Addr) (c : Nat) (l : List Seg) (x : UInt32) (conf : Bool) (w : World) (hl : l.length ≤ 16777216) (hs : Path w a l) :
    Calls Tryd.prog 35 #[.slice a l.length c, .int .u32 (x.toNat : Int), .bool conf] w fun e w' => ∃ b c', e = .returned (.tuple #[.slice b (prepS l x conf).1.length c', .int .i64 (prepS l x conf).2]) ∧ Ext w w' ∧ Path w' b (prepS l x conf).1 := by
  by_cases hck : chk l = true ∧ x ≠ 0
  · have h16 := chk_len hck.1
    cases l with
    | nil =>
      have := RPrepend_new0 a c x conf w hs hck.1 hck.2
      simp only [prepS, if_pos hck]
      exact this
    | cons s t =>
      have h16' : t.length + 1 ≤ 16 := h16
      by_cases hk : s.kind = prepK conf ∧ s.as.length < 255
      · have := RPrepend_in a c _ x conf w hl hs hck.1 hck.2 s t rfl hk.1 hk.2
        simp only [prepS, if_pos hck, if_pos hk]
        exact this
      · by_cases hn : 16 ≤ t.length + 1
        · have hq : Calls Tryd.prog 35 #[.slice a (s :: t).length c, .int .u32 (x.toNat : Int), .bool conf] w fun e w' => e = .returned (.tuple #[.slice none 0 0, .int .i64 3]) ∧ Ext w w' := by
            rcases not_fit hk with ⟨hkk, hge⟩ | hge
            · exact RPrepend_long1 a c _ x conf w hl hs hck.1 hck.2 s (by simp; omega) (by simp) rfl hkk hge
            · exact RPrepend_long2 a c _ x conf w hl hs hck.1 hck.2 s (by simp; omega) (by simp) rfl hge
          refine hq.mono ?_
          rintro e w' ⟨rfl, he⟩
          simp only [prepS, if_pos hck, if_neg hk, if_pos hn]
          exact ⟨_, _, rfl, he, .inl rfl⟩
        · have hq : Calls Tryd.prog 35 #[.slice a (s :: t).length c, .int .u32 (x.toNat : Int), .bool conf] w fun e w' => ∃ b c', e = .returned (.tuple #[.slice b (⟨prepK conf, [x]⟩ :: s :: t).length c', .int .i64 0]) ∧ Ext w w' ∧ Path w' b (⟨prepK conf, [x]⟩ :: s :: t) := by
            rcases not_fit hk with ⟨hkk, hge⟩ | hge
            · exact RPrepend_new1 a c _ x conf w hl hs hck.1 hck.2 (by simp; omega) (by simp) hkk hge
            · exact RPrepend_new2 a c _ x conf w hl hs hck.1 hck.2 (by simp; omega) (by simp) hge
          simp only [prepS, if_pos hck, if_neg hk, if_neg hn]
          exact hq
  · refine (RPrepend_no a c l x conf w hl hs hck).mono ?_
    rintro e w' ⟨rfl, rfl⟩
    simp only [prepS, if_neg hck]
    exact ⟨_, _, rfl, Ext.refl _, .inl rfl⟩
end Go.Proofs.YtiappobhljiknaaDoor
