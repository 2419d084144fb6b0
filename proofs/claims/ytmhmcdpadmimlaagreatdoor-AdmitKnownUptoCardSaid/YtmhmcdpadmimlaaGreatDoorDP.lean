/- The walk of AdmitKnown. -/
import Derived.Test.YtmhmcdpadmimlaaGreatDoorDN
namespace Go.Proofs.YtmhmcdpadmimlaaGreatDoor
open Go.RowKit
set_option linter.unusedVariables false

theorem okU8 : ElemOk Tryz.prog 40 5 1 1 := elemOk (z := .int .u8 0) Tryz.underlying40 (by kernel_rfl) rfl
theorem okU8z : Tryz.prog.info? 5 = none ∨ ∀ i, Tryz.prog.info? 5 = some i → i.zero = some (.int .u8 0) := by
  right; intro i hi
  have h : (Tryz.prog.info? 5).map (fun i => i.zero) = some (some (.int .u8 0)) := by kernel_rfl
  rw [hi] at h; simpa using h
theorem madeB (n : Nat) : madeCells (Value.cells (.int .u8 0)) n = Array.replicate n (.int .u8 0) := by
  apply Array.ext
  · simp [madeCells]
  · intro i h1 h2
    simp [madeCells, Value.cells, Nat.mod_one]
theorem run_makeBk (n : Nat) (hn : n ≤ 1048576) (W : World) : (Instr.makeSlice 40 (.int .i64 (n : Int)) (.int .i64 (n : Int))).run Tryz.prog W = .ok (.slice (some ⟨W.heap.size, 0, none⟩) n n) (W.alloc (.cells (Array.replicate n (.int .u8 0)) 5)) := by
  obtain ⟨ht, i, z, hi, hz, hs, hb, _⟩ := okU8
  have hz0 : z = .int .u8 0 := by
    rcases okU8z with h | h
    · rw [hi] at h; cases h
    · have := h i hi
      rw [hz] at this
      exact Option.some.inj this
  have := run_make W 40 5 i z ht hi hz .i64 .i64 n n (by omega) (by omega) (by rw [hb]; omega) (by omega)
  rw [hs, hz0, madeB] at this
  simpa using this
theorem run_mk16 (W : World) : (Instr.makeSlice 40 (.int .i64 16) (.int .i64 16)).run Tryz.prog W = .ok (.slice (some ⟨W.heap.size, 0, none⟩) 16 16) (W.alloc (.cells #[.int .u8 0, .int .u8 0, .int .u8 0, .int .u8 0, .int .u8 0, .int .u8 0, .int .u8 0, .int .u8 0, .int .u8 0, .int .u8 0, .int .u8 0, .int .u8 0, .int .u8 0, .int .u8 0, .int .u8 0, .int .u8 0] 5)) := by
  exact run_makeBk 16 (by decide) W
set_option maxRecDepth 20000 in
set_option maxHeartbeats 4000000 in
theorem AdmitKnown_walk (w : World) (hT : Tab w) (hD : Deb w) (hV : Vars w) : Calls Tryz.prog 6 #[] w fun e w' => e = .returned (.bool true) ∧ Ext w w' := by
  have q1 := Example_any w hT hD hV
  have qf := fun (a : List UInt8) (ha : a.length ≤ 1048576) g W (hs : Sl ENbr W (· < W.heap.size) (some ⟨g, 0, none⟩) exN) => Find_any21 exN (by decide) (some ⟨g, 0, none⟩) 3 a ha W hs
  have f1 := qf [10, 0, 0, 1] (by decide)
  have f2 := qf [10, 2, 0, 0] (by decide)
  have f3 := qf [11, 0, 0, 0] (by decide)
  have f4 := qf [97, 98, 99] (by decide)
  rw [find_a] at f1
  rw [find_b] at f2
  rw [find_c] at f3
  rw [find_d] at f4
  dsimp only at f1 f2 f3 f4
  simp only [show exN.length = 3 from rfl] at f1 f2 f3 f4
  have d1 := fun W (h : Ext w W) => Dyn_1 W (hT.ext h) (hD.ext h)
  have d2 := fun W (h : Ext w W) => Dyn_2 W (hT.ext h) (hD.ext h)
  have d3 := fun W (h : Ext w W) => Dyn_3 W (hT.ext h) (hD.ext h)
  have d4 := fun f c W (h : Ext w W) (hi : NbrIn W (· < W.heap.size) { zeroN with name := [97], addr := [10, 0, 0, 1] } f) => Dyn_4 f c W hi (hT.ext h) (hD.ext h)
  have qz := fun W (h : Ext w W) => LWorks21 W (hT.ext h) (hD.ext h) (hV.ext h)
  have k0 : ∀ W, Calls Tryz.prog 17 #[.int .i64 6, .bool true, .bool true, .bool true] W fun e w' => e = .returned (.tuple #[.bool false, .bool true]) ∧ W = w' := fun W => by
    have c := Keep_any 6 true true true W
    rw [show keepS 6 true true true = (false, true) from by decide] at c
    exact c
  have k1 : ∀ W, Calls Tryz.prog 17 #[.int .i64 4, .bool true, .bool true, .bool true] W fun e w' => e = .returned (.tuple #[.bool false, .bool true]) ∧ W = w' := fun W => by
    have c := Keep_any 4 true true true W
    rw [show keepS 4 true true true = (false, true) from by decide] at c
    exact c
  have k2 : ∀ W, Calls Tryz.prog 17 #[.int .i64 5, .bool false, .bool true, .bool true] W fun e w' => e = .returned (.tuple #[.bool true, .bool false]) ∧ W = w' := fun W => by
    have c := Keep_any 5 false true true W
    rw [show keepS 5 false true true = (true, false) from by decide] at c
    exact c
  have k3 : ∀ W, Calls Tryz.prog 17 #[.int .i64 4, .bool true, .bool false, .bool false] W fun e w' => e = .returned (.tuple #[.bool true, .bool false]) ∧ W = w' := fun W => by
    have c := Keep_any 4 true false false W
    rw [show keepS 4 true false false = (true, false) from by decide] at c
    exact c
  have k4 : ∀ W, Calls Tryz.prog 17 #[.int .i64 1, .bool true, .bool true, .bool false] W fun e w' => e = .returned (.tuple #[.bool true, .bool false]) ∧ W = w' := fun W => by
    have c := Keep_any 1 true true false W
    rw [show keepS 1 true true false = (true, false) from by decide] at c
    exact c
  have k5 : ∀ W, Calls Tryz.prog 17 #[.int .i64 1, .bool false, .bool false, .bool true] W fun e w' => e = .returned (.tuple #[.bool true, .bool false]) ∧ W = w' := fun W => by
    have c := Keep_any 1 false false true W
    rw [show keepS 1 false false true = (true, false) from by decide] at c
    exact c
  have k6 : ∀ W, Calls Tryz.prog 17 #[.int .i64 0, .bool true, .bool true, .bool true] W fun e w' => e = .returned (.tuple #[.bool false, .bool false]) ∧ W = w' := fun W => by
    have c := Keep_any 0 true true true W
    rw [show keepS 0 true true true = (false, false) from by decide] at c
    exact c
  have k7 : ∀ W, Calls Tryz.prog 17 #[.int .i64 7, .bool true, .bool true, .bool true] W fun e w' => e = .returned (.tuple #[.bool false, .bool false]) ∧ W = w' := fun W => by
    have c := Keep_any 7 true true true W
    rw [show keepS 7 true true true = (false, false) from by decide] at c
    exact c
  have o0 : ∀ W, Calls Tryz.prog 19 #[.string ⟨#[10, 0, 0, 2]⟩, .string ⟨#[10, 0, 0, 1]⟩] W fun e w' => e = .returned (.bool true) ∧ Ext W w' := fun W => by
    have c := Above_any [10, 0, 0, 2] [10, 0, 0, 1] W (by decide) (by decide)
    rw [show aboveS [10, 0, 0, 2] [10, 0, 0, 1] = true from by decide +kernel] at c
    exact c.mono fun e w' h => ⟨h.1, by first | exact h.2 | (rw [← h.2]; exact Ext.refl _)⟩
  have o1 : ∀ W, Calls Tryz.prog 19 #[.string ⟨#[10, 0, 0, 1]⟩, .string ⟨#[10, 0, 0, 1]⟩] W fun e w' => e = .returned (.bool false) ∧ Ext W w' := fun W => by
    have c := Above_any [10, 0, 0, 1] [10, 0, 0, 1] W (by decide) (by decide)
    rw [show aboveS [10, 0, 0, 1] [10, 0, 0, 1] = false from by decide +kernel] at c
    exact c.mono fun e w' h => ⟨h.1, by first | exact h.2 | (rw [← h.2]; exact Ext.refl _)⟩
  have o2 : ∀ W, Calls Tryz.prog 19 #[.string ⟨#[0, 0, 0, 0, 0, 0, 0, 0, 0, 0, 0, 0, 0, 0, 0, 0]⟩, .string ⟨#[255, 255, 255, 255]⟩] W fun e w' => e = .returned (.bool true) ∧ Ext W w' := fun W => by
    have c := Above_any [0, 0, 0, 0, 0, 0, 0, 0, 0, 0, 0, 0, 0, 0, 0, 0] [255, 255, 255, 255] W (by decide) (by decide)
    rw [show aboveS [0, 0, 0, 0, 0, 0, 0, 0, 0, 0, 0, 0, 0, 0, 0, 0] [255, 255, 255, 255] = true from by decide +kernel] at c
    exact c.mono fun e w' h => ⟨h.1, by first | exact h.2 | (rw [← h.2]; exact Ext.refl _)⟩
  have o3 : ∀ W, Calls Tryz.prog 19 #[.string ⟨#[97, 98, 99]⟩, .string ⟨#[97, 98]⟩] W fun e w' => e = .returned (.bool false) ∧ Ext W w' := fun W => by
    have c := Above_any [97, 98, 99] [97, 98] W (by decide) (by decide)
    rw [show aboveS [97, 98, 99] [97, 98] = false from by decide +kernel] at c
    exact c.mono fun e w' h => ⟨h.1, by first | exact h.2 | (rw [← h.2]; exact Ext.refl _)⟩
  have hCl : (nbrCs { zeroN with name := [114], range := ex8d } none 0).length = 23 := rfl
  have hC2l : (nbrCs { zeroN with name := [97, 98, 99, 100, 101, 102], range := ex8d } none 0).length = 23 := rfl
  have hC0 : (nbrCs { zeroN with name := [114], range := ex8d } none 0)[0]? = some (.string ⟨#[114]⟩) := rfl
  have hC2 : nbrCs { zeroN with name := [97, 98, 99, 100, 101, 102], range := ex8d } none 0 = (nbrCs { zeroN with name := [114], range := ex8d } none 0).set 0 (.string ⟨#[97, 98, 99, 100, 101, 102]⟩) := rfl
  have hCo : ((nbrCs { zeroN with name := [114], range := ex8d } none 0).toArray).all (·.oneCell') = true := all_oneCell_toArray (nbr_one _ _ _)
  have hN1 : ∀ f c, (nbrCs { zeroN with name := [97], addr := [10, 0, 0, 1] } f c).length = 23 := fun _ _ => rfl
  have hZl : zeroA.toList.length = 23 := rfl
  have hZo : (zeroA.toList.toArray).all (·.oneCell') = true := by kernel_rfl
  have hat : ∀ W g, Sl ENbr W (· < W.heap.size) (some ⟨g, 0, none⟩) exN → ∃ f c, NbrIn W (· < W.heap.size) { zeroN with name := [97], addr := [10, 0, 0, 1] } f ∧ W.rangeAt g 0 (nbrCs { zeroN with name := [97], addr := [10, 0, 0, 1] } f c) := fun W g h => by
    obtain ⟨b, off, f, c, hb, _, hi, hc⟩ := ENbr.at h 0 (by decide)
    injection hb with hb
    injection hb with hb ho
    subst hb
    subst ho
    exact ⟨f, c, hi, fun j u hu => by have := hc j u hu; rw [show 0 + 0 * 23 + j = 0 + j by omega] at this; exact this⟩
  unfold ExP at q1
  simp only [kD] at d1
  generalize hCSg : nbrCs { zeroN with name := [114], range := ex8d } none 0 = CS at *
  generalize hCSl : nbrCs { zeroN with name := [97, 98, 99, 100, 101, 102], range := ex8d } none 0 = C2 at *
  generalize hN1g : nbrCs { zeroN with name := [97], addr := [10, 0, 0, 1] } = CN1 at *
  generalize zeroA.toList = ZA at *
  have hi23 : (Tryz.prog.info? 31).map (·.size) = some CS.length := by rw [hCl]; kernel_rfl
  have hi23b : (Tryz.prog.info? 31).map (·.size) = some C2.length := by rw [hC2l]; kernel_rfl
  have hi23c : ∀ f c, (Tryz.prog.info? 31).map (·.size) = some (CN1 f c).length := fun f c => by rw [hN1]; kernel_rfl
  have hi24 : ∀ L : List Value, L.length = 23 → (Tryz.prog.info? 31).map (·.size) = some L.toArray.size := fun L hl => by rw [List.size_toArray, hl]; kernel_rfl
  clear hT hD hV qf
  replace q1 := hide q1
  replace f1 := hide f1
  replace f2 := hide f2
  replace f3 := hide f3
  replace f4 := hide f4
  replace d1 := hide d1
  replace d2 := hide d2
  replace d3 := hide d3
  replace d4 := hide d4
  replace qz := hide qz
  replace k0 := hide k0
  replace k1 := hide k1
  replace k2 := hide k2
  replace k3 := hide k3
  replace k4 := hide k4
  replace k5 := hide k5
  replace k6 := hide k6
  replace k7 := hide k7
  replace o0 := hide o0
  replace o1 := hide o1
  replace o2 := hide o2
  replace o3 := hide o3
  replace hCl := hide hCl
  replace hC2l := hide hC2l
  replace hC0 := hide hC0
  replace hC2 := hide hC2
  replace hCo := hide hCo
  replace hN1 := hide hN1
  replace hZl := hide hZl
  replace hZo := hide hZo
  replace hat := hide hat
  replace hi23 := hide hi23
  replace hi23b := hide hi23b
  replace hi23c := hide hi23c
  replace hi24 := hide hi24
  clear hCSg hCSl hN1g
  go_enter Tryz.func6, Tryz.ntmps6
  go_wp2_with fail
  refine q1.out.mono ?_
  rintro e w1 ⟨g, rfl, E, hs, hra⟩
  replace E := hide E
  replace hs := hide hs
  replace hra := hide hra
  clear q1
  go_wp2_with fail
  refine (f1.out g w1 hs.out).mono ?_
  rintro e w2 ⟨rfl, hE⟩
  replace E := hide (E.out.trans hE)
  replace hs := hide (hs.out.ext hE)
  replace hra := hide (range_ext hra.out hE)
  clear hE f1
  go_wp2_with fail
  refine (f2.out g w2 hs.out).mono ?_
  rintro e w3 ⟨rfl, hE⟩
  replace E := hide (E.out.trans hE)
  replace hs := hide (hs.out.ext hE)
  replace hra := hide (range_ext hra.out hE)
  clear hE f2
  go_wp2_with fail
  refine (f3.out g w3 hs.out).mono ?_
  rintro e w4 ⟨rfl, hE⟩
  replace E := hide (E.out.trans hE)
  replace hs := hide (hs.out.ext hE)
  replace hra := hide (range_ext hra.out hE)
  clear hE f3
  go_wp2_with fail
  refine (f4.out g w4 hs.out).mono ?_
  rintro e w5 ⟨rfl, hE⟩
  replace E := hide (E.out.trans hE)
  replace hs := hide (hs.out.ext hE)
  replace hra := hide (range_ext hra.out hE)
  clear hE f4
  go_upto_region 8 with fail
  go_wp2_with (with_reducible refine wpList_load_mid rfl 31 (.tmp 66) rfl g 23 rfl CS _ hra.out Tryz.underlying31 rfl hi23.out ?_)
  refine (d1.out _ E.out).mono ?_
  rintro e w6 ⟨CN, rfl, hE, hl, ho, h0, h2, h3, h4, h5⟩
  replace E := hide (E.out.trans hE)
  replace hs := hide (hs.out.ext hE)
  replace hra := hide (range_ext hra.out hE)
  have ho' := hide (all_oneCell_toArray ho)
  clear hE ho d1
  replace hl := hide hl
  replace h0 := hide h0
  replace h2 := hide h2
  replace h3 := hide h3
  replace h4 := hide h4
  replace h5 := hide h5
  have hth := hide (nbr_there w6 (CN).toArray.size (by rw [List.size_toArray, hl.out]; exact Nat.le_refl _))
  have hi25 := hide (hi24.out (CN) hl.out)
  obtain ⟨Ba, hX⟩ := nbr_put w6 (CN) hl.out
  replace E := hide (E.out.trans hX)
  replace hs := hide (hs.out.ext hX)
  replace hra := hide (range_ext hra.out hX)
  replace Ba := hide Ba
  replace hX := hide hX
  go_upto_region 9 with (with_reducible refine wpList_store_mid rfl 31 (.tmp 10) (.tmp 69) rfl w6.heap.size 0 (CN).toArray rfl rfl hth.out hi25.out ho'.out ?_)
  generalize (w6.alloc (.cells #[.string ⟨#[]⟩, .string ⟨#[]⟩, .int .i64 0, .int .u64 0, .string ⟨#[]⟩, .int .i64 0, .int .u32 0, .int .i64 0, .int .i64 0, .bool false, .bool false, .bool false, .slice none 0 0, .int .i64 0, .bool false, .int .i64 0, .bool false, .int .i64 0, .int .i64 0, .string ⟨#[]⟩, .string ⟨#[]⟩, .string ⟨#[]⟩, .bool false] 31)).setCells w6.heap.size 0 (CN) = Va at Ba E hs hra  hX ⊢
  generalize w6.heap.size = ga at Ba ⊢
  clear hth hi25 hX
  clear ho'
  have hth := hide (nbr_there Va CS.toArray.size (by rw [List.size_toArray, hCl.out]; exact Nat.le_refl _))
  have hi25 := hide (hi24.out CS hCl.out)
  obtain ⟨Bb, hX⟩ := nbr_put Va CS hCl.out
  have hgb := hide (Nat.le_refl Va.heap.size)
  replace Bb := hide Bb
  replace hX := hide hX
  go_upto_region 10 with (first | (with_reducible refine wpList_load_mid rfl 31 (.tmp 72) rfl g 23 rfl CS _ hra.out Tryz.underlying31 rfl hi23.out ?_) | (with_reducible refine wpList_store_mid rfl 31 (.tmp 12) (.tmp 73) rfl Va.heap.size 0 CS.toArray rfl rfl hth.out hi25.out hCo.out ?_))
  generalize (Va.alloc (.cells #[.string ⟨#[]⟩, .string ⟨#[]⟩, .int .i64 0, .int .u64 0, .string ⟨#[]⟩, .int .i64 0, .int .u32 0, .int .i64 0, .int .i64 0, .bool false, .bool false, .bool false, .slice none 0 0, .int .i64 0, .bool false, .int .i64 0, .bool false, .int .i64 0, .int .i64 0, .string ⟨#[]⟩, .string ⟨#[]⟩, .string ⟨#[]⟩, .bool false] 31)).setCells Va.heap.size 0 CS = Vb at Bb hX ⊢
  generalize hgbe : Va.heap.size = gb at Bb hgb ⊢
  rw [← hgbe] at hgb
  clear hth hi25
  have b0 : Vb.cell? ⟨gb, 0, none⟩ = some (.string ⟨#[114]⟩) := Bb.out.cell hC0.out
  have bf := fun i => Bb.out.frozen i
  have hX2 := hide (hX.out.setCell (p := ⟨gb, 0, none⟩) (Nat.le_of_eq hgbe) (.string ⟨#[97, 98, 99, 100, 101, 102]⟩))
  have Bc := hide (Bb.out.set0 hC0.out hC2.out)
  replace E := hide (E.out.trans hX2.out)
  replace hs := hide (hs.out.ext hX2.out)
  replace hra := hide (range_ext hra.out hX2.out)
  replace Ba := hide (Ba.out.ext hX2.out)
  clear hX hX2 Bb hgb hC0 hC2 hCo hCl
  replace hgbe := hide hgbe
  go_upto_region 11 with fail
  generalize Vb.setCell ⟨gb, 0, none⟩ (.string ⟨#[97, 98, 99, 100, 101, 102]⟩) = Vc at Bc E hs hra Ba ⊢
  clear b0 bf hgbe
  have hrb := hide Bc.out.range
  clear Bc
  go_wp2_with (with_reducible refine wpList_load_mid rfl 31 (.tmp 12) rfl gb 0 rfl C2 _ hrb.out Tryz.underlying31 rfl hi23b.out ?_)
  refine (d2.out _ E.out).mono ?_
  rintro e w7 ⟨rfl, hE⟩
  replace E := hide (E.out.trans hE)
  replace hs := hide (hs.out.ext hE)
  replace hra := hide (range_ext hra.out hE)
  replace Ba := hide (Ba.out.ext hE)
  clear hE d2 hrb
  have hth := hide (nbr_there w7 (ZA).toArray.size (by rw [List.size_toArray, hZl.out]; exact Nat.le_refl _))
  have hi25 := hide (hi24.out (ZA) hZl.out)
  obtain ⟨Bd, hX⟩ := nbr_put w7 (ZA) hZl.out
  replace E := hide (E.out.trans hX)
  replace hs := hide (hs.out.ext hX)
  replace hra := hide (range_ext hra.out hX)
  replace Ba := hide (Ba.out.ext hX)
  replace Bd := hide Bd
  replace hX := hide hX
  go_upto_region 12 with (with_reducible refine wpList_store_mid rfl 31 (.tmp 13) (.tmp 78) rfl w7.heap.size 0 (ZA).toArray rfl rfl hth.out hi25.out hZo.out ?_)
  generalize (w7.alloc (.cells #[.string ⟨#[]⟩, .string ⟨#[]⟩, .int .i64 0, .int .u64 0, .string ⟨#[]⟩, .int .i64 0, .int .u32 0, .int .i64 0, .int .i64 0, .bool false, .bool false, .bool false, .slice none 0 0, .int .i64 0, .bool false, .int .i64 0, .bool false, .int .i64 0, .int .i64 0, .string ⟨#[]⟩, .string ⟨#[]⟩, .string ⟨#[]⟩, .bool false] 31)).setCells w7.heap.size 0 (ZA) = Vd at Bd E hs hra Ba hX ⊢
  generalize w7.heap.size = gd at Bd ⊢
  clear hth hi25 hX
  go_wp2_with (with_reducible refine wpList_load_mid rfl 31 (.tmp 82) rfl g 23 rfl CS _ hra.out Tryz.underlying31 rfl hi23.out ?_)
  refine (d3.out _ E.out).mono ?_
  rintro e w8 ⟨rfl, hE⟩
  replace E := hide (E.out.trans hE)
  replace hs := hide (hs.out.ext hE)
  replace hra := hide (range_ext hra.out hE)
  replace Ba := hide (Ba.out.ext hE)
  clear hE d3
  have hth := hide (nbr_there w8 (ZA).toArray.size (by rw [List.size_toArray, hZl.out]; exact Nat.le_refl _))
  have hi25 := hide (hi24.out (ZA) hZl.out)
  obtain ⟨Be, hX⟩ := nbr_put w8 (ZA) hZl.out
  replace E := hide (E.out.trans hX)
  replace hs := hide (hs.out.ext hX)
  replace hra := hide (range_ext hra.out hX)
  replace Ba := hide (Ba.out.ext hX)
  replace Be := hide Be
  replace hX := hide hX
  go_upto_region 13 with (with_reducible refine wpList_store_mid rfl 31 (.tmp 15) (.tmp 85) rfl w8.heap.size 0 (ZA).toArray rfl rfl hth.out hi25.out hZo.out ?_)
  generalize (w8.alloc (.cells #[.string ⟨#[]⟩, .string ⟨#[]⟩, .int .i64 0, .int .u64 0, .string ⟨#[]⟩, .int .i64 0, .int .u32 0, .int .i64 0, .int .i64 0, .bool false, .bool false, .bool false, .slice none 0 0, .int .i64 0, .bool false, .int .i64 0, .bool false, .int .i64 0, .int .i64 0, .string ⟨#[]⟩, .string ⟨#[]⟩, .string ⟨#[]⟩, .bool false] 31)).setCells w8.heap.size 0 (ZA) = Ve at Be E hs hra Ba hX ⊢
  generalize w8.heap.size = ge at Be ⊢
  clear hth hi25 hX
  obtain ⟨fo, fc, hi, hr0⟩ := hat.out _ _ hs.out
  have hi23d := hide (hi23c.out fo fc)
  replace hr0 := hide hr0
  replace hi := hide hi
  go_wp2_with (with_reducible refine wpList_load_mid rfl 31 (.tmp 89) rfl g 0 rfl (CN1 fo fc) _ hr0.out Tryz.underlying31 rfl hi23d.out ?_)
  refine (d4.out _ _ _ E.out hi.out).mono ?_
  rintro e w9 ⟨rfl, hE⟩
  replace E := hide (E.out.trans hE)
  replace hs := hide (hs.out.ext hE)
  replace hra := hide (range_ext hra.out hE)
  replace Ba := hide (Ba.out.ext hE)
  clear hE d4 hr0 hi hi23d
  have hth := hide (nbr_there w9 (ZA).toArray.size (by rw [List.size_toArray, hZl.out]; exact Nat.le_refl _))
  have hi25 := hide (hi24.out (ZA) hZl.out)
  obtain ⟨Bf, hX⟩ := nbr_put w9 (ZA) hZl.out
  replace E := hide (E.out.trans hX)
  replace hs := hide (hs.out.ext hX)
  replace hra := hide (range_ext hra.out hX)
  replace Ba := hide (Ba.out.ext hX)
  replace Bf := hide Bf
  replace hX := hide hX
  go_upto_region 14 with (with_reducible refine wpList_store_mid rfl 31 (.tmp 17) (.tmp 92) rfl w9.heap.size 0 (ZA).toArray rfl rfl hth.out hi25.out hZo.out ?_)
  generalize (w9.alloc (.cells #[.string ⟨#[]⟩, .string ⟨#[]⟩, .int .i64 0, .int .u64 0, .string ⟨#[]⟩, .int .i64 0, .int .u32 0, .int .i64 0, .int .i64 0, .bool false, .bool false, .bool false, .slice none 0 0, .int .i64 0, .bool false, .int .i64 0, .bool false, .int .i64 0, .int .i64 0, .string ⟨#[]⟩, .string ⟨#[]⟩, .string ⟨#[]⟩, .bool false] 31)).setCells w9.heap.size 0 (ZA) = Vf at Bf E hs hra Ba hX ⊢
  generalize w9.heap.size = gf at Bf ⊢
  clear hth hi25 hX
  clear Bd Be Bf hs hra hat hi24 hi23 hi23b hi23c hZl hZo
  have x0 := Ba.out.cell h0.out
  have x2 := Ba.out.cell h2.out
  have x3 := Ba.out.cell h3.out
  have x4 := Ba.out.cell h4.out
  have x5 := Ba.out.cell h5.out
  clear Ba h0 h2 h3 h4 h5
  go_upto_region 16 with fail
  clear x0 x2 x3 x4 x5
  have B := Blk.new Vf 55 #[.int .i64 6, .bool true, .bool true, .bool true, .int .i64 4, .bool true, .bool true, .bool true, .int .i64 5, .bool false, .bool true, .bool true, .int .i64 4, .bool true, .bool false, .bool false, .int .i64 1, .bool true, .bool true, .bool false, .int .i64 1, .bool false, .bool false, .bool true, .int .i64 0, .bool true, .bool true, .bool true, .int .i64 7, .bool true, .bool true, .bool true]
  have E2 := E.out.alloc (Obj.cells #[.int .i64 6, .bool true, .bool true, .bool true, .int .i64 4, .bool true, .bool true, .bool true, .int .i64 5, .bool false, .bool true, .bool true, .int .i64 4, .bool true, .bool false, .bool false, .int .i64 1, .bool true, .bool true, .bool false, .int .i64 1, .bool false, .bool false, .bool true, .int .i64 0, .bool true, .bool true, .bool true, .int .i64 7, .bool true, .bool true, .bool true] 55)
  generalize hW : Vf.alloc (Obj.cells #[.int .i64 6, .bool true, .bool true, .bool true, .int .i64 4, .bool true, .bool true, .bool true, .int .i64 5, .bool false, .bool true, .bool true, .int .i64 4, .bool true, .bool false, .bool false, .int .i64 1, .bool true, .bool true, .bool false, .int .i64 1, .bool false, .bool false, .bool true, .int .i64 0, .bool true, .bool true, .bool true, .int .i64 7, .bool true, .bool true, .bool true] 55) = W1 at B E2
  generalize hg : Vf.heap.size = g1 at B
  replace B := hide B
  replace E2 := hide E2
  go_wp2_with fail
  clear hW hg
  go_loopw [129] (fun q wr => ∃ k : Int, 0 ≤ k ∧ k ≤ 8 ∧ q = .int .i64 k ∧ Ext W1 wr) (fun q _ => 8 - (intOf q).toNat)
  case atStart => exact ⟨0, by decide, by decide, rfl, Ext.refl _⟩
  case round =>
    obtain ⟨k, hk0, hk, rfl, hE⟩ := hrel
    rename World => W2
    have cs : k = 0 ∨ k = 1 ∨ k = 2 ∨ k = 3 ∨ k = 4 ∨ k = 5 ∨ k = 6 ∨ k = 7 ∨ k = 8 := by omega
    clear hk0 hk
    replace B := hide (B.out.ext hE)
    replace E := hide (E2.out.trans hE)
    replace hE := hide hE
    clear E2
    rcases cs with rfl | rfl | rfl | rfl | rfl | rfl | rfl | rfl | rfl
    · have x0 : W2.cell? ⟨g1, 0, none⟩ = some (.int .i64 6) := B.out.cell 0
      have x1 : W2.cell? ⟨g1, 1, none⟩ = some (.bool true) := B.out.cell 1
      have x2 : W2.cell? ⟨g1, 2, none⟩ = some (.bool true) := B.out.cell 2
      have x3 : W2.cell? ⟨g1, 3, none⟩ = some (.bool true) := B.out.cell 3
      have hz := hide (hE.out.alloc (Obj.cells #[.int .i64 6, .bool true, .bool true, .bool true] 55))
      go_wp2_with fail
      refine (k0.out _).mono ?_
      rintro e w_ ⟨rfl, rfl⟩
      go_wp2
      go_roundw
      case rel => exact ⟨1, by decide, by decide, rfl, hz.out⟩
      case measure => simp [intOf]
    · have x0 : W2.cell? ⟨g1, 4, none⟩ = some (.int .i64 4) := B.out.cell 4
      have x1 : W2.cell? ⟨g1, 5, none⟩ = some (.bool true) := B.out.cell 5
      have x2 : W2.cell? ⟨g1, 6, none⟩ = some (.bool true) := B.out.cell 6
      have x3 : W2.cell? ⟨g1, 7, none⟩ = some (.bool true) := B.out.cell 7
      have hz := hide (hE.out.alloc (Obj.cells #[.int .i64 4, .bool true, .bool true, .bool true] 55))
      go_wp2_with fail
      refine (k1.out _).mono ?_
      rintro e w_ ⟨rfl, rfl⟩
      go_wp2
      go_roundw
      case rel => exact ⟨2, by decide, by decide, rfl, hz.out⟩
      case measure => simp [intOf]
    · have x0 : W2.cell? ⟨g1, 8, none⟩ = some (.int .i64 5) := B.out.cell 8
      have x1 : W2.cell? ⟨g1, 9, none⟩ = some (.bool false) := B.out.cell 9
      have x2 : W2.cell? ⟨g1, 10, none⟩ = some (.bool true) := B.out.cell 10
      have x3 : W2.cell? ⟨g1, 11, none⟩ = some (.bool true) := B.out.cell 11
      have hz := hide (hE.out.alloc (Obj.cells #[.int .i64 5, .bool false, .bool true, .bool true] 55))
      go_wp2_with fail
      refine (k2.out _).mono ?_
      rintro e w_ ⟨rfl, rfl⟩
      go_wp2
      go_roundw
      case rel => exact ⟨3, by decide, by decide, rfl, hz.out⟩
      case measure => simp [intOf]
    · have x0 : W2.cell? ⟨g1, 12, none⟩ = some (.int .i64 4) := B.out.cell 12
      have x1 : W2.cell? ⟨g1, 13, none⟩ = some (.bool true) := B.out.cell 13
      have x2 : W2.cell? ⟨g1, 14, none⟩ = some (.bool false) := B.out.cell 14
      have x3 : W2.cell? ⟨g1, 15, none⟩ = some (.bool false) := B.out.cell 15
      have hz := hide (hE.out.alloc (Obj.cells #[.int .i64 4, .bool true, .bool false, .bool false] 55))
      go_wp2_with fail
      refine (k3.out _).mono ?_
      rintro e w_ ⟨rfl, rfl⟩
      go_wp2
      go_roundw
      case rel => exact ⟨4, by decide, by decide, rfl, hz.out⟩
      case measure => simp [intOf]
    · have x0 : W2.cell? ⟨g1, 16, none⟩ = some (.int .i64 1) := B.out.cell 16
      have x1 : W2.cell? ⟨g1, 17, none⟩ = some (.bool true) := B.out.cell 17
      have x2 : W2.cell? ⟨g1, 18, none⟩ = some (.bool true) := B.out.cell 18
      have x3 : W2.cell? ⟨g1, 19, none⟩ = some (.bool false) := B.out.cell 19
      have hz := hide (hE.out.alloc (Obj.cells #[.int .i64 1, .bool true, .bool true, .bool false] 55))
      go_wp2_with fail
      refine (k4.out _).mono ?_
      rintro e w_ ⟨rfl, rfl⟩
      go_wp2
      go_roundw
      case rel => exact ⟨5, by decide, by decide, rfl, hz.out⟩
      case measure => simp [intOf]
    · have x0 : W2.cell? ⟨g1, 20, none⟩ = some (.int .i64 1) := B.out.cell 20
      have x1 : W2.cell? ⟨g1, 21, none⟩ = some (.bool false) := B.out.cell 21
      have x2 : W2.cell? ⟨g1, 22, none⟩ = some (.bool false) := B.out.cell 22
      have x3 : W2.cell? ⟨g1, 23, none⟩ = some (.bool true) := B.out.cell 23
      have hz := hide (hE.out.alloc (Obj.cells #[.int .i64 1, .bool false, .bool false, .bool true] 55))
      go_wp2_with fail
      refine (k5.out _).mono ?_
      rintro e w_ ⟨rfl, rfl⟩
      go_wp2
      go_roundw
      case rel => exact ⟨6, by decide, by decide, rfl, hz.out⟩
      case measure => simp [intOf]
    · have x0 : W2.cell? ⟨g1, 24, none⟩ = some (.int .i64 0) := B.out.cell 24
      have x1 : W2.cell? ⟨g1, 25, none⟩ = some (.bool true) := B.out.cell 25
      have x2 : W2.cell? ⟨g1, 26, none⟩ = some (.bool true) := B.out.cell 26
      have x3 : W2.cell? ⟨g1, 27, none⟩ = some (.bool true) := B.out.cell 27
      have hz := hide (hE.out.alloc (Obj.cells #[.int .i64 0, .bool true, .bool true, .bool true] 55))
      go_wp2_with fail
      refine (k6.out _).mono ?_
      rintro e w_ ⟨rfl, rfl⟩
      go_wp2
      go_roundw
      case rel => exact ⟨7, by decide, by decide, rfl, hz.out⟩
      case measure => simp [intOf]
    · have x0 : W2.cell? ⟨g1, 28, none⟩ = some (.int .i64 7) := B.out.cell 28
      have x1 : W2.cell? ⟨g1, 29, none⟩ = some (.bool true) := B.out.cell 29
      have x2 : W2.cell? ⟨g1, 30, none⟩ = some (.bool true) := B.out.cell 30
      have x3 : W2.cell? ⟨g1, 31, none⟩ = some (.bool true) := B.out.cell 31
      have hz := hide (hE.out.alloc (Obj.cells #[.int .i64 7, .bool true, .bool true, .bool true] 55))
      go_wp2_with fail
      refine (k7.out _).mono ?_
      rintro e w_ ⟨rfl, rfl⟩
      go_wp2
      go_roundw
      case rel => exact ⟨8, by decide, by decide, rfl, hz.out⟩
      case measure => simp [intOf]
    · clear k0 k1 k2 k3 k4 k5 k6 k7 B hE
      go_wp2_with fail
      refine (o0.out _).mono ?_
      rintro e wA ⟨rfl, hE⟩
      replace E := hide (E.out.trans hE)
      clear hE o0
      go_wp2_with fail
      refine (o1.out _).mono ?_
      rintro e wB ⟨rfl, hE⟩
      replace E := hide (E.out.trans hE)
      clear hE o1
      have kmk := run_mk16 wB
      have hcv : (convert 40 9 (.slice (some ⟨wB.heap.size, 0, none⟩) 16 16)).run Tryz.prog (wB.alloc (.cells #[.int .u8 0, .int .u8 0, .int .u8 0, .int .u8 0, .int .u8 0, .int .u8 0, .int .u8 0, .int .u8 0, .int .u8 0, .int .u8 0, .int .u8 0, .int .u8 0, .int .u8 0, .int .u8 0, .int .u8 0, .int .u8 0] 5)) = .ok (.string ⟨#[0, 0, 0, 0, 0, 0, 0, 0, 0, 0, 0, 0, 0, 0, 0, 0]⟩) (wB.alloc (.cells #[.int .u8 0, .int .u8 0, .int .u8 0, .int .u8 0, .int .u8 0, .int .u8 0, .int .u8 0, .int .u8 0, .int .u8 0, .int .u8 0, .int .u8 0, .int .u8 0, .int .u8 0, .int .u8 0, .int .u8 0, .int .u8 0] 5)) := by
        refine run_convert_bytes_back _ 40 9 5 ⟨wB.heap.size, 0, none⟩ 16 [0, 0, 0, 0, 0, 0, 0, 0, 0, 0, 0, 0, 0, 0, 0, 0] Tryz.underlying40 Tryz.underlying5 Tryz.underlying9 fun j hj => ?_
        have hB := Blk.new wB 5 #[.int .u8 0, .int .u8 0, .int .u8 0, .int .u8 0, .int .u8 0, .int .u8 0, .int .u8 0, .int .u8 0, .int .u8 0, .int .u8 0, .int .u8 0, .int .u8 0, .int .u8 0, .int .u8 0, .int .u8 0, .int .u8 0]
        rw [add_lit, Nat.zero_add, hB.cell]
        match j, hj with
        | 0, _ => rfl
        | 1, _ => rfl
        | 2, _ => rfl
        | 3, _ => rfl
        | 4, _ => rfl
        | 5, _ => rfl
        | 6, _ => rfl
        | 7, _ => rfl
        | 8, _ => rfl
        | 9, _ => rfl
        | 10, _ => rfl
        | 11, _ => rfl
        | 12, _ => rfl
        | 13, _ => rfl
        | 14, _ => rfl
        | 15, _ => rfl
        | k + 16, h => exact absurd h (by show ¬ k + 16 < 16; omega)
      replace E := hide (E.out.alloc (.cells #[.int .u8 0, .int .u8 0, .int .u8 0, .int .u8 0, .int .u8 0, .int .u8 0, .int .u8 0, .int .u8 0, .int .u8 0, .int .u8 0, .int .u8 0, .int .u8 0, .int .u8 0, .int .u8 0, .int .u8 0, .int .u8 0] 5))
      go_wp2_with fail
      refine (o2.out _).mono ?_
      rintro e wC ⟨rfl, hE⟩
      replace E := hide (E.out.trans hE)
      clear hE o2 hcv
      go_wp2_with fail
      refine (o3.out _).mono ?_
      rintro e wD ⟨rfl, hE⟩
      replace E := hide (E.out.trans hE)
      clear hE o3
      go_wp2_with fail
      refine (qz.out _ E.out).mono ?_
      rintro e wF ⟨rfl, hE⟩
      replace E := hide (E.out.trans hE)
      clear hE qz
      go_wp2
      go_ret
      exact ⟨rfl, E.out⟩
end Go.Proofs.YtmhmcdpadmimlaaGreatDoor
