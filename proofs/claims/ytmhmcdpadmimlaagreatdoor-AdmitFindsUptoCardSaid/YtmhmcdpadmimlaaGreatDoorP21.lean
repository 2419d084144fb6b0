/- Walks: a prefix's text read, at one text. -/
import Derived.Test.YtmhmcdpadmimlaaGreatDoorP20
import Derived.Test.YtmhmcdpadmimlaaGreatDoorP9
import Derived.Test.YtmhmcdpadmimlaaGreatDoorPX
namespace Go.Proofs.YtmhmcdpadmimlaaGreatDoor
open Go.RowKit
set_option linter.unusedVariables false

def namesV : Value := .agg #[.string ⟨#[]⟩, .string ⟨#[118, 52]⟩, .string ⟨#[118, 54]⟩, .string ⟨#[108, 52]⟩, .string ⟨#[118, 112, 110, 52]⟩, .string ⟨#[118, 112, 110, 54]⟩]
theorem names_index (i : Nat) (h1 : 1 ≤ i) (h5 : i ≤ 5) (W : World) : (Instr.index 120 namesV (.int .i64 (i : Int))).run Tryz.prog W = .ok (.string ⟨(nameS i).toArray⟩) W := by
  rcases (show i = 1 ∨ i = 2 ∨ i = 3 ∨ i = 4 ∨ i = 5 by omega) with rfl | rfl | rfl | rfl | rfl
  all_goals
    simp [Instr.index, namesV, run_underlying Tryz.underlying120, asIntOf, nameS, part, go_sem]
set_option maxRecDepth 20000 in
theorem name_any (f : Int) (h1 : 1 ≤ f) (h5 : f ≤ 5) (w : World) : Calls Tryz.prog 52 #[.int .i64 f] w fun e w' => e = .returned (.string ⟨(nameS f).toArray⟩) ∧ w = w' := by
  have x1 : ∀ W, (Instr.index 120 (.agg #[.string ⟨#[]⟩, .string ⟨#[118, 52]⟩, .string ⟨#[118, 54]⟩, .string ⟨#[108, 52]⟩, .string ⟨#[118, 112, 110, 52]⟩, .string ⟨#[118, 112, 110, 54]⟩]) (.int .i64 1)).run Tryz.prog W = .ok (.string ⟨#[118, 52]⟩) W := fun W => names_index 1 (by decide) (by decide) W
  have x2 : ∀ W, (Instr.index 120 (.agg #[.string ⟨#[]⟩, .string ⟨#[118, 52]⟩, .string ⟨#[118, 54]⟩, .string ⟨#[108, 52]⟩, .string ⟨#[118, 112, 110, 52]⟩, .string ⟨#[118, 112, 110, 54]⟩]) (.int .i64 2)).run Tryz.prog W = .ok (.string ⟨#[118, 54]⟩) W := fun W => names_index 2 (by decide) (by decide) W
  have x3 : ∀ W, (Instr.index 120 (.agg #[.string ⟨#[]⟩, .string ⟨#[118, 52]⟩, .string ⟨#[118, 54]⟩, .string ⟨#[108, 52]⟩, .string ⟨#[118, 112, 110, 52]⟩, .string ⟨#[118, 112, 110, 54]⟩]) (.int .i64 3)).run Tryz.prog W = .ok (.string ⟨#[108, 52]⟩) W := fun W => names_index 3 (by decide) (by decide) W
  have x4 : ∀ W, (Instr.index 120 (.agg #[.string ⟨#[]⟩, .string ⟨#[118, 52]⟩, .string ⟨#[118, 54]⟩, .string ⟨#[108, 52]⟩, .string ⟨#[118, 112, 110, 52]⟩, .string ⟨#[118, 112, 110, 54]⟩]) (.int .i64 4)).run Tryz.prog W = .ok (.string ⟨#[118, 112, 110, 52]⟩) W := fun W => names_index 4 (by decide) (by decide) W
  have x5 : ∀ W, (Instr.index 120 (.agg #[.string ⟨#[]⟩, .string ⟨#[118, 52]⟩, .string ⟨#[118, 54]⟩, .string ⟨#[108, 52]⟩, .string ⟨#[118, 112, 110, 52]⟩, .string ⟨#[118, 112, 110, 54]⟩]) (.int .i64 5)).run Tryz.prog W = .ok (.string ⟨#[118, 112, 110, 54]⟩) W := fun W => names_index 5 (by decide) (by decide) W
  rcases (show f = 1 ∨ f = 2 ∨ f = 3 ∨ f = 4 ∨ f = 5 by omega) with rfl | rfl | rfl | rfl | rfl
  all_goals
    go_enter Tryz.func52, Tryz.ntmps52
    go_wp2
    go_ret
    exact ⟨rfl, rfl⟩

theorem name_1 (W : World) (n : Nat) : Calls Tryz.prog 52 #[.int .i64 1] (W.drewN n) fun e w'' => e = .returned (.string ⟨#[118, 52]⟩) ∧ ∃ m, w'' = W.drewN m := by
  have := name_any 1 (by decide) (by decide) (W.drewN n)
  refine Calls.quiet_of_same (this.mono fun e w' h => ⟨?_, h.2.symm⟩)
  rw [h.1]
  simp [nameS]
theorem name_2 (W : World) (n : Nat) : Calls Tryz.prog 52 #[.int .i64 2] (W.drewN n) fun e w'' => e = .returned (.string ⟨#[118, 54]⟩) ∧ ∃ m, w'' = W.drewN m := by
  have := name_any 2 (by decide) (by decide) (W.drewN n)
  refine Calls.quiet_of_same (this.mono fun e w' h => ⟨?_, h.2.symm⟩)
  rw [h.1]
  simp [nameS]
theorem name_3 (W : World) (n : Nat) : Calls Tryz.prog 52 #[.int .i64 3] (W.drewN n) fun e w'' => e = .returned (.string ⟨#[108, 52]⟩) ∧ ∃ m, w'' = W.drewN m := by
  have := name_any 3 (by decide) (by decide) (W.drewN n)
  refine Calls.quiet_of_same (this.mono fun e w' h => ⟨?_, h.2.symm⟩)
  rw [h.1]
  simp [nameS]
theorem name_4 (W : World) (n : Nat) : Calls Tryz.prog 52 #[.int .i64 4] (W.drewN n) fun e w'' => e = .returned (.string ⟨#[118, 112, 110, 52]⟩) ∧ ∃ m, w'' = W.drewN m := by
  have := name_any 4 (by decide) (by decide) (W.drewN n)
  refine Calls.quiet_of_same (this.mono fun e w' h => ⟨?_, h.2.symm⟩)
  rw [h.1]
  simp [nameS]
theorem name_5 (W : World) (n : Nat) : Calls Tryz.prog 52 #[.int .i64 5] (W.drewN n) fun e w'' => e = .returned (.string ⟨#[118, 112, 110, 54]⟩) ∧ ∃ m, w'' = W.drewN m := by
  have := name_any 5 (by decide) (by decide) (W.drewN n)
  refine Calls.quiet_of_same (this.mono fun e w' h => ⟨?_, h.2.symm⟩)
  rw [h.1]
  simp [nameS]

def wtext : List UInt8 := [118, 112, 110, 52, 32, 55, 32, 49, 48, 46, 49, 46, 48, 46, 48, 47, 49, 54]
theorem wtext_spl : spl 32 wtext = [[118, 112, 110, 52], [55], [49, 48, 46, 49, 46, 48, 46, 48, 47, 49, 54]] := by decide +kernel
theorem wtext_cut : Lib.cut [49, 48, 46, 49, 46, 48, 46, 48, 47, 49, 54] [47] = ([49, 48, 46, 49, 46, 48, 46, 48], [49, 54], true) := by decide +kernel
theorem wtext_dot : spl 46 [49, 48, 46, 49, 46, 48, 46, 48] = ([10, 1, 0, 0] : List UInt8).map fun u => Lib.decDigits u.toNat := by decide +kernel
def wpfx : Pfx := ⟨4, 7, [10, 1, 0, 0], 16⟩
theorem wpfx_may : MayP wpfx := ⟨⟨by decide, by decide, by decide, by decide, .inr (by decide)⟩, by decide +kernel⟩

set_option maxRecDepth 20000 in
set_option maxHeartbeats 2000000 in
theorem Parse_works (w : World) (hT : Tab w) (hV : Vars w) :
    Calls Tryz.prog 42 #[.string ⟨wtext.toArray⟩] w fun e w' => e = .returned (.tuple #[valP wpfx, .int .i64 0]) ∧ Ext w w' := by
  have mixed : Tryz.prog.follows Departure.mixedOrders = true := by kernel_rfl
  replace hT := hide hT
  replace hV := hide hV
  go_enter Tryz.func42, Tryz.ntmps42
  go_wp2_with fail
  have hB0 := Blk.new w 27 #[.int .i64 0, .int .u64 0, .string ⟨#[]⟩, .int .i64 0]
  have hEa : Ext w (w.alloc (Obj.cells #[.int .i64 0, .int .u64 0, .string ⟨#[]⟩, .int .i64 0] 27)) := (Ext.refl _).alloc _
  refine (Split_any wtext 32 _ (hV.out.ext hEa) (by decide)).mono ?_
  rintro e w1 ⟨d, hd, rfl, he1, hcell⟩
  have hd3 : 3 ≤ d := by rw [wtext_spl] at hd; exact hd
  clear hd
  rw [show (w.alloc (Obj.cells #[.int .i64 0, .int .u64 0, .string ⟨#[]⟩, .int .i64 0] 27)).heap.size = w.heap.size + 1 by simp] at hcell ⊢
  have c0 : w1.cell? ⟨w.heap.size + 1, 0, none⟩ = some (.string ⟨#[118, 112, 110, 52]⟩) := by
    rw [hcell 0 (by rw [wtext_spl]; decide)]; simp only [wtext_spl]; rfl
  have c1 : w1.cell? ⟨w.heap.size + 1, 1, none⟩ = some (.string ⟨#[55]⟩) := by
    rw [hcell 1 (by rw [wtext_spl]; decide)]; simp only [wtext_spl]; rfl
  have c2 : w1.cell? ⟨w.heap.size + 1, 2, none⟩ = some (.string ⟨#[49, 48, 46, 49, 46, 48, 46, 48, 47, 49, 54]⟩) := by
    rw [hcell 2 (by rw [wtext_spl]; decide)]; simp only [wtext_spl]; rfl
  rw [show (spl 32 wtext).length = 3 by rw [wtext_spl]; rfl]
  clear hcell
  replace hB0 := hB0.ext he1
  have hE1 := hEa.trans he1
  clear he1 hEa
  replace hE1 := hide hE1
  replace hB0 := hide hB0
  go_wp2_with fail
  go_loopw [6] (fun q wr => ∃ k : Nat, 1 ≤ k ∧ k ≤ 6 ∧ q = .int .i64 k ∧ Blk wr w1.heap.size 27 #[.int .i64 (if 4 < k then 4 else 0), .int .u64 0, .string ⟨#[]⟩, .int .i64 0] ∧ Ext w1 wr) (fun q _ => 6 - (intOf q).toNat)
  case atStart => exact ⟨1, by omega, by omega, rfl, Blk.new w1 27 #[.int .i64 0, .int .u64 0, .string ⟨#[]⟩, .int .i64 0], (Ext.refl _).alloc _⟩
  case round =>
    obtain ⟨k, hk1, hk6, rfl, hP, hE⟩ := hrel
    have c0' := hE.cell c0
    have c1' := hE.cell c1
    have c2' := hE.cell c2
    by_cases hlt : k ≤ 5
    · rcases (show k = 1 ∨ k = 2 ∨ k = 3 ∨ k = 4 ∨ k = 5 by omega) with rfl | rfl | rfl | rfl | rfl
      · replace hP : Blk wr w1.heap.size 27 #[.int .i64 0, .int .u64 0, .string ⟨#[]⟩, .int .i64 0] := hP
        have y0 : wr.cell? ⟨w1.heap.size, 0, none⟩ = some (.int .i64 0) := hP.cell 0
        have f0 := fun i => hP.frozen i
        replace hP := hide hP
        replace hE := hide hE
        go_wp2_with fail
        go_quiet ((go_at_call 52; exact name_1 _ _))
        go_wp2
        go_roundw
        case rel => exact ⟨1 + 1, by omega, by omega, by go_num, hP.out, hE.out.drewN _⟩
        case measure => simp [intOf]
      · replace hP : Blk wr w1.heap.size 27 #[.int .i64 0, .int .u64 0, .string ⟨#[]⟩, .int .i64 0] := hP
        have y0 : wr.cell? ⟨w1.heap.size, 0, none⟩ = some (.int .i64 0) := hP.cell 0
        have f0 := fun i => hP.frozen i
        replace hP := hide hP
        replace hE := hide hE
        go_wp2_with fail
        go_quiet ((go_at_call 52; exact name_2 _ _))
        go_wp2
        go_roundw
        case rel => exact ⟨2 + 1, by omega, by omega, by go_num, hP.out, hE.out.drewN _⟩
        case measure => simp [intOf]
      · replace hP : Blk wr w1.heap.size 27 #[.int .i64 0, .int .u64 0, .string ⟨#[]⟩, .int .i64 0] := hP
        have y0 : wr.cell? ⟨w1.heap.size, 0, none⟩ = some (.int .i64 0) := hP.cell 0
        have f0 := fun i => hP.frozen i
        replace hP := hide hP
        replace hE := hide hE
        go_wp2_with fail
        go_quiet ((go_at_call 52; exact name_3 _ _))
        go_wp2
        go_roundw
        case rel => exact ⟨3 + 1, by omega, by omega, by go_num, hP.out, hE.out.drewN _⟩
        case measure => simp [intOf]
      · replace hP : Blk wr w1.heap.size 27 #[.int .i64 0, .int .u64 0, .string ⟨#[]⟩, .int .i64 0] := hP
        have y0 : wr.cell? ⟨w1.heap.size, 0, none⟩ = some (.int .i64 0) := hP.cell 0
        have f0 := fun i => hP.frozen i
        replace hP := hide hP
        replace hE := hide hE
        go_wp2_with fail
        go_quiet ((go_at_call 52; exact name_4 _ _))
        go_wp2
        go_roundw
        case rel => exact ⟨4 + 1, by omega, by omega, by go_num, by have := (hP.out.drewN nq).set_ 0 (.int .i64 4); simpa using this, (hE.out.drewN _).setCell (Nat.le_refl _) _⟩
        case measure => simp [intOf]
      · replace hP : Blk wr w1.heap.size 27 #[.int .i64 4, .int .u64 0, .string ⟨#[]⟩, .int .i64 0] := hP
        have y0 : wr.cell? ⟨w1.heap.size, 0, none⟩ = some (.int .i64 4) := hP.cell 0
        have f0 := fun i => hP.frozen i
        replace hP := hide hP
        replace hE := hide hE
        go_wp2_with fail
        go_quiet ((go_at_call 52; exact name_5 _ _))
        go_wp2
        go_roundw
        case rel => exact ⟨5 + 1, by omega, by omega, by go_num, hP.out, hE.out.drewN _⟩
        case measure => simp [intOf]
    · obtain rfl : k = 6 := by omega
      replace hP : Blk wr w1.heap.size 27 #[.int .i64 4, .int .u64 0, .string ⟨#[]⟩, .int .i64 0] := hP
      have y0 : wr.cell? ⟨w1.heap.size, 0, none⟩ = some (.int .i64 4) := hP.cell 0
      have f0 := fun i => hP.frozen i
      have hEr := hE1.out.trans hE
      have hB1 := hB0.out.ext hE
      clear hlt c0 c1
      replace hP := hide hP
      replace hE := hide hE
      replace hEr := hide hEr
      replace hB1 := hide hB1
      go_wp2_with fail
      refine (Aapart_any _ _).mono ?_
      rw [show apartS 4 = true by decide]
      rintro e w3 ⟨rfl, rfl⟩
      go_wp2_with fail
      refine (number_ok [55] 64 7 _ (.inr rfl) (by decide) (by decide +kernel) (by decide) (by decide +kernel) (hT.out.ext hEr.out)).mono ?_
      rintro e w4 ⟨rfl, he4⟩
      have c2'' := he4.cell c2'
      replace hP := hP.out.ext he4
      have y1 : w4.cell? ⟨w1.heap.size, 1, none⟩ = some (.int .u64 0) := hP.cell 1
      have f4 := fun i => hP.frozen i
      have hE4 := hE.out.trans he4
      have hEr4 := hEr.out.trans he4
      have hP5 : Blk (w4.setCell ⟨w1.heap.size, 1, none⟩ (.int .u64 7)) w1.heap.size 27 #[.int .i64 4, .int .u64 7, .string ⟨#[]⟩, .int .i64 0] := by
        have := hP.set_ 1 (.int .u64 7)
        simpa using this
      have hlt1 : w.heap.size + 1 < w1.heap.size ∨ True := .inr trivial
      have hc5 := hE4.setCell (p := ⟨w1.heap.size, 1, none⟩) (Nat.le_refl _) (.int .u64 7)
      have hEr5 : Ext w (w4.setCell ⟨w1.heap.size, 1, none⟩ (.int .u64 7)) := hE1.out.trans hc5
      clear he4 c2'' hP y0 f0 hlt1
      replace hE4 := hide hE4
      replace hEr4 := hide hEr4
      replace hc5 := hide hc5
      replace hP5 := hide hP5
      replace hEr5 := hide hEr5
      go_wp2_with fail
      go_region
      have hPd := hP5.out.drew
      have hcd := hc5.out.drew
      have hEd := hEr5.out.drew
      generalize (w4.setCell ⟨w1.heap.size, 1, none⟩ (.int .u64 7)).drew = W5 at hPd hcd hEd ⊢
      have y0 : W5.cell? ⟨w1.heap.size, 0, none⟩ = some (.int .i64 4) := hPd.cell 0
      clear y1 f4 hP5 hc5 hEr5 hE4 hEr4
      have c5 : W5.cell? ⟨w.heap.size + 1, 2, none⟩ = some (.string ⟨#[49, 48, 46, 49, 46, 48, 46, 48, 47, 49, 54]⟩) := hcd.cell c2
      replace hPd := hide hPd
      replace hcd := hide hcd
      replace hEd := hide hEd
      go_wp2_with fail
      refine (Cut_any [49, 48, 46, 49, 46, 48, 46, 48, 47, 49, 54] 47 _ (hV.out.ext hEd.out) (by decide)).mono ?_
      rw [wtext_cut]
      rintro e w6 ⟨rfl, hd6⟩
      have he6 := hd6.ext
      have hP6 := hPd.out.ext he6
      have hE6 := hEd.out.trans he6
      have hc6 := hcd.out.trans he6
      clear hd6 he6
      replace hP6 := hide hP6
      replace hE6 := hide hE6
      replace hc6 := hide hc6
      go_wp2_with fail
      refine (number_ok [49, 54] 8 16 _ (.inl rfl) (by decide) (by decide +kernel) (by decide) (by decide +kernel) (hT.out.ext hE6.out)).mono ?_
      rintro e w7 ⟨rfl, he7⟩
      have hP7 := hP6.out.ext he7
      have hE7 := hE6.out.trans he7
      have hc7 := hc6.out.trans he7
      clear he7
      replace hP7 := hide hP7
      replace hE7 := hide hE7
      replace hc7 := hide hc7
      go_wp2_with fail
      refine (AAddr4_ok [49, 48, 46, 49, 46, 48, 46, 48] [10, 1, 0, 0] _ (by decide) rfl wtext_dot (by decide +kernel) (hT.out.ext hE7.out) (hV.out.ext hE7.out)).mono ?_
      rintro e w8 ⟨rfl, he8⟩
      have hP8 := hP7.out.ext he8
      have hE8 := hE7.out.trans he8
      have hc8 := hc7.out.trans he8
      have z0 : w8.cell? ⟨w1.heap.size, 0, none⟩ = some (.int .i64 4) := hP8.cell 0
      have z1 : w8.cell? ⟨w1.heap.size, 1, none⟩ = some (.int .u64 7) := hP8.cell 1
      have z2 : w8.cell? ⟨w1.heap.size, 2, none⟩ = some (.string ⟨#[]⟩) := hP8.cell 2
      have z3 : w8.cell? ⟨w1.heap.size, 3, none⟩ = some (.int .i64 0) := hP8.cell 3
      have f8 := fun i => hP8.frozen i
      clear he8
      replace hP8 := hide hP8
      replace hE8 := hide hE8
      replace hc8 := hide hc8
      have hP9 : Blk ((w8.setCell ⟨w1.heap.size, 2, none⟩ (.string ⟨#[10, 1, 0, 0]⟩)).setCell ⟨w1.heap.size, 3, none⟩ (.int .i64 16)) w1.heap.size 27 #[.int .i64 4, .int .u64 7, .string ⟨#[10, 1, 0, 0]⟩, .int .i64 16] := by
        have := (hP8.out.set_ 2 (.string ⟨#[10, 1, 0, 0]⟩)).set_ 3 (.int .i64 16)
        simpa using this
      have hc9 := (hc8.out.setCell (p := ⟨w1.heap.size, 2, none⟩) (Nat.le_refl _) (.string ⟨#[10, 1, 0, 0]⟩)).setCell (p := ⟨w1.heap.size, 3, none⟩) (Nat.le_refl _) (.int .i64 16)
      have hB9 := hB0.out.ext hc9
      have hE9 := hE1.out.trans hc9
      replace hP9 := hide hP9
      replace hc9 := hide hc9
      replace hB9 := hide hB9
      replace hE9 := hide hE9
      have hck : ∀ W, Calls Tryz.prog 30 #[.agg #[.int .i64 4, .int .u64 7, .string ⟨#[10, 1, 0, 0]⟩, .int .i64 16]] W fun e w' => e = .returned (.int .i64 0) ∧ Ext W w' := fun W => by
        have := ACheck_any wpfx W (by decide)
        rw [show errP (MayP wpfx) = 0 from if_pos wpfx_may] at this
        exact this
      replace hck := hide hck
      go_wp2_with fail
      refine (hck.out _).mono ?_
      rintro e w10 ⟨rfl, he10⟩
      have hP10 := hP9.out.ext he10
      have hB10 := hB9.out.ext he10
      have hE10 := hE9.out.trans he10
      clear z0 z1 z2 z3 f8
      have z0 : w10.cell? ⟨w1.heap.size, 0, none⟩ = some (.int .i64 4) := hP10.cell 0
      have z1 : w10.cell? ⟨w1.heap.size, 1, none⟩ = some (.int .u64 7) := hP10.cell 1
      have z2 : w10.cell? ⟨w1.heap.size, 2, none⟩ = some (.string ⟨#[10, 1, 0, 0]⟩) := hP10.cell 2
      have z3 : w10.cell? ⟨w1.heap.size, 3, none⟩ = some (.int .i64 16) := hP10.cell 3
      have x0 : w10.cell? ⟨w.heap.size, 0, none⟩ = some (.int .i64 0) := hB10.cell 0
      have x1 : w10.cell? ⟨w.heap.size, 1, none⟩ = some (.int .u64 0) := hB10.cell 1
      have x2 : w10.cell? ⟨w.heap.size, 2, none⟩ = some (.string ⟨#[]⟩) := hB10.cell 2
      have x3 : w10.cell? ⟨w.heap.size, 3, none⟩ = some (.int .i64 0) := hB10.cell 3
      have f10 := fun i => hB10.frozen i
      clear he10
      replace hP10 := hide hP10
      replace hB10 := hide hB10
      replace hE10 := hide hE10
      go_wp2
      have hZ := hB10.out.set4 (.int .i64 4) (.int .u64 7) (.string ⟨#[10, 1, 0, 0]⟩) (.int .i64 16)
      have hEZ := hE10.out.set4 (Nat.le_refl _) (.int .i64 4) (.int .u64 7) (.string ⟨#[10, 1, 0, 0]⟩) (.int .i64 16)
      generalize (((w10.setCell ⟨w.heap.size, 0, none⟩ (.int .i64 4)).setCell ⟨w.heap.size, 1, none⟩ (.int .u64 7)).setCell ⟨w.heap.size, 2, none⟩ (.string ⟨#[10, 1, 0, 0]⟩)).setCell ⟨w.heap.size, 3, none⟩ (.int .i64 16) = W3 at hZ hEZ ⊢
      have v0 : W3.cell? ⟨w.heap.size, 0, none⟩ = some (.int .i64 4) := hZ.cell 0
      have v1 : W3.cell? ⟨w.heap.size, 1, none⟩ = some (.int .u64 7) := hZ.cell 1
      have v2 : W3.cell? ⟨w.heap.size, 2, none⟩ = some (.string ⟨#[10, 1, 0, 0]⟩) := hZ.cell 2
      have v3 : W3.cell? ⟨w.heap.size, 3, none⟩ = some (.int .i64 16) := hZ.cell 3
      exact bodyPost_ret (v := .tuple #[.agg #[.int .i64 4, .int .u64 7, .string ⟨#[10, 1, 0, 0]⟩, .int .i64 16], .int .i64 0]) (by simp [results, Tryz.results42, go_sem, v0, v1, v2, v3]) rfl ⟨rfl, hEZ⟩
end Go.Proofs.YtmhmcdpadmimlaaGreatDoor
