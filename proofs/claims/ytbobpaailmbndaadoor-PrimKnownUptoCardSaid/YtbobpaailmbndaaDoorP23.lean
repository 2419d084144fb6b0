/- The law's own helper: works. -/
import Derived.Test.YtbobpaailmbndaaDoorP22
import Derived.Test.YtbobpaailmbndaaDoorP15
import Derived.Test.YtbobpaailmbndaaDoorP18
namespace Go.Proofs.YtbobpaailmbndaaDoor
open Go.RowKit Go.Sort
set_option linter.unusedVariables false

def wq : Pfx := ⟨4, 7, [10, 0, 0, 0], 8⟩
theorem wq_cut : cutOf wpfx 8 = wq := Pfx.eq rfl rfl (by decide +kernel) rfl
theorem wq_cutS : cutS wpfx 8 = (wq, 0) := by rw [← wq_cut]; exact if_pos ⟨wpfx_may, by decide, by decide⟩
theorem wq_cov : covB wq wpfx = true := decide_eq_true ⟨wpfx_may, by decide, by decide, wq_cut⟩
theorem wq_not : covB wpfx wq = false := decide_eq_false fun h => absurd h.2.2.1 (by decide)
theorem wq_cmp : cmpP wq wpfx = -1 := by decide +kernel

set_option maxRecDepth 20000 in
set_option maxHeartbeats 2000000 in
theorem works_any (w : World) (hT : Tab w) (hV : Vars w) : Calls Tryd.prog 14 #[] w fun e w' => e = .returned (.bool true) ∧ Ext w w' := by
  have mixed : Tryd.prog.follows Departure.mixedOrders = true := by kernel_rfl
  have hP := fun W hT hV => Parse_works W hT hV
  have hX := fun W hT => Text_works W hT
  have hC := fun W => ACut_any wpfx 8 W (by decide)
  have h1 := fun W => ACov_any wq wpfx W (by decide) (by decide)
  have h2 := fun W => ACov_any wpfx wq W (by decide) (by decide)
  have h3 := fun W => ACmp_any wq wpfx W
  rw [wq_cutS] at hC
  rw [wq_cov] at h1
  rw [wq_not] at h2
  rw [wq_cmp] at h3
  replace hP : ∀ W, Tab W → Vars W → Calls Tryd.prog 15 #[.string ⟨#[118, 112, 110, 52, 32, 55, 32, 49, 48, 46, 49, 46, 48, 46, 48, 47, 49, 54]⟩] W fun e w' => e = .returned (.tuple #[.agg #[.int .i64 4, .int .u64 7, .string ⟨#[10, 1, 0, 0]⟩, .int .i64 16], .int .i64 0]) ∧ Ext W w' := hP
  replace hX : ∀ W, Tab W → Calls Tryd.prog 12 #[.agg #[.int .i64 4, .int .u64 7, .string ⟨#[10, 1, 0, 0]⟩, .int .i64 16]] W fun e w' => e = .returned (.tuple #[.string ⟨#[118, 112, 110, 52, 32, 55, 32, 49, 48, 46, 49, 46, 48, 46, 48, 47, 49, 54]⟩, .int .i64 0]) ∧ Ext W w' := hX
  replace hC : ∀ W, Calls Tryd.prog 10 #[.agg #[.int .i64 4, .int .u64 7, .string ⟨#[10, 1, 0, 0]⟩, .int .i64 16], .int .i64 8] W fun e w' => e = .returned (.tuple #[.agg #[.int .i64 4, .int .u64 7, .string ⟨#[10, 0, 0, 0]⟩, .int .i64 8], .int .i64 0]) ∧ Ext W w' := hC
  replace h1 : ∀ W, Calls Tryd.prog 26 #[.agg #[.int .i64 4, .int .u64 7, .string ⟨#[10, 0, 0, 0]⟩, .int .i64 8], .agg #[.int .i64 4, .int .u64 7, .string ⟨#[10, 1, 0, 0]⟩, .int .i64 16]] W fun e w' => e = .returned (.bool true) ∧ Ext W w' := h1
  replace h2 : ∀ W, Calls Tryd.prog 26 #[.agg #[.int .i64 4, .int .u64 7, .string ⟨#[10, 1, 0, 0]⟩, .int .i64 16], .agg #[.int .i64 4, .int .u64 7, .string ⟨#[10, 0, 0, 0]⟩, .int .i64 8]] W fun e w' => e = .returned (.bool false) ∧ Ext W w' := h2
  replace h3 : ∀ W, Calls Tryd.prog 22 #[.agg #[.int .i64 4, .int .u64 7, .string ⟨#[10, 0, 0, 0]⟩, .int .i64 8], .agg #[.int .i64 4, .int .u64 7, .string ⟨#[10, 1, 0, 0]⟩, .int .i64 16]] W fun e w' => e = .returned (.int .i64 (-1)) ∧ Ext W w' := h3
  replace hP := hide hP
  replace hX := hide hX
  replace hC := hide hC
  replace h1 := hide h1
  replace h2 := hide h2
  replace h3 := hide h3
  replace hT := hide hT
  replace hV := hide hV
  go_enter Tryd.func14, Tryd.ntmps14
  go_wp2_with fail
  refine (hP.out _ hT.out hV.out).mono ?_
  rintro e w1 ⟨rfl, he1⟩
  have e1 := hide he1
  clear he1
  go_wp2_with fail
  have hB1 := Blk.new w1 24 #[.int .i64 4, .int .u64 7, .string ⟨#[10, 1, 0, 0]⟩, .int .i64 16]
  have hE1 : Ext w (w1.alloc (Obj.cells #[.int .i64 4, .int .u64 7, .string ⟨#[10, 1, 0, 0]⟩, .int .i64 16] 24)) := e1.out.alloc _
  refine (hX.out _ (hT.out.ext hE1)).mono ?_
  rintro e w2 ⟨rfl, he2⟩
  have hB2 := hB1.ext he2
  have hE2 := hE1.trans he2
  have x0 : w2.cell? ⟨w1.heap.size, 0, none⟩ = some (.int .i64 4) := hB2.cell 0
  have x1 : w2.cell? ⟨w1.heap.size, 1, none⟩ = some (.int .u64 7) := hB2.cell 1
  have x2 : w2.cell? ⟨w1.heap.size, 2, none⟩ = some (.string ⟨#[10, 1, 0, 0]⟩) := hB2.cell 2
  have x3 : w2.cell? ⟨w1.heap.size, 3, none⟩ = some (.int .i64 16) := hB2.cell 3
  clear he2 hB1 hE1
  replace hB2 := hide hB2
  replace hE2 := hide hE2
  go_wp2_with fail
  refine (hC.out _).mono ?_
  rintro e w3 ⟨rfl, he3⟩
  have hB3 := hB2.out.ext he3
  have hE3 := hE2.out.trans he3
  have hlt3 := hB3.lt
  clear he3 x0 x1 x2 x3
  replace hB3 := hide hB3
  replace hE3 := hide hE3
  have hAc := hB3.out.alloc (Obj.cells #[.int .i64 4, .int .u64 7, .string ⟨#[10, 0, 0, 0]⟩, .int .i64 8] 24)
  have z0 : (w3.alloc (Obj.cells #[.int .i64 4, .int .u64 7, .string ⟨#[10, 0, 0, 0]⟩, .int .i64 8] 24)).cell? ⟨w1.heap.size, 0, none⟩ = some (.int .i64 4) := hAc.cell 0
  have z1 : (w3.alloc (Obj.cells #[.int .i64 4, .int .u64 7, .string ⟨#[10, 0, 0, 0]⟩, .int .i64 8] 24)).cell? ⟨w1.heap.size, 1, none⟩ = some (.int .u64 7) := hAc.cell 1
  have z2 : (w3.alloc (Obj.cells #[.int .i64 4, .int .u64 7, .string ⟨#[10, 0, 0, 0]⟩, .int .i64 8] 24)).cell? ⟨w1.heap.size, 2, none⟩ = some (.string ⟨#[10, 1, 0, 0]⟩) := hAc.cell 2
  have z3 : (w3.alloc (Obj.cells #[.int .i64 4, .int .u64 7, .string ⟨#[10, 0, 0, 0]⟩, .int .i64 8] 24)).cell? ⟨w1.heap.size, 3, none⟩ = some (.int .i64 16) := hAc.cell 3
  have hQ4 := Blk.new w3 24 #[.int .i64 4, .int .u64 7, .string ⟨#[10, 0, 0, 0]⟩, .int .i64 8]
  have hE4 : Ext w (w3.alloc (Obj.cells #[.int .i64 4, .int .u64 7, .string ⟨#[10, 0, 0, 0]⟩, .int .i64 8] 24)) := hE3.out.alloc _
  replace hAc := hide hAc
  replace hQ4 := hide hQ4
  replace hE4 := hide hE4
  go_wp2_with fail
  refine (h1.out _).mono ?_
  rintro e w4 ⟨rfl, he⟩
  replace hAc := hAc.out.ext he
  replace hQ4 := hQ4.out.ext he
  replace hE4 := hE4.out.trans he
  clear he
  clear z0 z1 z2 z3
  have x0 : w4.cell? ⟨w1.heap.size, 0, none⟩ = some (.int .i64 4) := hAc.cell 0
  have x1 : w4.cell? ⟨w1.heap.size, 1, none⟩ = some (.int .u64 7) := hAc.cell 1
  have x2 : w4.cell? ⟨w1.heap.size, 2, none⟩ = some (.string ⟨#[10, 1, 0, 0]⟩) := hAc.cell 2
  have x3 : w4.cell? ⟨w1.heap.size, 3, none⟩ = some (.int .i64 16) := hAc.cell 3
  have y0 : w4.cell? ⟨w3.heap.size, 0, none⟩ = some (.int .i64 4) := hQ4.cell 0
  have y1 : w4.cell? ⟨w3.heap.size, 1, none⟩ = some (.int .u64 7) := hQ4.cell 1
  have y2 : w4.cell? ⟨w3.heap.size, 2, none⟩ = some (.string ⟨#[10, 0, 0, 0]⟩) := hQ4.cell 2
  have y3 : w4.cell? ⟨w3.heap.size, 3, none⟩ = some (.int .i64 8) := hQ4.cell 3
  replace hAc := hide hAc
  replace hQ4 := hide hQ4
  replace hE4 := hide hE4
  go_wp2_with fail
  refine (h2.out _).mono ?_
  rintro e w5 ⟨rfl, he⟩
  replace hAc := hAc.out.ext he
  replace hQ4 := hQ4.out.ext he
  replace hE4 := hE4.out.trans he
  clear he
  clear x0 x1 x2 x3 y0 y1 y2 y3
  have x0 : w5.cell? ⟨w1.heap.size, 0, none⟩ = some (.int .i64 4) := hAc.cell 0
  have x1 : w5.cell? ⟨w1.heap.size, 1, none⟩ = some (.int .u64 7) := hAc.cell 1
  have x2 : w5.cell? ⟨w1.heap.size, 2, none⟩ = some (.string ⟨#[10, 1, 0, 0]⟩) := hAc.cell 2
  have x3 : w5.cell? ⟨w1.heap.size, 3, none⟩ = some (.int .i64 16) := hAc.cell 3
  have y0 : w5.cell? ⟨w3.heap.size, 0, none⟩ = some (.int .i64 4) := hQ4.cell 0
  have y1 : w5.cell? ⟨w3.heap.size, 1, none⟩ = some (.int .u64 7) := hQ4.cell 1
  have y2 : w5.cell? ⟨w3.heap.size, 2, none⟩ = some (.string ⟨#[10, 0, 0, 0]⟩) := hQ4.cell 2
  have y3 : w5.cell? ⟨w3.heap.size, 3, none⟩ = some (.int .i64 8) := hQ4.cell 3
  replace hAc := hide hAc
  replace hQ4 := hide hQ4
  replace hE4 := hide hE4
  go_wp2_with fail
  refine (h3.out _).mono ?_
  rintro e w6 ⟨rfl, he⟩
  replace hAc := hAc.out.ext he
  replace hQ4 := hQ4.out.ext he
  replace hE4 := hE4.out.trans he
  clear he
  clear x0 x1 x2 x3 y0 y1 y2 y3
  have x0 : w6.cell? ⟨w1.heap.size, 0, none⟩ = some (.int .i64 4) := hAc.cell 0
  have x1 : w6.cell? ⟨w1.heap.size, 1, none⟩ = some (.int .u64 7) := hAc.cell 1
  have x2 : w6.cell? ⟨w1.heap.size, 2, none⟩ = some (.string ⟨#[10, 1, 0, 0]⟩) := hAc.cell 2
  have x3 : w6.cell? ⟨w1.heap.size, 3, none⟩ = some (.int .i64 16) := hAc.cell 3
  have y0 : w6.cell? ⟨w3.heap.size, 0, none⟩ = some (.int .i64 4) := hQ4.cell 0
  have y1 : w6.cell? ⟨w3.heap.size, 1, none⟩ = some (.int .u64 7) := hQ4.cell 1
  have y2 : w6.cell? ⟨w3.heap.size, 2, none⟩ = some (.string ⟨#[10, 0, 0, 0]⟩) := hQ4.cell 2
  have y3 : w6.cell? ⟨w3.heap.size, 3, none⟩ = some (.int .i64 8) := hQ4.cell 3
  replace hAc := hide hAc
  replace hQ4 := hide hQ4
  replace hE4 := hide hE4
  go_wp2
  go_ret
  exact ⟨rfl, hE4.out⟩
end Go.Proofs.YtbobpaailmbndaaDoor
