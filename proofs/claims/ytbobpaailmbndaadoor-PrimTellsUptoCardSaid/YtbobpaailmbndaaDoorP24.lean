/- The walk of PrimTells (printed by genp24.py). -/
import Derived.Test.YtbobpaailmbndaaDoorP9
import Derived.Test.YtbobpaailmbndaaDoorP16
import Derived.Test.YtbobpaailmbndaaDoorP19
import Derived.Test.YtbobpaailmbndaaDoorP23
namespace Go.Proofs.YtbobpaailmbndaaDoor
open Go.RowKit Go.Sort
set_option linter.unusedVariables false

theorem Calls.regr {P : Program} {f : FuncId} {args : Array Value} {v : Value} (h : ∀ W, Calls P f args W fun e w' => e = .returned v ∧ Ext W w') (w : World) (d : Nat) (os : Array Obj) :
    Calls P f args (grow (redrawn w d) os) fun e w'' => e = .returned v ∧ ∃ p : Regrown, w'' = grow (redrawn w p.d) p.os := Calls.regrown_of (h _)
theorem Calls.regrS {P : Program} {f : FuncId} {args : Array Value} {v : Value} (h : ∀ W, Calls P f args W fun e w' => e = .returned v ∧ W = w') (w : World) (d : Nat) (os : Array Obj) :
    Calls P f args (grow (redrawn w d) os) fun e w'' => e = .returned v ∧ ∃ p : Regrown, w'' = grow (redrawn w p.d) p.os := regrown_same (h _)

set_option maxRecDepth 20000 in
set_option maxHeartbeats 2000000 in
theorem PrimTells_walk (a b : Pfx) (n : Int) (w : World) (ha : a.addr.length ≤ 1048576) (hb : b.addr.length ≤ 1048576) (h1 : -9223372036854775808 ≤ n) (h2 : n ≤ 9223372036854775807) (hT : Tab w) (hV : Vars w) :
    Calls Tryd.prog 7 #[valP a, valP b, .int .i64 n] w fun e w' => e = .returned (.bool true) ∧ Ext w w' := by
  have mixed : Tryd.prog.follows Departure.mixedOrders = true := by kernel_rfl
  have q1 := fun W => ACheck_any a W ha
  have q2 := fun W => RCheck_any a W ha
  have q3 := fun W => ACmp_any a b W
  have q4 := fun W => RCmp_any a b W ha hb
  have q5 := fun W => ACmp_any b a W
  have q6 := fun W => RCmp_any b a W hb ha
  have q7 := fun W => ACov_any a b W ha hb
  have q8 := fun W => RCov_any a b W ha hb
  have q9 := fun W => ACov_any b a W hb ha
  have q10 := fun W => RCov_any b a W hb ha
  have q11 := fun W => ASize_any n W
  have q12 := fun W => RSize_any n W
  have q13 := fun W => ASize_any a.fam W
  have q14 := fun W => RSize_any a.fam W
  have q15 := fun W => ABit_any a.addr n W ha h1 h2
  have q16 := fun W => RBit_any a.addr n W ha h1 h2
  have q17 := fun W => works_any W
  generalize errP (MayP a) = c1 at q1 q2
  generalize cmpP a b = c2 at q3 q4
  generalize cmpP b a = c3 at q5 q6
  generalize covB a b = c4 at q7 q8
  generalize covB b a = c5 at q9 q10
  generalize sizeS n = c6 at q11 q12
  generalize sizeS a.fam = c7 at q13 q14
  generalize bitV (bitZ a.addr n) = c8 at q15 q16
  clear h1 h2 ha hb
  simp only [valP] at q1 q2 q3 q4 q5 q6 q7 q8 q9 q10 ⊢
  replace q1 := hide q1
  replace q2 := hide q2
  replace q3 := hide q3
  replace q4 := hide q4
  replace q5 := hide q5
  replace q6 := hide q6
  replace q7 := hide q7
  replace q8 := hide q8
  replace q9 := hide q9
  replace q10 := hide q10
  replace q11 := hide q11
  replace q12 := hide q12
  replace q13 := hide q13
  replace q14 := hide q14
  replace q15 := hide q15
  replace q16 := hide q16
  replace q17 := hide q17
  replace hT := hide hT
  replace hV := hide hV
  go_enter Tryd.func7, Tryd.ntmps7
  go_wp2
  have hA := (Blk.new w 24 #[.int .i64 a.fam, .int .u64 (a.rd : Int), .string ⟨a.addr.toArray⟩, .int .i64 a.len]).alloc (Obj.cells #[.int .i64 b.fam, .int .u64 (b.rd : Int), .string ⟨b.addr.toArray⟩, .int .i64 b.len] 24)
  have hB := Blk.new (w.alloc (Obj.cells #[.int .i64 a.fam, .int .u64 (a.rd : Int), .string ⟨a.addr.toArray⟩, .int .i64 a.len] 24)) 24 #[.int .i64 b.fam, .int .u64 (b.rd : Int), .string ⟨b.addr.toArray⟩, .int .i64 b.len]
  rw [show (w.alloc (Obj.cells #[.int .i64 a.fam, .int .u64 (a.rd : Int), .string ⟨a.addr.toArray⟩, .int .i64 a.len] 24)).heap.size = w.heap.size + 1 by simp] at hB
  have hE : Ext w ((w.alloc (Obj.cells #[.int .i64 a.fam, .int .u64 (a.rd : Int), .string ⟨a.addr.toArray⟩, .int .i64 a.len] 24)).alloc (Obj.cells #[.int .i64 b.fam, .int .u64 (b.rd : Int), .string ⟨b.addr.toArray⟩, .int .i64 b.len] 24)) := ((Ext.refl w).alloc _).alloc _
  generalize ((w.alloc (Obj.cells #[.int .i64 a.fam, .int .u64 (a.rd : Int), .string ⟨a.addr.toArray⟩, .int .i64 a.len] 24)).alloc (Obj.cells #[.int .i64 b.fam, .int .u64 (b.rd : Int), .string ⟨b.addr.toArray⟩, .int .i64 b.len] 24)) = W at hA hB hE ⊢
  replace hE := hide hE
  replace hA := hide hA
  replace hB := hide hB
  have x0 : ∀ d os, (grow (redrawn W d) os).cell? ⟨w.heap.size, 0, none⟩ = some (.int .i64 a.fam) := cell_regrown (hA.out.cell 0)
  have x1 : ∀ d os, (grow (redrawn W d) os).cell? ⟨w.heap.size, 1, none⟩ = some (.int .u64 (a.rd : Int)) := cell_regrown (hA.out.cell 1)
  have x2 : ∀ d os, (grow (redrawn W d) os).cell? ⟨w.heap.size, 2, none⟩ = some (.string ⟨a.addr.toArray⟩) := cell_regrown (hA.out.cell 2)
  have x3 : ∀ d os, (grow (redrawn W d) os).cell? ⟨w.heap.size, 3, none⟩ = some (.int .i64 a.len) := cell_regrown (hA.out.cell 3)
  have y0 : ∀ d os, (grow (redrawn W d) os).cell? ⟨w.heap.size + 1, 0, none⟩ = some (.int .i64 b.fam) := cell_regrown (hB.out.cell 0)
  have y1 : ∀ d os, (grow (redrawn W d) os).cell? ⟨w.heap.size + 1, 1, none⟩ = some (.int .u64 (b.rd : Int)) := cell_regrown (hB.out.cell 1)
  have y2 : ∀ d os, (grow (redrawn W d) os).cell? ⟨w.heap.size + 1, 2, none⟩ = some (.string ⟨b.addr.toArray⟩) := cell_regrown (hB.out.cell 2)
  have y3 : ∀ d os, (grow (redrawn W d) os).cell? ⟨w.heap.size + 1, 3, none⟩ = some (.int .i64 b.len) := cell_regrown (hB.out.cell 3)
  have cq1 := Calls.regr q1.out W
  have cq2 := Calls.regr q2.out W
  have cq3 := Calls.regr q3.out W
  have cq4 := Calls.regr q4.out W
  have cq5 := Calls.regr q5.out W
  have cq6 := Calls.regr q6.out W
  have cq7 := Calls.regr q7.out W
  have cq8 := Calls.regr q8.out W
  have cq9 := Calls.regr q9.out W
  have cq10 := Calls.regr q10.out W
  refine wp_region_quiet_below (by assumption) (by kernel_rfl) ?_
  repeat (quiet_step (first | (with_reducible exact cq1 _ _) | (with_reducible exact cq2 _ _) | (with_reducible exact cq3 _ _) | (with_reducible exact cq4 _ _) | (with_reducible exact cq5 _ _) | (with_reducible exact cq6 _ _) | (with_reducible exact cq7 _ _) | (with_reducible exact cq8 _ _) | (with_reducible exact cq9 _ _) | (with_reducible exact cq10 _ _)))
  refine wpQuiet_nil ?_
  intro _ hw'
  obtain ⟨⟨dq, osq⟩, hw''⟩ := hw'
  subst hw''
  replace hA := hide (hA.out.ext (below_regrown _ dq osq))
  replace hB := hide (hB.out.ext (below_regrown _ dq osq))
  replace hE := hide (hE.out.trans (below_regrown _ dq osq))
  clear x0 x1 x2 x3 y0 y1 y2 y3 cq1 cq2 cq3 cq4 cq5 cq6 cq7 cq8 cq9 cq10
  generalize grow (redrawn W dq) osq = W2 at hA hB hE ⊢
  go_wp2
  have x0 : ∀ d os, (grow (redrawn W2 d) os).cell? ⟨w.heap.size, 0, none⟩ = some (.int .i64 a.fam) := cell_regrown (hA.out.cell 0)
  have x1 : ∀ d os, (grow (redrawn W2 d) os).cell? ⟨w.heap.size, 1, none⟩ = some (.int .u64 (a.rd : Int)) := cell_regrown (hA.out.cell 1)
  have x2 : ∀ d os, (grow (redrawn W2 d) os).cell? ⟨w.heap.size, 2, none⟩ = some (.string ⟨a.addr.toArray⟩) := cell_regrown (hA.out.cell 2)
  have x3 : ∀ d os, (grow (redrawn W2 d) os).cell? ⟨w.heap.size, 3, none⟩ = some (.int .i64 a.len) := cell_regrown (hA.out.cell 3)
  have y0 : ∀ d os, (grow (redrawn W2 d) os).cell? ⟨w.heap.size + 1, 0, none⟩ = some (.int .i64 b.fam) := cell_regrown (hB.out.cell 0)
  have y1 : ∀ d os, (grow (redrawn W2 d) os).cell? ⟨w.heap.size + 1, 1, none⟩ = some (.int .u64 (b.rd : Int)) := cell_regrown (hB.out.cell 1)
  have y2 : ∀ d os, (grow (redrawn W2 d) os).cell? ⟨w.heap.size + 1, 2, none⟩ = some (.string ⟨b.addr.toArray⟩) := cell_regrown (hB.out.cell 2)
  have y3 : ∀ d os, (grow (redrawn W2 d) os).cell? ⟨w.heap.size + 1, 3, none⟩ = some (.int .i64 b.len) := cell_regrown (hB.out.cell 3)
  have cq11 := Calls.regrS q11.out W2
  have cq12 := Calls.regrS q12.out W2
  have cq13 := Calls.regrS q13.out W2
  have cq14 := Calls.regrS q14.out W2
  have cq15 := Calls.regrS q15.out W2
  have cq16 := Calls.regrS q16.out W2
  have cq17 : ∀ d os, Calls Tryd.prog 14 #[] (grow (redrawn W2 d) os) fun e w'' => e = .returned (.bool true) ∧ ∃ p : Regrown, w'' = grow (redrawn W2 p.d) p.os := fun d os => Calls.regrown_of (q17.out _ (hT.out.ext (hE.out.trans (below_regrown _ d os))) (hV.out.ext (hE.out.trans (below_regrown _ d os))))
  refine wp_region_quiet_below (by assumption) (by kernel_rfl) ?_
  repeat (quiet_step (first | (with_reducible exact cq11 _ _) | (with_reducible exact cq12 _ _) | (with_reducible exact cq13 _ _) | (with_reducible exact cq14 _ _) | (with_reducible exact cq15 _ _) | (with_reducible exact cq16 _ _) | (with_reducible exact cq17 _ _)))
  refine wpQuiet_nil ?_
  intro _ hw'
  obtain ⟨⟨dq, osq⟩, hw''⟩ := hw'
  subst hw''
  replace hA := hide (hA.out.ext (below_regrown _ dq osq))
  replace hB := hide (hB.out.ext (below_regrown _ dq osq))
  replace hE := hide (hE.out.trans (below_regrown _ dq osq))
  go_wp2
  go_ret
  exact ⟨rfl, hE.out⟩
end Go.Proofs.YtbobpaailmbndaaDoor
