/- The walks of AdmitKeeps and of AdmitBoth. -/
import Derived.Test.YtmhmcdpadmimlaaGreatDoorDK
import Derived.Test.YtmhmcdpadmimlaaGreatDoorDG
import Derived.Lib.QuietBelow
namespace Go.Proofs.YtmhmcdpadmimlaaGreatDoor
open Go.RowKit Go.Sort
set_option linter.unusedVariables false

set_option maxRecDepth 20000 in
set_option maxHeartbeats 2000000 in
theorem AdmitKeeps_walk (old : Int) (g h i : Bool) (x y : UInt32) (a b : List UInt8) (w : World) (ha : a.length ≤ 1048576) (hb : b.length ≤ 1048576) (hT : Tab w) (hD : Deb w) (hV : Vars w) :
    Calls Tryz.prog 7 #[.agg #[.int .i64 old, .bool g, .bool h, .bool i], .agg #[.int .u32 (x.toNat : Int), .int .u32 (y.toNat : Int)], .agg #[.string ⟨a.toArray⟩, .string ⟨b.toArray⟩]] w fun e w' => e = .returned (.bool true) ∧ Ext w w' := by
  have mixed : Tryz.prog.follows Departure.mixedOrders = true := by kernel_rfl
  have qk := fun W => Keep_any old g h i W
  have qr := fun W => RKeep_any old g h i W
  have qw := fun W => Wins_any x y W
  have qa := fun W => Above_any a b W ha hb
  have qb := fun W => RAbove_any a b W ha hb
  have qz := fun W (h : Ext w W) => LWorks21 W (hT.ext h) (hD.ext h) (hV.ext h)
  generalize keepS old g h i = kk at *
  obtain ⟨k1, k2⟩ := kk
  dsimp only at qk qr
  generalize aboveS a b = ab at *
  have e1 : (k1 == k1) = true := by simp
  have e2 : (k2 == k2) = true := by simp
  have e3 : (ab == ab) = true := by simp
  clear hT hD hV
  replace qk := hide qk
  replace qr := hide qr
  replace qw := hide qw
  replace qa := hide qa
  replace qb := hide qb
  replace qz := hide qz
  go_enter Tryz.func7, Tryz.ntmps7
  have A := ((Blk.new w 55 #[.int .i64 old, .bool g, .bool h, .bool i]).alloc (Obj.cells #[.int .u32 (x.toNat : Int), .int .u32 (y.toNat : Int)] 47)).alloc (Obj.cells #[.string ⟨a.toArray⟩, .string ⟨b.toArray⟩] 58)
  have B := (Blk.new (w.alloc (Obj.cells #[.int .i64 old, .bool g, .bool h, .bool i] 55)) 47 #[.int .u32 (x.toNat : Int), .int .u32 (y.toNat : Int)]).alloc (Obj.cells #[.string ⟨a.toArray⟩, .string ⟨b.toArray⟩] 58)
  have C := Blk.new ((w.alloc (Obj.cells #[.int .i64 old, .bool g, .bool h, .bool i] 55)).alloc (Obj.cells #[.int .u32 (x.toNat : Int), .int .u32 (y.toNat : Int)] 47)) 58 #[.string ⟨a.toArray⟩, .string ⟨b.toArray⟩]
  have E := (((Ext.refl w).alloc (Obj.cells #[.int .i64 old, .bool g, .bool h, .bool i] 55)).alloc (Obj.cells #[.int .u32 (x.toNat : Int), .int .u32 (y.toNat : Int)] 47)).alloc (Obj.cells #[.string ⟨a.toArray⟩, .string ⟨b.toArray⟩] 58)
  rw [show (w.alloc (Obj.cells #[.int .i64 old, .bool g, .bool h, .bool i] 55)).heap.size = w.heap.size + 1 by simp] at B
  rw [show ((w.alloc (Obj.cells #[.int .i64 old, .bool g, .bool h, .bool i] 55)).alloc (Obj.cells #[.int .u32 (x.toNat : Int), .int .u32 (y.toNat : Int)] 47)).heap.size = w.heap.size + 2 by simp] at C
  generalize hW0 : ((w.alloc (Obj.cells #[.int .i64 old, .bool g, .bool h, .bool i] 55)).alloc (Obj.cells #[.int .u32 (x.toNat : Int), .int .u32 (y.toNat : Int)] 47)).alloc (Obj.cells #[.string ⟨a.toArray⟩, .string ⟨b.toArray⟩] 58) = W0 at A B C E
  generalize hg0 : w.heap.size = g0 at A B C
  replace A := hide A
  replace B := hide B
  replace C := hide C
  replace E := hide E
  have A_0 : W0.cell? ⟨g0, 0, none⟩ = some (.int .i64 old) := A.out.cell 0
  have A_1 : W0.cell? ⟨g0, 1, none⟩ = some (.bool g) := A.out.cell 1
  have A_2 : W0.cell? ⟨g0, 2, none⟩ = some (.bool h) := A.out.cell 2
  have A_3 : W0.cell? ⟨g0, 3, none⟩ = some (.bool i) := A.out.cell 3
  go_wp2_with fail
  clear hW0
  refine (qk.out _).mono ?_
  rintro e w_ ⟨rfl, rfl⟩
  go_wp2_with fail
  refine (qr.out _).mono ?_
  rintro e w_ ⟨rfl, rfl⟩
  clear A_0 A_1 A_2 A_3
  go_upto_region 3 with fail
  have B_0 : ∀ d os, (grow (redrawn W0 d) os).cell? ⟨g0 + 1, 0, none⟩ = some (.int .u32 (x.toNat : Int)) := cell_regrown (B.out.cell 0)
  have B_1 : ∀ d os, (grow (redrawn W0 d) os).cell? ⟨g0 + 1, 1, none⟩ = some (.int .u32 (y.toNat : Int)) := cell_regrown (B.out.cell 1)
  have C_0 : ∀ d os, (grow (redrawn W0 d) os).cell? ⟨g0 + 2, 0, none⟩ = some (.string ⟨a.toArray⟩) := cell_regrown (C.out.cell 0)
  have C_1 : ∀ d os, (grow (redrawn W0 d) os).cell? ⟨g0 + 2, 1, none⟩ = some (.string ⟨b.toArray⟩) := cell_regrown (C.out.cell 1)
  have cq0 := Calls.regrS qw.out W0
  have cq1 := Calls.regr qa.out W0
  have cq2 := Calls.regrS qb.out W0
  have cq3 := Calls.regrE qz.out E.out
  refine wp_region_quiet_below (by assumption) (by kernel_rfl) ?_
  repeat (go_big_quiet_step (first | (with_reducible exact cq0 _ _) | (with_reducible exact cq1 _ _) | (with_reducible exact cq2 _ _) | (with_reducible exact cq3 _ _)))
  refine wpQuiet_nil ?_
  intro _ hw_
  obtain ⟨⟨dq_, osq_⟩, hw_'⟩ := hw_
  subst hw_'
  replace E := hide (E.out.trans (below_regrown _ dq_ osq_))
  replace B := hide (B.out.ext (below_regrown _ dq_ osq_))
  replace C := hide (C.out.ext (below_regrown _ dq_ osq_))
  clear B_0 B_1 C_0 C_1
  clear cq0 cq1 cq2 cq3
  generalize grow (redrawn W0 dq_) osq_ = W1 at E B C ⊢
  have B_0 : W1.cell? ⟨g0 + 1, 0, none⟩ = some (.int .u32 (x.toNat : Int)) := B.out.cell 0
  have B_1 : W1.cell? ⟨g0 + 1, 1, none⟩ = some (.int .u32 (y.toNat : Int)) := B.out.cell 1
  have C_0 : W1.cell? ⟨g0 + 2, 0, none⟩ = some (.string ⟨a.toArray⟩) := C.out.cell 0
  have C_1 : W1.cell? ⟨g0 + 2, 1, none⟩ = some (.string ⟨b.toArray⟩) := C.out.cell 1
  go_wp2
  go_ret
  exact ⟨rfl, E.out⟩
end Go.Proofs.YtmhmcdpadmimlaaGreatDoor
