/- The walk of PrimReads. -/
import Derived.Test.YtbobpaailmbndaaDoorS8
import Derived.Test.YtbobpaailmbndaaDoorQ8
import Derived.Test.YtbobpaailmbndaaDoorPE
import Derived.Test.YtbobpaailmbndaaDoorP23
namespace Go.Proofs.YtbobpaailmbndaaDoor
open Go.RowKit Go.Sort
set_option linter.unusedVariables false

set_option maxRecDepth 20000 in
set_option maxHeartbeats 4000000 in
theorem PrimReads_walk (s t b : List UInt8) (w : World) (hs : s.length ≤ 1048576) (ht : t.length ≤ 1048576) (hb : b.length ≤ 1048576) (hT : Tab w) (hD : Deb w) (hV : Vars w) :
    Calls Tryd.prog 4 #[.string ⟨s.toArray⟩, .string ⟨t.toArray⟩, .string ⟨b.toArray⟩] w fun e w' => e = .returned (.bool true) ∧ Ext w w' := by
  have mixed : Tryd.prog.follows Departure.mixedOrders = true := by kernel_rfl
  have qwk := fun W (h : Ext w W) => works_any W (hT.ext h) (hV.ext h)
  have qps := fun W (h : Ext w W) => AParse_any s hs W (hT.ext h) (hD.ext h) (hV.ext h)
  have qrps := fun W => RParse_any s W
  have qad := fun W (h : Ext w W) => AAddr_any t ht W (hT.ext h) (hD.ext h) (hV.ext h)
  have qrad := fun W => RAddr_any t W
  have qat := fun W (h : Ext w W) => AAddrText_any b hb W (hT.ext h) (hD.ext h)
  have qrat := fun W => RAddrText_any b hb W
  unfold PsP at qps qrps
  unfold AdP at qad qrad
  clear hT hD hV hs ht hb
  have heg : ∀ o x y xs ys W, (eqGuard o 24 x y (.agg xs) (.agg ys)).run Tryd.prog W = .ok () W := fun o x y xs ys W => run_eqGuard_agg W o _ x y xs ys Tryd.eqGuardType24
  generalize (parseC s).2 = er at qps qrps
  generalize (parseC s).1 = c at qps qrps
  generalize (addrC t).2 = et at qad qrad
  generalize (⟨(addrC t).1.toArray⟩ : ByteArray) = U at qad qrad
  generalize (addrT b).2 = eb at qat qrat
  generalize (⟨(addrT b).1.toArray⟩ : ByteArray) = V at qat qrat
  have qn := fun W => neqF_run W c c rfl
  simp only [valP] at qps qrps
  replace qwk := hide qwk
  replace qps := hide qps
  replace qrps := hide qrps
  replace qad := hide qad
  replace qrad := hide qrad
  replace qat := hide qat
  replace qrat := hide qrat
  go_enter Tryd.func4, Tryd.ntmps4
  have E := hide (Ext.refl w)
  go_wp2_with fail
  refine (qps.out _ E.out).mono ?_
  rintro e W1 ⟨rfl, he_⟩
  replace E := hide (E.out.trans he_)
  clear he_
  have C := Blk.new W1 24 #[.int .i64 c.fam, .int .u64 (c.rd : Int), .string ⟨c.addr.toArray⟩, .int .i64 c.len]
  replace E := E.out.alloc (Obj.cells #[.int .i64 c.fam, .int .u64 (c.rd : Int), .string ⟨c.addr.toArray⟩, .int .i64 c.len] 24)
  generalize hW2 : W1.alloc (Obj.cells #[.int .i64 c.fam, .int .u64 (c.rd : Int), .string ⟨c.addr.toArray⟩, .int .i64 c.len] 24) = W2 at C E
  generalize hg2 : W1.heap.size = g2 at C
  replace C := hide C
  replace E := hide E
  have C_0 : W2.cell? ⟨g2, 0, none⟩ = some (.int .i64 c.fam) := C.out.cell 0
  have C_1 : W2.cell? ⟨g2, 1, none⟩ = some (.int .u64 (c.rd : Int)) := C.out.cell 1
  have C_2 : W2.cell? ⟨g2, 2, none⟩ = some (.string ⟨c.addr.toArray⟩) := C.out.cell 2
  have C_3 : W2.cell? ⟨g2, 3, none⟩ = some (.int .i64 c.len) := C.out.cell 3
  go_wp2_with fail
  refine (qrps.out _).mono ?_
  rintro e W3 ⟨rfl, he_⟩
  clear C_0 C_1 C_2 C_3
  replace E := hide (E.out.trans he_)
  replace C := hide (C.out.ext he_)
  clear he_
  have C_0 : W3.cell? ⟨g2, 0, none⟩ = some (.int .i64 c.fam) := C.out.cell 0
  have C_1 : W3.cell? ⟨g2, 1, none⟩ = some (.int .u64 (c.rd : Int)) := C.out.cell 1
  have C_2 : W3.cell? ⟨g2, 2, none⟩ = some (.string ⟨c.addr.toArray⟩) := C.out.cell 2
  have C_3 : W3.cell? ⟨g2, 3, none⟩ = some (.int .i64 c.len) := C.out.cell 3
  clear hW2 hg2
  clear C_0 C_1 C_2 C_3
  have D := Blk.new W3 24 #[.int .i64 c.fam, .int .u64 (c.rd : Int), .string ⟨c.addr.toArray⟩, .int .i64 c.len]
  replace C := C.out.alloc (Obj.cells #[.int .i64 c.fam, .int .u64 (c.rd : Int), .string ⟨c.addr.toArray⟩, .int .i64 c.len] 24)
  replace E := E.out.alloc (Obj.cells #[.int .i64 c.fam, .int .u64 (c.rd : Int), .string ⟨c.addr.toArray⟩, .int .i64 c.len] 24)
  generalize hW4 : W3.alloc (Obj.cells #[.int .i64 c.fam, .int .u64 (c.rd : Int), .string ⟨c.addr.toArray⟩, .int .i64 c.len] 24) = W4 at C D E
  generalize hg4 : W3.heap.size = g4 at D
  replace C := hide C
  replace D := hide D
  replace E := hide E
  have C_0 : W4.cell? ⟨g2, 0, none⟩ = some (.int .i64 c.fam) := C.out.cell 0
  have C_1 : W4.cell? ⟨g2, 1, none⟩ = some (.int .u64 (c.rd : Int)) := C.out.cell 1
  have C_2 : W4.cell? ⟨g2, 2, none⟩ = some (.string ⟨c.addr.toArray⟩) := C.out.cell 2
  have C_3 : W4.cell? ⟨g2, 3, none⟩ = some (.int .i64 c.len) := C.out.cell 3
  have D_0 : W4.cell? ⟨g4, 0, none⟩ = some (.int .i64 c.fam) := D.out.cell 0
  have D_1 : W4.cell? ⟨g4, 1, none⟩ = some (.int .u64 (c.rd : Int)) := D.out.cell 1
  have D_2 : W4.cell? ⟨g4, 2, none⟩ = some (.string ⟨c.addr.toArray⟩) := D.out.cell 2
  have D_3 : W4.cell? ⟨g4, 3, none⟩ = some (.int .i64 c.len) := D.out.cell 3
  go_wp2_with fail
  refine (qad.out _ E.out).mono ?_
  rintro e W5 ⟨rfl, he_⟩
  clear C_0 C_1 C_2 C_3 D_0 D_1 D_2 D_3
  replace E := hide (E.out.trans he_)
  clear he_
  clear hW4 hg4 C D
  go_wp2_with fail
  refine (qrad.out _).mono ?_
  rintro e W6 ⟨rfl, he_⟩
  replace E := hide (E.out.trans he_)
  clear he_
  go_wp2_with fail
  refine (qat.out _ E.out).mono ?_
  rintro e W7 ⟨rfl, he_⟩
  replace E := hide (E.out.trans he_)
  clear he_
  go_wp2_with fail
  refine (qrat.out _).mono ?_
  rintro e W8 ⟨rfl, he_⟩
  replace E := hide (E.out.trans he_)
  clear he_
  go_wp2_with fail
  refine (qwk.out _ E.out).mono ?_
  rintro e W9 ⟨rfl, he_⟩
  replace E := hide (E.out.trans he_)
  clear he_
  go_wp2
  go_ret
  exact ⟨rfl, E.out⟩
end Go.Proofs.YtbobpaailmbndaaDoor
