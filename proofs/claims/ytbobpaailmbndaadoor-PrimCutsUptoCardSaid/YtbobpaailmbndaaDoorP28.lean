/- The walk of PrimCuts. -/
import Derived.Test.YtbobpaailmbndaaDoorQ9
namespace Go.Proofs.YtbobpaailmbndaaDoor
open Go.RowKit Go.Sort
set_option linter.unusedVariables false

set_option maxRecDepth 20000 in
set_option maxHeartbeats 4000000 in
theorem PrimCuts_walk (p : Pfx) (n : Int) (w : World) (hal : p.addr.length ≤ 1048576) (hrd : p.rd < 18446744073709551616) (h1 : -9223372036854775808 ≤ n) (h2 : n ≤ 9223372036854775807) (hT : Tab w) (hD : Deb w) (hV : Vars w) :
    Calls Tryd.prog 3 #[valP p, .int .i64 n] w fun e w' => e = .returned (.bool true) ∧ Ext w w' := by
  have mixed : Tryd.prog.follows Departure.mixedOrders = true := by kernel_rfl
  have qwk := fun W (h : Ext w W) => works_any W (hT.ext h) (hV.ext h)
  have qcut := fun W => ACut_any p n W hal
  have qrct := fun W => RCut_any p n W hal
  have qtx := fun W (h : Ext w W) => AText_any p W hal hrd (hT.ext h) (hD.ext h)
  have qrt := fun W => RText_any p W hal hrd
  clear hT hD hV hrd hal h1 h2
  have heg : ∀ o x y xs ys W, (eqGuard o 24 x y (.agg xs) (.agg ys)).run Tryd.prog W = .ok () W := fun o x y xs ys W => run_eqGuard_agg W o _ x y xs ys Tryd.eqGuardType24
  generalize (cutS p n).2 = er at qcut qrct
  generalize (cutS p n).1 = c at qcut qrct
  generalize (textC p).2 = et at qtx qrt
  generalize (⟨(textC p).1.toArray⟩ : ByteArray) = S at qtx qrt
  have qn := fun W => neqF_run W c c rfl
  simp only [valP] at qcut qrct qtx qrt ⊢
  replace qwk := hide qwk
  replace qcut := hide qcut
  replace qrct := hide qrct
  replace qtx := hide qtx
  replace qrt := hide qrt
  go_enter Tryd.func3, Tryd.ntmps3
  have P := Blk.new w 24 #[.int .i64 p.fam, .int .u64 (p.rd : Int), .string ⟨p.addr.toArray⟩, .int .i64 p.len]
  have E := (Ext.refl w).alloc (Obj.cells #[.int .i64 p.fam, .int .u64 (p.rd : Int), .string ⟨p.addr.toArray⟩, .int .i64 p.len] 24)
  generalize hW0 : w.alloc (Obj.cells #[.int .i64 p.fam, .int .u64 (p.rd : Int), .string ⟨p.addr.toArray⟩, .int .i64 p.len] 24) = W0 at P E
  generalize hg0 : w.heap.size = g0 at P
  replace P := hide P
  replace E := hide E
  have P_0 : W0.cell? ⟨g0, 0, none⟩ = some (.int .i64 p.fam) := P.out.cell 0
  have P_1 : W0.cell? ⟨g0, 1, none⟩ = some (.int .u64 (p.rd : Int)) := P.out.cell 1
  have P_2 : W0.cell? ⟨g0, 2, none⟩ = some (.string ⟨p.addr.toArray⟩) := P.out.cell 2
  have P_3 : W0.cell? ⟨g0, 3, none⟩ = some (.int .i64 p.len) := P.out.cell 3
  go_wp2_with fail
  refine (qcut.out _).mono ?_
  rintro e W1 ⟨rfl, he_⟩
  clear P_0 P_1 P_2 P_3
  replace E := hide (E.out.trans he_)
  replace P := hide (P.out.ext he_)
  clear he_
  have P_0 : W1.cell? ⟨g0, 0, none⟩ = some (.int .i64 p.fam) := P.out.cell 0
  have P_1 : W1.cell? ⟨g0, 1, none⟩ = some (.int .u64 (p.rd : Int)) := P.out.cell 1
  have P_2 : W1.cell? ⟨g0, 2, none⟩ = some (.string ⟨p.addr.toArray⟩) := P.out.cell 2
  have P_3 : W1.cell? ⟨g0, 3, none⟩ = some (.int .i64 p.len) := P.out.cell 3
  clear hW0 hg0
  clear P_0 P_1 P_2 P_3
  have C := Blk.new W1 24 #[.int .i64 c.fam, .int .u64 (c.rd : Int), .string ⟨c.addr.toArray⟩, .int .i64 c.len]
  replace P := P.out.alloc (Obj.cells #[.int .i64 c.fam, .int .u64 (c.rd : Int), .string ⟨c.addr.toArray⟩, .int .i64 c.len] 24)
  replace E := E.out.alloc (Obj.cells #[.int .i64 c.fam, .int .u64 (c.rd : Int), .string ⟨c.addr.toArray⟩, .int .i64 c.len] 24)
  generalize hW2 : W1.alloc (Obj.cells #[.int .i64 c.fam, .int .u64 (c.rd : Int), .string ⟨c.addr.toArray⟩, .int .i64 c.len] 24) = W2 at P C E
  generalize hg2 : W1.heap.size = g2 at C
  replace P := hide P
  replace C := hide C
  replace E := hide E
  have P_0 : W2.cell? ⟨g0, 0, none⟩ = some (.int .i64 p.fam) := P.out.cell 0
  have P_1 : W2.cell? ⟨g0, 1, none⟩ = some (.int .u64 (p.rd : Int)) := P.out.cell 1
  have P_2 : W2.cell? ⟨g0, 2, none⟩ = some (.string ⟨p.addr.toArray⟩) := P.out.cell 2
  have P_3 : W2.cell? ⟨g0, 3, none⟩ = some (.int .i64 p.len) := P.out.cell 3
  have C_0 : W2.cell? ⟨g2, 0, none⟩ = some (.int .i64 c.fam) := C.out.cell 0
  have C_1 : W2.cell? ⟨g2, 1, none⟩ = some (.int .u64 (c.rd : Int)) := C.out.cell 1
  have C_2 : W2.cell? ⟨g2, 2, none⟩ = some (.string ⟨c.addr.toArray⟩) := C.out.cell 2
  have C_3 : W2.cell? ⟨g2, 3, none⟩ = some (.int .i64 c.len) := C.out.cell 3
  go_wp2_with fail
  refine (qrct.out _).mono ?_
  rintro e W3 ⟨rfl, he_⟩
  clear P_0 P_1 P_2 P_3 C_0 C_1 C_2 C_3
  replace E := hide (E.out.trans he_)
  replace P := hide (P.out.ext he_)
  replace C := hide (C.out.ext he_)
  clear he_
  have P_0 : W3.cell? ⟨g0, 0, none⟩ = some (.int .i64 p.fam) := P.out.cell 0
  have P_1 : W3.cell? ⟨g0, 1, none⟩ = some (.int .u64 (p.rd : Int)) := P.out.cell 1
  have P_2 : W3.cell? ⟨g0, 2, none⟩ = some (.string ⟨p.addr.toArray⟩) := P.out.cell 2
  have P_3 : W3.cell? ⟨g0, 3, none⟩ = some (.int .i64 p.len) := P.out.cell 3
  have C_0 : W3.cell? ⟨g2, 0, none⟩ = some (.int .i64 c.fam) := C.out.cell 0
  have C_1 : W3.cell? ⟨g2, 1, none⟩ = some (.int .u64 (c.rd : Int)) := C.out.cell 1
  have C_2 : W3.cell? ⟨g2, 2, none⟩ = some (.string ⟨c.addr.toArray⟩) := C.out.cell 2
  have C_3 : W3.cell? ⟨g2, 3, none⟩ = some (.int .i64 c.len) := C.out.cell 3
  clear hW2 hg2
  clear P_0 P_1 P_2 P_3 C_0 C_1 C_2 C_3
  have D := Blk.new W3 24 #[.int .i64 c.fam, .int .u64 (c.rd : Int), .string ⟨c.addr.toArray⟩, .int .i64 c.len]
  replace P := P.out.alloc (Obj.cells #[.int .i64 c.fam, .int .u64 (c.rd : Int), .string ⟨c.addr.toArray⟩, .int .i64 c.len] 24)
  replace C := C.out.alloc (Obj.cells #[.int .i64 c.fam, .int .u64 (c.rd : Int), .string ⟨c.addr.toArray⟩, .int .i64 c.len] 24)
  replace E := E.out.alloc (Obj.cells #[.int .i64 c.fam, .int .u64 (c.rd : Int), .string ⟨c.addr.toArray⟩, .int .i64 c.len] 24)
  generalize hW4 : W3.alloc (Obj.cells #[.int .i64 c.fam, .int .u64 (c.rd : Int), .string ⟨c.addr.toArray⟩, .int .i64 c.len] 24) = W4 at P C D E
  generalize hg4 : W3.heap.size = g4 at D
  replace P := hide P
  replace C := hide C
  replace D := hide D
  replace E := hide E
  have P_0 : W4.cell? ⟨g0, 0, none⟩ = some (.int .i64 p.fam) := P.out.cell 0
  have P_1 : W4.cell? ⟨g0, 1, none⟩ = some (.int .u64 (p.rd : Int)) := P.out.cell 1
  have P_2 : W4.cell? ⟨g0, 2, none⟩ = some (.string ⟨p.addr.toArray⟩) := P.out.cell 2
  have P_3 : W4.cell? ⟨g0, 3, none⟩ = some (.int .i64 p.len) := P.out.cell 3
  have C_0 : W4.cell? ⟨g2, 0, none⟩ = some (.int .i64 c.fam) := C.out.cell 0
  have C_1 : W4.cell? ⟨g2, 1, none⟩ = some (.int .u64 (c.rd : Int)) := C.out.cell 1
  have C_2 : W4.cell? ⟨g2, 2, none⟩ = some (.string ⟨c.addr.toArray⟩) := C.out.cell 2
  have C_3 : W4.cell? ⟨g2, 3, none⟩ = some (.int .i64 c.len) := C.out.cell 3
  have D_0 : W4.cell? ⟨g4, 0, none⟩ = some (.int .i64 c.fam) := D.out.cell 0
  have D_1 : W4.cell? ⟨g4, 1, none⟩ = some (.int .u64 (c.rd : Int)) := D.out.cell 1
  have D_2 : W4.cell? ⟨g4, 2, none⟩ = some (.string ⟨c.addr.toArray⟩) := D.out.cell 2
  have D_3 : W4.cell? ⟨g4, 3, none⟩ = some (.int .i64 c.len) := D.out.cell 3
  go_wp2_with fail
  refine (qtx.out _ E.out).mono ?_
  rintro e W5 ⟨rfl, he_⟩
  clear P_0 P_1 P_2 P_3 C_0 C_1 C_2 C_3 D_0 D_1 D_2 D_3
  replace E := hide (E.out.trans he_)
  replace P := hide (P.out.ext he_)
  clear he_
  have P_0 : W5.cell? ⟨g0, 0, none⟩ = some (.int .i64 p.fam) := P.out.cell 0
  have P_1 : W5.cell? ⟨g0, 1, none⟩ = some (.int .u64 (p.rd : Int)) := P.out.cell 1
  have P_2 : W5.cell? ⟨g0, 2, none⟩ = some (.string ⟨p.addr.toArray⟩) := P.out.cell 2
  have P_3 : W5.cell? ⟨g0, 3, none⟩ = some (.int .i64 p.len) := P.out.cell 3
  clear hW4 hg4 C D
  go_wp2_with fail
  refine (qrt.out _).mono ?_
  rintro e W6 ⟨rfl, he_⟩
  clear P_0 P_1 P_2 P_3
  replace E := hide (E.out.trans he_)
  clear he_
  go_wp2_with fail
  refine (qwk.out _ E.out).mono ?_
  rintro e W7 ⟨rfl, he_⟩
  replace E := hide (E.out.trans he_)
  clear he_
  go_wp2
  go_ret
  exact ⟨rfl, E.out⟩
end Go.Proofs.YtbobpaailmbndaaDoor
