/- The walk of PrimKnown (printed by genp31.py). -/
import Derived.Test.YtbobpaailmbndaaDoorS9
import Derived.Test.YtbobpaailmbndaaDoorS5
import Derived.Test.YtbobpaailmbndaaDoorQ7
import Derived.Test.YtbobpaailmbndaaDoorPE
import Derived.Test.YtbobpaailmbndaaDoorP23
namespace Go.Proofs.YtbobpaailmbndaaDoor
open Go.RowKit Go.Sort
set_option linter.unusedVariables false

def kp : Pfx := ⟨1, 0, [10, 1, 0, 0], 16⟩
def kq : Pfx := ⟨3, 0, [10, 1, 0, 0], 16⟩
def kb : Pfx := ⟨1, 1, [10, 1, 0, 0], 16⟩
theorem kp_parse : parseC [118, 52, 32, 49, 48, 46, 49, 46, 48, 46, 48, 47, 49, 54] = (kp, 0) := by rw [parseK_eq]; decide +kernel
theorem kq_parse : parseC [108, 52, 32, 49, 48, 46, 49, 46, 48, 46, 48, 47, 49, 54] = (kq, 0) := by rw [parseK_eq]; decide +kernel
theorem kp_cut : cutS kp 17 = (zeroP, 2) := if_neg fun h => absurd h.2.2 (by decide)
theorem kp_cut1 : cutS kp (-1) = (zeroP, 2) := if_neg fun h => absurd h.2.1 (by decide)
theorem k_at : addrT [49, 50, 51] = ([], 2) := by decide +kernel
theorem kpq : covB kp kq = false := decide_eq_false fun h => absurd (congrArg Pfx.fam h.2.2.2) (by decide)
theorem kb_may : errP (MayP kb) = 2 := if_neg fun h => absurd ((mayK_iff _).1 h) (by decide +kernel)
theorem kz_may : errP (MayP zeroP) = 2 := if_neg fun h => absurd ((mayK_iff _).1 h) (by decide +kernel)
theorem kb4 : bitV (bitZ [10, 1, 0, 0] 4) = 1 := by decide +kernel
theorem kb32 : bitV (bitZ [10, 1, 0, 0] 32) = 0 := by decide +kernel
theorem kbm : bitV (bitZ [10, 1, 0, 0] (-1)) = 0 := by decide +kernel
set_option maxRecDepth 20000 in
set_option maxHeartbeats 4000000 in
theorem PrimKnown_walk (w : World) (hT : Tab w) (hD : Deb w) (hV : Vars w) :
    Calls Tryd.prog 9 #[] w fun e w' => e = .returned (.bool true) ∧ Ext w w' := by
  have mixed : Tryd.prog.follows Departure.mixedOrders = true := by kernel_rfl
  have heg : ∀ o x y xs ys W, (eqGuard o 24 x y (.agg xs) (.agg ys)).run Tryd.prog W = .ok () W := fun o x y xs ys W => run_eqGuard_agg W o _ x y xs ys Tryd.eqGuardType24
  have qn : ∀ W, (binOp .neq 24 (.agg #[.int .i64 0, .int .u64 0, .string ⟨#[]⟩, .int .i64 0]) (.agg #[.int .i64 0, .int .u64 0, .string ⟨#[]⟩, .int .i64 0])).run Tryd.prog W = .ok (.bool false) W := fun W => neqF_run W zeroP zeroP rfl
  have qwk := fun W (h : Ext w W) => works_any W (hT.ext h) (hV.ext h)
  have qgood : ∀ (s : List UInt8) (q : Pfx), MayP q → q.rd ≤ 18446744073709551615 → textP q = s → s.length ≤ 100 → ∀ W, Ext w W → Calls Tryd.prog 15 #[.string ⟨s.toArray⟩] W fun e w' => e = .returned (.tuple #[.agg #[.int .i64 q.fam, .int .u64 (q.rd : Int), .string ⟨q.addr.toArray⟩, .int .i64 q.len], .int .i64 0]) ∧ Ext W w' := fun s q hm hr ht hl W h => by
    have := AParse_any s (by omega) W (hT.ext h) (hD.ext h) (hV.ext h)
    unfold PsP at this
    rw [← ht, text_parse hm hr] at this
    rw [← ht]
    exact this
  have qtext : ∀ (s : List UInt8) (q : Pfx), MayP q → q.rd ≤ 18446744073709551615 → textP q = s → ∀ W, Ext w W → Calls Tryd.prog 12 #[.agg #[.int .i64 q.fam, .int .u64 (q.rd : Int), .string ⟨q.addr.toArray⟩, .int .i64 q.len]] W fun e w' => e = .returned (.tuple #[.string ⟨s.toArray⟩, .int .i64 0]) ∧ Ext W w' := fun s q hm hr ht W h => by
    have := AText_any q W (by have := hm.1.small; omega) (by omega) (hT.ext h) (hD.ext h)
    rw [show textC q = (s, 0) from by rw [← ht]; exact if_pos hm] at this
    exact this
  have qbad : ∀ (s : List UInt8), parseC s = errC → s.length ≤ 100 → ∀ W, Ext w W → Calls Tryd.prog 15 #[.string ⟨s.toArray⟩] W fun e w' => e = .returned (.tuple #[.agg #[.int .i64 0, .int .u64 0, .string ⟨#[]⟩, .int .i64 0], .int .i64 4]) ∧ Ext W w' := fun s hp hl W h => by
    have := AParse_any s (by omega) W (hT.ext h) (hD.ext h) (hV.ext h)
    unfold PsP at this
    rw [hp] at this
    exact this
  have qbadA : ∀ (s : List UInt8), addrC s = ([], 4) → s.length ≤ 100 → ∀ W, Ext w W → Calls Tryd.prog 17 #[.string ⟨s.toArray⟩] W fun e w' => e = .returned (.tuple #[.string ⟨#[]⟩, .int .i64 4]) ∧ Ext W w' := fun s hp hl W h => by
    have := AAddr_any s (by omega) W (hT.ext h) (hD.ext h) (hV.ext h)
    unfold AdP at this
    rw [hp] at this
    exact this
  have qp : ∀ W, Ext w W → Calls Tryd.prog 15 #[.string ⟨#[118, 52, 32, 49, 48, 46, 49, 46, 48, 46, 48, 47, 49, 54]⟩] W fun e w' => e = .returned (.tuple #[.agg #[.int .i64 1, .int .u64 0, .string ⟨#[10, 1, 0, 0]⟩, .int .i64 16], .int .i64 0]) ∧ Ext W w' := fun W h => by
    have := AParse_any [118, 52, 32, 49, 48, 46, 49, 46, 48, 46, 48, 47, 49, 54] (by decide) W (hT.ext h) (hD.ext h) (hV.ext h)
    unfold PsP at this
    rw [kp_parse] at this
    exact this
  have qq : ∀ W, Ext w W → Calls Tryd.prog 15 #[.string ⟨#[108, 52, 32, 49, 48, 46, 49, 46, 48, 46, 48, 47, 49, 54]⟩] W fun e w' => e = .returned (.tuple #[.agg #[.int .i64 3, .int .u64 0, .string ⟨#[10, 1, 0, 0]⟩, .int .i64 16], .int .i64 0]) ∧ Ext W w' := fun W h => by
    have := AParse_any [108, 52, 32, 49, 48, 46, 49, 46, 48, 46, 48, 47, 49, 54] (by decide) W (hT.ext h) (hD.ext h) (hV.ext h)
    unfold PsP at this
    rw [kq_parse] at this
    exact this
  have qc17 : ∀ W, Calls Tryd.prog 10 #[.agg #[.int .i64 1, .int .u64 0, .string ⟨#[10, 1, 0, 0]⟩, .int .i64 16], .int .i64 17] W fun e w' => e = .returned (.tuple #[.agg #[.int .i64 0, .int .u64 0, .string ⟨#[]⟩, .int .i64 0], .int .i64 2]) ∧ Ext W w' := fun W => by
    have := ACut_any kp 17 W (by decide)
    rw [kp_cut] at this
    exact this
  have qcm1 : ∀ W, Calls Tryd.prog 10 #[.agg #[.int .i64 1, .int .u64 0, .string ⟨#[10, 1, 0, 0]⟩, .int .i64 16], .int .i64 (-1)] W fun e w' => e = .returned (.tuple #[.agg #[.int .i64 0, .int .u64 0, .string ⟨#[]⟩, .int .i64 0], .int .i64 2]) ∧ Ext W w' := fun W => by
    have := ACut_any kp (-1) W (by decide)
    rw [kp_cut1] at this
    exact this
  have qat : ∀ W, Ext w W → Calls Tryd.prog 19 #[.string ⟨#[49, 50, 51]⟩] W fun e w' => e = .returned (.tuple #[.string ⟨#[]⟩, .int .i64 2]) ∧ Ext W w' := fun W h => by
    have := AAddrText_any [49, 50, 51] (by decide) W (hT.ext h) (hD.ext h)
    rw [k_at] at this
    exact this
  have qcov : ∀ W, Calls Tryd.prog 26 #[.agg #[.int .i64 1, .int .u64 0, .string ⟨#[10, 1, 0, 0]⟩, .int .i64 16], .agg #[.int .i64 3, .int .u64 0, .string ⟨#[10, 1, 0, 0]⟩, .int .i64 16]] W fun e w' => e = .returned (.bool false) ∧ Ext W w' := fun W => by
    have := ACov_any kp kq W (by decide) (by decide)
    rw [kpq] at this
    exact this
  have qb4 : ∀ W, Calls Tryd.prog 30 #[.string ⟨#[10, 1, 0, 0]⟩, .int .i64 4] W fun e w' => e = .returned (.int .i64 1) ∧ W = w' := fun W => by
    have := ABit_any [10, 1, 0, 0] 4 W (by decide) (by decide) (by decide)
    rw [kb4] at this
    exact this
  have qb32 : ∀ W, Calls Tryd.prog 30 #[.string ⟨#[10, 1, 0, 0]⟩, .int .i64 32] W fun e w' => e = .returned (.int .i64 0) ∧ W = w' := fun W => by
    have := ABit_any [10, 1, 0, 0] 32 W (by decide) (by decide) (by decide)
    rw [kb32] at this
    exact this
  have qbm : ∀ W, Calls Tryd.prog 30 #[.string ⟨#[10, 1, 0, 0]⟩, .int .i64 (-1)] W fun e w' => e = .returned (.int .i64 0) ∧ W = w' := fun W => by
    have := ABit_any [10, 1, 0, 0] (-1) W (by decide) (by decide) (by decide)
    rw [kbm] at this
    exact this
  have qs0 : ∀ W, Calls Tryd.prog 28 #[.int .i64 0] W fun e w' => e = .returned (.int .i64 0) ∧ W = w' := fun W => ASize_any 0 W
  have qs6 : ∀ W, Calls Tryd.prog 28 #[.int .i64 6] W fun e w' => e = .returned (.int .i64 0) ∧ W = w' := fun W => ASize_any 6 W
  have qs5 : ∀ W, Calls Tryd.prog 28 #[.int .i64 5] W fun e w' => e = .returned (.int .i64 16) ∧ W = w' := fun W => ASize_any 5 W
  have qkb : ∀ W, Calls Tryd.prog 23 #[.agg #[.int .i64 1, .int .u64 1, .string ⟨#[10, 1, 0, 0]⟩, .int .i64 16]] W fun e w' => e = .returned (.int .i64 2) ∧ Ext W w' := fun W => by
    have := ACheck_any kb W (by decide)
    rw [kb_may] at this
    exact this
  have qkz : ∀ W, Calls Tryd.prog 23 #[.agg #[.int .i64 0, .int .u64 0, .string ⟨#[]⟩, .int .i64 0]] W fun e w' => e = .returned (.int .i64 2) ∧ Ext W w' := fun W => by
    have := ACheck_any zeroP W (by decide)
    rw [kz_may] at this
    exact this
  clear hT hD hV
  replace qwk := hide qwk
  replace qgood := hide qgood
  replace qtext := hide qtext
  replace qbad := hide qbad
  replace qbadA := hide qbadA
  replace qp := hide qp
  replace qq := hide qq
  replace qc17 := hide qc17
  replace qcm1 := hide qcm1
  replace qat := hide qat
  replace qcov := hide qcov
  replace qb4 := hide qb4
  replace qb32 := hide qb32
  replace qbm := hide qbm
  replace qs0 := hide qs0
  replace qs6 := hide qs6
  replace qs5 := hide qs5
  replace qkb := hide qkb
  replace qkz := hide qkz
  go_enter Tryd.func9, Tryd.ntmps9
  have E := hide (Ext.refl w)
  have B := Blk.new w 9 #[.string ⟨#[118, 52, 32, 49, 48, 46, 48, 46, 48, 46, 48, 47, 56]⟩, .string ⟨#[118, 54, 32, 49, 58, 48, 58, 48, 58, 48, 58, 48, 58, 48, 58, 48, 58, 48, 47, 51, 50]⟩, .string ⟨#[108, 52, 32, 48, 46, 48, 46, 48, 46, 48, 47, 48]⟩, .string ⟨#[118, 112, 110, 54, 32, 49, 56, 52, 52, 54, 55, 52, 52, 48, 55, 51, 55, 48, 57, 53, 53, 49, 54, 49, 53, 32, 48, 58, 48, 58, 48, 58, 48, 58, 48, 58, 48, 58, 48, 58, 48, 47, 48]⟩, .string ⟨#[118, 52, 32, 50, 53, 53, 46, 50, 53, 53, 46, 50, 53, 53, 46, 50, 53, 53, 47, 51, 50]⟩]
  replace E := E.out.alloc (Obj.cells #[.string ⟨#[118, 52, 32, 49, 48, 46, 48, 46, 48, 46, 48, 47, 56]⟩, .string ⟨#[118, 54, 32, 49, 58, 48, 58, 48, 58, 48, 58, 48, 58, 48, 58, 48, 58, 48, 47, 51, 50]⟩, .string ⟨#[108, 52, 32, 48, 46, 48, 46, 48, 46, 48, 47, 48]⟩, .string ⟨#[118, 112, 110, 54, 32, 49, 56, 52, 52, 54, 55, 52, 52, 48, 55, 51, 55, 48, 57, 53, 53, 49, 54, 49, 53, 32, 48, 58, 48, 58, 48, 58, 48, 58, 48, 58, 48, 58, 48, 58, 48, 47, 48]⟩, .string ⟨#[118, 52, 32, 50, 53, 53, 46, 50, 53, 53, 46, 50, 53, 53, 46, 50, 53, 53, 47, 51, 50]⟩] 9)
  generalize hW : w.alloc (Obj.cells #[.string ⟨#[118, 52, 32, 49, 48, 46, 48, 46, 48, 46, 48, 47, 56]⟩, .string ⟨#[118, 54, 32, 49, 58, 48, 58, 48, 58, 48, 58, 48, 58, 48, 58, 48, 58, 48, 47, 51, 50]⟩, .string ⟨#[108, 52, 32, 48, 46, 48, 46, 48, 46, 48, 47, 48]⟩, .string ⟨#[118, 112, 110, 54, 32, 49, 56, 52, 52, 54, 55, 52, 52, 48, 55, 51, 55, 48, 57, 53, 53, 49, 54, 49, 53, 32, 48, 58, 48, 58, 48, 58, 48, 58, 48, 58, 48, 58, 48, 58, 48, 47, 48]⟩, .string ⟨#[118, 52, 32, 50, 53, 53, 46, 50, 53, 53, 46, 50, 53, 53, 46, 50, 53, 53, 47, 51, 50]⟩] 9) = W1 at B E
  generalize hg : w.heap.size = g1 at B
  have hc : ∀ k (h : k < 5), W1.cell? ⟨g1, k, none⟩ = some (.string ⟨(goodL[k]'(by exact h)).toArray⟩) := fun k h => (B.cell k).trans (match k, h with
    | 0, _ => rfl
    | 1, _ => rfl
    | 2, _ => rfl
    | 3, _ => rfl
    | 4, _ => rfl)
  clear B
  replace E := hide E
  replace hc := hide hc
  go_wp2_with fail
  clear hW hg
  go_loopw [28] (fun q wr => ∃ k : Nat, k ≤ 5 ∧ q = .int .i64 (k : Int) ∧ Ext W1 wr) (fun q _ => 5 - (intOf q).toNat)
  case atStart => exact ⟨0, by omega, rfl, Ext.refl _⟩
  case round =>
    obtain ⟨k, hk, rfl, hE⟩ := hrel
    rename World => W2
    replace hE := hide hE
    by_cases hlt : k < 5
    · obtain ⟨q, hm, hr, ht, hl⟩ := good_at k hlt
      have x0 : W2.cell? ⟨g1, k, none⟩ = some (.string ⟨(goodL[k]'(by exact hlt)).toArray⟩) := hE.out.cell (hc.out k hlt)
      have q1 := qgood.out _ q hm hr ht hl
      have q2 := qtext.out _ q hm hr ht
      clear hm hr ht hl
      generalize (goodL[k]'(by exact hlt)) = S at x0 q1 q2
      have E2 := hide (E.out.trans hE.out)
      replace q1 := hide q1
      replace q2 := hide q2
      go_wp2_with fail
      refine (q1.out _ E2.out).mono ?_
      rintro e W3 ⟨rfl, he_⟩
      replace E2 := hide (E2.out.trans he_)
      replace hE := hide (hE.out.trans he_)
      clear he_
      clear x0
      have C := Blk.new W3 24 #[.int .i64 q.fam, .int .u64 (q.rd : Int), .string ⟨q.addr.toArray⟩, .int .i64 q.len]
      replace E2 := E2.out.alloc (Obj.cells #[.int .i64 q.fam, .int .u64 (q.rd : Int), .string ⟨q.addr.toArray⟩, .int .i64 q.len] 24)
      replace hE := hE.out.alloc (Obj.cells #[.int .i64 q.fam, .int .u64 (q.rd : Int), .string ⟨q.addr.toArray⟩, .int .i64 q.len] 24)
      generalize hW4 : W3.alloc (Obj.cells #[.int .i64 q.fam, .int .u64 (q.rd : Int), .string ⟨q.addr.toArray⟩, .int .i64 q.len] 24) = W4 at C E2 hE
      generalize hg4 : W3.heap.size = g4 at C
      replace C := hide C
      replace E2 := hide E2
      replace hE := hide hE
      have C_0 : W4.cell? ⟨g4, 0, none⟩ = some (.int .i64 q.fam) := C.out.cell 0
      have C_1 : W4.cell? ⟨g4, 1, none⟩ = some (.int .u64 (q.rd : Int)) := C.out.cell 1
      have C_2 : W4.cell? ⟨g4, 2, none⟩ = some (.string ⟨q.addr.toArray⟩) := C.out.cell 2
      have C_3 : W4.cell? ⟨g4, 3, none⟩ = some (.int .i64 q.len) := C.out.cell 3
      go_wp2_with fail
      refine (q2.out _ E2.out).mono ?_
      rintro e W5 ⟨rfl, he_⟩
      clear C_0 C_1 C_2 C_3
      replace hE := hide (hE.out.trans he_)
      clear he_
      clear hW4 hg4 C
      go_wp2
      go_roundw
      case rel => exact ⟨k + 1, by omega, by go_num, hE.out⟩
      case measure => simp [intOf]; omega
    · obtain rfl : k = 5 := by omega
      clear hlt hk hc qgood qtext
      replace E := hide (E.out.trans hE.out)
      clear hE
      have B := Blk.new W2 9 #[.string ⟨#[118, 52, 32, 49, 48, 46, 48, 46, 48, 46, 49, 47, 56]⟩, .string ⟨#[118, 52, 32, 49, 48, 46, 48, 46, 48, 46, 48, 47, 51, 51]⟩, .string ⟨#[118, 52, 32, 48, 49, 48, 46, 48, 46, 48, 46, 48, 47, 56]⟩, .string ⟨#[118, 53, 32, 49, 48, 46, 48, 46, 48, 46, 48, 47, 56]⟩, .string ⟨#[118, 112, 110, 52, 32, 49, 48, 46, 48, 46, 48, 46, 48, 47, 56]⟩, .string ⟨#[118, 52, 32, 55, 32, 49, 48, 46, 48, 46, 48, 46, 48, 47, 56]⟩, .string ⟨#[118, 54, 32, 49, 48, 46, 48, 46, 48, 46, 48, 47, 56]⟩, .string ⟨#[118, 52, 32, 49, 48, 46, 48, 46, 48, 46, 48]⟩, .string ⟨#[118, 52, 32, 49, 48, 46, 48, 46, 48, 46, 48, 47, 56, 32]⟩, .string ⟨#[]⟩, .string ⟨#[118, 112, 110, 52, 32, 49, 56, 52, 52, 54, 55, 52, 52, 48, 55, 51, 55, 48, 57, 53, 53, 49, 54, 49, 54, 32, 49, 48, 46, 48, 46, 48, 46, 48, 47, 56]⟩, .string ⟨#[118, 52, 32, 49, 48, 46, 48, 46, 48, 46, 48, 47, 48, 56]⟩]
      replace E := E.out.alloc (Obj.cells #[.string ⟨#[118, 52, 32, 49, 48, 46, 48, 46, 48, 46, 49, 47, 56]⟩, .string ⟨#[118, 52, 32, 49, 48, 46, 48, 46, 48, 46, 48, 47, 51, 51]⟩, .string ⟨#[118, 52, 32, 48, 49, 48, 46, 48, 46, 48, 46, 48, 47, 56]⟩, .string ⟨#[118, 53, 32, 49, 48, 46, 48, 46, 48, 46, 48, 47, 56]⟩, .string ⟨#[118, 112, 110, 52, 32, 49, 48, 46, 48, 46, 48, 46, 48, 47, 56]⟩, .string ⟨#[118, 52, 32, 55, 32, 49, 48, 46, 48, 46, 48, 46, 48, 47, 56]⟩, .string ⟨#[118, 54, 32, 49, 48, 46, 48, 46, 48, 46, 48, 47, 56]⟩, .string ⟨#[118, 52, 32, 49, 48, 46, 48, 46, 48, 46, 48]⟩, .string ⟨#[118, 52, 32, 49, 48, 46, 48, 46, 48, 46, 48, 47, 56, 32]⟩, .string ⟨#[]⟩, .string ⟨#[118, 112, 110, 52, 32, 49, 56, 52, 52, 54, 55, 52, 52, 48, 55, 51, 55, 48, 57, 53, 53, 49, 54, 49, 54, 32, 49, 48, 46, 48, 46, 48, 46, 48, 47, 56]⟩, .string ⟨#[118, 52, 32, 49, 48, 46, 48, 46, 48, 46, 48, 47, 48, 56]⟩] 9)
      generalize hW : W2.alloc (Obj.cells #[.string ⟨#[118, 52, 32, 49, 48, 46, 48, 46, 48, 46, 49, 47, 56]⟩, .string ⟨#[118, 52, 32, 49, 48, 46, 48, 46, 48, 46, 48, 47, 51, 51]⟩, .string ⟨#[118, 52, 32, 48, 49, 48, 46, 48, 46, 48, 46, 48, 47, 56]⟩, .string ⟨#[118, 53, 32, 49, 48, 46, 48, 46, 48, 46, 48, 47, 56]⟩, .string ⟨#[118, 112, 110, 52, 32, 49, 48, 46, 48, 46, 48, 46, 48, 47, 56]⟩, .string ⟨#[118, 52, 32, 55, 32, 49, 48, 46, 48, 46, 48, 46, 48, 47, 56]⟩, .string ⟨#[118, 54, 32, 49, 48, 46, 48, 46, 48, 46, 48, 47, 56]⟩, .string ⟨#[118, 52, 32, 49, 48, 46, 48, 46, 48, 46, 48]⟩, .string ⟨#[118, 52, 32, 49, 48, 46, 48, 46, 48, 46, 48, 47, 56, 32]⟩, .string ⟨#[]⟩, .string ⟨#[118, 112, 110, 52, 32, 49, 56, 52, 52, 54, 55, 52, 52, 48, 55, 51, 55, 48, 57, 53, 53, 49, 54, 49, 54, 32, 49, 48, 46, 48, 46, 48, 46, 48, 47, 56]⟩, .string ⟨#[118, 52, 32, 49, 48, 46, 48, 46, 48, 46, 48, 47, 48, 56]⟩] 9) = W3 at B E
      generalize hg : W2.heap.size = g3 at B
      have hc : ∀ k (h : k < 12), W3.cell? ⟨g3, k, none⟩ = some (.string ⟨(badL[k]'(by exact h)).toArray⟩) := fun k h => (B.cell k).trans (match k, h with
        | 0, _ => rfl
        | 1, _ => rfl
        | 2, _ => rfl
        | 3, _ => rfl
        | 4, _ => rfl
        | 5, _ => rfl
        | 6, _ => rfl
        | 7, _ => rfl
        | 8, _ => rfl
        | 9, _ => rfl
        | 10, _ => rfl
        | 11, _ => rfl)
      clear B
      replace E := hide E
      replace hc := hide hc
      go_wp2_with fail
      clear hW hg
      go_loopw [56] (fun q wr => ∃ k : Nat, k ≤ 12 ∧ q = .int .i64 (k : Int) ∧ Ext W3 wr) (fun q _ => 12 - (intOf q).toNat)
      case atStart => exact ⟨0, by omega, rfl, Ext.refl _⟩
      case round =>
        obtain ⟨k, hk, rfl, hE⟩ := hrel
        rename World => W4
        replace hE := hide hE
        by_cases hlt : k < 12
        · have x0 : W4.cell? ⟨g3, k, none⟩ = some (.string ⟨(badL[k]'(by exact hlt)).toArray⟩) := hE.out.cell (hc.out k hlt)
          have q1 := qbad.out _ (bad_at k hlt) (bad_len k hlt)
          generalize (badL[k]'(by exact hlt)) = S at x0 q1
          have E2 := hide (E.out.trans hE.out)
          replace q1 := hide q1
          go_wp2_with fail
          refine (q1.out _ E2.out).mono ?_
          rintro e W5 ⟨rfl, he_⟩
          replace hE := hide (hE.out.trans he_)
          clear he_
          clear x0
          replace hE := hide (hE.out.alloc (Obj.cells #[.int .i64 0, .int .u64 0, .string ⟨#[]⟩, .int .i64 0] 24))
          go_wp2
          go_roundw
          case rel => exact ⟨k + 1, by omega, by go_num, hE.out⟩
          case measure => simp [intOf]; omega
        · obtain rfl : k = 12 := by omega
          clear hlt hk hc qbad
          replace E := hide (E.out.trans hE.out)
          clear hE
          have B := Blk.new W4 9 #[.string ⟨#[49, 46, 50, 46, 51]⟩, .string ⟨#[50, 53, 54, 46, 48, 46, 48, 46, 48]⟩, .string ⟨#[48, 58, 48, 58, 48, 58, 48, 58, 48, 58, 48, 58, 48, 58, 71]⟩, .string ⟨#[48, 48, 58, 48, 58, 48, 58, 48, 58, 48, 58, 48, 58, 48, 58, 48]⟩, .string ⟨#[]⟩, .string ⟨#[48, 58, 48, 58, 48, 58, 48, 58, 48, 58, 48, 58, 48, 58, 49, 48, 48, 48, 48]⟩, .string ⟨#[58, 58, 49]⟩, .string ⟨#[49, 46, 50, 46, 51, 46, 52, 46, 53]⟩]
          replace E := E.out.alloc (Obj.cells #[.string ⟨#[49, 46, 50, 46, 51]⟩, .string ⟨#[50, 53, 54, 46, 48, 46, 48, 46, 48]⟩, .string ⟨#[48, 58, 48, 58, 48, 58, 48, 58, 48, 58, 48, 58, 48, 58, 71]⟩, .string ⟨#[48, 48, 58, 48, 58, 48, 58, 48, 58, 48, 58, 48, 58, 48, 58, 48]⟩, .string ⟨#[]⟩, .string ⟨#[48, 58, 48, 58, 48, 58, 48, 58, 48, 58, 48, 58, 48, 58, 49, 48, 48, 48, 48]⟩, .string ⟨#[58, 58, 49]⟩, .string ⟨#[49, 46, 50, 46, 51, 46, 52, 46, 53]⟩] 9)
          generalize hW : W4.alloc (Obj.cells #[.string ⟨#[49, 46, 50, 46, 51]⟩, .string ⟨#[50, 53, 54, 46, 48, 46, 48, 46, 48]⟩, .string ⟨#[48, 58, 48, 58, 48, 58, 48, 58, 48, 58, 48, 58, 48, 58, 71]⟩, .string ⟨#[48, 48, 58, 48, 58, 48, 58, 48, 58, 48, 58, 48, 58, 48, 58, 48]⟩, .string ⟨#[]⟩, .string ⟨#[48, 58, 48, 58, 48, 58, 48, 58, 48, 58, 48, 58, 48, 58, 49, 48, 48, 48, 48]⟩, .string ⟨#[58, 58, 49]⟩, .string ⟨#[49, 46, 50, 46, 51, 46, 52, 46, 53]⟩] 9) = W5 at B E
          generalize hg : W4.heap.size = g5 at B
          have hc : ∀ k (h : k < 8), W5.cell? ⟨g5, k, none⟩ = some (.string ⟨(badA[k]'(by exact h)).toArray⟩) := fun k h => (B.cell k).trans (match k, h with
            | 0, _ => rfl
            | 1, _ => rfl
            | 2, _ => rfl
            | 3, _ => rfl
            | 4, _ => rfl
            | 5, _ => rfl
            | 6, _ => rfl
            | 7, _ => rfl)
          clear B
          replace E := hide E
          replace hc := hide hc
          go_wp2_with fail
          clear hW hg
          go_loopw [75] (fun q wr => ∃ k : Nat, k ≤ 8 ∧ q = .int .i64 (k : Int) ∧ Ext W5 wr) (fun q _ => 8 - (intOf q).toNat)
          case atStart => exact ⟨0, by omega, rfl, Ext.refl _⟩
          case round =>
            obtain ⟨k, hk, rfl, hE⟩ := hrel
            rename World => W6
            replace hE := hide hE
            by_cases hlt : k < 8
            · have x0 : W6.cell? ⟨g5, k, none⟩ = some (.string ⟨(badA[k]'(by exact hlt)).toArray⟩) := hE.out.cell (hc.out k hlt)
              have q1 := qbadA.out _ (badA_at k hlt) (badA_len k hlt)
              generalize (badA[k]'(by exact hlt)) = S at x0 q1
              have E2 := hide (E.out.trans hE.out)
              replace q1 := hide q1
              go_wp2_with fail
              refine (q1.out _ E2.out).mono ?_
              rintro e W7 ⟨rfl, he_⟩
              replace hE := hide (hE.out.trans he_)
              clear he_
              clear x0
              go_wp2
              go_roundw
              case rel => first | exact ⟨k + 1, by omega, by go_num, hE.out⟩ | exact ⟨_, _, _, _, _, _, _, _, _, _, _, _, _, _, _, _, ⟨k + 1, by omega, by go_num, hE.out⟩, rfl⟩
              case measure => simp [intOf]; omega
            · obtain rfl : k = 8 := by omega
              clear hlt hk hc qbadA
              replace E := hide (E.out.trans hE.out)
              clear hE
              go_wp2_with fail
              refine (qp.out _ E.out).mono ?_
              rintro e W7 ⟨rfl, he_⟩
              replace E := hide (E.out.trans he_)
              clear he_
              have P := Blk.new W7 24 #[.int .i64 1, .int .u64 0, .string ⟨#[10, 1, 0, 0]⟩, .int .i64 16]
              replace E := E.out.alloc (Obj.cells #[.int .i64 1, .int .u64 0, .string ⟨#[10, 1, 0, 0]⟩, .int .i64 16] 24)
              generalize hW8 : W7.alloc (Obj.cells #[.int .i64 1, .int .u64 0, .string ⟨#[10, 1, 0, 0]⟩, .int .i64 16] 24) = W8 at P E
              generalize hg8 : W7.heap.size = g8 at P
              replace P := hide P
              replace E := hide E
              have P_0 : W8.cell? ⟨g8, 0, none⟩ = some (.int .i64 1) := P.out.cell 0
              have P_1 : W8.cell? ⟨g8, 1, none⟩ = some (.int .u64 0) := P.out.cell 1
              have P_2 : W8.cell? ⟨g8, 2, none⟩ = some (.string ⟨#[10, 1, 0, 0]⟩) := P.out.cell 2
              have P_3 : W8.cell? ⟨g8, 3, none⟩ = some (.int .i64 16) := P.out.cell 3
              go_wp2_with fail
              refine (qq.out _ E.out).mono ?_
              rintro e W9 ⟨rfl, he_⟩
              clear P_0 P_1 P_2 P_3
              replace E := hide (E.out.trans he_)
              replace P := hide (P.out.ext he_)
              clear he_
              have P_0 : W9.cell? ⟨g8, 0, none⟩ = some (.int .i64 1) := P.out.cell 0
              have P_1 : W9.cell? ⟨g8, 1, none⟩ = some (.int .u64 0) := P.out.cell 1
              have P_2 : W9.cell? ⟨g8, 2, none⟩ = some (.string ⟨#[10, 1, 0, 0]⟩) := P.out.cell 2
              have P_3 : W9.cell? ⟨g8, 3, none⟩ = some (.int .i64 16) := P.out.cell 3
              clear hW8 hg8
              clear P_0 P_1 P_2 P_3
              have Q := Blk.new W9 24 #[.int .i64 3, .int .u64 0, .string ⟨#[10, 1, 0, 0]⟩, .int .i64 16]
              replace E := E.out.alloc (Obj.cells #[.int .i64 3, .int .u64 0, .string ⟨#[10, 1, 0, 0]⟩, .int .i64 16] 24)
              replace P := P.out.alloc (Obj.cells #[.int .i64 3, .int .u64 0, .string ⟨#[10, 1, 0, 0]⟩, .int .i64 16] 24)
              generalize hW10 : W9.alloc (Obj.cells #[.int .i64 3, .int .u64 0, .string ⟨#[10, 1, 0, 0]⟩, .int .i64 16] 24) = W10 at P Q E
              generalize hg10 : W9.heap.size = g10 at Q
              replace P := hide P
              replace Q := hide Q
              replace E := hide E
              have P_0 : W10.cell? ⟨g8, 0, none⟩ = some (.int .i64 1) := P.out.cell 0
              have P_1 : W10.cell? ⟨g8, 1, none⟩ = some (.int .u64 0) := P.out.cell 1
              have P_2 : W10.cell? ⟨g8, 2, none⟩ = some (.string ⟨#[10, 1, 0, 0]⟩) := P.out.cell 2
              have P_3 : W10.cell? ⟨g8, 3, none⟩ = some (.int .i64 16) := P.out.cell 3
              go_wp2_with fail
              refine (qc17.out _).mono ?_
              rintro e W11 ⟨rfl, he_⟩
              clear P_0 P_1 P_2 P_3
              replace E := hide (E.out.trans he_)
              replace P := hide (P.out.ext he_)
              replace Q := hide (Q.out.ext he_)
              clear he_
              have P_0 : W11.cell? ⟨g8, 0, none⟩ = some (.int .i64 1) := P.out.cell 0
              have P_1 : W11.cell? ⟨g8, 1, none⟩ = some (.int .u64 0) := P.out.cell 1
              have P_2 : W11.cell? ⟨g8, 2, none⟩ = some (.string ⟨#[10, 1, 0, 0]⟩) := P.out.cell 2
              have P_3 : W11.cell? ⟨g8, 3, none⟩ = some (.int .i64 16) := P.out.cell 3
              have Q_0 : W11.cell? ⟨g10, 0, none⟩ = some (.int .i64 3) := Q.out.cell 0
              have Q_1 : W11.cell? ⟨g10, 1, none⟩ = some (.int .u64 0) := Q.out.cell 1
              have Q_2 : W11.cell? ⟨g10, 2, none⟩ = some (.string ⟨#[10, 1, 0, 0]⟩) := Q.out.cell 2
              have Q_3 : W11.cell? ⟨g10, 3, none⟩ = some (.int .i64 16) := Q.out.cell 3
              clear hW10 hg10
              clear P_0 P_1 P_2 P_3 Q_0 Q_1 Q_2 Q_3
              go_upto_region 26 with fail
              replace E := hide (E.out.alloc (Obj.cells #[.int .i64 0, .int .u64 0, .string ⟨#[]⟩, .int .i64 0] 24))
              replace P := hide (P.out.alloc (Obj.cells #[.int .i64 0, .int .u64 0, .string ⟨#[]⟩, .int .i64 0] 24))
              replace Q := hide (Q.out.alloc (Obj.cells #[.int .i64 0, .int .u64 0, .string ⟨#[]⟩, .int .i64 0] 24))
              generalize W11.alloc (Obj.cells #[.int .i64 0, .int .u64 0, .string ⟨#[]⟩, .int .i64 0] 24) = W12 at P Q E ⊢
              generalize W11.heap.size = g12
              have P_0 : W12.cell? ⟨g8, 0, none⟩ = some (.int .i64 1) := P.out.cell 0
              have P_1 : W12.cell? ⟨g8, 1, none⟩ = some (.int .u64 0) := P.out.cell 1
              have P_2 : W12.cell? ⟨g8, 2, none⟩ = some (.string ⟨#[10, 1, 0, 0]⟩) := P.out.cell 2
              have P_3 : W12.cell? ⟨g8, 3, none⟩ = some (.int .i64 16) := P.out.cell 3
              go_wp2_with fail
              refine (qcm1.out _).mono ?_
              rintro e W13 ⟨rfl, he_⟩
              clear P_0 P_1 P_2 P_3
              replace E := hide (E.out.trans he_)
              replace P := hide (P.out.ext he_)
              replace Q := hide (Q.out.ext he_)
              clear he_
              have P_0 : W13.cell? ⟨g8, 0, none⟩ = some (.int .i64 1) := P.out.cell 0
              have P_1 : W13.cell? ⟨g8, 1, none⟩ = some (.int .u64 0) := P.out.cell 1
              have P_2 : W13.cell? ⟨g8, 2, none⟩ = some (.string ⟨#[10, 1, 0, 0]⟩) := P.out.cell 2
              have P_3 : W13.cell? ⟨g8, 3, none⟩ = some (.int .i64 16) := P.out.cell 3
              have Q_0 : W13.cell? ⟨g10, 0, none⟩ = some (.int .i64 3) := Q.out.cell 0
              have Q_1 : W13.cell? ⟨g10, 1, none⟩ = some (.int .u64 0) := Q.out.cell 1
              have Q_2 : W13.cell? ⟨g10, 2, none⟩ = some (.string ⟨#[10, 1, 0, 0]⟩) := Q.out.cell 2
              have Q_3 : W13.cell? ⟨g10, 3, none⟩ = some (.int .i64 16) := Q.out.cell 3
              clear P_0 P_1 P_2 P_3 Q_0 Q_1 Q_2 Q_3
              go_upto_region 27 with fail
              replace E := hide (E.out.alloc (Obj.cells #[.int .i64 0, .int .u64 0, .string ⟨#[]⟩, .int .i64 0] 24))
              replace P := hide (P.out.alloc (Obj.cells #[.int .i64 0, .int .u64 0, .string ⟨#[]⟩, .int .i64 0] 24))
              replace Q := hide (Q.out.alloc (Obj.cells #[.int .i64 0, .int .u64 0, .string ⟨#[]⟩, .int .i64 0] 24))
              generalize W13.alloc (Obj.cells #[.int .i64 0, .int .u64 0, .string ⟨#[]⟩, .int .i64 0] 24) = W14 at P Q E ⊢
              generalize W13.heap.size = g14
              go_wp2_with fail
              refine (qat.out _ E.out).mono ?_
              rintro e W15 ⟨rfl, he_⟩
              replace E := hide (E.out.trans he_)
              replace P := hide (P.out.ext he_)
              replace Q := hide (Q.out.ext he_)
              clear he_
              have P_0 : W15.cell? ⟨g8, 0, none⟩ = some (.int .i64 1) := P.out.cell 0
              have P_1 : W15.cell? ⟨g8, 1, none⟩ = some (.int .u64 0) := P.out.cell 1
              have P_2 : W15.cell? ⟨g8, 2, none⟩ = some (.string ⟨#[10, 1, 0, 0]⟩) := P.out.cell 2
              have P_3 : W15.cell? ⟨g8, 3, none⟩ = some (.int .i64 16) := P.out.cell 3
              have Q_0 : W15.cell? ⟨g10, 0, none⟩ = some (.int .i64 3) := Q.out.cell 0
              have Q_1 : W15.cell? ⟨g10, 1, none⟩ = some (.int .u64 0) := Q.out.cell 1
              have Q_2 : W15.cell? ⟨g10, 2, none⟩ = some (.string ⟨#[10, 1, 0, 0]⟩) := Q.out.cell 2
              have Q_3 : W15.cell? ⟨g10, 3, none⟩ = some (.int .i64 16) := Q.out.cell 3
              go_upto_region 30 with fail
              replace E := hide (E.out.alloc (Obj.cells #[.int .i64 1, .int .u64 1, .string ⟨#[10, 1, 0, 0]⟩, .int .i64 16] 24))
              replace P := hide (P.out.alloc (Obj.cells #[.int .i64 1, .int .u64 1, .string ⟨#[10, 1, 0, 0]⟩, .int .i64 16] 24))
              replace Q := hide (Q.out.alloc (Obj.cells #[.int .i64 1, .int .u64 1, .string ⟨#[10, 1, 0, 0]⟩, .int .i64 16] 24))
              have B := Blk.new W15 24 #[.int .i64 1, .int .u64 1, .string ⟨#[10, 1, 0, 0]⟩, .int .i64 16]
              generalize W15.alloc (Obj.cells #[.int .i64 1, .int .u64 1, .string ⟨#[10, 1, 0, 0]⟩, .int .i64 16] 24) = W16 at P Q B E ⊢
              generalize W15.heap.size = g16 at B ⊢
              replace B := hide B
              clear P_0 P_1 P_2 P_3 Q_0 Q_1 Q_2 Q_3
              have P_0 : W16.cell? ⟨g8, 0, none⟩ = some (.int .i64 1) := P.out.cell 0
              have P_1 : W16.cell? ⟨g8, 1, none⟩ = some (.int .u64 0) := P.out.cell 1
              have P_2 : W16.cell? ⟨g8, 2, none⟩ = some (.string ⟨#[10, 1, 0, 0]⟩) := P.out.cell 2
              have P_3 : W16.cell? ⟨g8, 3, none⟩ = some (.int .i64 16) := P.out.cell 3
              have Q_0 : W16.cell? ⟨g10, 0, none⟩ = some (.int .i64 3) := Q.out.cell 0
              have Q_1 : W16.cell? ⟨g10, 1, none⟩ = some (.int .u64 0) := Q.out.cell 1
              have Q_2 : W16.cell? ⟨g10, 2, none⟩ = some (.string ⟨#[10, 1, 0, 0]⟩) := Q.out.cell 2
              have Q_3 : W16.cell? ⟨g10, 3, none⟩ = some (.int .i64 16) := Q.out.cell 3
              have B_0 : W16.cell? ⟨g16, 0, none⟩ = some (.int .i64 1) := B.out.cell 0
              have B_1 : W16.cell? ⟨g16, 1, none⟩ = some (.int .u64 1) := B.out.cell 1
              have B_2 : W16.cell? ⟨g16, 2, none⟩ = some (.string ⟨#[10, 1, 0, 0]⟩) := B.out.cell 2
              have B_3 : W16.cell? ⟨g16, 3, none⟩ = some (.int .i64 16) := B.out.cell 3
              go_wp2_with fail
              refine (qcov.out _).mono ?_
              rintro e W17 ⟨rfl, he_⟩
              clear P_0 P_1 P_2 P_3 Q_0 Q_1 Q_2 Q_3 B_0 B_1 B_2 B_3
              replace E := hide (E.out.trans he_)
              replace P := hide (P.out.ext he_)
              replace Q := hide (Q.out.ext he_)
              replace B := hide (B.out.ext he_)
              clear he_
              have P_0 : W17.cell? ⟨g8, 0, none⟩ = some (.int .i64 1) := P.out.cell 0
              have P_1 : W17.cell? ⟨g8, 1, none⟩ = some (.int .u64 0) := P.out.cell 1
              have P_2 : W17.cell? ⟨g8, 2, none⟩ = some (.string ⟨#[10, 1, 0, 0]⟩) := P.out.cell 2
              have P_3 : W17.cell? ⟨g8, 3, none⟩ = some (.int .i64 16) := P.out.cell 3
              have Q_0 : W17.cell? ⟨g10, 0, none⟩ = some (.int .i64 3) := Q.out.cell 0
              have Q_1 : W17.cell? ⟨g10, 1, none⟩ = some (.int .u64 0) := Q.out.cell 1
              have Q_2 : W17.cell? ⟨g10, 2, none⟩ = some (.string ⟨#[10, 1, 0, 0]⟩) := Q.out.cell 2
              have Q_3 : W17.cell? ⟨g10, 3, none⟩ = some (.int .i64 16) := Q.out.cell 3
              have B_0 : W17.cell? ⟨g16, 0, none⟩ = some (.int .i64 1) := B.out.cell 0
              have B_1 : W17.cell? ⟨g16, 1, none⟩ = some (.int .u64 1) := B.out.cell 1
              have B_2 : W17.cell? ⟨g16, 2, none⟩ = some (.string ⟨#[10, 1, 0, 0]⟩) := B.out.cell 2
              have B_3 : W17.cell? ⟨g16, 3, none⟩ = some (.int .i64 16) := B.out.cell 3
              go_wp2_with fail
              refine (qb4.out _).mono ?_
              rintro e w_ ⟨rfl, rfl⟩
              go_wp2_with fail
              refine (qb32.out _).mono ?_
              rintro e w_ ⟨rfl, rfl⟩
              go_wp2_with fail
              refine (qbm.out _).mono ?_
              rintro e w_ ⟨rfl, rfl⟩
              go_wp2_with fail
              refine (qs0.out _).mono ?_
              rintro e w_ ⟨rfl, rfl⟩
              go_wp2_with fail
              refine (qs6.out _).mono ?_
              rintro e w_ ⟨rfl, rfl⟩
              go_wp2_with fail
              refine (qs5.out _).mono ?_
              rintro e w_ ⟨rfl, rfl⟩
              go_wp2_with fail
              refine (qkb.out _).mono ?_
              rintro e W18 ⟨rfl, he_⟩
              clear P_0 P_1 P_2 P_3 Q_0 Q_1 Q_2 Q_3 B_0 B_1 B_2 B_3
              replace E := hide (E.out.trans he_)
              replace P := hide (P.out.ext he_)
              replace Q := hide (Q.out.ext he_)
              replace B := hide (B.out.ext he_)
              clear he_
              have P_0 : W18.cell? ⟨g8, 0, none⟩ = some (.int .i64 1) := P.out.cell 0
              have P_1 : W18.cell? ⟨g8, 1, none⟩ = some (.int .u64 0) := P.out.cell 1
              have P_2 : W18.cell? ⟨g8, 2, none⟩ = some (.string ⟨#[10, 1, 0, 0]⟩) := P.out.cell 2
              have P_3 : W18.cell? ⟨g8, 3, none⟩ = some (.int .i64 16) := P.out.cell 3
              have Q_0 : W18.cell? ⟨g10, 0, none⟩ = some (.int .i64 3) := Q.out.cell 0
              have Q_1 : W18.cell? ⟨g10, 1, none⟩ = some (.int .u64 0) := Q.out.cell 1
              have Q_2 : W18.cell? ⟨g10, 2, none⟩ = some (.string ⟨#[10, 1, 0, 0]⟩) := Q.out.cell 2
              have Q_3 : W18.cell? ⟨g10, 3, none⟩ = some (.int .i64 16) := Q.out.cell 3
              have B_0 : W18.cell? ⟨g16, 0, none⟩ = some (.int .i64 1) := B.out.cell 0
              have B_1 : W18.cell? ⟨g16, 1, none⟩ = some (.int .u64 1) := B.out.cell 1
              have B_2 : W18.cell? ⟨g16, 2, none⟩ = some (.string ⟨#[10, 1, 0, 0]⟩) := B.out.cell 2
              have B_3 : W18.cell? ⟨g16, 3, none⟩ = some (.int .i64 16) := B.out.cell 3
              go_wp2_with fail
              refine (qkz.out _).mono ?_
              rintro e W19 ⟨rfl, he_⟩
              clear P_0 P_1 P_2 P_3 Q_0 Q_1 Q_2 Q_3 B_0 B_1 B_2 B_3
              replace E := hide (E.out.trans he_)
              replace P := hide (P.out.ext he_)
              replace Q := hide (Q.out.ext he_)
              replace B := hide (B.out.ext he_)
              clear he_
              have P_0 : W19.cell? ⟨g8, 0, none⟩ = some (.int .i64 1) := P.out.cell 0
              have P_1 : W19.cell? ⟨g8, 1, none⟩ = some (.int .u64 0) := P.out.cell 1
              have P_2 : W19.cell? ⟨g8, 2, none⟩ = some (.string ⟨#[10, 1, 0, 0]⟩) := P.out.cell 2
              have P_3 : W19.cell? ⟨g8, 3, none⟩ = some (.int .i64 16) := P.out.cell 3
              have Q_0 : W19.cell? ⟨g10, 0, none⟩ = some (.int .i64 3) := Q.out.cell 0
              have Q_1 : W19.cell? ⟨g10, 1, none⟩ = some (.int .u64 0) := Q.out.cell 1
              have Q_2 : W19.cell? ⟨g10, 2, none⟩ = some (.string ⟨#[10, 1, 0, 0]⟩) := Q.out.cell 2
              have Q_3 : W19.cell? ⟨g10, 3, none⟩ = some (.int .i64 16) := Q.out.cell 3
              have B_0 : W19.cell? ⟨g16, 0, none⟩ = some (.int .i64 1) := B.out.cell 0
              have B_1 : W19.cell? ⟨g16, 1, none⟩ = some (.int .u64 1) := B.out.cell 1
              have B_2 : W19.cell? ⟨g16, 2, none⟩ = some (.string ⟨#[10, 1, 0, 0]⟩) := B.out.cell 2
              have B_3 : W19.cell? ⟨g16, 3, none⟩ = some (.int .i64 16) := B.out.cell 3
              go_wp2_with fail
              refine (qwk.out _ E.out).mono ?_
              rintro e W20 ⟨rfl, he_⟩
              clear P_0 P_1 P_2 P_3 Q_0 Q_1 Q_2 Q_3 B_0 B_1 B_2 B_3
              replace E := hide (E.out.trans he_)
              clear he_
              go_wp2
              go_ret
              exact ⟨rfl, E.out⟩
          end Go.Proofs.YtbobpaailmbndaaDoor
