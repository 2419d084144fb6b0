/- The walk of PrimOrder. -/
import Derived.Test.YtbobpaailmbndaaDoorPJ
import Derived.Test.YtbobpaailmbndaaDoorP25
import Derived.Test.YtbobpaailmbndaaDoorP18
import Derived.Test.YtbobpaailmbndaaDoorP23
import Derived.Test.YtbobpaailmbndaaDoorPG
namespace Go.Proofs.YtbobpaailmbndaaDoor
open Go.RowKit Go.Sort
set_option linter.unusedVariables false

theorem order_cases (a b c : Pfx) : (cmpP a b = -1 ∧ cmpP b a = 1 ∧ a ≠ b ∧ 0 < cmpP b c) ∨ (cmpP a b = -1 ∧ cmpP b a = 1 ∧ a ≠ b ∧ cmpP b c ≤ 0 ∧ cmpP a c ≤ 0) ∨ (cmpP a b = 0 ∧ cmpP b a = 0 ∧ a = b ∧ 0 < cmpP b c) ∨ (cmpP a b = 0 ∧ cmpP b a = 0 ∧ a = b ∧ cmpP b c ≤ 0 ∧ cmpP a c ≤ 0) ∨ (cmpP a b = 1 ∧ cmpP b a = -1 ∧ a ≠ b) := by
  have h1 := cmp_neg a b
  have h2 := cmp_zero a b
  have h3 := cmp_cases a b
  have h4 := cmp_trans a b c
  rcases h3 with h | h | h <;> rw [h] at h1 h2 h4 ⊢ <;> rw [h1]
  · have hne : a ≠ b := fun e => absurd (h2.2 e) (by decide)
    by_cases h5 : 0 < cmpP b c
    · exact .inl ⟨rfl, rfl, hne, h5⟩
    · exact .inr (.inl ⟨rfl, rfl, hne, by omega, h4 (by decide) (by omega)⟩)
  · have he := h2.1 rfl
    by_cases h5 : 0 < cmpP b c
    · exact .inr (.inr (.inl ⟨rfl, rfl, he, h5⟩))
    · exact .inr (.inr (.inr (.inl ⟨rfl, rfl, he, by omega, h4 (by decide) (by omega)⟩)))
  · exact .inr (.inr (.inr (.inr ⟨rfl, rfl, fun e => absurd (h2.2 e) (by decide)⟩)))
theorem eqP_run (W : World) (a b : Pfx) (e : Bool) (h : e = true ↔ a = b) : (binOp .eql 24 (.agg #[.int .i64 a.fam, .int .u64 (a.rd : Int), .string ⟨a.addr.toArray⟩, .int .i64 a.len]) (.agg #[.int .i64 b.fam, .int .u64 (b.rd : Int), .string ⟨b.addr.toArray⟩, .int .i64 b.len])).run Tryd.prog W = .ok (.bool e) W := by
  rw [run_eqP]
  congr 2
  rw [show e = decide (e = true) by simp, decide_eq_decide, h]
  constructor
  · rintro ⟨e1, e2, e3, e4⟩
    exact Pfx.eq e1 (by omega) e3 e4
  · rintro rfl
    exact ⟨rfl, rfl, rfl, rfl⟩
set_option maxRecDepth 20000 in
set_option maxHeartbeats 4000000 in
theorem PrimOrder_walk (x y z : Rw) (w : World) (hT : Tab w) (hV : Vars w) :
    Calls Tryd.prog 5 #[valR x, valR y, valR z] w fun e w' => e = .returned (.bool true) ∧ Ext w w' := by
  have mixed : Tryd.prog.follows Departure.mixedOrders = true := by kernel_rfl
  have qwk := fun W (h : Ext w W) => works_any W (hT.ext h) (hV.ext h)
  clear hT hV
  replace qwk := hide qwk
  have heg : ∀ x y xs ys W, (eqGuard .eql 24 x y (.agg xs) (.agg ys)).run Tryd.prog W = .ok () W := fun x y xs ys W => run_eqGuard_agg W .eql _ x y xs ys Tryd.eqGuardType24
  unfold valR
  go_enter Tryd.func5, Tryd.ntmps5
  go_wp2
  have hX := ((Blk.new w 37 (cellsR x)).alloc (Obj.cells #[.int .u8 (y.fam.toNat : Int), .int .u64 (y.rd : Int), .int .u8 ((y.b 0).toNat : Int), .int .u8 ((y.b 1).toNat : Int), .int .u8 ((y.b 2).toNat : Int), .int .u8 ((y.b 3).toNat : Int), .int .u8 ((y.b 4).toNat : Int), .int .u8 ((y.b 5).toNat : Int), .int .u8 ((y.b 6).toNat : Int), .int .u8 ((y.b 7).toNat : Int), .int .u8 ((y.b 8).toNat : Int), .int .u8 ((y.b 9).toNat : Int), .int .u8 ((y.b 10).toNat : Int), .int .u8 ((y.b 11).toNat : Int), .int .u8 ((y.b 12).toNat : Int), .int .u8 ((y.b 13).toNat : Int), .int .u8 ((y.b 14).toNat : Int), .int .u8 ((y.b 15).toNat : Int), .int .u8 (y.len.toNat : Int)] 37)).alloc (Obj.cells #[.int .u8 (z.fam.toNat : Int), .int .u64 (z.rd : Int), .int .u8 ((z.b 0).toNat : Int), .int .u8 ((z.b 1).toNat : Int), .int .u8 ((z.b 2).toNat : Int), .int .u8 ((z.b 3).toNat : Int), .int .u8 ((z.b 4).toNat : Int), .int .u8 ((z.b 5).toNat : Int), .int .u8 ((z.b 6).toNat : Int), .int .u8 ((z.b 7).toNat : Int), .int .u8 ((z.b 8).toNat : Int), .int .u8 ((z.b 9).toNat : Int), .int .u8 ((z.b 10).toNat : Int), .int .u8 ((z.b 11).toNat : Int), .int .u8 ((z.b 12).toNat : Int), .int .u8 ((z.b 13).toNat : Int), .int .u8 ((z.b 14).toNat : Int), .int .u8 ((z.b 15).toNat : Int), .int .u8 (z.len.toNat : Int)] 37)
  have hY := (Blk.new (w.alloc (Obj.cells #[.int .u8 (x.fam.toNat : Int), .int .u64 (x.rd : Int), .int .u8 ((x.b 0).toNat : Int), .int .u8 ((x.b 1).toNat : Int), .int .u8 ((x.b 2).toNat : Int), .int .u8 ((x.b 3).toNat : Int), .int .u8 ((x.b 4).toNat : Int), .int .u8 ((x.b 5).toNat : Int), .int .u8 ((x.b 6).toNat : Int), .int .u8 ((x.b 7).toNat : Int), .int .u8 ((x.b 8).toNat : Int), .int .u8 ((x.b 9).toNat : Int), .int .u8 ((x.b 10).toNat : Int), .int .u8 ((x.b 11).toNat : Int), .int .u8 ((x.b 12).toNat : Int), .int .u8 ((x.b 13).toNat : Int), .int .u8 ((x.b 14).toNat : Int), .int .u8 ((x.b 15).toNat : Int), .int .u8 (x.len.toNat : Int)] 37)) 37 (cellsR y)).alloc (Obj.cells #[.int .u8 (z.fam.toNat : Int), .int .u64 (z.rd : Int), .int .u8 ((z.b 0).toNat : Int), .int .u8 ((z.b 1).toNat : Int), .int .u8 ((z.b 2).toNat : Int), .int .u8 ((z.b 3).toNat : Int), .int .u8 ((z.b 4).toNat : Int), .int .u8 ((z.b 5).toNat : Int), .int .u8 ((z.b 6).toNat : Int), .int .u8 ((z.b 7).toNat : Int), .int .u8 ((z.b 8).toNat : Int), .int .u8 ((z.b 9).toNat : Int), .int .u8 ((z.b 10).toNat : Int), .int .u8 ((z.b 11).toNat : Int), .int .u8 ((z.b 12).toNat : Int), .int .u8 ((z.b 13).toNat : Int), .int .u8 ((z.b 14).toNat : Int), .int .u8 ((z.b 15).toNat : Int), .int .u8 (z.len.toNat : Int)] 37)
  have hZ := Blk.new ((w.alloc (Obj.cells #[.int .u8 (x.fam.toNat : Int), .int .u64 (x.rd : Int), .int .u8 ((x.b 0).toNat : Int), .int .u8 ((x.b 1).toNat : Int), .int .u8 ((x.b 2).toNat : Int), .int .u8 ((x.b 3).toNat : Int), .int .u8 ((x.b 4).toNat : Int), .int .u8 ((x.b 5).toNat : Int), .int .u8 ((x.b 6).toNat : Int), .int .u8 ((x.b 7).toNat : Int), .int .u8 ((x.b 8).toNat : Int), .int .u8 ((x.b 9).toNat : Int), .int .u8 ((x.b 10).toNat : Int), .int .u8 ((x.b 11).toNat : Int), .int .u8 ((x.b 12).toNat : Int), .int .u8 ((x.b 13).toNat : Int), .int .u8 ((x.b 14).toNat : Int), .int .u8 ((x.b 15).toNat : Int), .int .u8 (x.len.toNat : Int)] 37)).alloc (Obj.cells #[.int .u8 (y.fam.toNat : Int), .int .u64 (y.rd : Int), .int .u8 ((y.b 0).toNat : Int), .int .u8 ((y.b 1).toNat : Int), .int .u8 ((y.b 2).toNat : Int), .int .u8 ((y.b 3).toNat : Int), .int .u8 ((y.b 4).toNat : Int), .int .u8 ((y.b 5).toNat : Int), .int .u8 ((y.b 6).toNat : Int), .int .u8 ((y.b 7).toNat : Int), .int .u8 ((y.b 8).toNat : Int), .int .u8 ((y.b 9).toNat : Int), .int .u8 ((y.b 10).toNat : Int), .int .u8 ((y.b 11).toNat : Int), .int .u8 ((y.b 12).toNat : Int), .int .u8 ((y.b 13).toNat : Int), .int .u8 ((y.b 14).toNat : Int), .int .u8 ((y.b 15).toNat : Int), .int .u8 (y.len.toNat : Int)] 37)) 37 (cellsR z)
  have E : Ext w (((w.alloc (Obj.cells #[.int .u8 (x.fam.toNat : Int), .int .u64 (x.rd : Int), .int .u8 ((x.b 0).toNat : Int), .int .u8 ((x.b 1).toNat : Int), .int .u8 ((x.b 2).toNat : Int), .int .u8 ((x.b 3).toNat : Int), .int .u8 ((x.b 4).toNat : Int), .int .u8 ((x.b 5).toNat : Int), .int .u8 ((x.b 6).toNat : Int), .int .u8 ((x.b 7).toNat : Int), .int .u8 ((x.b 8).toNat : Int), .int .u8 ((x.b 9).toNat : Int), .int .u8 ((x.b 10).toNat : Int), .int .u8 ((x.b 11).toNat : Int), .int .u8 ((x.b 12).toNat : Int), .int .u8 ((x.b 13).toNat : Int), .int .u8 ((x.b 14).toNat : Int), .int .u8 ((x.b 15).toNat : Int), .int .u8 (x.len.toNat : Int)] 37)).alloc (Obj.cells #[.int .u8 (y.fam.toNat : Int), .int .u64 (y.rd : Int), .int .u8 ((y.b 0).toNat : Int), .int .u8 ((y.b 1).toNat : Int), .int .u8 ((y.b 2).toNat : Int), .int .u8 ((y.b 3).toNat : Int), .int .u8 ((y.b 4).toNat : Int), .int .u8 ((y.b 5).toNat : Int), .int .u8 ((y.b 6).toNat : Int), .int .u8 ((y.b 7).toNat : Int), .int .u8 ((y.b 8).toNat : Int), .int .u8 ((y.b 9).toNat : Int), .int .u8 ((y.b 10).toNat : Int), .int .u8 ((y.b 11).toNat : Int), .int .u8 ((y.b 12).toNat : Int), .int .u8 ((y.b 13).toNat : Int), .int .u8 ((y.b 14).toNat : Int), .int .u8 ((y.b 15).toNat : Int), .int .u8 (y.len.toNat : Int)] 37)).alloc (Obj.cells #[.int .u8 (z.fam.toNat : Int), .int .u64 (z.rd : Int), .int .u8 ((z.b 0).toNat : Int), .int .u8 ((z.b 1).toNat : Int), .int .u8 ((z.b 2).toNat : Int), .int .u8 ((z.b 3).toNat : Int), .int .u8 ((z.b 4).toNat : Int), .int .u8 ((z.b 5).toNat : Int), .int .u8 ((z.b 6).toNat : Int), .int .u8 ((z.b 7).toNat : Int), .int .u8 ((z.b 8).toNat : Int), .int .u8 ((z.b 9).toNat : Int), .int .u8 ((z.b 10).toNat : Int), .int .u8 ((z.b 11).toNat : Int), .int .u8 ((z.b 12).toNat : Int), .int .u8 ((z.b 13).toNat : Int), .int .u8 ((z.b 14).toNat : Int), .int .u8 ((z.b 15).toNat : Int), .int .u8 (z.len.toNat : Int)] 37)) := (((Ext.refl w).alloc _).alloc _).alloc _
  rw [show (w.alloc (Obj.cells #[.int .u8 (x.fam.toNat : Int), .int .u64 (x.rd : Int), .int .u8 ((x.b 0).toNat : Int), .int .u8 ((x.b 1).toNat : Int), .int .u8 ((x.b 2).toNat : Int), .int .u8 ((x.b 3).toNat : Int), .int .u8 ((x.b 4).toNat : Int), .int .u8 ((x.b 5).toNat : Int), .int .u8 ((x.b 6).toNat : Int), .int .u8 ((x.b 7).toNat : Int), .int .u8 ((x.b 8).toNat : Int), .int .u8 ((x.b 9).toNat : Int), .int .u8 ((x.b 10).toNat : Int), .int .u8 ((x.b 11).toNat : Int), .int .u8 ((x.b 12).toNat : Int), .int .u8 ((x.b 13).toNat : Int), .int .u8 ((x.b 14).toNat : Int), .int .u8 ((x.b 15).toNat : Int), .int .u8 (x.len.toNat : Int)] 37)).heap.size = w.heap.size + 1 by simp] at hY
  rw [show ((w.alloc (Obj.cells #[.int .u8 (x.fam.toNat : Int), .int .u64 (x.rd : Int), .int .u8 ((x.b 0).toNat : Int), .int .u8 ((x.b 1).toNat : Int), .int .u8 ((x.b 2).toNat : Int), .int .u8 ((x.b 3).toNat : Int), .int .u8 ((x.b 4).toNat : Int), .int .u8 ((x.b 5).toNat : Int), .int .u8 ((x.b 6).toNat : Int), .int .u8 ((x.b 7).toNat : Int), .int .u8 ((x.b 8).toNat : Int), .int .u8 ((x.b 9).toNat : Int), .int .u8 ((x.b 10).toNat : Int), .int .u8 ((x.b 11).toNat : Int), .int .u8 ((x.b 12).toNat : Int), .int .u8 ((x.b 13).toNat : Int), .int .u8 ((x.b 14).toNat : Int), .int .u8 ((x.b 15).toNat : Int), .int .u8 (x.len.toNat : Int)] 37)).alloc (Obj.cells #[.int .u8 (y.fam.toNat : Int), .int .u64 (y.rd : Int), .int .u8 ((y.b 0).toNat : Int), .int .u8 ((y.b 1).toNat : Int), .int .u8 ((y.b 2).toNat : Int), .int .u8 ((y.b 3).toNat : Int), .int .u8 ((y.b 4).toNat : Int), .int .u8 ((y.b 5).toNat : Int), .int .u8 ((y.b 6).toNat : Int), .int .u8 ((y.b 7).toNat : Int), .int .u8 ((y.b 8).toNat : Int), .int .u8 ((y.b 9).toNat : Int), .int .u8 ((y.b 10).toNat : Int), .int .u8 ((y.b 11).toNat : Int), .int .u8 ((y.b 12).toNat : Int), .int .u8 ((y.b 13).toNat : Int), .int .u8 ((y.b 14).toNat : Int), .int .u8 ((y.b 15).toNat : Int), .int .u8 (y.len.toNat : Int)] 37)).heap.size = w.heap.size + 1 + 1 by simp] at hZ
  replace hX : Blk (((w.alloc (Obj.cells #[.int .u8 (x.fam.toNat : Int), .int .u64 (x.rd : Int), .int .u8 ((x.b 0).toNat : Int), .int .u8 ((x.b 1).toNat : Int), .int .u8 ((x.b 2).toNat : Int), .int .u8 ((x.b 3).toNat : Int), .int .u8 ((x.b 4).toNat : Int), .int .u8 ((x.b 5).toNat : Int), .int .u8 ((x.b 6).toNat : Int), .int .u8 ((x.b 7).toNat : Int), .int .u8 ((x.b 8).toNat : Int), .int .u8 ((x.b 9).toNat : Int), .int .u8 ((x.b 10).toNat : Int), .int .u8 ((x.b 11).toNat : Int), .int .u8 ((x.b 12).toNat : Int), .int .u8 ((x.b 13).toNat : Int), .int .u8 ((x.b 14).toNat : Int), .int .u8 ((x.b 15).toNat : Int), .int .u8 (x.len.toNat : Int)] 37)).alloc (Obj.cells #[.int .u8 (y.fam.toNat : Int), .int .u64 (y.rd : Int), .int .u8 ((y.b 0).toNat : Int), .int .u8 ((y.b 1).toNat : Int), .int .u8 ((y.b 2).toNat : Int), .int .u8 ((y.b 3).toNat : Int), .int .u8 ((y.b 4).toNat : Int), .int .u8 ((y.b 5).toNat : Int), .int .u8 ((y.b 6).toNat : Int), .int .u8 ((y.b 7).toNat : Int), .int .u8 ((y.b 8).toNat : Int), .int .u8 ((y.b 9).toNat : Int), .int .u8 ((y.b 10).toNat : Int), .int .u8 ((y.b 11).toNat : Int), .int .u8 ((y.b 12).toNat : Int), .int .u8 ((y.b 13).toNat : Int), .int .u8 ((y.b 14).toNat : Int), .int .u8 ((y.b 15).toNat : Int), .int .u8 (y.len.toNat : Int)] 37)).alloc (Obj.cells #[.int .u8 (z.fam.toNat : Int), .int .u64 (z.rd : Int), .int .u8 ((z.b 0).toNat : Int), .int .u8 ((z.b 1).toNat : Int), .int .u8 ((z.b 2).toNat : Int), .int .u8 ((z.b 3).toNat : Int), .int .u8 ((z.b 4).toNat : Int), .int .u8 ((z.b 5).toNat : Int), .int .u8 ((z.b 6).toNat : Int), .int .u8 ((z.b 7).toNat : Int), .int .u8 ((z.b 8).toNat : Int), .int .u8 ((z.b 9).toNat : Int), .int .u8 ((z.b 10).toNat : Int), .int .u8 ((z.b 11).toNat : Int), .int .u8 ((z.b 12).toNat : Int), .int .u8 ((z.b 13).toNat : Int), .int .u8 ((z.b 14).toNat : Int), .int .u8 ((z.b 15).toNat : Int), .int .u8 (z.len.toNat : Int)] 37)) w.heap.size 37 (cellsR x) := hX
  replace hY : Blk (((w.alloc (Obj.cells #[.int .u8 (x.fam.toNat : Int), .int .u64 (x.rd : Int), .int .u8 ((x.b 0).toNat : Int), .int .u8 ((x.b 1).toNat : Int), .int .u8 ((x.b 2).toNat : Int), .int .u8 ((x.b 3).toNat : Int), .int .u8 ((x.b 4).toNat : Int), .int .u8 ((x.b 5).toNat : Int), .int .u8 ((x.b 6).toNat : Int), .int .u8 ((x.b 7).toNat : Int), .int .u8 ((x.b 8).toNat : Int), .int .u8 ((x.b 9).toNat : Int), .int .u8 ((x.b 10).toNat : Int), .int .u8 ((x.b 11).toNat : Int), .int .u8 ((x.b 12).toNat : Int), .int .u8 ((x.b 13).toNat : Int), .int .u8 ((x.b 14).toNat : Int), .int .u8 ((x.b 15).toNat : Int), .int .u8 (x.len.toNat : Int)] 37)).alloc (Obj.cells #[.int .u8 (y.fam.toNat : Int), .int .u64 (y.rd : Int), .int .u8 ((y.b 0).toNat : Int), .int .u8 ((y.b 1).toNat : Int), .int .u8 ((y.b 2).toNat : Int), .int .u8 ((y.b 3).toNat : Int), .int .u8 ((y.b 4).toNat : Int), .int .u8 ((y.b 5).toNat : Int), .int .u8 ((y.b 6).toNat : Int), .int .u8 ((y.b 7).toNat : Int), .int .u8 ((y.b 8).toNat : Int), .int .u8 ((y.b 9).toNat : Int), .int .u8 ((y.b 10).toNat : Int), .int .u8 ((y.b 11).toNat : Int), .int .u8 ((y.b 12).toNat : Int), .int .u8 ((y.b 13).toNat : Int), .int .u8 ((y.b 14).toNat : Int), .int .u8 ((y.b 15).toNat : Int), .int .u8 (y.len.toNat : Int)] 37)).alloc (Obj.cells #[.int .u8 (z.fam.toNat : Int), .int .u64 (z.rd : Int), .int .u8 ((z.b 0).toNat : Int), .int .u8 ((z.b 1).toNat : Int), .int .u8 ((z.b 2).toNat : Int), .int .u8 ((z.b 3).toNat : Int), .int .u8 ((z.b 4).toNat : Int), .int .u8 ((z.b 5).toNat : Int), .int .u8 ((z.b 6).toNat : Int), .int .u8 ((z.b 7).toNat : Int), .int .u8 ((z.b 8).toNat : Int), .int .u8 ((z.b 9).toNat : Int), .int .u8 ((z.b 10).toNat : Int), .int .u8 ((z.b 11).toNat : Int), .int .u8 ((z.b 12).toNat : Int), .int .u8 ((z.b 13).toNat : Int), .int .u8 ((z.b 14).toNat : Int), .int .u8 ((z.b 15).toNat : Int), .int .u8 (z.len.toNat : Int)] 37)) (w.heap.size + 1) 37 (cellsR y) := hY
  replace hZ : Blk (((w.alloc (Obj.cells #[.int .u8 (x.fam.toNat : Int), .int .u64 (x.rd : Int), .int .u8 ((x.b 0).toNat : Int), .int .u8 ((x.b 1).toNat : Int), .int .u8 ((x.b 2).toNat : Int), .int .u8 ((x.b 3).toNat : Int), .int .u8 ((x.b 4).toNat : Int), .int .u8 ((x.b 5).toNat : Int), .int .u8 ((x.b 6).toNat : Int), .int .u8 ((x.b 7).toNat : Int), .int .u8 ((x.b 8).toNat : Int), .int .u8 ((x.b 9).toNat : Int), .int .u8 ((x.b 10).toNat : Int), .int .u8 ((x.b 11).toNat : Int), .int .u8 ((x.b 12).toNat : Int), .int .u8 ((x.b 13).toNat : Int), .int .u8 ((x.b 14).toNat : Int), .int .u8 ((x.b 15).toNat : Int), .int .u8 (x.len.toNat : Int)] 37)).alloc (Obj.cells #[.int .u8 (y.fam.toNat : Int), .int .u64 (y.rd : Int), .int .u8 ((y.b 0).toNat : Int), .int .u8 ((y.b 1).toNat : Int), .int .u8 ((y.b 2).toNat : Int), .int .u8 ((y.b 3).toNat : Int), .int .u8 ((y.b 4).toNat : Int), .int .u8 ((y.b 5).toNat : Int), .int .u8 ((y.b 6).toNat : Int), .int .u8 ((y.b 7).toNat : Int), .int .u8 ((y.b 8).toNat : Int), .int .u8 ((y.b 9).toNat : Int), .int .u8 ((y.b 10).toNat : Int), .int .u8 ((y.b 11).toNat : Int), .int .u8 ((y.b 12).toNat : Int), .int .u8 ((y.b 13).toNat : Int), .int .u8 ((y.b 14).toNat : Int), .int .u8 ((y.b 15).toNat : Int), .int .u8 (y.len.toNat : Int)] 37)).alloc (Obj.cells #[.int .u8 (z.fam.toNat : Int), .int .u64 (z.rd : Int), .int .u8 ((z.b 0).toNat : Int), .int .u8 ((z.b 1).toNat : Int), .int .u8 ((z.b 2).toNat : Int), .int .u8 ((z.b 3).toNat : Int), .int .u8 ((z.b 4).toNat : Int), .int .u8 ((z.b 5).toNat : Int), .int .u8 ((z.b 6).toNat : Int), .int .u8 ((z.b 7).toNat : Int), .int .u8 ((z.b 8).toNat : Int), .int .u8 ((z.b 9).toNat : Int), .int .u8 ((z.b 10).toNat : Int), .int .u8 ((z.b 11).toNat : Int), .int .u8 ((z.b 12).toNat : Int), .int .u8 ((z.b 13).toNat : Int), .int .u8 ((z.b 14).toNat : Int), .int .u8 ((z.b 15).toNat : Int), .int .u8 (z.len.toNat : Int)] 37)) (w.heap.size + 1 + 1) 37 (cellsR z) := hZ
  generalize (((w.alloc (Obj.cells #[.int .u8 (x.fam.toNat : Int), .int .u64 (x.rd : Int), .int .u8 ((x.b 0).toNat : Int), .int .u8 ((x.b 1).toNat : Int), .int .u8 ((x.b 2).toNat : Int), .int .u8 ((x.b 3).toNat : Int), .int .u8 ((x.b 4).toNat : Int), .int .u8 ((x.b 5).toNat : Int), .int .u8 ((x.b 6).toNat : Int), .int .u8 ((x.b 7).toNat : Int), .int .u8 ((x.b 8).toNat : Int), .int .u8 ((x.b 9).toNat : Int), .int .u8 ((x.b 10).toNat : Int), .int .u8 ((x.b 11).toNat : Int), .int .u8 ((x.b 12).toNat : Int), .int .u8 ((x.b 13).toNat : Int), .int .u8 ((x.b 14).toNat : Int), .int .u8 ((x.b 15).toNat : Int), .int .u8 (x.len.toNat : Int)] 37)).alloc (Obj.cells #[.int .u8 (y.fam.toNat : Int), .int .u64 (y.rd : Int), .int .u8 ((y.b 0).toNat : Int), .int .u8 ((y.b 1).toNat : Int), .int .u8 ((y.b 2).toNat : Int), .int .u8 ((y.b 3).toNat : Int), .int .u8 ((y.b 4).toNat : Int), .int .u8 ((y.b 5).toNat : Int), .int .u8 ((y.b 6).toNat : Int), .int .u8 ((y.b 7).toNat : Int), .int .u8 ((y.b 8).toNat : Int), .int .u8 ((y.b 9).toNat : Int), .int .u8 ((y.b 10).toNat : Int), .int .u8 ((y.b 11).toNat : Int), .int .u8 ((y.b 12).toNat : Int), .int .u8 ((y.b 13).toNat : Int), .int .u8 ((y.b 14).toNat : Int), .int .u8 ((y.b 15).toNat : Int), .int .u8 (y.len.toNat : Int)] 37)).alloc (Obj.cells #[.int .u8 (z.fam.toNat : Int), .int .u64 (z.rd : Int), .int .u8 ((z.b 0).toNat : Int), .int .u8 ((z.b 1).toNat : Int), .int .u8 ((z.b 2).toNat : Int), .int .u8 ((z.b 3).toNat : Int), .int .u8 ((z.b 4).toNat : Int), .int .u8 ((z.b 5).toNat : Int), .int .u8 ((z.b 6).toNat : Int), .int .u8 ((z.b 7).toNat : Int), .int .u8 ((z.b 8).toNat : Int), .int .u8 ((z.b 9).toNat : Int), .int .u8 ((z.b 10).toNat : Int), .int .u8 ((z.b 11).toNat : Int), .int .u8 ((z.b 12).toNat : Int), .int .u8 ((z.b 13).toNat : Int), .int .u8 ((z.b 14).toNat : Int), .int .u8 ((z.b 15).toNat : Int), .int .u8 (z.len.toNat : Int)] 37)) = W at hX hY hZ E ⊢
  refine wp_region_J (J := Fill.J W [⟨0, 1, 6, 9, 3, 13, 14, 7, w.heap.size, x⟩, ⟨2, 3, 7, 10, 4, 15, 16, 8, w.heap.size + 1, y⟩, ⟨4, 5, 8, 11, 5, 17, 18, 9, w.heap.size + 1 + 1, z⟩]) mixed (by kernel_rfl) (by kernel_rfl) (fun _ => undef) ?start (Fill.keeps Of_any _ (by kernel_rfl) ?fits ?cov ?inj ?src ?sz) ?rest
  case start => exact ⟨(Ext.refl _).drew, fun k hk => ⟨Bool.noConfusion, Bool.noConfusion, Bool.noConfusion, Bool.noConfusion⟩, fun k hk k' hk' hne h => Bool.noConfusion h⟩
  case fits =>
    intro k hk
    simp only [List.mem_cons, List.not_mem_nil, or_false] at hk
    rcases hk with rfl | rfl | rfl
    all_goals exact ⟨⟨_, rfl, rfl, rfl, rfl⟩, ⟨_, rfl, rfl, rfl, rfl, by simp [Region.binds]⟩, ⟨_, rfl, rfl, rfl, rfl⟩, ⟨_, rfl, rfl, rfl, rfl, by simp [Region.binds], by simp [Region.binds]⟩⟩
  case cov =>
    intro i hi
    replace hi : i < 12 := hi
    simp only [List.mem_cons, List.not_mem_nil, or_false, exists_eq_or_imp, exists_eq_left]
    omega
  case inj =>
    intro k hk k' hk' h
    simp only [List.mem_cons, List.not_mem_nil, or_false] at hk hk'
    rcases hk with rfl | rfl | rfl <;> rcases hk' with rfl | rfl | rfl <;> first | rfl | (exfalso; revert h; simp)
  case src =>
    intro k hk
    simp only [List.mem_cons, List.not_mem_nil, or_false] at hk
    rcases hk with rfl | rfl | rfl
    · exact ⟨rfl, by kernel_rfl, hX⟩
    · exact ⟨rfl, by kernel_rfl, hY⟩
    · exact ⟨rfl, by kernel_rfl, hZ⟩
  case sz =>
    intro k hk
    simp only [List.mem_cons, List.not_mem_nil, or_false] at hk
    rcases hk with rfl | rfl | rfl
    all_goals exact ⟨by simp, by simp, by simp⟩
  case rest =>
    rintro done val w1 hall ⟨hE1, hO, _⟩
    replace hall : ∀ i, i < 12 → done i = true := hall
    have e0 := hall 0 (by decide)
    have e1 := hall 1 (by decide)
    have e2 := hall 2 (by decide)
    have e3 := hall 3 (by decide)
    have e4 := hall 4 (by decide)
    have e5 := hall 5 (by decide)
    have e6 := hall 6 (by decide)
    have e7 := hall 7 (by decide)
    have e8 := hall 8 (by decide)
    have e9 := hall 9 (by decide)
    have e10 := hall 10 (by decide)
    have e11 := hall 11 (by decide)
    have k1 := hO ⟨0, 1, 6, 9, 3, 13, 14, 7, w.heap.size, x⟩ (by simp)
    have k2 := hO ⟨2, 3, 7, 10, 4, 15, 16, 8, w.heap.size + 1, y⟩ (by simp)
    have k3 := hO ⟨4, 5, 8, 11, 5, 17, 18, 9, w.heap.size + 1 + 1, z⟩ (by simp)
    clear hO hall
    have l1 : val 0 = valR x := k1.l e0
    have l2 : val 2 = valR y := k2.l e2
    have l3 : val 4 = valR z := k3.l e4
    have c1 : val 1 = valP (rawP x) := k1.c e1
    have c2 : val 3 = valP (rawP y) := k2.c e3
    have c3 : val 5 = valP (rawP z) := k3.c e5
    obtain ⟨gA, a1, _, A⟩ := k1.a e6
    obtain ⟨gB, b1, _, B⟩ := k2.a e7
    obtain ⟨gC, c1', _, C⟩ := k3.a e8
    replace a1 : val 6 = .pointer (some ⟨gA, 0, none⟩) := a1
    replace b1 : val 7 = .pointer (some ⟨gB, 0, none⟩) := b1
    replace c1' : val 8 = .pointer (some ⟨gC, 0, none⟩) := c1'
    rw [if_pos e9] at A
    rw [if_pos e10] at B
    rw [if_pos e11] at C
    clear k1 k2 k3
    replace E := E.trans hE1
    clear hE1
    simp only [putD, e0, e1, e2, e3, e4, e5, e6, e7, e8, e9, e10, e11, if_true, Nat.zero_add, Nat.reduceAdd, l1, l2, l3, c1, c2, c3, a1, b1, c1']
    clear e0 e1 e2 e3 e4 e5 e6 e7 e8 e9 e10 e11 l1 l2 l3 c1 c2 c3 a1 b1 c1' hX hY hZ
    have hoc := order_cases (rawP x) (rawP y) (rawP z)
    have qab := fun W => ACmp_any (rawP x) (rawP y) W
    have qbc := fun W => ACmp_any (rawP y) (rawP z) W
    have qac := fun W => ACmp_any (rawP x) (rawP z) W
    have qba := fun W => ACmp_any (rawP y) (rawP x) W
    have qaa := fun W => ACmp_any (rawP x) (rawP x) W
    rw [(cmp_zero _ _).2 rfl] at qaa
    have qck := fun W => ACheck_any (rawP x) W (raw_len x)
    rw [show errP (MayP (rawP x)) = 0 from if_pos (raw_may x)] at qck
    generalize rawP x = a at *
    generalize rawP y = b at *
    generalize rawP z = c at *
    have qeq := fun W e h => eqP_run W a b e h
    generalize cmpP a b = c1 at qab hoc
    generalize cmpP b c = c2 at qbc hoc
    generalize cmpP a c = c3 at qac hoc
    generalize cmpP b a = c4 at qba hoc
    simp only [valP, valR] at qab qbc qac qba qaa qck ⊢
    have A : Blk w1 (gA) 24 #[.int .i64 a.fam, .int .u64 (a.rd : Int), .string ⟨a.addr.toArray⟩, .int .i64 a.len] := A
    replace A := hide A
    have B : Blk w1 (gB) 24 #[.int .i64 b.fam, .int .u64 (b.rd : Int), .string ⟨b.addr.toArray⟩, .int .i64 b.len] := B
    replace B := hide B
    have C : Blk w1 (gC) 24 #[.int .i64 c.fam, .int .u64 (c.rd : Int), .string ⟨c.addr.toArray⟩, .int .i64 c.len] := C
    replace C := hide C
    replace E := hide E
    replace qab := hide qab
    replace qbc := hide qbc
    replace qac := hide qac
    replace qba := hide qba
    replace qaa := hide qaa
    replace qck := hide qck
    rcases hoc with ⟨rfl, rfl, hne, hlt⟩ | ⟨rfl, rfl, hne, hle, hle2⟩ | ⟨rfl, rfl, hne, hlt⟩ | ⟨rfl, rfl, hne, hle, hle2⟩ | ⟨rfl, rfl, hne⟩
    · have b1 : decide (0 < c2) = true := decide_eq_true hlt
      try (have b2 : decide (c3 ≤ 0) = true := decide_eq_true (by assumption))
      have heq := fun W => qeq W false (by simp [hne])
      clear qeq
      replace hne := hide hne
      try replace hlt := hide hlt
      try replace hle := hide hle
      try replace hle2 := hide hle2
      go_wp2
      have A_0 : ∀ d os, (grow (redrawn w1 d) os).cell? ⟨gA, 0, none⟩ = some (.int .i64 a.fam) := cell_regrown (A.out.cell 0)
      have A_1 : ∀ d os, (grow (redrawn w1 d) os).cell? ⟨gA, 1, none⟩ = some (.int .u64 (a.rd : Int)) := cell_regrown (A.out.cell 1)
      have A_2 : ∀ d os, (grow (redrawn w1 d) os).cell? ⟨gA, 2, none⟩ = some (.string ⟨a.addr.toArray⟩) := cell_regrown (A.out.cell 2)
      have A_3 : ∀ d os, (grow (redrawn w1 d) os).cell? ⟨gA, 3, none⟩ = some (.int .i64 a.len) := cell_regrown (A.out.cell 3)
      have B_0 : ∀ d os, (grow (redrawn w1 d) os).cell? ⟨gB, 0, none⟩ = some (.int .i64 b.fam) := cell_regrown (B.out.cell 0)
      have B_1 : ∀ d os, (grow (redrawn w1 d) os).cell? ⟨gB, 1, none⟩ = some (.int .u64 (b.rd : Int)) := cell_regrown (B.out.cell 1)
      have B_2 : ∀ d os, (grow (redrawn w1 d) os).cell? ⟨gB, 2, none⟩ = some (.string ⟨b.addr.toArray⟩) := cell_regrown (B.out.cell 2)
      have B_3 : ∀ d os, (grow (redrawn w1 d) os).cell? ⟨gB, 3, none⟩ = some (.int .i64 b.len) := cell_regrown (B.out.cell 3)
      have C_0 : ∀ d os, (grow (redrawn w1 d) os).cell? ⟨gC, 0, none⟩ = some (.int .i64 c.fam) := cell_regrown (C.out.cell 0)
      have C_1 : ∀ d os, (grow (redrawn w1 d) os).cell? ⟨gC, 1, none⟩ = some (.int .u64 (c.rd : Int)) := cell_regrown (C.out.cell 1)
      have C_2 : ∀ d os, (grow (redrawn w1 d) os).cell? ⟨gC, 2, none⟩ = some (.string ⟨c.addr.toArray⟩) := cell_regrown (C.out.cell 2)
      have C_3 : ∀ d os, (grow (redrawn w1 d) os).cell? ⟨gC, 3, none⟩ = some (.int .i64 c.len) := cell_regrown (C.out.cell 3)
      have cq0 := Calls.regr qab.out w1
      have cq1 := Calls.regr qbc.out w1
      have cq2 := Calls.regr qac.out w1
      refine wp_region_quiet_below (by assumption) (by kernel_rfl) ?_
      repeat (quiet_step (first | (with_reducible exact cq0 _ _) | (with_reducible exact cq1 _ _) | (with_reducible exact cq2 _ _)))
      refine wpQuiet_nil ?_
      intro _ hw_
      obtain ⟨⟨dq_, osq_⟩, hw_'⟩ := hw_
      subst hw_'
      replace E := hide (E.out.trans (below_regrown _ dq_ osq_))
      replace A := hide (A.out.ext (below_regrown _ dq_ osq_))
      replace B := hide (B.out.ext (below_regrown _ dq_ osq_))
      replace C := hide (C.out.ext (below_regrown _ dq_ osq_))
      clear A_0 A_1 A_2 A_3 B_0 B_1 B_2 B_3 C_0 C_1 C_2 C_3
      clear cq0 cq1 cq2
      generalize grow (redrawn w1 dq_) osq_ = W2 at E A B C ⊢
      have A_0 : W2.cell? ⟨gA, 0, none⟩ = some (.int .i64 a.fam) := A.out.cell 0
      have A_1 : W2.cell? ⟨gA, 1, none⟩ = some (.int .u64 (a.rd : Int)) := A.out.cell 1
      have A_2 : W2.cell? ⟨gA, 2, none⟩ = some (.string ⟨a.addr.toArray⟩) := A.out.cell 2
      have A_3 : W2.cell? ⟨gA, 3, none⟩ = some (.int .i64 a.len) := A.out.cell 3
      have B_0 : W2.cell? ⟨gB, 0, none⟩ = some (.int .i64 b.fam) := B.out.cell 0
      have B_1 : W2.cell? ⟨gB, 1, none⟩ = some (.int .u64 (b.rd : Int)) := B.out.cell 1
      have B_2 : W2.cell? ⟨gB, 2, none⟩ = some (.string ⟨b.addr.toArray⟩) := B.out.cell 2
      have B_3 : W2.cell? ⟨gB, 3, none⟩ = some (.int .i64 b.len) := B.out.cell 3
      have C_0 : W2.cell? ⟨gC, 0, none⟩ = some (.int .i64 c.fam) := C.out.cell 0
      have C_1 : W2.cell? ⟨gC, 1, none⟩ = some (.int .u64 (c.rd : Int)) := C.out.cell 1
      have C_2 : W2.cell? ⟨gC, 2, none⟩ = some (.string ⟨c.addr.toArray⟩) := C.out.cell 2
      have C_3 : W2.cell? ⟨gC, 3, none⟩ = some (.int .i64 c.len) := C.out.cell 3
      go_wp2_with fail
      refine (qba.out _).mono ?_
      rintro e W3 ⟨rfl, he_⟩
      clear A_0 A_1 A_2 A_3 B_0 B_1 B_2 B_3 C_0 C_1 C_2 C_3
      replace E := hide (E.out.trans he_)
      replace A := hide (A.out.ext he_)
      replace B := hide (B.out.ext he_)
      replace C := hide (C.out.ext he_)
      clear he_
      have A_0 : W3.cell? ⟨gA, 0, none⟩ = some (.int .i64 a.fam) := A.out.cell 0
      have A_1 : W3.cell? ⟨gA, 1, none⟩ = some (.int .u64 (a.rd : Int)) := A.out.cell 1
      have A_2 : W3.cell? ⟨gA, 2, none⟩ = some (.string ⟨a.addr.toArray⟩) := A.out.cell 2
      have A_3 : W3.cell? ⟨gA, 3, none⟩ = some (.int .i64 a.len) := A.out.cell 3
      have B_0 : W3.cell? ⟨gB, 0, none⟩ = some (.int .i64 b.fam) := B.out.cell 0
      have B_1 : W3.cell? ⟨gB, 1, none⟩ = some (.int .u64 (b.rd : Int)) := B.out.cell 1
      have B_2 : W3.cell? ⟨gB, 2, none⟩ = some (.string ⟨b.addr.toArray⟩) := B.out.cell 2
      have B_3 : W3.cell? ⟨gB, 3, none⟩ = some (.int .i64 b.len) := B.out.cell 3
      have C_0 : W3.cell? ⟨gC, 0, none⟩ = some (.int .i64 c.fam) := C.out.cell 0
      have C_1 : W3.cell? ⟨gC, 1, none⟩ = some (.int .u64 (c.rd : Int)) := C.out.cell 1
      have C_2 : W3.cell? ⟨gC, 2, none⟩ = some (.string ⟨c.addr.toArray⟩) := C.out.cell 2
      have C_3 : W3.cell? ⟨gC, 3, none⟩ = some (.int .i64 c.len) := C.out.cell 3
      go_wp2_with fail
      refine (qaa.out _).mono ?_
      rintro e W4 ⟨rfl, he_⟩
      clear A_0 A_1 A_2 A_3 B_0 B_1 B_2 B_3 C_0 C_1 C_2 C_3
      replace E := hide (E.out.trans he_)
      replace A := hide (A.out.ext he_)
      replace B := hide (B.out.ext he_)
      replace C := hide (C.out.ext he_)
      clear he_
      have A_0 : W4.cell? ⟨gA, 0, none⟩ = some (.int .i64 a.fam) := A.out.cell 0
      have A_1 : W4.cell? ⟨gA, 1, none⟩ = some (.int .u64 (a.rd : Int)) := A.out.cell 1
      have A_2 : W4.cell? ⟨gA, 2, none⟩ = some (.string ⟨a.addr.toArray⟩) := A.out.cell 2
      have A_3 : W4.cell? ⟨gA, 3, none⟩ = some (.int .i64 a.len) := A.out.cell 3
      have B_0 : W4.cell? ⟨gB, 0, none⟩ = some (.int .i64 b.fam) := B.out.cell 0
      have B_1 : W4.cell? ⟨gB, 1, none⟩ = some (.int .u64 (b.rd : Int)) := B.out.cell 1
      have B_2 : W4.cell? ⟨gB, 2, none⟩ = some (.string ⟨b.addr.toArray⟩) := B.out.cell 2
      have B_3 : W4.cell? ⟨gB, 3, none⟩ = some (.int .i64 b.len) := B.out.cell 3
      have C_0 : W4.cell? ⟨gC, 0, none⟩ = some (.int .i64 c.fam) := C.out.cell 0
      have C_1 : W4.cell? ⟨gC, 1, none⟩ = some (.int .u64 (c.rd : Int)) := C.out.cell 1
      have C_2 : W4.cell? ⟨gC, 2, none⟩ = some (.string ⟨c.addr.toArray⟩) := C.out.cell 2
      have C_3 : W4.cell? ⟨gC, 3, none⟩ = some (.int .i64 c.len) := C.out.cell 3
      go_wp2_with fail
      refine (qck.out _).mono ?_
      rintro e W5 ⟨rfl, he_⟩
      clear A_0 A_1 A_2 A_3 B_0 B_1 B_2 B_3 C_0 C_1 C_2 C_3
      replace E := hide (E.out.trans he_)
      replace A := hide (A.out.ext he_)
      replace B := hide (B.out.ext he_)
      replace C := hide (C.out.ext he_)
      clear he_
      have A_0 : W5.cell? ⟨gA, 0, none⟩ = some (.int .i64 a.fam) := A.out.cell 0
      have A_1 : W5.cell? ⟨gA, 1, none⟩ = some (.int .u64 (a.rd : Int)) := A.out.cell 1
      have A_2 : W5.cell? ⟨gA, 2, none⟩ = some (.string ⟨a.addr.toArray⟩) := A.out.cell 2
      have A_3 : W5.cell? ⟨gA, 3, none⟩ = some (.int .i64 a.len) := A.out.cell 3
      have B_0 : W5.cell? ⟨gB, 0, none⟩ = some (.int .i64 b.fam) := B.out.cell 0
      have B_1 : W5.cell? ⟨gB, 1, none⟩ = some (.int .u64 (b.rd : Int)) := B.out.cell 1
      have B_2 : W5.cell? ⟨gB, 2, none⟩ = some (.string ⟨b.addr.toArray⟩) := B.out.cell 2
      have B_3 : W5.cell? ⟨gB, 3, none⟩ = some (.int .i64 b.len) := B.out.cell 3
      have C_0 : W5.cell? ⟨gC, 0, none⟩ = some (.int .i64 c.fam) := C.out.cell 0
      have C_1 : W5.cell? ⟨gC, 1, none⟩ = some (.int .u64 (c.rd : Int)) := C.out.cell 1
      have C_2 : W5.cell? ⟨gC, 2, none⟩ = some (.string ⟨c.addr.toArray⟩) := C.out.cell 2
      have C_3 : W5.cell? ⟨gC, 3, none⟩ = some (.int .i64 c.len) := C.out.cell 3
      go_wp2_with fail
      refine (qwk.out _ E.out).mono ?_
      rintro e W6 ⟨rfl, he_⟩
      clear A_0 A_1 A_2 A_3 B_0 B_1 B_2 B_3 C_0 C_1 C_2 C_3
      replace E := hide (E.out.trans he_)
      clear he_
      go_wp2
      go_ret
      exact ⟨rfl, E.out⟩
    · have b1 : decide (0 < c2) = false := decide_eq_false (by omega)
      try (have b2 : decide (c3 ≤ 0) = true := decide_eq_true (by assumption))
      have heq := fun W => qeq W false (by simp [hne])
      clear qeq
      replace hne := hide hne
      try replace hlt := hide hlt
      try replace hle := hide hle
      try replace hle2 := hide hle2
      go_wp2
      have A_0 : ∀ d os, (grow (redrawn w1 d) os).cell? ⟨gA, 0, none⟩ = some (.int .i64 a.fam) := cell_regrown (A.out.cell 0)
      have A_1 : ∀ d os, (grow (redrawn w1 d) os).cell? ⟨gA, 1, none⟩ = some (.int .u64 (a.rd : Int)) := cell_regrown (A.out.cell 1)
      have A_2 : ∀ d os, (grow (redrawn w1 d) os).cell? ⟨gA, 2, none⟩ = some (.string ⟨a.addr.toArray⟩) := cell_regrown (A.out.cell 2)
      have A_3 : ∀ d os, (grow (redrawn w1 d) os).cell? ⟨gA, 3, none⟩ = some (.int .i64 a.len) := cell_regrown (A.out.cell 3)
      have B_0 : ∀ d os, (grow (redrawn w1 d) os).cell? ⟨gB, 0, none⟩ = some (.int .i64 b.fam) := cell_regrown (B.out.cell 0)
      have B_1 : ∀ d os, (grow (redrawn w1 d) os).cell? ⟨gB, 1, none⟩ = some (.int .u64 (b.rd : Int)) := cell_regrown (B.out.cell 1)
      have B_2 : ∀ d os, (grow (redrawn w1 d) os).cell? ⟨gB, 2, none⟩ = some (.string ⟨b.addr.toArray⟩) := cell_regrown (B.out.cell 2)
      have B_3 : ∀ d os, (grow (redrawn w1 d) os).cell? ⟨gB, 3, none⟩ = some (.int .i64 b.len) := cell_regrown (B.out.cell 3)
      have C_0 : ∀ d os, (grow (redrawn w1 d) os).cell? ⟨gC, 0, none⟩ = some (.int .i64 c.fam) := cell_regrown (C.out.cell 0)
      have C_1 : ∀ d os, (grow (redrawn w1 d) os).cell? ⟨gC, 1, none⟩ = some (.int .u64 (c.rd : Int)) := cell_regrown (C.out.cell 1)
      have C_2 : ∀ d os, (grow (redrawn w1 d) os).cell? ⟨gC, 2, none⟩ = some (.string ⟨c.addr.toArray⟩) := cell_regrown (C.out.cell 2)
      have C_3 : ∀ d os, (grow (redrawn w1 d) os).cell? ⟨gC, 3, none⟩ = some (.int .i64 c.len) := cell_regrown (C.out.cell 3)
      have cq0 := Calls.regr qab.out w1
      have cq1 := Calls.regr qbc.out w1
      have cq2 := Calls.regr qac.out w1
      refine wp_region_quiet_below (by assumption) (by kernel_rfl) ?_
      repeat (quiet_step (first | (with_reducible exact cq0 _ _) | (with_reducible exact cq1 _ _) | (with_reducible exact cq2 _ _)))
      refine wpQuiet_nil ?_
      intro _ hw_
      obtain ⟨⟨dq_, osq_⟩, hw_'⟩ := hw_
      subst hw_'
      replace E := hide (E.out.trans (below_regrown _ dq_ osq_))
      replace A := hide (A.out.ext (below_regrown _ dq_ osq_))
      replace B := hide (B.out.ext (below_regrown _ dq_ osq_))
      replace C := hide (C.out.ext (below_regrown _ dq_ osq_))
      clear A_0 A_1 A_2 A_3 B_0 B_1 B_2 B_3 C_0 C_1 C_2 C_3
      clear cq0 cq1 cq2
      generalize grow (redrawn w1 dq_) osq_ = W2 at E A B C ⊢
      have A_0 : W2.cell? ⟨gA, 0, none⟩ = some (.int .i64 a.fam) := A.out.cell 0
      have A_1 : W2.cell? ⟨gA, 1, none⟩ = some (.int .u64 (a.rd : Int)) := A.out.cell 1
      have A_2 : W2.cell? ⟨gA, 2, none⟩ = some (.string ⟨a.addr.toArray⟩) := A.out.cell 2
      have A_3 : W2.cell? ⟨gA, 3, none⟩ = some (.int .i64 a.len) := A.out.cell 3
      have B_0 : W2.cell? ⟨gB, 0, none⟩ = some (.int .i64 b.fam) := B.out.cell 0
      have B_1 : W2.cell? ⟨gB, 1, none⟩ = some (.int .u64 (b.rd : Int)) := B.out.cell 1
      have B_2 : W2.cell? ⟨gB, 2, none⟩ = some (.string ⟨b.addr.toArray⟩) := B.out.cell 2
      have B_3 : W2.cell? ⟨gB, 3, none⟩ = some (.int .i64 b.len) := B.out.cell 3
      have C_0 : W2.cell? ⟨gC, 0, none⟩ = some (.int .i64 c.fam) := C.out.cell 0
      have C_1 : W2.cell? ⟨gC, 1, none⟩ = some (.int .u64 (c.rd : Int)) := C.out.cell 1
      have C_2 : W2.cell? ⟨gC, 2, none⟩ = some (.string ⟨c.addr.toArray⟩) := C.out.cell 2
      have C_3 : W2.cell? ⟨gC, 3, none⟩ = some (.int .i64 c.len) := C.out.cell 3
      go_wp2_with fail
      refine (qba.out _).mono ?_
      rintro e W3 ⟨rfl, he_⟩
      clear A_0 A_1 A_2 A_3 B_0 B_1 B_2 B_3 C_0 C_1 C_2 C_3
      replace E := hide (E.out.trans he_)
      replace A := hide (A.out.ext he_)
      replace B := hide (B.out.ext he_)
      replace C := hide (C.out.ext he_)
      clear he_
      have A_0 : W3.cell? ⟨gA, 0, none⟩ = some (.int .i64 a.fam) := A.out.cell 0
      have A_1 : W3.cell? ⟨gA, 1, none⟩ = some (.int .u64 (a.rd : Int)) := A.out.cell 1
      have A_2 : W3.cell? ⟨gA, 2, none⟩ = some (.string ⟨a.addr.toArray⟩) := A.out.cell 2
      have A_3 : W3.cell? ⟨gA, 3, none⟩ = some (.int .i64 a.len) := A.out.cell 3
      have B_0 : W3.cell? ⟨gB, 0, none⟩ = some (.int .i64 b.fam) := B.out.cell 0
      have B_1 : W3.cell? ⟨gB, 1, none⟩ = some (.int .u64 (b.rd : Int)) := B.out.cell 1
      have B_2 : W3.cell? ⟨gB, 2, none⟩ = some (.string ⟨b.addr.toArray⟩) := B.out.cell 2
      have B_3 : W3.cell? ⟨gB, 3, none⟩ = some (.int .i64 b.len) := B.out.cell 3
      have C_0 : W3.cell? ⟨gC, 0, none⟩ = some (.int .i64 c.fam) := C.out.cell 0
      have C_1 : W3.cell? ⟨gC, 1, none⟩ = some (.int .u64 (c.rd : Int)) := C.out.cell 1
      have C_2 : W3.cell? ⟨gC, 2, none⟩ = some (.string ⟨c.addr.toArray⟩) := C.out.cell 2
      have C_3 : W3.cell? ⟨gC, 3, none⟩ = some (.int .i64 c.len) := C.out.cell 3
      go_wp2_with fail
      refine (qaa.out _).mono ?_
      rintro e W4 ⟨rfl, he_⟩
      clear A_0 A_1 A_2 A_3 B_0 B_1 B_2 B_3 C_0 C_1 C_2 C_3
      replace E := hide (E.out.trans he_)
      replace A := hide (A.out.ext he_)
      replace B := hide (B.out.ext he_)
      replace C := hide (C.out.ext he_)
      clear he_
      have A_0 : W4.cell? ⟨gA, 0, none⟩ = some (.int .i64 a.fam) := A.out.cell 0
      have A_1 : W4.cell? ⟨gA, 1, none⟩ = some (.int .u64 (a.rd : Int)) := A.out.cell 1
      have A_2 : W4.cell? ⟨gA, 2, none⟩ = some (.string ⟨a.addr.toArray⟩) := A.out.cell 2
      have A_3 : W4.cell? ⟨gA, 3, none⟩ = some (.int .i64 a.len) := A.out.cell 3
      have B_0 : W4.cell? ⟨gB, 0, none⟩ = some (.int .i64 b.fam) := B.out.cell 0
      have B_1 : W4.cell? ⟨gB, 1, none⟩ = some (.int .u64 (b.rd : Int)) := B.out.cell 1
      have B_2 : W4.cell? ⟨gB, 2, none⟩ = some (.string ⟨b.addr.toArray⟩) := B.out.cell 2
      have B_3 : W4.cell? ⟨gB, 3, none⟩ = some (.int .i64 b.len) := B.out.cell 3
      have C_0 : W4.cell? ⟨gC, 0, none⟩ = some (.int .i64 c.fam) := C.out.cell 0
      have C_1 : W4.cell? ⟨gC, 1, none⟩ = some (.int .u64 (c.rd : Int)) := C.out.cell 1
      have C_2 : W4.cell? ⟨gC, 2, none⟩ = some (.string ⟨c.addr.toArray⟩) := C.out.cell 2
      have C_3 : W4.cell? ⟨gC, 3, none⟩ = some (.int .i64 c.len) := C.out.cell 3
      go_wp2_with fail
      refine (qck.out _).mono ?_
      rintro e W5 ⟨rfl, he_⟩
      clear A_0 A_1 A_2 A_3 B_0 B_1 B_2 B_3 C_0 C_1 C_2 C_3
      replace E := hide (E.out.trans he_)
      replace A := hide (A.out.ext he_)
      replace B := hide (B.out.ext he_)
      replace C := hide (C.out.ext he_)
      clear he_
      have A_0 : W5.cell? ⟨gA, 0, none⟩ = some (.int .i64 a.fam) := A.out.cell 0
      have A_1 : W5.cell? ⟨gA, 1, none⟩ = some (.int .u64 (a.rd : Int)) := A.out.cell 1
      have A_2 : W5.cell? ⟨gA, 2, none⟩ = some (.string ⟨a.addr.toArray⟩) := A.out.cell 2
      have A_3 : W5.cell? ⟨gA, 3, none⟩ = some (.int .i64 a.len) := A.out.cell 3
      have B_0 : W5.cell? ⟨gB, 0, none⟩ = some (.int .i64 b.fam) := B.out.cell 0
      have B_1 : W5.cell? ⟨gB, 1, none⟩ = some (.int .u64 (b.rd : Int)) := B.out.cell 1
      have B_2 : W5.cell? ⟨gB, 2, none⟩ = some (.string ⟨b.addr.toArray⟩) := B.out.cell 2
      have B_3 : W5.cell? ⟨gB, 3, none⟩ = some (.int .i64 b.len) := B.out.cell 3
      have C_0 : W5.cell? ⟨gC, 0, none⟩ = some (.int .i64 c.fam) := C.out.cell 0
      have C_1 : W5.cell? ⟨gC, 1, none⟩ = some (.int .u64 (c.rd : Int)) := C.out.cell 1
      have C_2 : W5.cell? ⟨gC, 2, none⟩ = some (.string ⟨c.addr.toArray⟩) := C.out.cell 2
      have C_3 : W5.cell? ⟨gC, 3, none⟩ = some (.int .i64 c.len) := C.out.cell 3
      go_wp2_with fail
      refine (qwk.out _ E.out).mono ?_
      rintro e W6 ⟨rfl, he_⟩
      clear A_0 A_1 A_2 A_3 B_0 B_1 B_2 B_3 C_0 C_1 C_2 C_3
      replace E := hide (E.out.trans he_)
      clear he_
      go_wp2
      go_ret
      exact ⟨rfl, E.out⟩
    · have b1 : decide (0 < c2) = true := decide_eq_true hlt
      try (have b2 : decide (c3 ≤ 0) = true := decide_eq_true (by assumption))
      have heq := fun W => qeq W true (by simp [hne])
      clear qeq
      replace hne := hide hne
      try replace hlt := hide hlt
      try replace hle := hide hle
      try replace hle2 := hide hle2
      go_wp2
      have A_0 : ∀ d os, (grow (redrawn w1 d) os).cell? ⟨gA, 0, none⟩ = some (.int .i64 a.fam) := cell_regrown (A.out.cell 0)
      have A_1 : ∀ d os, (grow (redrawn w1 d) os).cell? ⟨gA, 1, none⟩ = some (.int .u64 (a.rd : Int)) := cell_regrown (A.out.cell 1)
      have A_2 : ∀ d os, (grow (redrawn w1 d) os).cell? ⟨gA, 2, none⟩ = some (.string ⟨a.addr.toArray⟩) := cell_regrown (A.out.cell 2)
      have A_3 : ∀ d os, (grow (redrawn w1 d) os).cell? ⟨gA, 3, none⟩ = some (.int .i64 a.len) := cell_regrown (A.out.cell 3)
      have B_0 : ∀ d os, (grow (redrawn w1 d) os).cell? ⟨gB, 0, none⟩ = some (.int .i64 b.fam) := cell_regrown (B.out.cell 0)
      have B_1 : ∀ d os, (grow (redrawn w1 d) os).cell? ⟨gB, 1, none⟩ = some (.int .u64 (b.rd : Int)) := cell_regrown (B.out.cell 1)
      have B_2 : ∀ d os, (grow (redrawn w1 d) os).cell? ⟨gB, 2, none⟩ = some (.string ⟨b.addr.toArray⟩) := cell_regrown (B.out.cell 2)
      have B_3 : ∀ d os, (grow (redrawn w1 d) os).cell? ⟨gB, 3, none⟩ = some (.int .i64 b.len) := cell_regrown (B.out.cell 3)
      have C_0 : ∀ d os, (grow (redrawn w1 d) os).cell? ⟨gC, 0, none⟩ = some (.int .i64 c.fam) := cell_regrown (C.out.cell 0)
      have C_1 : ∀ d os, (grow (redrawn w1 d) os).cell? ⟨gC, 1, none⟩ = some (.int .u64 (c.rd : Int)) := cell_regrown (C.out.cell 1)
      have C_2 : ∀ d os, (grow (redrawn w1 d) os).cell? ⟨gC, 2, none⟩ = some (.string ⟨c.addr.toArray⟩) := cell_regrown (C.out.cell 2)
      have C_3 : ∀ d os, (grow (redrawn w1 d) os).cell? ⟨gC, 3, none⟩ = some (.int .i64 c.len) := cell_regrown (C.out.cell 3)
      have cq0 := Calls.regr qab.out w1
      have cq1 := Calls.regr qbc.out w1
      have cq2 := Calls.regr qac.out w1
      refine wp_region_quiet_below (by assumption) (by kernel_rfl) ?_
      repeat (quiet_step (first | (with_reducible exact cq0 _ _) | (with_reducible exact cq1 _ _) | (with_reducible exact cq2 _ _)))
      refine wpQuiet_nil ?_
      intro _ hw_
      obtain ⟨⟨dq_, osq_⟩, hw_'⟩ := hw_
      subst hw_'
      replace E := hide (E.out.trans (below_regrown _ dq_ osq_))
      replace A := hide (A.out.ext (below_regrown _ dq_ osq_))
      replace B := hide (B.out.ext (below_regrown _ dq_ osq_))
      replace C := hide (C.out.ext (below_regrown _ dq_ osq_))
      clear A_0 A_1 A_2 A_3 B_0 B_1 B_2 B_3 C_0 C_1 C_2 C_3
      clear cq0 cq1 cq2
      generalize grow (redrawn w1 dq_) osq_ = W2 at E A B C ⊢
      have A_0 : W2.cell? ⟨gA, 0, none⟩ = some (.int .i64 a.fam) := A.out.cell 0
      have A_1 : W2.cell? ⟨gA, 1, none⟩ = some (.int .u64 (a.rd : Int)) := A.out.cell 1
      have A_2 : W2.cell? ⟨gA, 2, none⟩ = some (.string ⟨a.addr.toArray⟩) := A.out.cell 2
      have A_3 : W2.cell? ⟨gA, 3, none⟩ = some (.int .i64 a.len) := A.out.cell 3
      have B_0 : W2.cell? ⟨gB, 0, none⟩ = some (.int .i64 b.fam) := B.out.cell 0
      have B_1 : W2.cell? ⟨gB, 1, none⟩ = some (.int .u64 (b.rd : Int)) := B.out.cell 1
      have B_2 : W2.cell? ⟨gB, 2, none⟩ = some (.string ⟨b.addr.toArray⟩) := B.out.cell 2
      have B_3 : W2.cell? ⟨gB, 3, none⟩ = some (.int .i64 b.len) := B.out.cell 3
      have C_0 : W2.cell? ⟨gC, 0, none⟩ = some (.int .i64 c.fam) := C.out.cell 0
      have C_1 : W2.cell? ⟨gC, 1, none⟩ = some (.int .u64 (c.rd : Int)) := C.out.cell 1
      have C_2 : W2.cell? ⟨gC, 2, none⟩ = some (.string ⟨c.addr.toArray⟩) := C.out.cell 2
      have C_3 : W2.cell? ⟨gC, 3, none⟩ = some (.int .i64 c.len) := C.out.cell 3
      go_wp2_with fail
      refine (qba.out _).mono ?_
      rintro e W3 ⟨rfl, he_⟩
      clear A_0 A_1 A_2 A_3 B_0 B_1 B_2 B_3 C_0 C_1 C_2 C_3
      replace E := hide (E.out.trans he_)
      replace A := hide (A.out.ext he_)
      replace B := hide (B.out.ext he_)
      replace C := hide (C.out.ext he_)
      clear he_
      have A_0 : W3.cell? ⟨gA, 0, none⟩ = some (.int .i64 a.fam) := A.out.cell 0
      have A_1 : W3.cell? ⟨gA, 1, none⟩ = some (.int .u64 (a.rd : Int)) := A.out.cell 1
      have A_2 : W3.cell? ⟨gA, 2, none⟩ = some (.string ⟨a.addr.toArray⟩) := A.out.cell 2
      have A_3 : W3.cell? ⟨gA, 3, none⟩ = some (.int .i64 a.len) := A.out.cell 3
      have B_0 : W3.cell? ⟨gB, 0, none⟩ = some (.int .i64 b.fam) := B.out.cell 0
      have B_1 : W3.cell? ⟨gB, 1, none⟩ = some (.int .u64 (b.rd : Int)) := B.out.cell 1
      have B_2 : W3.cell? ⟨gB, 2, none⟩ = some (.string ⟨b.addr.toArray⟩) := B.out.cell 2
      have B_3 : W3.cell? ⟨gB, 3, none⟩ = some (.int .i64 b.len) := B.out.cell 3
      have C_0 : W3.cell? ⟨gC, 0, none⟩ = some (.int .i64 c.fam) := C.out.cell 0
      have C_1 : W3.cell? ⟨gC, 1, none⟩ = some (.int .u64 (c.rd : Int)) := C.out.cell 1
      have C_2 : W3.cell? ⟨gC, 2, none⟩ = some (.string ⟨c.addr.toArray⟩) := C.out.cell 2
      have C_3 : W3.cell? ⟨gC, 3, none⟩ = some (.int .i64 c.len) := C.out.cell 3
      go_wp2_with fail
      refine (qaa.out _).mono ?_
      rintro e W4 ⟨rfl, he_⟩
      clear A_0 A_1 A_2 A_3 B_0 B_1 B_2 B_3 C_0 C_1 C_2 C_3
      replace E := hide (E.out.trans he_)
      replace A := hide (A.out.ext he_)
      replace B := hide (B.out.ext he_)
      replace C := hide (C.out.ext he_)
      clear he_
      have A_0 : W4.cell? ⟨gA, 0, none⟩ = some (.int .i64 a.fam) := A.out.cell 0
      have A_1 : W4.cell? ⟨gA, 1, none⟩ = some (.int .u64 (a.rd : Int)) := A.out.cell 1
      have A_2 : W4.cell? ⟨gA, 2, none⟩ = some (.string ⟨a.addr.toArray⟩) := A.out.cell 2
      have A_3 : W4.cell? ⟨gA, 3, none⟩ = some (.int .i64 a.len) := A.out.cell 3
      have B_0 : W4.cell? ⟨gB, 0, none⟩ = some (.int .i64 b.fam) := B.out.cell 0
      have B_1 : W4.cell? ⟨gB, 1, none⟩ = some (.int .u64 (b.rd : Int)) := B.out.cell 1
      have B_2 : W4.cell? ⟨gB, 2, none⟩ = some (.string ⟨b.addr.toArray⟩) := B.out.cell 2
      have B_3 : W4.cell? ⟨gB, 3, none⟩ = some (.int .i64 b.len) := B.out.cell 3
      have C_0 : W4.cell? ⟨gC, 0, none⟩ = some (.int .i64 c.fam) := C.out.cell 0
      have C_1 : W4.cell? ⟨gC, 1, none⟩ = some (.int .u64 (c.rd : Int)) := C.out.cell 1
      have C_2 : W4.cell? ⟨gC, 2, none⟩ = some (.string ⟨c.addr.toArray⟩) := C.out.cell 2
      have C_3 : W4.cell? ⟨gC, 3, none⟩ = some (.int .i64 c.len) := C.out.cell 3
      go_wp2_with fail
      refine (qck.out _).mono ?_
      rintro e W5 ⟨rfl, he_⟩
      clear A_0 A_1 A_2 A_3 B_0 B_1 B_2 B_3 C_0 C_1 C_2 C_3
      replace E := hide (E.out.trans he_)
      replace A := hide (A.out.ext he_)
      replace B := hide (B.out.ext he_)
      replace C := hide (C.out.ext he_)
      clear he_
      have A_0 : W5.cell? ⟨gA, 0, none⟩ = some (.int .i64 a.fam) := A.out.cell 0
      have A_1 : W5.cell? ⟨gA, 1, none⟩ = some (.int .u64 (a.rd : Int)) := A.out.cell 1
      have A_2 : W5.cell? ⟨gA, 2, none⟩ = some (.string ⟨a.addr.toArray⟩) := A.out.cell 2
      have A_3 : W5.cell? ⟨gA, 3, none⟩ = some (.int .i64 a.len) := A.out.cell 3
      have B_0 : W5.cell? ⟨gB, 0, none⟩ = some (.int .i64 b.fam) := B.out.cell 0
      have B_1 : W5.cell? ⟨gB, 1, none⟩ = some (.int .u64 (b.rd : Int)) := B.out.cell 1
      have B_2 : W5.cell? ⟨gB, 2, none⟩ = some (.string ⟨b.addr.toArray⟩) := B.out.cell 2
      have B_3 : W5.cell? ⟨gB, 3, none⟩ = some (.int .i64 b.len) := B.out.cell 3
      have C_0 : W5.cell? ⟨gC, 0, none⟩ = some (.int .i64 c.fam) := C.out.cell 0
      have C_1 : W5.cell? ⟨gC, 1, none⟩ = some (.int .u64 (c.rd : Int)) := C.out.cell 1
      have C_2 : W5.cell? ⟨gC, 2, none⟩ = some (.string ⟨c.addr.toArray⟩) := C.out.cell 2
      have C_3 : W5.cell? ⟨gC, 3, none⟩ = some (.int .i64 c.len) := C.out.cell 3
      go_wp2_with fail
      refine (qwk.out _ E.out).mono ?_
      rintro e W6 ⟨rfl, he_⟩
      clear A_0 A_1 A_2 A_3 B_0 B_1 B_2 B_3 C_0 C_1 C_2 C_3
      replace E := hide (E.out.trans he_)
      clear he_
      go_wp2
      go_ret
      exact ⟨rfl, E.out⟩
    · have b1 : decide (0 < c2) = false := decide_eq_false (by omega)
      try (have b2 : decide (c3 ≤ 0) = true := decide_eq_true (by assumption))
      have heq := fun W => qeq W true (by simp [hne])
      clear qeq
      replace hne := hide hne
      try replace hlt := hide hlt
      try replace hle := hide hle
      try replace hle2 := hide hle2
      go_wp2
      have A_0 : ∀ d os, (grow (redrawn w1 d) os).cell? ⟨gA, 0, none⟩ = some (.int .i64 a.fam) := cell_regrown (A.out.cell 0)
      have A_1 : ∀ d os, (grow (redrawn w1 d) os).cell? ⟨gA, 1, none⟩ = some (.int .u64 (a.rd : Int)) := cell_regrown (A.out.cell 1)
      have A_2 : ∀ d os, (grow (redrawn w1 d) os).cell? ⟨gA, 2, none⟩ = some (.string ⟨a.addr.toArray⟩) := cell_regrown (A.out.cell 2)
      have A_3 : ∀ d os, (grow (redrawn w1 d) os).cell? ⟨gA, 3, none⟩ = some (.int .i64 a.len) := cell_regrown (A.out.cell 3)
      have B_0 : ∀ d os, (grow (redrawn w1 d) os).cell? ⟨gB, 0, none⟩ = some (.int .i64 b.fam) := cell_regrown (B.out.cell 0)
      have B_1 : ∀ d os, (grow (redrawn w1 d) os).cell? ⟨gB, 1, none⟩ = some (.int .u64 (b.rd : Int)) := cell_regrown (B.out.cell 1)
      have B_2 : ∀ d os, (grow (redrawn w1 d) os).cell? ⟨gB, 2, none⟩ = some (.string ⟨b.addr.toArray⟩) := cell_regrown (B.out.cell 2)
      have B_3 : ∀ d os, (grow (redrawn w1 d) os).cell? ⟨gB, 3, none⟩ = some (.int .i64 b.len) := cell_regrown (B.out.cell 3)
      have C_0 : ∀ d os, (grow (redrawn w1 d) os).cell? ⟨gC, 0, none⟩ = some (.int .i64 c.fam) := cell_regrown (C.out.cell 0)
      have C_1 : ∀ d os, (grow (redrawn w1 d) os).cell? ⟨gC, 1, none⟩ = some (.int .u64 (c.rd : Int)) := cell_regrown (C.out.cell 1)
      have C_2 : ∀ d os, (grow (redrawn w1 d) os).cell? ⟨gC, 2, none⟩ = some (.string ⟨c.addr.toArray⟩) := cell_regrown (C.out.cell 2)
      have C_3 : ∀ d os, (grow (redrawn w1 d) os).cell? ⟨gC, 3, none⟩ = some (.int .i64 c.len) := cell_regrown (C.out.cell 3)
      have cq0 := Calls.regr qab.out w1
      have cq1 := Calls.regr qbc.out w1
      have cq2 := Calls.regr qac.out w1
      refine wp_region_quiet_below (by assumption) (by kernel_rfl) ?_
      repeat (quiet_step (first | (with_reducible exact cq0 _ _) | (with_reducible exact cq1 _ _) | (with_reducible exact cq2 _ _)))
      refine wpQuiet_nil ?_
      intro _ hw_
      obtain ⟨⟨dq_, osq_⟩, hw_'⟩ := hw_
      subst hw_'
      replace E := hide (E.out.trans (below_regrown _ dq_ osq_))
      replace A := hide (A.out.ext (below_regrown _ dq_ osq_))
      replace B := hide (B.out.ext (below_regrown _ dq_ osq_))
      replace C := hide (C.out.ext (below_regrown _ dq_ osq_))
      clear A_0 A_1 A_2 A_3 B_0 B_1 B_2 B_3 C_0 C_1 C_2 C_3
      clear cq0 cq1 cq2
      generalize grow (redrawn w1 dq_) osq_ = W2 at E A B C ⊢
      have A_0 : W2.cell? ⟨gA, 0, none⟩ = some (.int .i64 a.fam) := A.out.cell 0
      have A_1 : W2.cell? ⟨gA, 1, none⟩ = some (.int .u64 (a.rd : Int)) := A.out.cell 1
      have A_2 : W2.cell? ⟨gA, 2, none⟩ = some (.string ⟨a.addr.toArray⟩) := A.out.cell 2
      have A_3 : W2.cell? ⟨gA, 3, none⟩ = some (.int .i64 a.len) := A.out.cell 3
      have B_0 : W2.cell? ⟨gB, 0, none⟩ = some (.int .i64 b.fam) := B.out.cell 0
      have B_1 : W2.cell? ⟨gB, 1, none⟩ = some (.int .u64 (b.rd : Int)) := B.out.cell 1
      have B_2 : W2.cell? ⟨gB, 2, none⟩ = some (.string ⟨b.addr.toArray⟩) := B.out.cell 2
      have B_3 : W2.cell? ⟨gB, 3, none⟩ = some (.int .i64 b.len) := B.out.cell 3
      have C_0 : W2.cell? ⟨gC, 0, none⟩ = some (.int .i64 c.fam) := C.out.cell 0
      have C_1 : W2.cell? ⟨gC, 1, none⟩ = some (.int .u64 (c.rd : Int)) := C.out.cell 1
      have C_2 : W2.cell? ⟨gC, 2, none⟩ = some (.string ⟨c.addr.toArray⟩) := C.out.cell 2
      have C_3 : W2.cell? ⟨gC, 3, none⟩ = some (.int .i64 c.len) := C.out.cell 3
      go_wp2_with fail
      refine (qba.out _).mono ?_
      rintro e W3 ⟨rfl, he_⟩
      clear A_0 A_1 A_2 A_3 B_0 B_1 B_2 B_3 C_0 C_1 C_2 C_3
      replace E := hide (E.out.trans he_)
      replace A := hide (A.out.ext he_)
      replace B := hide (B.out.ext he_)
      replace C := hide (C.out.ext he_)
      clear he_
      have A_0 : W3.cell? ⟨gA, 0, none⟩ = some (.int .i64 a.fam) := A.out.cell 0
      have A_1 : W3.cell? ⟨gA, 1, none⟩ = some (.int .u64 (a.rd : Int)) := A.out.cell 1
      have A_2 : W3.cell? ⟨gA, 2, none⟩ = some (.string ⟨a.addr.toArray⟩) := A.out.cell 2
      have A_3 : W3.cell? ⟨gA, 3, none⟩ = some (.int .i64 a.len) := A.out.cell 3
      have B_0 : W3.cell? ⟨gB, 0, none⟩ = some (.int .i64 b.fam) := B.out.cell 0
      have B_1 : W3.cell? ⟨gB, 1, none⟩ = some (.int .u64 (b.rd : Int)) := B.out.cell 1
      have B_2 : W3.cell? ⟨gB, 2, none⟩ = some (.string ⟨b.addr.toArray⟩) := B.out.cell 2
      have B_3 : W3.cell? ⟨gB, 3, none⟩ = some (.int .i64 b.len) := B.out.cell 3
      have C_0 : W3.cell? ⟨gC, 0, none⟩ = some (.int .i64 c.fam) := C.out.cell 0
      have C_1 : W3.cell? ⟨gC, 1, none⟩ = some (.int .u64 (c.rd : Int)) := C.out.cell 1
      have C_2 : W3.cell? ⟨gC, 2, none⟩ = some (.string ⟨c.addr.toArray⟩) := C.out.cell 2
      have C_3 : W3.cell? ⟨gC, 3, none⟩ = some (.int .i64 c.len) := C.out.cell 3
      go_wp2_with fail
      refine (qaa.out _).mono ?_
      rintro e W4 ⟨rfl, he_⟩
      clear A_0 A_1 A_2 A_3 B_0 B_1 B_2 B_3 C_0 C_1 C_2 C_3
      replace E := hide (E.out.trans he_)
      replace A := hide (A.out.ext he_)
      replace B := hide (B.out.ext he_)
      replace C := hide (C.out.ext he_)
      clear he_
      have A_0 : W4.cell? ⟨gA, 0, none⟩ = some (.int .i64 a.fam) := A.out.cell 0
      have A_1 : W4.cell? ⟨gA, 1, none⟩ = some (.int .u64 (a.rd : Int)) := A.out.cell 1
      have A_2 : W4.cell? ⟨gA, 2, none⟩ = some (.string ⟨a.addr.toArray⟩) := A.out.cell 2
      have A_3 : W4.cell? ⟨gA, 3, none⟩ = some (.int .i64 a.len) := A.out.cell 3
      have B_0 : W4.cell? ⟨gB, 0, none⟩ = some (.int .i64 b.fam) := B.out.cell 0
      have B_1 : W4.cell? ⟨gB, 1, none⟩ = some (.int .u64 (b.rd : Int)) := B.out.cell 1
      have B_2 : W4.cell? ⟨gB, 2, none⟩ = some (.string ⟨b.addr.toArray⟩) := B.out.cell 2
      have B_3 : W4.cell? ⟨gB, 3, none⟩ = some (.int .i64 b.len) := B.out.cell 3
      have C_0 : W4.cell? ⟨gC, 0, none⟩ = some (.int .i64 c.fam) := C.out.cell 0
      have C_1 : W4.cell? ⟨gC, 1, none⟩ = some (.int .u64 (c.rd : Int)) := C.out.cell 1
      have C_2 : W4.cell? ⟨gC, 2, none⟩ = some (.string ⟨c.addr.toArray⟩) := C.out.cell 2
      have C_3 : W4.cell? ⟨gC, 3, none⟩ = some (.int .i64 c.len) := C.out.cell 3
      go_wp2_with fail
      refine (qck.out _).mono ?_
      rintro e W5 ⟨rfl, he_⟩
      clear A_0 A_1 A_2 A_3 B_0 B_1 B_2 B_3 C_0 C_1 C_2 C_3
      replace E := hide (E.out.trans he_)
      replace A := hide (A.out.ext he_)
      replace B := hide (B.out.ext he_)
      replace C := hide (C.out.ext he_)
      clear he_
      have A_0 : W5.cell? ⟨gA, 0, none⟩ = some (.int .i64 a.fam) := A.out.cell 0
      have A_1 : W5.cell? ⟨gA, 1, none⟩ = some (.int .u64 (a.rd : Int)) := A.out.cell 1
      have A_2 : W5.cell? ⟨gA, 2, none⟩ = some (.string ⟨a.addr.toArray⟩) := A.out.cell 2
      have A_3 : W5.cell? ⟨gA, 3, none⟩ = some (.int .i64 a.len) := A.out.cell 3
      have B_0 : W5.cell? ⟨gB, 0, none⟩ = some (.int .i64 b.fam) := B.out.cell 0
      have B_1 : W5.cell? ⟨gB, 1, none⟩ = some (.int .u64 (b.rd : Int)) := B.out.cell 1
      have B_2 : W5.cell? ⟨gB, 2, none⟩ = some (.string ⟨b.addr.toArray⟩) := B.out.cell 2
      have B_3 : W5.cell? ⟨gB, 3, none⟩ = some (.int .i64 b.len) := B.out.cell 3
      have C_0 : W5.cell? ⟨gC, 0, none⟩ = some (.int .i64 c.fam) := C.out.cell 0
      have C_1 : W5.cell? ⟨gC, 1, none⟩ = some (.int .u64 (c.rd : Int)) := C.out.cell 1
      have C_2 : W5.cell? ⟨gC, 2, none⟩ = some (.string ⟨c.addr.toArray⟩) := C.out.cell 2
      have C_3 : W5.cell? ⟨gC, 3, none⟩ = some (.int .i64 c.len) := C.out.cell 3
      go_wp2_with fail
      refine (qwk.out _ E.out).mono ?_
      rintro e W6 ⟨rfl, he_⟩
      clear A_0 A_1 A_2 A_3 B_0 B_1 B_2 B_3 C_0 C_1 C_2 C_3
      replace E := hide (E.out.trans he_)
      clear he_
      go_wp2
      go_ret
      exact ⟨rfl, E.out⟩
    · have b1 : True := trivial
      try (have b2 : decide (c3 ≤ 0) = true := decide_eq_true (by assumption))
      have heq := fun W => qeq W false (by simp [hne])
      clear qeq
      replace hne := hide hne
      try replace hlt := hide hlt
      try replace hle := hide hle
      try replace hle2 := hide hle2
      go_wp2
      have A_0 : ∀ d os, (grow (redrawn w1 d) os).cell? ⟨gA, 0, none⟩ = some (.int .i64 a.fam) := cell_regrown (A.out.cell 0)
      have A_1 : ∀ d os, (grow (redrawn w1 d) os).cell? ⟨gA, 1, none⟩ = some (.int .u64 (a.rd : Int)) := cell_regrown (A.out.cell 1)
      have A_2 : ∀ d os, (grow (redrawn w1 d) os).cell? ⟨gA, 2, none⟩ = some (.string ⟨a.addr.toArray⟩) := cell_regrown (A.out.cell 2)
      have A_3 : ∀ d os, (grow (redrawn w1 d) os).cell? ⟨gA, 3, none⟩ = some (.int .i64 a.len) := cell_regrown (A.out.cell 3)
      have B_0 : ∀ d os, (grow (redrawn w1 d) os).cell? ⟨gB, 0, none⟩ = some (.int .i64 b.fam) := cell_regrown (B.out.cell 0)
      have B_1 : ∀ d os, (grow (redrawn w1 d) os).cell? ⟨gB, 1, none⟩ = some (.int .u64 (b.rd : Int)) := cell_regrown (B.out.cell 1)
      have B_2 : ∀ d os, (grow (redrawn w1 d) os).cell? ⟨gB, 2, none⟩ = some (.string ⟨b.addr.toArray⟩) := cell_regrown (B.out.cell 2)
      have B_3 : ∀ d os, (grow (redrawn w1 d) os).cell? ⟨gB, 3, none⟩ = some (.int .i64 b.len) := cell_regrown (B.out.cell 3)
      have C_0 : ∀ d os, (grow (redrawn w1 d) os).cell? ⟨gC, 0, none⟩ = some (.int .i64 c.fam) := cell_regrown (C.out.cell 0)
      have C_1 : ∀ d os, (grow (redrawn w1 d) os).cell? ⟨gC, 1, none⟩ = some (.int .u64 (c.rd : Int)) := cell_regrown (C.out.cell 1)
      have C_2 : ∀ d os, (grow (redrawn w1 d) os).cell? ⟨gC, 2, none⟩ = some (.string ⟨c.addr.toArray⟩) := cell_regrown (C.out.cell 2)
      have C_3 : ∀ d os, (grow (redrawn w1 d) os).cell? ⟨gC, 3, none⟩ = some (.int .i64 c.len) := cell_regrown (C.out.cell 3)
      have cq0 := Calls.regr qab.out w1
      have cq1 := Calls.regr qbc.out w1
      have cq2 := Calls.regr qac.out w1
      refine wp_region_quiet_below (by assumption) (by kernel_rfl) ?_
      repeat (quiet_step (first | (with_reducible exact cq0 _ _) | (with_reducible exact cq1 _ _) | (with_reducible exact cq2 _ _)))
      refine wpQuiet_nil ?_
      intro _ hw_
      obtain ⟨⟨dq_, osq_⟩, hw_'⟩ := hw_
      subst hw_'
      replace E := hide (E.out.trans (below_regrown _ dq_ osq_))
      replace A := hide (A.out.ext (below_regrown _ dq_ osq_))
      replace B := hide (B.out.ext (below_regrown _ dq_ osq_))
      replace C := hide (C.out.ext (below_regrown _ dq_ osq_))
      clear A_0 A_1 A_2 A_3 B_0 B_1 B_2 B_3 C_0 C_1 C_2 C_3
      clear cq0 cq1 cq2
      generalize grow (redrawn w1 dq_) osq_ = W2 at E A B C ⊢
      have A_0 : W2.cell? ⟨gA, 0, none⟩ = some (.int .i64 a.fam) := A.out.cell 0
      have A_1 : W2.cell? ⟨gA, 1, none⟩ = some (.int .u64 (a.rd : Int)) := A.out.cell 1
      have A_2 : W2.cell? ⟨gA, 2, none⟩ = some (.string ⟨a.addr.toArray⟩) := A.out.cell 2
      have A_3 : W2.cell? ⟨gA, 3, none⟩ = some (.int .i64 a.len) := A.out.cell 3
      have B_0 : W2.cell? ⟨gB, 0, none⟩ = some (.int .i64 b.fam) := B.out.cell 0
      have B_1 : W2.cell? ⟨gB, 1, none⟩ = some (.int .u64 (b.rd : Int)) := B.out.cell 1
      have B_2 : W2.cell? ⟨gB, 2, none⟩ = some (.string ⟨b.addr.toArray⟩) := B.out.cell 2
      have B_3 : W2.cell? ⟨gB, 3, none⟩ = some (.int .i64 b.len) := B.out.cell 3
      have C_0 : W2.cell? ⟨gC, 0, none⟩ = some (.int .i64 c.fam) := C.out.cell 0
      have C_1 : W2.cell? ⟨gC, 1, none⟩ = some (.int .u64 (c.rd : Int)) := C.out.cell 1
      have C_2 : W2.cell? ⟨gC, 2, none⟩ = some (.string ⟨c.addr.toArray⟩) := C.out.cell 2
      have C_3 : W2.cell? ⟨gC, 3, none⟩ = some (.int .i64 c.len) := C.out.cell 3
      go_wp2_with fail
      refine (qba.out _).mono ?_
      rintro e W3 ⟨rfl, he_⟩
      clear A_0 A_1 A_2 A_3 B_0 B_1 B_2 B_3 C_0 C_1 C_2 C_3
      replace E := hide (E.out.trans he_)
      replace A := hide (A.out.ext he_)
      replace B := hide (B.out.ext he_)
      replace C := hide (C.out.ext he_)
      clear he_
      have A_0 : W3.cell? ⟨gA, 0, none⟩ = some (.int .i64 a.fam) := A.out.cell 0
      have A_1 : W3.cell? ⟨gA, 1, none⟩ = some (.int .u64 (a.rd : Int)) := A.out.cell 1
      have A_2 : W3.cell? ⟨gA, 2, none⟩ = some (.string ⟨a.addr.toArray⟩) := A.out.cell 2
      have A_3 : W3.cell? ⟨gA, 3, none⟩ = some (.int .i64 a.len) := A.out.cell 3
      have B_0 : W3.cell? ⟨gB, 0, none⟩ = some (.int .i64 b.fam) := B.out.cell 0
      have B_1 : W3.cell? ⟨gB, 1, none⟩ = some (.int .u64 (b.rd : Int)) := B.out.cell 1
      have B_2 : W3.cell? ⟨gB, 2, none⟩ = some (.string ⟨b.addr.toArray⟩) := B.out.cell 2
      have B_3 : W3.cell? ⟨gB, 3, none⟩ = some (.int .i64 b.len) := B.out.cell 3
      have C_0 : W3.cell? ⟨gC, 0, none⟩ = some (.int .i64 c.fam) := C.out.cell 0
      have C_1 : W3.cell? ⟨gC, 1, none⟩ = some (.int .u64 (c.rd : Int)) := C.out.cell 1
      have C_2 : W3.cell? ⟨gC, 2, none⟩ = some (.string ⟨c.addr.toArray⟩) := C.out.cell 2
      have C_3 : W3.cell? ⟨gC, 3, none⟩ = some (.int .i64 c.len) := C.out.cell 3
      go_wp2_with fail
      refine (qaa.out _).mono ?_
      rintro e W4 ⟨rfl, he_⟩
      clear A_0 A_1 A_2 A_3 B_0 B_1 B_2 B_3 C_0 C_1 C_2 C_3
      replace E := hide (E.out.trans he_)
      replace A := hide (A.out.ext he_)
      replace B := hide (B.out.ext he_)
      replace C := hide (C.out.ext he_)
      clear he_
      have A_0 : W4.cell? ⟨gA, 0, none⟩ = some (.int .i64 a.fam) := A.out.cell 0
      have A_1 : W4.cell? ⟨gA, 1, none⟩ = some (.int .u64 (a.rd : Int)) := A.out.cell 1
      have A_2 : W4.cell? ⟨gA, 2, none⟩ = some (.string ⟨a.addr.toArray⟩) := A.out.cell 2
      have A_3 : W4.cell? ⟨gA, 3, none⟩ = some (.int .i64 a.len) := A.out.cell 3
      have B_0 : W4.cell? ⟨gB, 0, none⟩ = some (.int .i64 b.fam) := B.out.cell 0
      have B_1 : W4.cell? ⟨gB, 1, none⟩ = some (.int .u64 (b.rd : Int)) := B.out.cell 1
      have B_2 : W4.cell? ⟨gB, 2, none⟩ = some (.string ⟨b.addr.toArray⟩) := B.out.cell 2
      have B_3 : W4.cell? ⟨gB, 3, none⟩ = some (.int .i64 b.len) := B.out.cell 3
      have C_0 : W4.cell? ⟨gC, 0, none⟩ = some (.int .i64 c.fam) := C.out.cell 0
      have C_1 : W4.cell? ⟨gC, 1, none⟩ = some (.int .u64 (c.rd : Int)) := C.out.cell 1
      have C_2 : W4.cell? ⟨gC, 2, none⟩ = some (.string ⟨c.addr.toArray⟩) := C.out.cell 2
      have C_3 : W4.cell? ⟨gC, 3, none⟩ = some (.int .i64 c.len) := C.out.cell 3
      go_wp2_with fail
      refine (qck.out _).mono ?_
      rintro e W5 ⟨rfl, he_⟩
      clear A_0 A_1 A_2 A_3 B_0 B_1 B_2 B_3 C_0 C_1 C_2 C_3
      replace E := hide (E.out.trans he_)
      replace A := hide (A.out.ext he_)
      replace B := hide (B.out.ext he_)
      replace C := hide (C.out.ext he_)
      clear he_
      have A_0 : W5.cell? ⟨gA, 0, none⟩ = some (.int .i64 a.fam) := A.out.cell 0
      have A_1 : W5.cell? ⟨gA, 1, none⟩ = some (.int .u64 (a.rd : Int)) := A.out.cell 1
      have A_2 : W5.cell? ⟨gA, 2, none⟩ = some (.string ⟨a.addr.toArray⟩) := A.out.cell 2
      have A_3 : W5.cell? ⟨gA, 3, none⟩ = some (.int .i64 a.len) := A.out.cell 3
      have B_0 : W5.cell? ⟨gB, 0, none⟩ = some (.int .i64 b.fam) := B.out.cell 0
      have B_1 : W5.cell? ⟨gB, 1, none⟩ = some (.int .u64 (b.rd : Int)) := B.out.cell 1
      have B_2 : W5.cell? ⟨gB, 2, none⟩ = some (.string ⟨b.addr.toArray⟩) := B.out.cell 2
      have B_3 : W5.cell? ⟨gB, 3, none⟩ = some (.int .i64 b.len) := B.out.cell 3
      have C_0 : W5.cell? ⟨gC, 0, none⟩ = some (.int .i64 c.fam) := C.out.cell 0
      have C_1 : W5.cell? ⟨gC, 1, none⟩ = some (.int .u64 (c.rd : Int)) := C.out.cell 1
      have C_2 : W5.cell? ⟨gC, 2, none⟩ = some (.string ⟨c.addr.toArray⟩) := C.out.cell 2
      have C_3 : W5.cell? ⟨gC, 3, none⟩ = some (.int .i64 c.len) := C.out.cell 3
      go_wp2_with fail
      refine (qwk.out _ E.out).mono ?_
      rintro e W6 ⟨rfl, he_⟩
      clear A_0 A_1 A_2 A_3 B_0 B_1 B_2 B_3 C_0 C_1 C_2 C_3
      replace E := hide (E.out.trans he_)
      clear he_
      go_wp2
      go_ret
      exact ⟨rfl, E.out⟩
end Go.Proofs.YtbobpaailmbndaaDoor
