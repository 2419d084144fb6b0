/- The walk of heraldlaw01.of, family 4 (printed by genp25.py). -/
import Derived.Test.YtbobpaailmbndaaDoorPR
namespace Go.Proofs.YtbobpaailmbndaaDoor
open Go.RowKit Go.Sort
set_option linter.unusedVariables false

set_option maxRecDepth 20000 in
set_option maxHeartbeats 2000000 in
theorem Of_3 (x : Rw) (w : World) (hk : x.fam.toNat % 5 = 3) :
    Calls Tryd.prog 21 #[valR x] w fun e w' => e = .returned (valP (rawP x)) ∧ Ext w w' := by
  have mixed : Tryd.prog.follows Departure.mixedOrders = true := by kernel_rfl
  have hf : famR x = 4 := by unfold famR; omega
  have hs : sizeR x = 4 := by unfold sizeR; rw [hf]; rfl
  have hfull : fullP x = ⟨4, x.rd % 3, [x.b 0, x.b 1, x.b 2, x.b 3], 32⟩ := by unfold fullP; rw [hf, hs]; rfl
  have hl : lenR x = x.len.toNat % 33 := by unfold lenR; rw [hs]
  have hct := fun W => ACut_any (fullP x) (lenR x) W (by have := full_len x; have := sizeR_le x; omega)
  have hsz := fun W => ASize_any 4 W
  rw [show sizeS 4 = 4 by decide] at hsz
  have m5 : Int.tmod (x.fam.toNat : Int) 5 = 3 := by rw [Int.tmod_eq_emod_of_nonneg (by omega)]; omega
  have ml : Int.tmod (x.len.toNat : Int) 33 = (lenR x : Int) := by rw [Int.tmod_eq_emod_of_nonneg (by omega), hl]; omega
  rw [raw_cut] at hct
  generalize rawP x = R at hct ⊢
  have hlz : (lenR x : Int) ≤ 32 ∧ 0 ≤ (lenR x : Int) := by rw [hl]; omega
  generalize (lenR x : Int) = L at hct ml hlz
  rw [hfull] at hct
  have mr : Int.tmod (x.rd : Int) 3 = ((x.rd % 3 : Nat) : Int) := by rw [Int.tmod_eq_emod_of_nonneg (by omega)]; rfl
  have mrl : x.rd % 3 < 3 := Nat.mod_lt _ (by decide)
  clear hf hs hfull hl hk
  generalize x.rd % 3 = D at hct mr mrl
  simp only [valP, valR] at hct ⊢
  replace hct : ∀ W, Calls Tryd.prog 10 #[.agg #[.int .i64 4, .int .u64 (D : Int), .string ⟨#[x.b 0, x.b 1, x.b 2, x.b 3]⟩, .int .i64 32], .int .i64 L] W fun e w' => e = .returned (.tuple #[.agg #[.int .i64 R.fam, .int .u64 (R.rd : Int), .string ⟨R.addr.toArray⟩, .int .i64 R.len], .int .i64 0]) ∧ Ext W w' := hct
  replace hct := hide hct
  go_enter Tryd.func21, Tryd.ntmps21
  go_wp2_with fail
  refine (hsz _).mono ?_
  rintro e w1 ⟨rfl, rfl⟩
  have hX := ((Blk.new w 37 #[.int .u8 (x.fam.toNat : Int), .int .u64 (x.rd : Int), .int .u8 ((x.b 0).toNat : Int), .int .u8 ((x.b 1).toNat : Int), .int .u8 ((x.b 2).toNat : Int), .int .u8 ((x.b 3).toNat : Int), .int .u8 ((x.b 4).toNat : Int), .int .u8 ((x.b 5).toNat : Int), .int .u8 ((x.b 6).toNat : Int), .int .u8 ((x.b 7).toNat : Int), .int .u8 ((x.b 8).toNat : Int), .int .u8 ((x.b 9).toNat : Int), .int .u8 ((x.b 10).toNat : Int), .int .u8 ((x.b 11).toNat : Int), .int .u8 ((x.b 12).toNat : Int), .int .u8 ((x.b 13).toNat : Int), .int .u8 ((x.b 14).toNat : Int), .int .u8 ((x.b 15).toNat : Int), .int .u8 (x.len.toNat : Int)]).alloc (Obj.cells #[.int .i64 0, .int .u64 0, .string ⟨#[]⟩, .int .i64 0] 24)).alloc (Obj.cells #[.int .i64 4, .int .u64 0, .string ⟨#[]⟩, .int .i64 0] 24)
  have hE : Ext w (((w.alloc (Obj.cells #[.int .u8 (x.fam.toNat : Int), .int .u64 (x.rd : Int), .int .u8 ((x.b 0).toNat : Int), .int .u8 ((x.b 1).toNat : Int), .int .u8 ((x.b 2).toNat : Int), .int .u8 ((x.b 3).toNat : Int), .int .u8 ((x.b 4).toNat : Int), .int .u8 ((x.b 5).toNat : Int), .int .u8 ((x.b 6).toNat : Int), .int .u8 ((x.b 7).toNat : Int), .int .u8 ((x.b 8).toNat : Int), .int .u8 ((x.b 9).toNat : Int), .int .u8 ((x.b 10).toNat : Int), .int .u8 ((x.b 11).toNat : Int), .int .u8 ((x.b 12).toNat : Int), .int .u8 ((x.b 13).toNat : Int), .int .u8 ((x.b 14).toNat : Int), .int .u8 ((x.b 15).toNat : Int), .int .u8 (x.len.toNat : Int)] 37)).alloc (Obj.cells #[.int .i64 0, .int .u64 0, .string ⟨#[]⟩, .int .i64 0] 24)).alloc (Obj.cells #[.int .i64 4, .int .u64 0, .string ⟨#[]⟩, .int .i64 0] 24)) := (((Ext.refl w).alloc _).alloc _).alloc _
  have hR := (Blk.new (w.alloc (Obj.cells #[.int .u8 (x.fam.toNat : Int), .int .u64 (x.rd : Int), .int .u8 ((x.b 0).toNat : Int), .int .u8 ((x.b 1).toNat : Int), .int .u8 ((x.b 2).toNat : Int), .int .u8 ((x.b 3).toNat : Int), .int .u8 ((x.b 4).toNat : Int), .int .u8 ((x.b 5).toNat : Int), .int .u8 ((x.b 6).toNat : Int), .int .u8 ((x.b 7).toNat : Int), .int .u8 ((x.b 8).toNat : Int), .int .u8 ((x.b 9).toNat : Int), .int .u8 ((x.b 10).toNat : Int), .int .u8 ((x.b 11).toNat : Int), .int .u8 ((x.b 12).toNat : Int), .int .u8 ((x.b 13).toNat : Int), .int .u8 ((x.b 14).toNat : Int), .int .u8 ((x.b 15).toNat : Int), .int .u8 (x.len.toNat : Int)] 37)) 24 #[.int .i64 0, .int .u64 0, .string ⟨#[]⟩, .int .i64 0]).alloc (Obj.cells #[.int .i64 4, .int .u64 0, .string ⟨#[]⟩, .int .i64 0] 24)
  have hP := Blk.new ((w.alloc (Obj.cells #[.int .u8 (x.fam.toNat : Int), .int .u64 (x.rd : Int), .int .u8 ((x.b 0).toNat : Int), .int .u8 ((x.b 1).toNat : Int), .int .u8 ((x.b 2).toNat : Int), .int .u8 ((x.b 3).toNat : Int), .int .u8 ((x.b 4).toNat : Int), .int .u8 ((x.b 5).toNat : Int), .int .u8 ((x.b 6).toNat : Int), .int .u8 ((x.b 7).toNat : Int), .int .u8 ((x.b 8).toNat : Int), .int .u8 ((x.b 9).toNat : Int), .int .u8 ((x.b 10).toNat : Int), .int .u8 ((x.b 11).toNat : Int), .int .u8 ((x.b 12).toNat : Int), .int .u8 ((x.b 13).toNat : Int), .int .u8 ((x.b 14).toNat : Int), .int .u8 ((x.b 15).toNat : Int), .int .u8 (x.len.toNat : Int)] 37)).alloc (Obj.cells #[.int .i64 0, .int .u64 0, .string ⟨#[]⟩, .int .i64 0] 24)) 24 #[.int .i64 4, .int .u64 0, .string ⟨#[]⟩, .int .i64 0]
  rw [show ((w.alloc (Obj.cells #[.int .u8 (x.fam.toNat : Int), .int .u64 (x.rd : Int), .int .u8 ((x.b 0).toNat : Int), .int .u8 ((x.b 1).toNat : Int), .int .u8 ((x.b 2).toNat : Int), .int .u8 ((x.b 3).toNat : Int), .int .u8 ((x.b 4).toNat : Int), .int .u8 ((x.b 5).toNat : Int), .int .u8 ((x.b 6).toNat : Int), .int .u8 ((x.b 7).toNat : Int), .int .u8 ((x.b 8).toNat : Int), .int .u8 ((x.b 9).toNat : Int), .int .u8 ((x.b 10).toNat : Int), .int .u8 ((x.b 11).toNat : Int), .int .u8 ((x.b 12).toNat : Int), .int .u8 ((x.b 13).toNat : Int), .int .u8 ((x.b 14).toNat : Int), .int .u8 ((x.b 15).toNat : Int), .int .u8 (x.len.toNat : Int)] 37)).alloc (Obj.cells #[.int .i64 0, .int .u64 0, .string ⟨#[]⟩, .int .i64 0] 24)).heap.size = w.heap.size + 1 + 1 by simp] at hP
  rw [show (w.alloc (Obj.cells #[.int .u8 (x.fam.toNat : Int), .int .u64 (x.rd : Int), .int .u8 ((x.b 0).toNat : Int), .int .u8 ((x.b 1).toNat : Int), .int .u8 ((x.b 2).toNat : Int), .int .u8 ((x.b 3).toNat : Int), .int .u8 ((x.b 4).toNat : Int), .int .u8 ((x.b 5).toNat : Int), .int .u8 ((x.b 6).toNat : Int), .int .u8 ((x.b 7).toNat : Int), .int .u8 ((x.b 8).toNat : Int), .int .u8 ((x.b 9).toNat : Int), .int .u8 ((x.b 10).toNat : Int), .int .u8 ((x.b 11).toNat : Int), .int .u8 ((x.b 12).toNat : Int), .int .u8 ((x.b 13).toNat : Int), .int .u8 ((x.b 14).toNat : Int), .int .u8 ((x.b 15).toNat : Int), .int .u8 (x.len.toNat : Int)] 37)).heap.size = w.heap.size + 1 by simp] at hR
  generalize (((w.alloc (Obj.cells #[.int .u8 (x.fam.toNat : Int), .int .u64 (x.rd : Int), .int .u8 ((x.b 0).toNat : Int), .int .u8 ((x.b 1).toNat : Int), .int .u8 ((x.b 2).toNat : Int), .int .u8 ((x.b 3).toNat : Int), .int .u8 ((x.b 4).toNat : Int), .int .u8 ((x.b 5).toNat : Int), .int .u8 ((x.b 6).toNat : Int), .int .u8 ((x.b 7).toNat : Int), .int .u8 ((x.b 8).toNat : Int), .int .u8 ((x.b 9).toNat : Int), .int .u8 ((x.b 10).toNat : Int), .int .u8 ((x.b 11).toNat : Int), .int .u8 ((x.b 12).toNat : Int), .int .u8 ((x.b 13).toNat : Int), .int .u8 ((x.b 14).toNat : Int), .int .u8 ((x.b 15).toNat : Int), .int .u8 (x.len.toNat : Int)] 37)).alloc (Obj.cells #[.int .i64 0, .int .u64 0, .string ⟨#[]⟩, .int .i64 0] 24)).alloc (Obj.cells #[.int .i64 4, .int .u64 0, .string ⟨#[]⟩, .int .i64 0] 24)) = W at hX hE hP hR ⊢
  replace hE := hide hE
  replace hX := hide hX
  replace hP := hide hP
  replace hR := hide hR
  have x1 : W.cell? ⟨w.heap.size, 1, none⟩ = some (.int .u64 (x.rd : Int)) := hX.cell 1
  have x18 : W.cell? ⟨w.heap.size, 18, none⟩ = some (.int .u8 (x.len.toNat : Int)) := hX.cell 18
  have p0 : W.cell? ⟨w.heap.size + 1 + 1, 0, none⟩ = some (.int .i64 4) := hP.cell 0
  have p1 : W.cell? ⟨w.heap.size + 1 + 1, 1, none⟩ = some (.int .u64 0) := hP.cell 1
  have p2 : W.cell? ⟨w.heap.size + 1 + 1, 2, none⟩ = some (.string ⟨#[]⟩) := hP.cell 2
  have p3 : W.cell? ⟨w.heap.size + 1 + 1, 3, none⟩ = some (.int .i64 0) := hP.cell 3
  have r0 := hP.frozen 0
  have r1 := hP.frozen 1
  have r2 := hP.frozen 2
  have r3 := hP.frozen 3
  have hcv : ∀ V : World, V.heap[w.heap.size]? = W.heap[w.heap.size]? → (convert 51 9 (.slice (some ⟨w.heap.size, 2, none⟩) 4 16)).run Tryd.prog V = .ok (.string ⟨#[x.b 0, x.b 1, x.b 2, x.b 3]⟩) V := fun V hV => by
    have hXV : Blk V w.heap.size 37 #[.int .u8 (x.fam.toNat : Int), .int .u64 (x.rd : Int), .int .u8 ((x.b 0).toNat : Int), .int .u8 ((x.b 1).toNat : Int), .int .u8 ((x.b 2).toNat : Int), .int .u8 ((x.b 3).toNat : Int), .int .u8 ((x.b 4).toNat : Int), .int .u8 ((x.b 5).toNat : Int), .int .u8 ((x.b 6).toNat : Int), .int .u8 ((x.b 7).toNat : Int), .int .u8 ((x.b 8).toNat : Int), .int .u8 ((x.b 9).toNat : Int), .int .u8 ((x.b 10).toNat : Int), .int .u8 ((x.b 11).toNat : Int), .int .u8 ((x.b 12).toNat : Int), .int .u8 ((x.b 13).toNat : Int), .int .u8 ((x.b 14).toNat : Int), .int .u8 ((x.b 15).toNat : Int), .int .u8 (x.len.toNat : Int)] := hV.trans hX
    refine run_convert_bytes_back V 51 9 5 ⟨w.heap.size, 2, none⟩ 16 [x.b 0, x.b 1, x.b 2, x.b 3] Tryd.underlying51 Tryd.underlying5 Tryd.underlying9 fun j hj => ?_
    have hj' : j < 4 := hj
    rw [add_lit, hXV.cell]
    rcases (show j = 0 ∨ j = 1 ∨ j = 2 ∨ j = 3 by omega) with rfl | rfl | rfl | rfl <;> rfl
  have hcv0 := hcv (W.setCell ⟨w.heap.size + 1 + 1, 1, none⟩ (.int .u64 (D : Int))) (Below.heap_setCell W _ _ _ (show w.heap.size ≠ w.heap.size + 1 + 1 by omega))
  replace hcv := hide hcv
  go_wp2
  have hP2 : Blk (((W.setCell ⟨w.heap.size + 1 + 1, 1, none⟩ (.int .u64 (D : Int))).setCell ⟨w.heap.size + 1 + 1, 2, none⟩ (.string ⟨#[x.b 0, x.b 1, x.b 2, x.b 3]⟩)).setCell ⟨w.heap.size + 1 + 1, 3, none⟩ (.int .i64 32)) (w.heap.size + 1 + 1) 24 #[.int .i64 4, .int .u64 (D : Int), .string ⟨#[x.b 0, x.b 1, x.b 2, x.b 3]⟩, .int .i64 32] := by simpa using (((hP.out.set_ 1 (.int .u64 (D : Int))).set_ 2 (.string ⟨#[x.b 0, x.b 1, x.b 2, x.b 3]⟩)).set_ 3 (.int .i64 32))
  have hX2 : Blk (((W.setCell ⟨w.heap.size + 1 + 1, 1, none⟩ (.int .u64 (D : Int))).setCell ⟨w.heap.size + 1 + 1, 2, none⟩ (.string ⟨#[x.b 0, x.b 1, x.b 2, x.b 3]⟩)).setCell ⟨w.heap.size + 1 + 1, 3, none⟩ (.int .i64 32)) w.heap.size 37 #[.int .u8 (x.fam.toNat : Int), .int .u64 (x.rd : Int), .int .u8 ((x.b 0).toNat : Int), .int .u8 ((x.b 1).toNat : Int), .int .u8 ((x.b 2).toNat : Int), .int .u8 ((x.b 3).toNat : Int), .int .u8 ((x.b 4).toNat : Int), .int .u8 ((x.b 5).toNat : Int), .int .u8 ((x.b 6).toNat : Int), .int .u8 ((x.b 7).toNat : Int), .int .u8 ((x.b 8).toNat : Int), .int .u8 ((x.b 9).toNat : Int), .int .u8 ((x.b 10).toNat : Int), .int .u8 ((x.b 11).toNat : Int), .int .u8 ((x.b 12).toNat : Int), .int .u8 ((x.b 13).toNat : Int), .int .u8 ((x.b 14).toNat : Int), .int .u8 ((x.b 15).toNat : Int), .int .u8 (x.len.toNat : Int)] := (((hX.out.far (show w.heap.size ≠ w.heap.size + 1 + 1 by omega) _).far (show w.heap.size ≠ w.heap.size + 1 + 1 by omega) _).far (show w.heap.size ≠ w.heap.size + 1 + 1 by omega) _)
  have hR2 : Blk (((W.setCell ⟨w.heap.size + 1 + 1, 1, none⟩ (.int .u64 (D : Int))).setCell ⟨w.heap.size + 1 + 1, 2, none⟩ (.string ⟨#[x.b 0, x.b 1, x.b 2, x.b 3]⟩)).setCell ⟨w.heap.size + 1 + 1, 3, none⟩ (.int .i64 32)) (w.heap.size + 1) 24 #[.int .i64 0, .int .u64 0, .string ⟨#[]⟩, .int .i64 0] := (((hR.out.far (show w.heap.size + 1 ≠ w.heap.size + 1 + 1 by omega) _).far (show w.heap.size + 1 ≠ w.heap.size + 1 + 1 by omega) _).far (show w.heap.size + 1 ≠ w.heap.size + 1 + 1 by omega) _)
  have hE2 : Ext w (((W.setCell ⟨w.heap.size + 1 + 1, 1, none⟩ (.int .u64 (D : Int))).setCell ⟨w.heap.size + 1 + 1, 2, none⟩ (.string ⟨#[x.b 0, x.b 1, x.b 2, x.b 3]⟩)).setCell ⟨w.heap.size + 1 + 1, 3, none⟩ (.int .i64 32)) := (((hE.out.setCell (show w.heap.size ≤ w.heap.size + 1 + 1 by omega) _).setCell (show w.heap.size ≤ w.heap.size + 1 + 1 by omega) _).setCell (show w.heap.size ≤ w.heap.size + 1 + 1 by omega) _)
  clear x1 x18 p0 p1 p2 p3 r0 r1 r2 r3 hcv0
  generalize (((W.setCell ⟨w.heap.size + 1 + 1, 1, none⟩ (.int .u64 (D : Int))).setCell ⟨w.heap.size + 1 + 1, 2, none⟩ (.string ⟨#[x.b 0, x.b 1, x.b 2, x.b 3]⟩)).setCell ⟨w.heap.size + 1 + 1, 3, none⟩ (.int .i64 32)) = V at hP2 hX2 hR2 hE2 ⊢
  clear hcv hX hP hR hE
  replace hE2 := hide hE2
  replace hX2 := hide hX2
  replace hP2 := hide hP2
  replace hR2 := hide hR2
  have x18 : V.cell? ⟨w.heap.size, 18, none⟩ = some (.int .u8 (x.len.toNat : Int)) := hX2.cell 18
  have p0 : V.cell? ⟨w.heap.size + 1 + 1, 0, none⟩ = some (.int .i64 4) := hP2.cell 0
  have p1 : V.cell? ⟨w.heap.size + 1 + 1, 1, none⟩ = some (.int .u64 (D : Int)) := hP2.cell 1
  have p2 : V.cell? ⟨w.heap.size + 1 + 1, 2, none⟩ = some (.string ⟨#[x.b 0, x.b 1, x.b 2, x.b 3]⟩) := hP2.cell 2
  have p3 : V.cell? ⟨w.heap.size + 1 + 1, 3, none⟩ = some (.int .i64 32) := hP2.cell 3
  have hPa := hP2.alloc (Obj.cells #[.int .i64 0, .int .u64 0, .string ⟨#[]⟩, .int .i64 0] 24)
  have hXa := hX2.alloc (Obj.cells #[.int .i64 0, .int .u64 0, .string ⟨#[]⟩, .int .i64 0] 24)
  replace hPa := hide hPa
  replace hXa := hide hXa
  have xa18 : (V.alloc (Obj.cells #[.int .i64 0, .int .u64 0, .string ⟨#[]⟩, .int .i64 0] 24)).cell? ⟨w.heap.size, 18, none⟩ = some (.int .u8 (x.len.toNat : Int)) := hXa.out.cell 18
  have pa0 : (V.alloc (Obj.cells #[.int .i64 0, .int .u64 0, .string ⟨#[]⟩, .int .i64 0] 24)).cell? ⟨w.heap.size + 1 + 1, 0, none⟩ = some (.int .i64 4) := hPa.out.cell 0
  have pa1 : (V.alloc (Obj.cells #[.int .i64 0, .int .u64 0, .string ⟨#[]⟩, .int .i64 0] 24)).cell? ⟨w.heap.size + 1 + 1, 1, none⟩ = some (.int .u64 (D : Int)) := hPa.out.cell 1
  have pa2 : (V.alloc (Obj.cells #[.int .i64 0, .int .u64 0, .string ⟨#[]⟩, .int .i64 0] 24)).cell? ⟨w.heap.size + 1 + 1, 2, none⟩ = some (.string ⟨#[x.b 0, x.b 1, x.b 2, x.b 3]⟩) := hPa.out.cell 2
  have pa3 : (V.alloc (Obj.cells #[.int .i64 0, .int .u64 0, .string ⟨#[]⟩, .int .i64 0] 24)).cell? ⟨w.heap.size + 1 + 1, 3, none⟩ = some (.int .i64 32) := hPa.out.cell 3
  have w1 : IntKind.i64.wrap (x.len.toNat : Int) = (x.len.toNat : Int) := by have := x.len.toNat_lt; rw [IntKind.wrap_i64]; omega
  have w2 : IntKind.i64.wrap 32 = 32 := by decide
  have w3 : IntKind.i64.wrap 33 = 33 := by decide
  have w4 : IntKind.i64.wrap (32 + 1) = 33 := by decide
  have hnm : (Tryd.f10.name == "runtime.NumGoroutine") = false := by kernel_rfl
  have hbd : Tryd.f10.body.isNone = false := by kernel_rfl
  replace hnm := hide hnm
  replace hbd := hide hbd
  go_region_law_o (
                     refine step_callN (fn := Tryd.f10) (by rfl) _ _ _ rfl Tryd.func10 hnm.out hbd.out #[.agg #[.int .i64 4, .int .u64 (D : Int), .string ⟨#[x.b 0, x.b 1, x.b 2, x.b 3]⟩, .int .i64 32], .int .i64 L] (by simp [Act.eval, Act.put]) (hct.out _) ?_
                     rintro e w5 ⟨rfl, he5⟩
                     refine ⟨_, rfl, ?_⟩
                     first
                     | (have hQ5 : Blk w5 V.heap.size 24 #[.int .i64 0, .int .u64 0, .string ⟨#[]⟩, .int .i64 0] := (Blk.new V 24 #[.int .i64 0, .int .u64 0, .string ⟨#[]⟩, .int .i64 0]).drew.ext he5
                        have q0 : w5.cell? ⟨V.heap.size, 0, none⟩ = some (.int .i64 0) := hQ5.cell 0
                        have q1 : w5.cell? ⟨V.heap.size, 1, none⟩ = some (.int .u64 0) := hQ5.cell 1
                        have q2 : w5.cell? ⟨V.heap.size, 2, none⟩ = some (.string ⟨#[]⟩) := hQ5.cell 2
                        have q3 : w5.cell? ⟨V.heap.size, 3, none⟩ = some (.int .i64 0) := hQ5.cell 3
                        have t0 := hQ5.frozen 0
                        have t1 := hQ5.frozen 1
                        have t2 := hQ5.frozen 2
                        have t3 := hQ5.frozen 3
                        replace hQ5 := hide hQ5
                        replace he5 := hide he5)
                     | (have hnoQ : True := trivial
                        replace he5 := hide he5))
  all_goals
    have hlt := hR2.out.lt
    first
    | (have hQZ : Blk (w5.alloc (Obj.cells #[.int .i64 R.fam, .int .u64 (R.rd : Int), .string ⟨R.addr.toArray⟩, .int .i64 R.len] 24)) w5.heap.size 24 #[.int .i64 R.fam, .int .u64 (R.rd : Int), .string ⟨R.addr.toArray⟩, .int .i64 R.len] := Blk.new w5 _ _
       have hRZ : Blk (w5.alloc (Obj.cells #[.int .i64 R.fam, .int .u64 (R.rd : Int), .string ⟨R.addr.toArray⟩, .int .i64 R.len] 24)) (w.heap.size + 1) 24 #[.int .i64 0, .int .u64 0, .string ⟨#[]⟩, .int .i64 0] := (hR2.out.drew.ext he5.out).alloc _
       have hEZ : Ext w (w5.alloc (Obj.cells #[.int .i64 R.fam, .int .u64 (R.rd : Int), .string ⟨R.addr.toArray⟩, .int .i64 R.len] 24)) := (hE2.out.drewN 1 |>.trans he5.out).alloc _
       clear p0 p1 p2 p3 x18 xa18 pa0 pa1 pa2 pa3
       generalize (w5.alloc (Obj.cells #[.int .i64 R.fam, .int .u64 (R.rd : Int), .string ⟨R.addr.toArray⟩, .int .i64 R.len] 24)) = Z at hQZ hRZ hEZ ⊢
       have z0 : Z.cell? ⟨w5.heap.size, 0, none⟩ = some (.int .i64 R.fam) := hQZ.cell 0
       have z1 : Z.cell? ⟨w5.heap.size, 1, none⟩ = some (.int .u64 (R.rd : Int)) := hQZ.cell 1
       have z2 : Z.cell? ⟨w5.heap.size, 2, none⟩ = some (.string ⟨R.addr.toArray⟩) := hQZ.cell 2
       have z3 : Z.cell? ⟨w5.heap.size, 3, none⟩ = some (.int .i64 R.len) := hQZ.cell 3
       have s0 : Z.cell? ⟨w.heap.size + 1, 0, none⟩ = some (.int .i64 0) := hRZ.cell 0
       have s1 : Z.cell? ⟨w.heap.size + 1, 1, none⟩ = some (.int .u64 0) := hRZ.cell 1
       have s2 : Z.cell? ⟨w.heap.size + 1, 2, none⟩ = some (.string ⟨#[]⟩) := hRZ.cell 2
       have s3 : Z.cell? ⟨w.heap.size + 1, 3, none⟩ = some (.int .i64 0) := hRZ.cell 3
       have v0 := hRZ.frozen 0
       have v1 := hRZ.frozen 1
       have v2 := hRZ.frozen 2
       have v3 := hRZ.frozen 3
       replace hQZ := hide hQZ
       replace hRZ := hide hRZ
       replace hEZ := hide hEZ
       go_wp2
       have hZ := hRZ.out.set4 (.int .i64 R.fam) (.int .u64 (R.rd : Int)) (.string ⟨R.addr.toArray⟩) (.int .i64 R.len)
       have hEY := hEZ.out.set4 (show w.heap.size ≤ w.heap.size + 1 by omega) (.int .i64 R.fam) (.int .u64 (R.rd : Int)) (.string ⟨R.addr.toArray⟩) (.int .i64 R.len)
       generalize (((Z.setCell ⟨w.heap.size + 1, 0, none⟩ (.int .i64 R.fam)).setCell ⟨w.heap.size + 1, 1, none⟩ (.int .u64 (R.rd : Int))).setCell ⟨w.heap.size + 1, 2, none⟩ (.string ⟨R.addr.toArray⟩)).setCell ⟨w.heap.size + 1, 3, none⟩ (.int .i64 R.len) = Y at hZ hEY ⊢
       have y0 : Y.cell? ⟨w.heap.size + 1, 0, none⟩ = some (.int .i64 R.fam) := hZ.cell 0
       have y1 : Y.cell? ⟨w.heap.size + 1, 1, none⟩ = some (.int .u64 (R.rd : Int)) := hZ.cell 1
       have y2 : Y.cell? ⟨w.heap.size + 1, 2, none⟩ = some (.string ⟨R.addr.toArray⟩) := hZ.cell 2
       have y3 : Y.cell? ⟨w.heap.size + 1, 3, none⟩ = some (.int .i64 R.len) := hZ.cell 3
       exact bodyPost_ret (v := .agg #[.int .i64 R.fam, .int .u64 (R.rd : Int), .string ⟨R.addr.toArray⟩, .int .i64 R.len]) (by simp [results, Tryd.results21, go_sem, y0, y1, y2, y3]) rfl ⟨rfl, hEY⟩)
    | (have hQZ : Blk ((((w5.setCell ⟨V.heap.size, 0, none⟩ (.int .i64 R.fam)).setCell ⟨V.heap.size, 1, none⟩ (.int .u64 (R.rd : Int))).setCell ⟨V.heap.size, 2, none⟩ (.string ⟨R.addr.toArray⟩)).setCell ⟨V.heap.size, 3, none⟩ (.int .i64 R.len)) V.heap.size 24 #[.int .i64 R.fam, .int .u64 (R.rd : Int), .string ⟨R.addr.toArray⟩, .int .i64 R.len] := hQ5.out.set4 _ _ _ _
       have hRZ : Blk ((((w5.setCell ⟨V.heap.size, 0, none⟩ (.int .i64 R.fam)).setCell ⟨V.heap.size, 1, none⟩ (.int .u64 (R.rd : Int))).setCell ⟨V.heap.size, 2, none⟩ (.string ⟨R.addr.toArray⟩)).setCell ⟨V.heap.size, 3, none⟩ (.int .i64 R.len)) (w.heap.size + 1) 24 #[.int .i64 0, .int .u64 0, .string ⟨#[]⟩, .int .i64 0] := ((((((hR2.out.alloc _).drew.ext he5.out).far (show w.heap.size + 1 ≠ V.heap.size by omega) _).far (show w.heap.size + 1 ≠ V.heap.size by omega) _).far (show w.heap.size + 1 ≠ V.heap.size by omega) _).far (show w.heap.size + 1 ≠ V.heap.size by omega) _)
       have hEZ : Ext w ((((w5.setCell ⟨V.heap.size, 0, none⟩ (.int .i64 R.fam)).setCell ⟨V.heap.size, 1, none⟩ (.int .u64 (R.rd : Int))).setCell ⟨V.heap.size, 2, none⟩ (.string ⟨R.addr.toArray⟩)).setCell ⟨V.heap.size, 3, none⟩ (.int .i64 R.len)) := (((hE2.out.alloc _).drew).trans he5.out).set4 (show w.heap.size ≤ V.heap.size by omega) _ _ _ _
       clear p0 p1 p2 p3 x18 xa18 pa0 pa1 pa2 pa3
       generalize ((((w5.setCell ⟨V.heap.size, 0, none⟩ (.int .i64 R.fam)).setCell ⟨V.heap.size, 1, none⟩ (.int .u64 (R.rd : Int))).setCell ⟨V.heap.size, 2, none⟩ (.string ⟨R.addr.toArray⟩)).setCell ⟨V.heap.size, 3, none⟩ (.int .i64 R.len)) = Z at hQZ hRZ hEZ ⊢
       have z0 : Z.cell? ⟨V.heap.size, 0, none⟩ = some (.int .i64 R.fam) := hQZ.cell 0
       have z1 : Z.cell? ⟨V.heap.size, 1, none⟩ = some (.int .u64 (R.rd : Int)) := hQZ.cell 1
       have z2 : Z.cell? ⟨V.heap.size, 2, none⟩ = some (.string ⟨R.addr.toArray⟩) := hQZ.cell 2
       have z3 : Z.cell? ⟨V.heap.size, 3, none⟩ = some (.int .i64 R.len) := hQZ.cell 3
       have s0 : Z.cell? ⟨w.heap.size + 1, 0, none⟩ = some (.int .i64 0) := hRZ.cell 0
       have s1 : Z.cell? ⟨w.heap.size + 1, 1, none⟩ = some (.int .u64 0) := hRZ.cell 1
       have s2 : Z.cell? ⟨w.heap.size + 1, 2, none⟩ = some (.string ⟨#[]⟩) := hRZ.cell 2
       have s3 : Z.cell? ⟨w.heap.size + 1, 3, none⟩ = some (.int .i64 0) := hRZ.cell 3
       have v0 := hRZ.frozen 0
       have v1 := hRZ.frozen 1
       have v2 := hRZ.frozen 2
       have v3 := hRZ.frozen 3
       replace hQZ := hide hQZ
       replace hRZ := hide hRZ
       replace hEZ := hide hEZ
       go_wp2
       have hZ := hRZ.out.set4 (.int .i64 R.fam) (.int .u64 (R.rd : Int)) (.string ⟨R.addr.toArray⟩) (.int .i64 R.len)
       have hEY := hEZ.out.set4 (show w.heap.size ≤ w.heap.size + 1 by omega) (.int .i64 R.fam) (.int .u64 (R.rd : Int)) (.string ⟨R.addr.toArray⟩) (.int .i64 R.len)
       generalize (((Z.setCell ⟨w.heap.size + 1, 0, none⟩ (.int .i64 R.fam)).setCell ⟨w.heap.size + 1, 1, none⟩ (.int .u64 (R.rd : Int))).setCell ⟨w.heap.size + 1, 2, none⟩ (.string ⟨R.addr.toArray⟩)).setCell ⟨w.heap.size + 1, 3, none⟩ (.int .i64 R.len) = Y at hZ hEY ⊢
       have y0 : Y.cell? ⟨w.heap.size + 1, 0, none⟩ = some (.int .i64 R.fam) := hZ.cell 0
       have y1 : Y.cell? ⟨w.heap.size + 1, 1, none⟩ = some (.int .u64 (R.rd : Int)) := hZ.cell 1
       have y2 : Y.cell? ⟨w.heap.size + 1, 2, none⟩ = some (.string ⟨R.addr.toArray⟩) := hZ.cell 2
       have y3 : Y.cell? ⟨w.heap.size + 1, 3, none⟩ = some (.int .i64 R.len) := hZ.cell 3
       exact bodyPost_ret (v := .agg #[.int .i64 R.fam, .int .u64 (R.rd : Int), .string ⟨R.addr.toArray⟩, .int .i64 R.len]) (by simp [results, Tryd.results21, go_sem, y0, y1, y2, y3]) rfl ⟨rfl, hEY⟩)
end Go.Proofs.YtbobpaailmbndaaDoor
