/- Walks: a prefix cut: the document's. -/
import Derived.Test.YtbobpaailmbndaaDoorP12
import Derived.Test.YtbobpaailmbndaaDoorP13
import Derived.Shelf.RegionOpenPlain
namespace Go.Proofs.YtbobpaailmbndaaDoor
open Go.RowKit Go.Sort
set_option linter.unusedVariables false

theorem mayB_cases (p : Pfx) : (MayP p ∧ mayB p = true) ∨ (¬ MayP p ∧ mayB p = false) := by
  by_cases h : MayP p
  · exact .inl ⟨h, decide_eq_true h⟩
  · exact .inr ⟨h, decide_eq_false h⟩

theorem okU8 : ElemOk Tryd.prog 51 5 1 1 := elemOk (z := .int .u8 0) Tryd.underlying51 (by kernel_rfl) rfl
theorem okU8z : Tryd.prog.info? 5 = none ∨ ∀ i, Tryd.prog.info? 5 = some i → i.zero = some (.int .u8 0) := by
  right; intro i hi
  have h : (Tryd.prog.info? 5).map (fun i => i.zero) = some (some (.int .u8 0)) := by kernel_rfl
  rw [hi] at h; simpa using h
theorem madeB (n : Nat) : madeCells (Value.cells (.int .u8 0)) n = Array.replicate n (.int .u8 0) := by
  apply Array.ext
  · simp [madeCells]
  · intro i h1 h2
    simp [madeCells, Value.cells, Nat.mod_one]
theorem run_makeB (n : Nat) (hn : n ≤ 1048576) (W : World) : (Instr.makeSlice 51 (.int .i64 (n : Int)) (.int .i64 (n : Int))).run Tryd.prog W = .ok (.slice (some ⟨W.heap.size, 0, none⟩) n n) (W.alloc (.cells (Array.replicate n (.int .u8 0)) 5)) := by
  obtain ⟨ht, i, z, hi, hz, hs, hb, _⟩ := okU8
  have hz0 : z = .int .u8 0 := by
    rcases okU8z with h | h
    · rw [hi] at h; cases h
    · have := h i hi
      rw [hz] at this
      exact Option.some.inj this
  have := run_make W 51 5 i z ht hi hz .i64 .i64 n n (by omega) (by omega) (by rw [hb]; omega) (by omega)
  rw [hs, hz0, madeB] at this
  simpa using this

set_option maxRecDepth 20000 in
set_option maxHeartbeats 6000000 in
theorem RCut_any (p : Pfx) (n : Int) (w : World) (hal : p.addr.length ≤ 1048576) :
    Calls Tryd.prog 11 #[valP p, .int .i64 n] w fun e w' => e = .returned (.tuple #[valP (cutS p n).1, .int .i64 (cutS p n).2]) ∧ Ext w w' := by
  have hck := fun W => RMay_any p W hal
  have hbld : ∀ W, (Instr.build 24 #[]).run Tryd.prog W = .ok (.agg #[.int .i64 0, .int .u64 0, .string ⟨#[]⟩, .int .i64 0]) W := fun W => run_build W 24 _ _ (by kernel_rfl)
  have mixed : Tryd.prog.follows Departure.mixedOrders = true := by kernel_rfl
  have hnm := hide (show (Tryd.f31.name == "runtime.NumGoroutine") = false by kernel_rfl)
  have hbd := hide (show Tryd.f31.body.isNone = false by kernel_rfl)
  have hcases : (¬ MayP p ∧ mayB p = false ∧ cutS p n = (zeroP, 2)) ∨ (MayP p ∧ mayB p = true ∧ n < 0 ∧ cutS p n = (zeroP, 2)) ∨ (MayP p ∧ mayB p = true ∧ 0 ≤ n ∧ p.len < n ∧ cutS p n = (zeroP, 2)) ∨ (MayP p ∧ mayB p = true ∧ 0 ≤ n ∧ n ≤ p.len ∧ cutS p n = (cutOf p n, 0)) := by
    rcases mayB_cases p with ⟨h, he⟩ | ⟨h, he⟩
    · by_cases h0 : n < 0
      · exact .inr (.inl ⟨h, he, h0, if_neg fun hc => by have := hc.2.1; omega⟩)
      · by_cases h1 : p.len < n
        · exact .inr (.inr (.inl ⟨h, he, by omega, h1, if_neg fun hc => by have := hc.2.2; omega⟩))
        · exact .inr (.inr (.inr ⟨h, he, by omega, by omega, if_pos ⟨h, by omega, by omega⟩⟩))
    · exact .inl ⟨h, he, if_neg fun hc => h hc.1⟩
  rcases hcases with ⟨hm, he, hc⟩ | ⟨hm, he, h0, hc⟩ | ⟨hm, he, h0, h1, hc⟩ | ⟨hm, he, h0, h1, hc⟩
  · rw [hc]
    rw [he] at hck
    simp only [valP, zeroP] at hck ⊢
    replace hck := hide hck
    replace hm := hide hm
    replace he := hide he
    replace hc := hide hc
    go_enter Tryd.func11, Tryd.ntmps11
    go_wp2_with fail
    refine (hck.out _).mono ?_
    rintro e w1 ⟨rfl, he1⟩
    have hB := (Blk.new (w.alloc (Obj.cells #[.int .i64 p.fam, .int .u64 (p.rd : Int), .string ⟨p.addr.toArray⟩, .int .i64 p.len] 24)) 24 #[.int .i64 0, .int .u64 0, .string ⟨#[]⟩, .int .i64 0]).ext he1
    rw [show (w.alloc (Obj.cells #[.int .i64 p.fam, .int .u64 (p.rd : Int), .string ⟨p.addr.toArray⟩, .int .i64 p.len] 24)).heap.size = w.heap.size + 1 by simp] at hB
    have hA := ((Blk.new w 24 #[.int .i64 p.fam, .int .u64 (p.rd : Int), .string ⟨p.addr.toArray⟩, .int .i64 p.len]).alloc (Obj.cells #[.int .i64 0, .int .u64 0, .string ⟨#[]⟩, .int .i64 0] 24)).ext he1
    have x0 : w1.cell? ⟨w.heap.size + 1, 0, none⟩ = some (.int .i64 0) := hB.cell 0
    have x1 : w1.cell? ⟨w.heap.size + 1, 1, none⟩ = some (.int .u64 0) := hB.cell 1
    have x2 : w1.cell? ⟨w.heap.size + 1, 2, none⟩ = some (.string ⟨#[]⟩) := hB.cell 2
    have x3 : w1.cell? ⟨w.heap.size + 1, 3, none⟩ = some (.int .i64 0) := hB.cell 3
    have y0 : w1.cell? ⟨w.heap.size, 0, none⟩ = some (.int .i64 p.fam) := hA.cell 0
    have y1 : w1.cell? ⟨w.heap.size, 1, none⟩ = some (.int .u64 (p.rd : Int)) := hA.cell 1
    have y2 : w1.cell? ⟨w.heap.size, 2, none⟩ = some (.string ⟨p.addr.toArray⟩) := hA.cell 2
    have y3 : w1.cell? ⟨w.heap.size, 3, none⟩ = some (.int .i64 p.len) := hA.cell 3
    have f0 := fun i => hB.frozen i
    have g0 := fun i => hA.frozen i
    have hE1 : Ext w w1 := (((Ext.refl w).alloc _).alloc _).trans he1
    clear he1
    replace hE1 := hide hE1
    replace hB := hide hB
    replace hA := hide hA
    go_wp2
    have hZ := hB.out.set4 (.int .i64 0) (.int .u64 0) (.string ⟨#[]⟩) (.int .i64 0)
    have hEZ := hE1.out.set4 (Nat.le_succ _) (.int .i64 0) (.int .u64 0) (.string ⟨#[]⟩) (.int .i64 0)
    generalize (((w1.setCell ⟨w.heap.size + 1, 0, none⟩ (.int .i64 0)).setCell ⟨w.heap.size + 1, 1, none⟩ (.int .u64 0)).setCell ⟨w.heap.size + 1, 2, none⟩ (.string ⟨#[]⟩)).setCell ⟨w.heap.size + 1, 3, none⟩ (.int .i64 0) = W2 at hZ hEZ ⊢
    have z0 : W2.cell? ⟨w.heap.size + 1, 0, none⟩ = some (.int .i64 0) := hZ.cell 0
    have z1 : W2.cell? ⟨w.heap.size + 1, 1, none⟩ = some (.int .u64 0) := hZ.cell 1
    have z2 : W2.cell? ⟨w.heap.size + 1, 2, none⟩ = some (.string ⟨#[]⟩) := hZ.cell 2
    have z3 : W2.cell? ⟨w.heap.size + 1, 3, none⟩ = some (.int .i64 0) := hZ.cell 3
    exact bodyPost_ret (v := .tuple #[.agg #[.int .i64 0, .int .u64 0, .string ⟨#[]⟩, .int .i64 0], .int .i64 2]) (by simp [results, Tryd.results11, go_sem, z0, z1, z2, z3]) rfl ⟨rfl, hEZ⟩
  · rw [hc]
    rw [he] at hck
    simp only [valP, zeroP] at hck ⊢
    replace hck := hide hck
    replace hm := hide hm
    replace he := hide he
    replace hc := hide hc
    go_enter Tryd.func11, Tryd.ntmps11
    go_wp2_with fail
    refine (hck.out _).mono ?_
    rintro e w1 ⟨rfl, he1⟩
    have hB := (Blk.new (w.alloc (Obj.cells #[.int .i64 p.fam, .int .u64 (p.rd : Int), .string ⟨p.addr.toArray⟩, .int .i64 p.len] 24)) 24 #[.int .i64 0, .int .u64 0, .string ⟨#[]⟩, .int .i64 0]).ext he1
    rw [show (w.alloc (Obj.cells #[.int .i64 p.fam, .int .u64 (p.rd : Int), .string ⟨p.addr.toArray⟩, .int .i64 p.len] 24)).heap.size = w.heap.size + 1 by simp] at hB
    have hA := ((Blk.new w 24 #[.int .i64 p.fam, .int .u64 (p.rd : Int), .string ⟨p.addr.toArray⟩, .int .i64 p.len]).alloc (Obj.cells #[.int .i64 0, .int .u64 0, .string ⟨#[]⟩, .int .i64 0] 24)).ext he1
    have x0 : w1.cell? ⟨w.heap.size + 1, 0, none⟩ = some (.int .i64 0) := hB.cell 0
    have x1 : w1.cell? ⟨w.heap.size + 1, 1, none⟩ = some (.int .u64 0) := hB.cell 1
    have x2 : w1.cell? ⟨w.heap.size + 1, 2, none⟩ = some (.string ⟨#[]⟩) := hB.cell 2
    have x3 : w1.cell? ⟨w.heap.size + 1, 3, none⟩ = some (.int .i64 0) := hB.cell 3
    have y0 : w1.cell? ⟨w.heap.size, 0, none⟩ = some (.int .i64 p.fam) := hA.cell 0
    have y1 : w1.cell? ⟨w.heap.size, 1, none⟩ = some (.int .u64 (p.rd : Int)) := hA.cell 1
    have y2 : w1.cell? ⟨w.heap.size, 2, none⟩ = some (.string ⟨p.addr.toArray⟩) := hA.cell 2
    have y3 : w1.cell? ⟨w.heap.size, 3, none⟩ = some (.int .i64 p.len) := hA.cell 3
    have f0 := fun i => hB.frozen i
    have g0 := fun i => hA.frozen i
    have hE1 : Ext w w1 := (((Ext.refl w).alloc _).alloc _).trans he1
    clear he1
    replace hE1 := hide hE1
    replace hB := hide hB
    replace hA := hide hA
    go_wp2
    have hZ := hB.out.set4 (.int .i64 0) (.int .u64 0) (.string ⟨#[]⟩) (.int .i64 0)
    have hEZ := hE1.out.set4 (Nat.le_succ _) (.int .i64 0) (.int .u64 0) (.string ⟨#[]⟩) (.int .i64 0)
    generalize (((w1.setCell ⟨w.heap.size + 1, 0, none⟩ (.int .i64 0)).setCell ⟨w.heap.size + 1, 1, none⟩ (.int .u64 0)).setCell ⟨w.heap.size + 1, 2, none⟩ (.string ⟨#[]⟩)).setCell ⟨w.heap.size + 1, 3, none⟩ (.int .i64 0) = W2 at hZ hEZ ⊢
    have z0 : W2.cell? ⟨w.heap.size + 1, 0, none⟩ = some (.int .i64 0) := hZ.cell 0
    have z1 : W2.cell? ⟨w.heap.size + 1, 1, none⟩ = some (.int .u64 0) := hZ.cell 1
    have z2 : W2.cell? ⟨w.heap.size + 1, 2, none⟩ = some (.string ⟨#[]⟩) := hZ.cell 2
    have z3 : W2.cell? ⟨w.heap.size + 1, 3, none⟩ = some (.int .i64 0) := hZ.cell 3
    exact bodyPost_ret (v := .tuple #[.agg #[.int .i64 0, .int .u64 0, .string ⟨#[]⟩, .int .i64 0], .int .i64 2]) (by simp [results, Tryd.results11, go_sem, z0, z1, z2, z3]) rfl ⟨rfl, hEZ⟩
  · rw [hc]
    rw [he] at hck
    simp only [valP, zeroP] at hck ⊢
    replace hck := hide hck
    replace hm := hide hm
    replace he := hide he
    replace hc := hide hc
    go_enter Tryd.func11, Tryd.ntmps11
    go_wp2_with fail
    refine (hck.out _).mono ?_
    rintro e w1 ⟨rfl, he1⟩
    have hB := (Blk.new (w.alloc (Obj.cells #[.int .i64 p.fam, .int .u64 (p.rd : Int), .string ⟨p.addr.toArray⟩, .int .i64 p.len] 24)) 24 #[.int .i64 0, .int .u64 0, .string ⟨#[]⟩, .int .i64 0]).ext he1
    rw [show (w.alloc (Obj.cells #[.int .i64 p.fam, .int .u64 (p.rd : Int), .string ⟨p.addr.toArray⟩, .int .i64 p.len] 24)).heap.size = w.heap.size + 1 by simp] at hB
    have hA := ((Blk.new w 24 #[.int .i64 p.fam, .int .u64 (p.rd : Int), .string ⟨p.addr.toArray⟩, .int .i64 p.len]).alloc (Obj.cells #[.int .i64 0, .int .u64 0, .string ⟨#[]⟩, .int .i64 0] 24)).ext he1
    have x0 : w1.cell? ⟨w.heap.size + 1, 0, none⟩ = some (.int .i64 0) := hB.cell 0
    have x1 : w1.cell? ⟨w.heap.size + 1, 1, none⟩ = some (.int .u64 0) := hB.cell 1
    have x2 : w1.cell? ⟨w.heap.size + 1, 2, none⟩ = some (.string ⟨#[]⟩) := hB.cell 2
    have x3 : w1.cell? ⟨w.heap.size + 1, 3, none⟩ = some (.int .i64 0) := hB.cell 3
    have y0 : w1.cell? ⟨w.heap.size, 0, none⟩ = some (.int .i64 p.fam) := hA.cell 0
    have y1 : w1.cell? ⟨w.heap.size, 1, none⟩ = some (.int .u64 (p.rd : Int)) := hA.cell 1
    have y2 : w1.cell? ⟨w.heap.size, 2, none⟩ = some (.string ⟨p.addr.toArray⟩) := hA.cell 2
    have y3 : w1.cell? ⟨w.heap.size, 3, none⟩ = some (.int .i64 p.len) := hA.cell 3
    have f0 := fun i => hB.frozen i
    have g0 := fun i => hA.frozen i
    have hE1 : Ext w w1 := (((Ext.refl w).alloc _).alloc _).trans he1
    clear he1
    replace hE1 := hide hE1
    replace hB := hide hB
    replace hA := hide hA
    go_wp2
    have hZ := hB.out.set4 (.int .i64 0) (.int .u64 0) (.string ⟨#[]⟩) (.int .i64 0)
    have hEZ := hE1.out.set4 (Nat.le_succ _) (.int .i64 0) (.int .u64 0) (.string ⟨#[]⟩) (.int .i64 0)
    generalize (((w1.setCell ⟨w.heap.size + 1, 0, none⟩ (.int .i64 0)).setCell ⟨w.heap.size + 1, 1, none⟩ (.int .u64 0)).setCell ⟨w.heap.size + 1, 2, none⟩ (.string ⟨#[]⟩)).setCell ⟨w.heap.size + 1, 3, none⟩ (.int .i64 0) = W2 at hZ hEZ ⊢
    have z0 : W2.cell? ⟨w.heap.size + 1, 0, none⟩ = some (.int .i64 0) := hZ.cell 0
    have z1 : W2.cell? ⟨w.heap.size + 1, 1, none⟩ = some (.int .u64 0) := hZ.cell 1
    have z2 : W2.cell? ⟨w.heap.size + 1, 2, none⟩ = some (.string ⟨#[]⟩) := hZ.cell 2
    have z3 : W2.cell? ⟨w.heap.size + 1, 3, none⟩ = some (.int .i64 0) := hZ.cell 3
    exact bodyPost_ret (v := .tuple #[.agg #[.int .i64 0, .int .u64 0, .string ⟨#[]⟩, .int .i64 0], .int .i64 2]) (by simp [results, Tryd.results11, go_sem, z0, z1, z2, z3]) rfl ⟨rfl, hEZ⟩
  · rw [hc]
    rw [he] at hck
    simp only [valP, cutOf] at hck ⊢
    replace hck := hide hck
    replace hm := hide hm
    replace he := hide he
    replace hc := hide hc
    go_enter Tryd.func11, Tryd.ntmps11
    go_wp2_with fail
    refine (hck.out _).mono ?_
    rintro e w1 ⟨rfl, he1⟩
    have hB := (Blk.new (w.alloc (Obj.cells #[.int .i64 p.fam, .int .u64 (p.rd : Int), .string ⟨p.addr.toArray⟩, .int .i64 p.len] 24)) 24 #[.int .i64 0, .int .u64 0, .string ⟨#[]⟩, .int .i64 0]).ext he1
    rw [show (w.alloc (Obj.cells #[.int .i64 p.fam, .int .u64 (p.rd : Int), .string ⟨p.addr.toArray⟩, .int .i64 p.len] 24)).heap.size = w.heap.size + 1 by simp] at hB
    have hA := ((Blk.new w 24 #[.int .i64 p.fam, .int .u64 (p.rd : Int), .string ⟨p.addr.toArray⟩, .int .i64 p.len]).alloc (Obj.cells #[.int .i64 0, .int .u64 0, .string ⟨#[]⟩, .int .i64 0] 24)).ext he1
    have x0 : w1.cell? ⟨w.heap.size + 1, 0, none⟩ = some (.int .i64 0) := hB.cell 0
    have x1 : w1.cell? ⟨w.heap.size + 1, 1, none⟩ = some (.int .u64 0) := hB.cell 1
    have x2 : w1.cell? ⟨w.heap.size + 1, 2, none⟩ = some (.string ⟨#[]⟩) := hB.cell 2
    have x3 : w1.cell? ⟨w.heap.size + 1, 3, none⟩ = some (.int .i64 0) := hB.cell 3
    have y0 : w1.cell? ⟨w.heap.size, 0, none⟩ = some (.int .i64 p.fam) := hA.cell 0
    have y1 : w1.cell? ⟨w.heap.size, 1, none⟩ = some (.int .u64 (p.rd : Int)) := hA.cell 1
    have y2 : w1.cell? ⟨w.heap.size, 2, none⟩ = some (.string ⟨p.addr.toArray⟩) := hA.cell 2
    have y3 : w1.cell? ⟨w.heap.size, 3, none⟩ = some (.int .i64 p.len) := hA.cell 3
    have f0 := fun i => hB.frozen i
    have g0 := fun i => hA.frozen i
    have hE1 : Ext w w1 := (((Ext.refl w).alloc _).alloc _).trans he1
    clear he1
    replace hE1 := hide hE1
    replace hB := hide hB
    replace hA := hide hA
    have hal2 : p.addr.length ≤ 16 := hm.out.1.small.1
    have hmake := run_makeB p.addr.length hal w1
    go_wp2_with fail
    have hO := OwnB.zeros (e := 5) w1 p.addr.length (by unfold maxLen; omega)
    rw [← mask_none p.addr 0 (Int.le_refl _)] at hO
    have hE2 : Ext w1 (w1.alloc (.cells (Array.replicate p.addr.length (.int .u8 0)) 5)) := (Ext.refl _).alloc _
    generalize hW2 : w1.alloc (.cells (Array.replicate p.addr.length (.int .u8 0)) 5) = W2 at hO hE2 ⊢
    clear hW2 hmake
    go_loopw [7] (fun q wr => ∃ k : Nat, (k : Int) ≤ n ∧ q = .int .i64 k ∧ OwnB 5 wr w1.heap.size (.slice (some ⟨w1.heap.size, 0, none⟩) p.addr.length p.addr.length) (maskS p.addr k) ∧ Ext w1 wr) (fun q _ => (n - intOf q).toNat)
    case atStart => exact ⟨0, by omega, rfl, hO, hE2⟩
    case round =>
      clear hO hE2 W2 x0 x1 x2 x3 y0 y1 y2 y3 f0 g0
      obtain ⟨k, hk, rfl, hO, hE⟩ := hrel
      have hB2 := hB.out.ext hE
      have hA2 := hA.out.ext hE
      have x0 : wr.cell? ⟨w.heap.size + 1, 0, none⟩ = some (.int .i64 0) := hB2.cell 0
      have x1 : wr.cell? ⟨w.heap.size + 1, 1, none⟩ = some (.int .u64 0) := hB2.cell 1
      have x2 : wr.cell? ⟨w.heap.size + 1, 2, none⟩ = some (.string ⟨#[]⟩) := hB2.cell 2
      have x3 : wr.cell? ⟨w.heap.size + 1, 3, none⟩ = some (.int .i64 0) := hB2.cell 3
      have y0 : wr.cell? ⟨w.heap.size, 0, none⟩ = some (.int .i64 p.fam) := hA2.cell 0
      have y1 : wr.cell? ⟨w.heap.size, 1, none⟩ = some (.int .u64 (p.rd : Int)) := hA2.cell 1
      have y2 : wr.cell? ⟨w.heap.size, 2, none⟩ = some (.string ⟨p.addr.toArray⟩) := hA2.cell 2
      have f0 := fun i => hB2.frozen i
      replace hB2 := hide hB2
      replace hA2 := hide hA2
      replace hE := hide hE
      by_cases hlt : (k : Int) < n
      · have hn128 : n ≤ 128 := by have := hm.out.1.small; omega
        have h8 := hm.out.1.2.1
        have h84 := hm.out.1.2.2.2.1
        have hk8 : k < 8 * p.addr.length := by omega
        obtain ⟨x, hx, hset⟩ := mask_step p.addr k hk8
        obtain ⟨u0, v0⟩ := hO.cell rfl (k / 8) (by rw [maskS_len]; omega)
        have hxx : (maskS p.addr k)[k / 8]'(by rw [maskS_len]; omega) = x := by
          rw [List.getElem?_eq_getElem (by rw [maskS_len]; omega)] at hx
          exact Option.some.inj hx
        rw [hxx] at u0
        have hOs := hO.set (k / 8) (UInt8.ofNat (x.toNat ||| (if bitN p.addr k then 2 ^ (7 - k % 8) else 0)))
        rw [hset] at hOs
        have hbt := RBit_any p.addr k wr.drew (by omega) (by omega) (by omega)
        have hbz : bitZ p.addr k = bitN p.addr k := by unfold bitZ; rw [if_neg (by omega)]; rfl
        rw [hbz] at hbt
        have hor : ∀ (X : Int), X = (((if bitN p.addr k then 2 ^ (7 - k % 8) else 0 : Nat)) : Int) → bits .or .u8 (x.toNat : Int) X = ((UInt8.ofNat (x.toNat ||| (if bitN p.addr k then 2 ^ (7 - k % 8) else 0))).toNat : Int) := by
          intro X hX
          have hlt : (if bitN p.addr k then 2 ^ (7 - k % 8) else 0) < 256 := by
            split
            · exact Nat.lt_of_le_of_lt (Nat.pow_le_pow_right (by omega) (show 7 - k % 8 ≤ 7 by omega)) (by decide)
            · decide
          have hl2 : x.toNat ||| (if bitN p.addr k then 2 ^ (7 - k % 8) else 0) < 2 ^ 8 := Nat.or_lt_two_pow x.toNat_lt hlt
          rw [hX, u8_or_nat _ _ x.toNat_lt hlt, UInt8.toNat_ofNat', Nat.mod_eq_of_lt hl2]
        clear hset hx hxx hbz
        obtain ⟨q, hq⟩ : ∃ q, q = k / 8 := ⟨_, rfl⟩
        have hkq : k = 8 * q + k % 8 := by omega
        rw [← hq] at u0 v0 hOs
        obtain ⟨j, hj⟩ : ∃ j, j = k % 8 := ⟨_, rfl⟩
        rw [← hj] at hor hOs
        have hql : q < p.addr.length := by omega
        have hqlI : (q : Int) < (p.addr.length : Int) := by omega
        replace h8 := hide h8
        replace h84 := hide h84
        have d1 : (k : Int) / 8 = q := by omega
        have d1t : (k : Int).tdiv 8 = q := by rw [Int.tdiv_eq_ediv_of_nonneg (by omega)]; exact d1
        have d3 : IntKind.i64.wrap (q : Int) = q := by rw [IntKind.wrap_i64]; omega
        replace hO := hide hO
        replace hOs := hide hOs
        replace hor := hide hor
        replace hkq := hide hkq
        replace hq := hide hq
        have hj8 : j < 8 := by omega
        rcases (show (j = 0 ∧ (k : Int) % 8 = 0) ∨ (j = 1 ∧ (k : Int) % 8 = 1) ∨ (j = 2 ∧ (k : Int) % 8 = 2) ∨ (j = 3 ∧ (k : Int) % 8 = 3) ∨ (j = 4 ∧ (k : Int) % 8 = 4) ∨ (j = 5 ∧ (k : Int) % 8 = 5) ∨ (j = 6 ∧ (k : Int) % 8 = 6) ∨ (j = 7 ∧ (k : Int) % 8 = 7) by omega) with ⟨rfl, d2⟩ | ⟨rfl, d2⟩ | ⟨rfl, d2⟩ | ⟨rfl, d2⟩ | ⟨rfl, d2⟩ | ⟨rfl, d2⟩ | ⟨rfl, d2⟩ | ⟨rfl, d2⟩
        all_goals
          replace hj := hide hj
          have d2t : (k : Int).tmod 8 = (k : Int) % 8 := by rw [Int.tmod_eq_emod_of_nonneg (by omega)]
          rw [d2] at d2t
          cases hbk : bitN p.addr k
          all_goals
            simp only [hbk, Bool.false_eq_true, if_false, if_true] at hbt hor hOs
            replace hbt := hide hbt
            replace hbk := hide hbk
            have gw0 : IntKind.i64.wrap 0 = 0 := by decide
            have gw1 : IntKind.i64.wrap 1 = 1 := by decide
            have gw2 : IntKind.i64.wrap 2 = 2 := by decide
            have gw3 : IntKind.i64.wrap 3 = 3 := by decide
            have gw4 : IntKind.i64.wrap 4 = 4 := by decide
            have gw5 : IntKind.i64.wrap 5 = 5 := by decide
            have gw6 : IntKind.i64.wrap 6 = 6 := by decide
            have gw7 : IntKind.i64.wrap 7 = 7 := by decide
            have gu0 : IntKind.u64.wrap 0 = 0 := by decide
            have gu1 : IntKind.u64.wrap 1 = 1 := by decide
            have gu2 : IntKind.u64.wrap 2 = 2 := by decide
            have gu3 : IntKind.u64.wrap 3 = 3 := by decide
            have gu4 : IntKind.u64.wrap 4 = 4 := by decide
            have gu5 : IntKind.u64.wrap 5 = 5 := by decide
            have gu6 : IntKind.u64.wrap 6 = 6 := by decide
            have gu7 : IntKind.u64.wrap 7 = 7 := by decide
            go_wp2_with fail
            first
            | go_region_law_o (refine step_callN (fn := Tryd.f31) (by rfl) _ _ _ rfl Tryd.func31 hnm.out hbd.out #[.string ⟨p.addr.toArray⟩, .int .i64 k] (by simp [Act.eval]) (hbt.out) ?_
                               rintro e w5 ⟨rfl, rfl⟩
                               refine ⟨_, rfl, ?_⟩)
            | fail
            all_goals
              go_wp2
              go_roundw
              case rel => exact ⟨k + 1, by omega, by go_num, by rw [hor.out _ (by decide)]; exact hOs.out.kept (fun _ _ => rfl), by rw [hor.out _ (by decide)]; exact (hE.out.setCell (p := ⟨w1.heap.size, q, none⟩) (Nat.le_refl _) _).drew⟩
              case measure => simp [intOf]; omega
      · obtain rfl : (k : Int) = n := by omega
        have hO2 := hO
        have kd := run_stringB (P := Tryd.prog) (src := 51) (dst := 9) Tryd.underlying51 Tryd.underlying5 Tryd.underlying9 hO
        replace hO := hide hO
        go_wp2_with fail
        have hEr : Ext w wr := hE1.out.trans hE.out
        have hZ := hB2.out.set4 (.int .i64 p.fam) (.int .u64 (p.rd : Int)) (.string ⟨(maskS p.addr k).toArray⟩) (.int .i64 k)
        have hEZ := hEr.set4 (Nat.le_succ _) (.int .i64 p.fam) (.int .u64 (p.rd : Int)) (.string ⟨(maskS p.addr k).toArray⟩) (.int .i64 k)
        generalize (((wr.setCell ⟨w.heap.size + 1, 0, none⟩ (.int .i64 p.fam)).setCell ⟨w.heap.size + 1, 1, none⟩ (.int .u64 (p.rd : Int))).setCell ⟨w.heap.size + 1, 2, none⟩ (.string ⟨(maskS p.addr k).toArray⟩)).setCell ⟨w.heap.size + 1, 3, none⟩ (.int .i64 k) = W3 at hZ hEZ ⊢
        have z0 : W3.cell? ⟨w.heap.size + 1, 0, none⟩ = some (.int .i64 p.fam) := hZ.cell 0
        have z1 : W3.cell? ⟨w.heap.size + 1, 1, none⟩ = some (.int .u64 (p.rd : Int)) := hZ.cell 1
        have z2 : W3.cell? ⟨w.heap.size + 1, 2, none⟩ = some (.string ⟨(maskS p.addr k).toArray⟩) := hZ.cell 2
        have z3 : W3.cell? ⟨w.heap.size + 1, 3, none⟩ = some (.int .i64 k) := hZ.cell 3
        exact bodyPost_ret (v := .tuple #[.agg #[.int .i64 p.fam, .int .u64 (p.rd : Int), .string ⟨(maskS p.addr k).toArray⟩, .int .i64 k], .int .i64 0]) (by simp [results, Tryd.results11, go_sem, z0, z1, z2, z3]) rfl ⟨rfl, hEZ⟩
end Go.Proofs.YtbobpaailmbndaaDoor
