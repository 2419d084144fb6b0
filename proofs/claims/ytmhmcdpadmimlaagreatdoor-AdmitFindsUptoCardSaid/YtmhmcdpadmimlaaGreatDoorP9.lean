/- Walks: may a prefix be: prim.Check, any. Walks: may a prefix be: the document's, any. Walks: a prefix cut: prim.Cut. -/
import Derived.Test.YtmhmcdpadmimlaaGreatDoorP7
import Derived.Test.YtmhmcdpadmimlaaGreatDoorP8
import Derived.Test.YtmhmcdpadmimlaaGreatDoorP10
namespace Go.Proofs.YtmhmcdpadmimlaaGreatDoor
open Go.RowKit Go.Sort
set_option linter.unusedVariables false

set_option maxRecDepth 20000 in
set_option maxHeartbeats 1000000 in
theorem ACheck_0 (f R : Int) (rd : Nat) (a : List UInt8) (l : Int) (w : World) (hal : a.length ≤ 1048576) (hS : sizeS f = 0) :
    Calls Tryz.prog 30 #[.agg #[.int .i64 f, .int .u64 R, .string ⟨a.toArray⟩, .int .i64 l]] w fun e w' => e = .returned (.int .i64 (errP (MayP ⟨f, rd, a, l⟩))) ∧ Ext w w' := by
  have mixed : Tryz.prog.follows Departure.mixedOrders = true := by kernel_rfl
  have hz : (ByteArray.mk a.toArray).size = a.length := by simp [ByteArray.size]
  have he : errP (MayP ⟨f, rd, a, l⟩) = 2 := if_neg (fun h => h.1.1 hS)
  rw [he]
  replace hS := hide hS
  replace he := hide he
  go_enter Tryz.func30, Tryz.ntmps30
  go_wp2_with fail
  refine (ASize_any _ _).mono ?_
  rw [hS.out]
  rintro e w1 ⟨rfl, rfl⟩
  go_wp2
  go_quiet (fail)
  go_wp2
  go_ret
  exact ⟨rfl, ((Ext.refl _).alloc _).drewN _⟩
/-- A prefix as a value. -/
def valP (p : Pfx) : Value := .agg #[.int .i64 p.fam, .int .u64 (p.rd : Int), .string ⟨p.addr.toArray⟩, .int .i64 p.len]
theorem ACheck_any (p : Pfx) (w : World) (hal : p.addr.length ≤ 1048576) :
    Calls Tryz.prog 30 #[valP p] w fun e w' => e = .returned (.int .i64 (errP (MayP p))) ∧ Ext w w' := by
  obtain ⟨f, rd, a, l⟩ := p
  rcases sizeS_cases f with hS | hS | hS
  · exact ACheck_0 f _ rd a l w hal hS
  · exact ACheck_4 f _ rd rfl a l w hal hS
  · exact ACheck_16 f _ rd rfl a l w hal hS
open Go.RowKit Go.Sort

set_option maxRecDepth 20000 in
set_option maxHeartbeats 1000000 in
theorem RMay_0 (f R : Int) (rd : Nat) (a : List UInt8) (l : Int) (w : World) (hal : a.length ≤ 1048576) (hS : sizeS f = 0) :
    Calls Tryz.prog 44 #[.agg #[.int .i64 f, .int .u64 R, .string ⟨a.toArray⟩, .int .i64 l]] w fun e w' => e = .returned (.bool (mayB ⟨f, rd, a, l⟩)) ∧ Ext w w' := by
  have hz : (ByteArray.mk a.toArray).size = a.length := by simp [ByteArray.size]
  have he : mayB ⟨f, rd, a, l⟩ = false := decide_eq_false (fun h => h.1.1 hS)
  rw [he]
  replace hS := hide hS
  replace he := hide he
  go_enter Tryz.func44, Tryz.ntmps44
  go_wp2_with fail
  refine (RSize_any _ _).mono ?_
  rw [hS.out]
  rintro e w1 ⟨rfl, rfl⟩
  go_wp2
  go_ret
  exact ⟨rfl, (Ext.refl _).alloc _⟩
theorem RMay_any (p : Pfx) (w : World) (hal : p.addr.length ≤ 1048576) :
    Calls Tryz.prog 44 #[valP p] w fun e w' => e = .returned (.bool (mayB p)) ∧ Ext w w' := by
  obtain ⟨f, rd, a, l⟩ := p
  rcases sizeS_cases f with hS | hS | hS
  · exact RMay_0 f _ rd a l w hal hS
  · exact RMay_4 f _ rd rfl a l w hal hS
  · exact RMay_16 f _ rd rfl a l w hal hS
open Go.RowKit Go.Sort

theorem errP_cases (p : Pfx) : (MayP p ∧ errP (MayP p) = 0) ∨ (¬ MayP p ∧ errP (MayP p) = 2) := by
  by_cases h : MayP p
  · exact .inl ⟨h, if_pos h⟩
  · exact .inr ⟨h, if_neg h⟩
theorem Blk.set4 {w : World} {g : Nat} {T : TypeId} {a b c d : Value} (h : Blk w g T #[a, b, c, d]) (u0 u1 u2 u3 : Value) :
    Blk ((((w.setCell ⟨g, 0, none⟩ u0).setCell ⟨g, 1, none⟩ u1).setCell ⟨g, 2, none⟩ u2).setCell ⟨g, 3, none⟩ u3) g T #[u0, u1, u2, u3] := by
  simpa using (((h.set_ 0 u0).set_ 1 u1).set_ 2 u2).set_ 3 u3
theorem Ext.set4 {a w : World} (h : Ext a w) {g : Nat} (hg : a.heap.size ≤ g) (u0 u1 u2 u3 : Value) :
    Ext a ((((w.setCell ⟨g, 0, none⟩ u0).setCell ⟨g, 1, none⟩ u1).setCell ⟨g, 2, none⟩ u2).setCell ⟨g, 3, none⟩ u3) :=
  (((h.setCell hg _).setCell hg _).setCell hg _).setCell hg _
/-- What a cut answers. -/
noncomputable instance (p : Pfx) (n : Int) : Decidable (cutOk p n) := Classical.propDecidable _
noncomputable def cutS (p : Pfx) (n : Int) : Pfx × Int := if cutOk p n then (cutOf p n, 0) else (zeroP, 2)

set_option maxRecDepth 20000 in
set_option maxHeartbeats 1000000 in
theorem ACut_any (p : Pfx) (n : Int) (w : World) (hal : p.addr.length ≤ 1048576) :
    Calls Tryz.prog 14 #[valP p, .int .i64 n] w fun e w' => e = .returned (.tuple #[valP (cutS p n).1, .int .i64 (cutS p n).2]) ∧ Ext w w' := by
  have hck := fun W => ACheck_any p W hal
  have hmk := fun (h : MayP p) (h0 : 0 ≤ n) (h1 : n ≤ p.len) W => masked_any p.addr n W h.1.small.1 (by have := h.1.1; have := h.1.2.1; rcases sizeS_cases p.fam with h | h | h <;> omega) h0 (by have := h.1.small; omega)
  have hcs : (¬ MayP p ∧ errP (MayP p) = 2 ∧ cutS p n = (zeroP, 2)) ∨ (MayP p ∧ errP (MayP p) = 0) := by
    rcases errP_cases p with ⟨h, he⟩ | ⟨h, he⟩
    · exact .inr ⟨h, he⟩
    · exact .inl ⟨h, he, if_neg fun hc => h hc.1⟩
  have hbld : ∀ W, (Instr.build 27 #[]).run Tryz.prog W = .ok (.agg #[.int .i64 0, .int .u64 0, .string ⟨#[]⟩, .int .i64 0]) W := fun W => run_build W 27 _ _ (by kernel_rfl)
  have mixed : Tryz.prog.follows Departure.mixedOrders = true := by kernel_rfl
  have hcases : (¬ MayP p ∧ errP (MayP p) = 2 ∧ cutS p n = (zeroP, 2)) ∨ (MayP p ∧ errP (MayP p) = 0 ∧ n < 0 ∧ cutS p n = (zeroP, 2)) ∨ (MayP p ∧ errP (MayP p) = 0 ∧ 0 ≤ n ∧ p.len < n ∧ cutS p n = (zeroP, 2)) ∨ (MayP p ∧ errP (MayP p) = 0 ∧ 0 ≤ n ∧ n ≤ p.len ∧ cutS p n = (cutOf p n, 0)) := by
    rcases errP_cases p with ⟨h, he⟩ | ⟨h, he⟩
    · by_cases h0 : n < 0
      · exact .inr (.inl ⟨h, he, h0, if_neg fun hc => by have := hc.2.1; omega⟩)
      · by_cases h1 : p.len < n
        · exact .inr (.inr (.inl ⟨h, he, by omega, h1, if_neg fun hc => by have := hc.2.2; omega⟩))
        · exact .inr (.inr (.inr ⟨h, he, by omega, by omega, if_pos ⟨h, by omega, by omega⟩⟩))
    · exact .inl ⟨h, he, if_neg fun hc => h hc.1⟩
  clear hcs
  rcases hcases with ⟨hm, he, hc⟩ | ⟨hm, he, h0, hc⟩ | ⟨hm, he, h0, h1, hc⟩ | ⟨hm, he, h0, h1, hc⟩
  · rw [hc]
    rw [he] at hck
    simp only [valP, zeroP] at hck ⊢
    replace hck := hide hck
    replace hm := hide hm
    replace he := hide he
    replace hc := hide hc
    clear hmk
    go_enter Tryz.func14, Tryz.ntmps14
    go_wp2_with fail
    refine (hck.out _).mono ?_
    rintro e w1 ⟨rfl, he1⟩
    have hB := (Blk.new (w.alloc (Obj.cells #[.int .i64 p.fam, .int .u64 (p.rd : Int), .string ⟨p.addr.toArray⟩, .int .i64 p.len] 27)) 27 #[.int .i64 0, .int .u64 0, .string ⟨#[]⟩, .int .i64 0]).ext he1
    rw [show (w.alloc (Obj.cells #[.int .i64 p.fam, .int .u64 (p.rd : Int), .string ⟨p.addr.toArray⟩, .int .i64 p.len] 27)).heap.size = w.heap.size + 1 by simp] at hB
    have hA := ((Blk.new w 27 #[.int .i64 p.fam, .int .u64 (p.rd : Int), .string ⟨p.addr.toArray⟩, .int .i64 p.len]).alloc (Obj.cells #[.int .i64 0, .int .u64 0, .string ⟨#[]⟩, .int .i64 0] 27)).ext he1
    have x0 : w1.cell? ⟨w.heap.size + 1, 0, none⟩ = some (.int .i64 0) := hB.cell 0
    have x1 : w1.cell? ⟨w.heap.size + 1, 1, none⟩ = some (.int .u64 0) := hB.cell 1
    have x2 : w1.cell? ⟨w.heap.size + 1, 2, none⟩ = some (.string ⟨#[]⟩) := hB.cell 2
    have x3 : w1.cell? ⟨w.heap.size + 1, 3, none⟩ = some (.int .i64 0) := hB.cell 3
    have y0 : w1.cell? ⟨w.heap.size, 0, none⟩ = some (.int .i64 p.fam) := hA.cell 0
    have y1 : w1.cell? ⟨w.heap.size, 1, none⟩ = some (.int .u64 (p.rd : Int)) := hA.cell 1
    have y2 : w1.cell? ⟨w.heap.size, 2, none⟩ = some (.string ⟨p.addr.toArray⟩) := hA.cell 2
    have y3 : w1.cell? ⟨w.heap.size, 3, none⟩ = some (.int .i64 p.len) := hA.cell 3
    have f0 := fun i => hB.frozen i
    have g0 := fun i => hA.frozen i
    have hE1 : Ext w w1 := (((Ext.refl w).alloc _).alloc _).trans he1
    clear he1
    replace hE1 := hide hE1
    replace hB := hide hB
    replace hA := hide hA
    go_wp2
    have hZ := hB.out.set4 (.int .i64 0) (.int .u64 0) (.string ⟨#[]⟩) (.int .i64 0)
    have hEZ := hE1.out.set4 (Nat.le_succ _) (.int .i64 0) (.int .u64 0) (.string ⟨#[]⟩) (.int .i64 0)
    generalize (((w1.setCell ⟨w.heap.size + 1, 0, none⟩ (.int .i64 0)).setCell ⟨w.heap.size + 1, 1, none⟩ (.int .u64 0)).setCell ⟨w.heap.size + 1, 2, none⟩ (.string ⟨#[]⟩)).setCell ⟨w.heap.size + 1, 3, none⟩ (.int .i64 0) = W2 at hZ hEZ ⊢
    have z0 : W2.cell? ⟨w.heap.size + 1, 0, none⟩ = some (.int .i64 0) := hZ.cell 0
    have z1 : W2.cell? ⟨w.heap.size + 1, 1, none⟩ = some (.int .u64 0) := hZ.cell 1
    have z2 : W2.cell? ⟨w.heap.size + 1, 2, none⟩ = some (.string ⟨#[]⟩) := hZ.cell 2
    have z3 : W2.cell? ⟨w.heap.size + 1, 3, none⟩ = some (.int .i64 0) := hZ.cell 3
    exact bodyPost_ret (v := .tuple #[.agg #[.int .i64 0, .int .u64 0, .string ⟨#[]⟩, .int .i64 0], .int .i64 2]) (by simp [results, Tryz.results14, go_sem, z0, z1, z2, z3]) rfl ⟨rfl, hEZ⟩
  · rw [hc]
    rw [he] at hck
    simp only [valP, zeroP] at hck ⊢
    replace hck := hide hck
    replace hm := hide hm
    replace he := hide he
    replace hc := hide hc
    clear hmk
    go_enter Tryz.func14, Tryz.ntmps14
    go_wp2_with fail
    refine (hck.out _).mono ?_
    rintro e w1 ⟨rfl, he1⟩
    have hB := (Blk.new (w.alloc (Obj.cells #[.int .i64 p.fam, .int .u64 (p.rd : Int), .string ⟨p.addr.toArray⟩, .int .i64 p.len] 27)) 27 #[.int .i64 0, .int .u64 0, .string ⟨#[]⟩, .int .i64 0]).ext he1
    rw [show (w.alloc (Obj.cells #[.int .i64 p.fam, .int .u64 (p.rd : Int), .string ⟨p.addr.toArray⟩, .int .i64 p.len] 27)).heap.size = w.heap.size + 1 by simp] at hB
    have hA := ((Blk.new w 27 #[.int .i64 p.fam, .int .u64 (p.rd : Int), .string ⟨p.addr.toArray⟩, .int .i64 p.len]).alloc (Obj.cells #[.int .i64 0, .int .u64 0, .string ⟨#[]⟩, .int .i64 0] 27)).ext he1
    have x0 : w1.cell? ⟨w.heap.size + 1, 0, none⟩ = some (.int .i64 0) := hB.cell 0
    have x1 : w1.cell? ⟨w.heap.size + 1, 1, none⟩ = some (.int .u64 0) := hB.cell 1
    have x2 : w1.cell? ⟨w.heap.size + 1, 2, none⟩ = some (.string ⟨#[]⟩) := hB.cell 2
    have x3 : w1.cell? ⟨w.heap.size + 1, 3, none⟩ = some (.int .i64 0) := hB.cell 3
    have y0 : w1.cell? ⟨w.heap.size, 0, none⟩ = some (.int .i64 p.fam) := hA.cell 0
    have y1 : w1.cell? ⟨w.heap.size, 1, none⟩ = some (.int .u64 (p.rd : Int)) := hA.cell 1
    have y2 : w1.cell? ⟨w.heap.size, 2, none⟩ = some (.string ⟨p.addr.toArray⟩) := hA.cell 2
    have y3 : w1.cell? ⟨w.heap.size, 3, none⟩ = some (.int .i64 p.len) := hA.cell 3
    have f0 := fun i => hB.frozen i
    have g0 := fun i => hA.frozen i
    have hE1 : Ext w w1 := (((Ext.refl w).alloc _).alloc _).trans he1
    clear he1
    replace hE1 := hide hE1
    replace hB := hide hB
    replace hA := hide hA
    go_wp2
    have hZ := hB.out.set4 (.int .i64 0) (.int .u64 0) (.string ⟨#[]⟩) (.int .i64 0)
    have hEZ := hE1.out.set4 (Nat.le_succ _) (.int .i64 0) (.int .u64 0) (.string ⟨#[]⟩) (.int .i64 0)
    generalize (((w1.setCell ⟨w.heap.size + 1, 0, none⟩ (.int .i64 0)).setCell ⟨w.heap.size + 1, 1, none⟩ (.int .u64 0)).setCell ⟨w.heap.size + 1, 2, none⟩ (.string ⟨#[]⟩)).setCell ⟨w.heap.size + 1, 3, none⟩ (.int .i64 0) = W2 at hZ hEZ ⊢
    have z0 : W2.cell? ⟨w.heap.size + 1, 0, none⟩ = some (.int .i64 0) := hZ.cell 0
    have z1 : W2.cell? ⟨w.heap.size + 1, 1, none⟩ = some (.int .u64 0) := hZ.cell 1
    have z2 : W2.cell? ⟨w.heap.size + 1, 2, none⟩ = some (.string ⟨#[]⟩) := hZ.cell 2
    have z3 : W2.cell? ⟨w.heap.size + 1, 3, none⟩ = some (.int .i64 0) := hZ.cell 3
    exact bodyPost_ret (v := .tuple #[.agg #[.int .i64 0, .int .u64 0, .string ⟨#[]⟩, .int .i64 0], .int .i64 2]) (by simp [results, Tryz.results14, go_sem, z0, z1, z2, z3]) rfl ⟨rfl, hEZ⟩
  · rw [hc]
    rw [he] at hck
    simp only [valP, zeroP] at hck ⊢
    replace hck := hide hck
    replace hm := hide hm
    replace he := hide he
    replace hc := hide hc
    clear hmk
    go_enter Tryz.func14, Tryz.ntmps14
    go_wp2_with fail
    refine (hck.out _).mono ?_
    rintro e w1 ⟨rfl, he1⟩
    have hB := (Blk.new (w.alloc (Obj.cells #[.int .i64 p.fam, .int .u64 (p.rd : Int), .string ⟨p.addr.toArray⟩, .int .i64 p.len] 27)) 27 #[.int .i64 0, .int .u64 0, .string ⟨#[]⟩, .int .i64 0]).ext he1
    rw [show (w.alloc (Obj.cells #[.int .i64 p.fam, .int .u64 (p.rd : Int), .string ⟨p.addr.toArray⟩, .int .i64 p.len] 27)).heap.size = w.heap.size + 1 by simp] at hB
    have hA := ((Blk.new w 27 #[.int .i64 p.fam, .int .u64 (p.rd : Int), .string ⟨p.addr.toArray⟩, .int .i64 p.len]).alloc (Obj.cells #[.int .i64 0, .int .u64 0, .string ⟨#[]⟩, .int .i64 0] 27)).ext he1
    have x0 : w1.cell? ⟨w.heap.size + 1, 0, none⟩ = some (.int .i64 0) := hB.cell 0
    have x1 : w1.cell? ⟨w.heap.size + 1, 1, none⟩ = some (.int .u64 0) := hB.cell 1
    have x2 : w1.cell? ⟨w.heap.size + 1, 2, none⟩ = some (.string ⟨#[]⟩) := hB.cell 2
    have x3 : w1.cell? ⟨w.heap.size + 1, 3, none⟩ = some (.int .i64 0) := hB.cell 3
    have y0 : w1.cell? ⟨w.heap.size, 0, none⟩ = some (.int .i64 p.fam) := hA.cell 0
    have y1 : w1.cell? ⟨w.heap.size, 1, none⟩ = some (.int .u64 (p.rd : Int)) := hA.cell 1
    have y2 : w1.cell? ⟨w.heap.size, 2, none⟩ = some (.string ⟨p.addr.toArray⟩) := hA.cell 2
    have y3 : w1.cell? ⟨w.heap.size, 3, none⟩ = some (.int .i64 p.len) := hA.cell 3
    have f0 := fun i => hB.frozen i
    have g0 := fun i => hA.frozen i
    have hE1 : Ext w w1 := (((Ext.refl w).alloc _).alloc _).trans he1
    clear he1
    replace hE1 := hide hE1
    replace hB := hide hB
    replace hA := hide hA
    go_wp2
    have hZ := hB.out.set4 (.int .i64 0) (.int .u64 0) (.string ⟨#[]⟩) (.int .i64 0)
    have hEZ := hE1.out.set4 (Nat.le_succ _) (.int .i64 0) (.int .u64 0) (.string ⟨#[]⟩) (.int .i64 0)
    generalize (((w1.setCell ⟨w.heap.size + 1, 0, none⟩ (.int .i64 0)).setCell ⟨w.heap.size + 1, 1, none⟩ (.int .u64 0)).setCell ⟨w.heap.size + 1, 2, none⟩ (.string ⟨#[]⟩)).setCell ⟨w.heap.size + 1, 3, none⟩ (.int .i64 0) = W2 at hZ hEZ ⊢
    have z0 : W2.cell? ⟨w.heap.size + 1, 0, none⟩ = some (.int .i64 0) := hZ.cell 0
    have z1 : W2.cell? ⟨w.heap.size + 1, 1, none⟩ = some (.int .u64 0) := hZ.cell 1
    have z2 : W2.cell? ⟨w.heap.size + 1, 2, none⟩ = some (.string ⟨#[]⟩) := hZ.cell 2
    have z3 : W2.cell? ⟨w.heap.size + 1, 3, none⟩ = some (.int .i64 0) := hZ.cell 3
    exact bodyPost_ret (v := .tuple #[.agg #[.int .i64 0, .int .u64 0, .string ⟨#[]⟩, .int .i64 0], .int .i64 2]) (by simp [results, Tryz.results14, go_sem, z0, z1, z2, z3]) rfl ⟨rfl, hEZ⟩
  · rw [hc]
    rw [he] at hck
    have hmk2 := hmk hm h0 h1
    simp only [valP, cutOf] at hck ⊢
    replace hck := hide hck
    replace hm := hide hm
    replace he := hide he
    replace hc := hide hc
    replace hmk2 := hide hmk2
    clear hmk
    go_enter Tryz.func14, Tryz.ntmps14
    go_wp2_with fail
    refine (hck.out _).mono ?_
    rintro e w1 ⟨rfl, he1⟩
    have hB := (Blk.new (w.alloc (Obj.cells #[.int .i64 p.fam, .int .u64 (p.rd : Int), .string ⟨p.addr.toArray⟩, .int .i64 p.len] 27)) 27 #[.int .i64 0, .int .u64 0, .string ⟨#[]⟩, .int .i64 0]).ext he1
    rw [show (w.alloc (Obj.cells #[.int .i64 p.fam, .int .u64 (p.rd : Int), .string ⟨p.addr.toArray⟩, .int .i64 p.len] 27)).heap.size = w.heap.size + 1 by simp] at hB
    have hA := ((Blk.new w 27 #[.int .i64 p.fam, .int .u64 (p.rd : Int), .string ⟨p.addr.toArray⟩, .int .i64 p.len]).alloc (Obj.cells #[.int .i64 0, .int .u64 0, .string ⟨#[]⟩, .int .i64 0] 27)).ext he1
    have x0 : w1.cell? ⟨w.heap.size + 1, 0, none⟩ = some (.int .i64 0) := hB.cell 0
    have x1 : w1.cell? ⟨w.heap.size + 1, 1, none⟩ = some (.int .u64 0) := hB.cell 1
    have x2 : w1.cell? ⟨w.heap.size + 1, 2, none⟩ = some (.string ⟨#[]⟩) := hB.cell 2
    have x3 : w1.cell? ⟨w.heap.size + 1, 3, none⟩ = some (.int .i64 0) := hB.cell 3
    have y0 : w1.cell? ⟨w.heap.size, 0, none⟩ = some (.int .i64 p.fam) := hA.cell 0
    have y1 : w1.cell? ⟨w.heap.size, 1, none⟩ = some (.int .u64 (p.rd : Int)) := hA.cell 1
    have y2 : w1.cell? ⟨w.heap.size, 2, none⟩ = some (.string ⟨p.addr.toArray⟩) := hA.cell 2
    have y3 : w1.cell? ⟨w.heap.size, 3, none⟩ = some (.int .i64 p.len) := hA.cell 3
    have f0 := fun i => hB.frozen i
    have g0 := fun i => hA.frozen i
    have hE1 : Ext w w1 := (((Ext.refl w).alloc _).alloc _).trans he1
    clear he1
    replace hE1 := hide hE1
    replace hB := hide hB
    replace hA := hide hA
    go_wp2_with fail
    refine (hmk2.out _).mono ?_
    rintro e w2 ⟨rfl, he2⟩
    clear x0 x1 x2 x3 y0 y1 y2 y3 f0 g0
    have hB2 := hB.out.ext he2
    have hA2 := hA.out.ext he2
    have hE2 := hE1.out.trans he2
    have x0 : w2.cell? ⟨w.heap.size + 1, 0, none⟩ = some (.int .i64 0) := hB2.cell 0
    have x1 : w2.cell? ⟨w.heap.size + 1, 1, none⟩ = some (.int .u64 0) := hB2.cell 1
    have x2 : w2.cell? ⟨w.heap.size + 1, 2, none⟩ = some (.string ⟨#[]⟩) := hB2.cell 2
    have x3 : w2.cell? ⟨w.heap.size + 1, 3, none⟩ = some (.int .i64 0) := hB2.cell 3
    have y0 : w2.cell? ⟨w.heap.size, 0, none⟩ = some (.int .i64 p.fam) := hA2.cell 0
    have y1 : w2.cell? ⟨w.heap.size, 1, none⟩ = some (.int .u64 (p.rd : Int)) := hA2.cell 1
    have y2 : w2.cell? ⟨w.heap.size, 2, none⟩ = some (.string ⟨p.addr.toArray⟩) := hA2.cell 2
    have y3 : w2.cell? ⟨w.heap.size, 3, none⟩ = some (.int .i64 p.len) := hA2.cell 3
    have f0 := fun i => hB2.frozen i
    have g0 := fun i => hA2.frozen i
    replace hB2 := hide hB2
    replace hA2 := hide hA2
    replace hE2 := hide hE2
    clear he2 hE1 hA hB
    go_wp2
    have hB3 := (hB2.out.far (p := ⟨w.heap.size, 2, none⟩) (show w.heap.size + 1 ≠ w.heap.size by omega) (.string ⟨(maskS p.addr n).toArray⟩)).far (p := ⟨w.heap.size, 3, none⟩) (show w.heap.size + 1 ≠ w.heap.size by omega) (.int .i64 n)
    have hE3 := (hE2.out.setCell (p := ⟨w.heap.size, 2, none⟩) (Nat.le_refl _) (.string ⟨(maskS p.addr n).toArray⟩)).setCell (p := ⟨w.heap.size, 3, none⟩) (Nat.le_refl _) (.int .i64 n)
    have hZ := hB3.set4 (.int .i64 p.fam) (.int .u64 (p.rd : Int)) (.string ⟨(maskS p.addr n).toArray⟩) (.int .i64 n)
    have hEZ := hE3.set4 (Nat.le_succ _) (.int .i64 p.fam) (.int .u64 (p.rd : Int)) (.string ⟨(maskS p.addr n).toArray⟩) (.int .i64 n)
    generalize ((((((w2.setCell ⟨w.heap.size, 2, none⟩ (.string ⟨(maskS p.addr n).toArray⟩)).setCell ⟨w.heap.size, 3, none⟩ (.int .i64 n)).setCell ⟨w.heap.size + 1, 0, none⟩ (.int .i64 p.fam)).setCell ⟨w.heap.size + 1, 1, none⟩ (.int .u64 (p.rd : Int))).setCell ⟨w.heap.size + 1, 2, none⟩ (.string ⟨(maskS p.addr n).toArray⟩)).setCell ⟨w.heap.size + 1, 3, none⟩ (.int .i64 n)) = W2 at hZ hEZ ⊢
    have z0 : W2.cell? ⟨w.heap.size + 1, 0, none⟩ = some (.int .i64 p.fam) := hZ.cell 0
    have z1 : W2.cell? ⟨w.heap.size + 1, 1, none⟩ = some (.int .u64 (p.rd : Int)) := hZ.cell 1
    have z2 : W2.cell? ⟨w.heap.size + 1, 2, none⟩ = some (.string ⟨(maskS p.addr n).toArray⟩) := hZ.cell 2
    have z3 : W2.cell? ⟨w.heap.size + 1, 3, none⟩ = some (.int .i64 n) := hZ.cell 3
    exact bodyPost_ret (v := .tuple #[.agg #[.int .i64 p.fam, .int .u64 (p.rd : Int), .string ⟨(maskS p.addr n).toArray⟩, .int .i64 n], .int .i64 0]) (by simp [results, Tryz.results14, go_sem, z0, z1, z2, z3]) rfl ⟨rfl, hEZ⟩
end Go.Proofs.YtmhmcdpadmimlaaGreatDoor
