/- Walks: which prefix covers which. Walks: which prefix covers which: the document's. -/
import Derived.Test.YtoghdmoldcjedaaDoorP9
namespace Go.Proofs.YtoghdmoldcjedaaDoor
open Go.RowKit Go.Sort
set_option linter.unusedVariables false

noncomputable instance (a b : Pfx) : Decidable (Cov a b) := Classical.propDecidable _
noncomputable def covB (a b : Pfx) : Bool := decide (Cov a b)

set_option maxRecDepth 20000 in
set_option maxHeartbeats 1000000 in
theorem ACov_any (a b : Pfx) (w : World) (ha : a.addr.length ≤ 1048576) (hb : b.addr.length ≤ 1048576) :
    Calls Tryd.prog 11 #[valP a, valP b] w fun e w' => e = .returned (.bool (covB a b)) ∧ Ext w w' := by
  have hck := fun W => ACheck_any b W hb
  have hct := fun W => ACut_any b a.len W hb
  have mixed : Tryd.prog.follows Departure.mixedOrders = true := by kernel_rfl
  have hcases : (covB a b = false ∧ ¬ MayP b ∧ errP (MayP b) = 2) ∨ (covB a b = false ∧ errP (MayP b) = 0 ∧ a.len < 0) ∨ (covB a b = false ∧ errP (MayP b) = 0 ∧ 0 ≤ a.len ∧ b.len < a.len) ∨ (MayP b ∧ errP (MayP b) = 0 ∧ 0 ≤ a.len ∧ a.len ≤ b.len ∧ cutS b a.len = (cutOf b a.len, 0)) := by
    rcases errP_cases b with ⟨h, he⟩ | ⟨h, he⟩
    · by_cases h0 : a.len < 0
      · exact .inr (.inl ⟨decide_eq_false fun hc => by have := hc.2.1; omega, he, h0⟩)
      · by_cases h1 : b.len < a.len
        · exact .inr (.inr (.inl ⟨decide_eq_false fun hc => by have := hc.2.2.1; omega, he, by omega, h1⟩))
        · exact .inr (.inr (.inr ⟨h, he, by omega, by omega, if_pos ⟨h, by omega, by omega⟩⟩))
    · exact .inl ⟨decide_eq_false fun hc => h hc.1, h, he⟩
  rcases hcases with ⟨hc, hm, he⟩ | ⟨hc, he, h0⟩ | ⟨hc, he, h0, h1⟩ | ⟨hm, he, h0, h1, hcs⟩
  · rw [hc]
    simp only [he, valP] at hck ⊢
    clear hct
    replace hck := hide hck
    replace hc := hide hc
    replace he := hide he
    replace hm := hide hm
    go_enter Tryd.func11, Tryd.ntmps11
    go_wp2_with fail
    refine (hck.out _).mono ?_
    rintro e w1 ⟨rfl, he1⟩
    have hA := ((Blk.new w 37 #[.int .i64 a.fam, .int .u64 (a.rd : Int), .string ⟨a.addr.toArray⟩, .int .i64 a.len]).alloc (Obj.cells #[.int .i64 b.fam, .int .u64 (b.rd : Int), .string ⟨b.addr.toArray⟩, .int .i64 b.len] 37)).ext he1
    have hB := (Blk.new (w.alloc (Obj.cells #[.int .i64 a.fam, .int .u64 (a.rd : Int), .string ⟨a.addr.toArray⟩, .int .i64 a.len] 37)) 37 #[.int .i64 b.fam, .int .u64 (b.rd : Int), .string ⟨b.addr.toArray⟩, .int .i64 b.len]).ext he1
    rw [show (w.alloc (Obj.cells #[.int .i64 a.fam, .int .u64 (a.rd : Int), .string ⟨a.addr.toArray⟩, .int .i64 a.len] 37)).heap.size = w.heap.size + 1 by simp] at hB
    have hE1 : Ext w w1 := (((Ext.refl w).alloc _).alloc _).trans he1
    clear he1
    have x0 : w1.cell? ⟨w.heap.size, 0, none⟩ = some (.int .i64 a.fam) := hA.cell 0
    have x1 : w1.cell? ⟨w.heap.size, 1, none⟩ = some (.int .u64 (a.rd : Int)) := hA.cell 1
    have x2 : w1.cell? ⟨w.heap.size, 2, none⟩ = some (.string ⟨a.addr.toArray⟩) := hA.cell 2
    have x3 : w1.cell? ⟨w.heap.size, 3, none⟩ = some (.int .i64 a.len) := hA.cell 3
    have y0 : w1.cell? ⟨w.heap.size + 1, 0, none⟩ = some (.int .i64 b.fam) := hB.cell 0
    have y1 : w1.cell? ⟨w.heap.size + 1, 1, none⟩ = some (.int .u64 (b.rd : Int)) := hB.cell 1
    have y2 : w1.cell? ⟨w.heap.size + 1, 2, none⟩ = some (.string ⟨b.addr.toArray⟩) := hB.cell 2
    have y3 : w1.cell? ⟨w.heap.size + 1, 3, none⟩ = some (.int .i64 b.len) := hB.cell 3
    replace hE1 := hide hE1
    replace hA := hide hA
    replace hB := hide hB
    go_wp2
    go_ret
    exact ⟨rfl, hE1.out⟩
  · rw [hc]
    simp only [he, valP] at hck ⊢
    clear hct
    replace hck := hide hck
    replace hc := hide hc
    replace he := hide he
    go_enter Tryd.func11, Tryd.ntmps11
    go_wp2_with fail
    refine (hck.out _).mono ?_
    rintro e w1 ⟨rfl, he1⟩
    have hA := ((Blk.new w 37 #[.int .i64 a.fam, .int .u64 (a.rd : Int), .string ⟨a.addr.toArray⟩, .int .i64 a.len]).alloc (Obj.cells #[.int .i64 b.fam, .int .u64 (b.rd : Int), .string ⟨b.addr.toArray⟩, .int .i64 b.len] 37)).ext he1
    have hB := (Blk.new (w.alloc (Obj.cells #[.int .i64 a.fam, .int .u64 (a.rd : Int), .string ⟨a.addr.toArray⟩, .int .i64 a.len] 37)) 37 #[.int .i64 b.fam, .int .u64 (b.rd : Int), .string ⟨b.addr.toArray⟩, .int .i64 b.len]).ext he1
    rw [show (w.alloc (Obj.cells #[.int .i64 a.fam, .int .u64 (a.rd : Int), .string ⟨a.addr.toArray⟩, .int .i64 a.len] 37)).heap.size = w.heap.size + 1 by simp] at hB
    have hE1 : Ext w w1 := (((Ext.refl w).alloc _).alloc _).trans he1
    clear he1
    have x0 : w1.cell? ⟨w.heap.size, 0, none⟩ = some (.int .i64 a.fam) := hA.cell 0
    have x1 : w1.cell? ⟨w.heap.size, 1, none⟩ = some (.int .u64 (a.rd : Int)) := hA.cell 1
    have x2 : w1.cell? ⟨w.heap.size, 2, none⟩ = some (.string ⟨a.addr.toArray⟩) := hA.cell 2
    have x3 : w1.cell? ⟨w.heap.size, 3, none⟩ = some (.int .i64 a.len) := hA.cell 3
    have y0 : w1.cell? ⟨w.heap.size + 1, 0, none⟩ = some (.int .i64 b.fam) := hB.cell 0
    have y1 : w1.cell? ⟨w.heap.size + 1, 1, none⟩ = some (.int .u64 (b.rd : Int)) := hB.cell 1
    have y2 : w1.cell? ⟨w.heap.size + 1, 2, none⟩ = some (.string ⟨b.addr.toArray⟩) := hB.cell 2
    have y3 : w1.cell? ⟨w.heap.size + 1, 3, none⟩ = some (.int .i64 b.len) := hB.cell 3
    replace hE1 := hide hE1
    replace hA := hide hA
    replace hB := hide hB
    go_wp2
    go_ret
    exact ⟨rfl, hE1.out⟩
  · rw [hc]
    simp only [he, valP] at hck ⊢
    clear hct
    replace hck := hide hck
    replace hc := hide hc
    replace he := hide he
    go_enter Tryd.func11, Tryd.ntmps11
    go_wp2_with fail
    refine (hck.out _).mono ?_
    rintro e w1 ⟨rfl, he1⟩
    have hA := ((Blk.new w 37 #[.int .i64 a.fam, .int .u64 (a.rd : Int), .string ⟨a.addr.toArray⟩, .int .i64 a.len]).alloc (Obj.cells #[.int .i64 b.fam, .int .u64 (b.rd : Int), .string ⟨b.addr.toArray⟩, .int .i64 b.len] 37)).ext he1
    have hB := (Blk.new (w.alloc (Obj.cells #[.int .i64 a.fam, .int .u64 (a.rd : Int), .string ⟨a.addr.toArray⟩, .int .i64 a.len] 37)) 37 #[.int .i64 b.fam, .int .u64 (b.rd : Int), .string ⟨b.addr.toArray⟩, .int .i64 b.len]).ext he1
    rw [show (w.alloc (Obj.cells #[.int .i64 a.fam, .int .u64 (a.rd : Int), .string ⟨a.addr.toArray⟩, .int .i64 a.len] 37)).heap.size = w.heap.size + 1 by simp] at hB
    have hE1 : Ext w w1 := (((Ext.refl w).alloc _).alloc _).trans he1
    clear he1
    have x0 : w1.cell? ⟨w.heap.size, 0, none⟩ = some (.int .i64 a.fam) := hA.cell 0
    have x1 : w1.cell? ⟨w.heap.size, 1, none⟩ = some (.int .u64 (a.rd : Int)) := hA.cell 1
    have x2 : w1.cell? ⟨w.heap.size, 2, none⟩ = some (.string ⟨a.addr.toArray⟩) := hA.cell 2
    have x3 : w1.cell? ⟨w.heap.size, 3, none⟩ = some (.int .i64 a.len) := hA.cell 3
    have y0 : w1.cell? ⟨w.heap.size + 1, 0, none⟩ = some (.int .i64 b.fam) := hB.cell 0
    have y1 : w1.cell? ⟨w.heap.size + 1, 1, none⟩ = some (.int .u64 (b.rd : Int)) := hB.cell 1
    have y2 : w1.cell? ⟨w.heap.size + 1, 2, none⟩ = some (.string ⟨b.addr.toArray⟩) := hB.cell 2
    have y3 : w1.cell? ⟨w.heap.size + 1, 3, none⟩ = some (.int .i64 b.len) := hB.cell 3
    replace hE1 := hide hE1
    replace hA := hide hA
    replace hB := hide hB
    go_wp2
    go_ret
    exact ⟨rfl, hE1.out⟩
  · have heq : ∀ W, (binOp .eql 37 (.agg #[.int .i64 b.fam, .int .u64 (b.rd : Int), .string ⟨(maskS b.addr a.len).toArray⟩, .int .i64 a.len]) (.agg #[.int .i64 a.fam, .int .u64 (a.rd : Int), .string ⟨a.addr.toArray⟩, .int .i64 a.len])).run Tryd.prog W = .ok (.bool (covB a b)) W := fun W => by
      rw [run_eqP]
      congr 2
      unfold covB
      apply decide_eq_decide.2
      constructor
      · rintro ⟨e1, e2, e3, _⟩
        exact ⟨hm, h0, h1, Pfx.eq e1 (by show b.rd = a.rd; omega) e3 rfl⟩
      · rintro ⟨_, _, _, e⟩
        refine ⟨?_, ?_, ?_, rfl⟩
        · have := congrArg Pfx.fam e; exact this
        · have := congrArg Pfx.rd e; exact congrArg Int.ofNat this
        · have := congrArg Pfx.addr e; exact this
    have heg : ∀ x y xs ys W, (eqGuard .eql 37 x y (.agg xs) (.agg ys)).run Tryd.prog W = .ok () W := fun x y xs ys W => run_eqGuard_agg W .eql _ x y xs ys Tryd.eqGuardType37
    generalize covB a b = C at heq ⊢
    simp only [he, valP] at hck ⊢
    simp only [hcs, valP, cutOf] at hct
    replace hck := hide hck
    replace hct := hide hct
    replace hm := hide hm
    replace he := hide he
    replace hcs := hide hcs
    go_enter Tryd.func11, Tryd.ntmps11
    go_wp2_with fail
    refine (hck.out _).mono ?_
    rintro e w1 ⟨rfl, he1⟩
    have hA := ((Blk.new w 37 #[.int .i64 a.fam, .int .u64 (a.rd : Int), .string ⟨a.addr.toArray⟩, .int .i64 a.len]).alloc (Obj.cells #[.int .i64 b.fam, .int .u64 (b.rd : Int), .string ⟨b.addr.toArray⟩, .int .i64 b.len] 37)).ext he1
    have hB := (Blk.new (w.alloc (Obj.cells #[.int .i64 a.fam, .int .u64 (a.rd : Int), .string ⟨a.addr.toArray⟩, .int .i64 a.len] 37)) 37 #[.int .i64 b.fam, .int .u64 (b.rd : Int), .string ⟨b.addr.toArray⟩, .int .i64 b.len]).ext he1
    rw [show (w.alloc (Obj.cells #[.int .i64 a.fam, .int .u64 (a.rd : Int), .string ⟨a.addr.toArray⟩, .int .i64 a.len] 37)).heap.size = w.heap.size + 1 by simp] at hB
    have hE1 : Ext w w1 := (((Ext.refl w).alloc _).alloc _).trans he1
    clear he1
    have x0 : w1.cell? ⟨w.heap.size, 0, none⟩ = some (.int .i64 a.fam) := hA.cell 0
    have x1 : w1.cell? ⟨w.heap.size, 1, none⟩ = some (.int .u64 (a.rd : Int)) := hA.cell 1
    have x2 : w1.cell? ⟨w.heap.size, 2, none⟩ = some (.string ⟨a.addr.toArray⟩) := hA.cell 2
    have x3 : w1.cell? ⟨w.heap.size, 3, none⟩ = some (.int .i64 a.len) := hA.cell 3
    have y0 : w1.cell? ⟨w.heap.size + 1, 0, none⟩ = some (.int .i64 b.fam) := hB.cell 0
    have y1 : w1.cell? ⟨w.heap.size + 1, 1, none⟩ = some (.int .u64 (b.rd : Int)) := hB.cell 1
    have y2 : w1.cell? ⟨w.heap.size + 1, 2, none⟩ = some (.string ⟨b.addr.toArray⟩) := hB.cell 2
    have y3 : w1.cell? ⟨w.heap.size + 1, 3, none⟩ = some (.int .i64 b.len) := hB.cell 3
    replace hE1 := hide hE1
    replace hA := hide hA
    replace hB := hide hB
    go_wp2_with fail
    refine (hct.out _).mono ?_
    rintro e w2 ⟨rfl, he2⟩
    clear x0 x1 x2 x3 y0 y1 y2 y3
    replace hA := hA.out.ext he2
    replace hB := hB.out.ext he2
    replace hE1 := hE1.out.trans he2
    clear he2
    have x0 : w2.cell? ⟨w.heap.size, 0, none⟩ = some (.int .i64 a.fam) := hA.cell 0
    have x1 : w2.cell? ⟨w.heap.size, 1, none⟩ = some (.int .u64 (a.rd : Int)) := hA.cell 1
    have x2 : w2.cell? ⟨w.heap.size, 2, none⟩ = some (.string ⟨a.addr.toArray⟩) := hA.cell 2
    have x3 : w2.cell? ⟨w.heap.size, 3, none⟩ = some (.int .i64 a.len) := hA.cell 3
    have y0 : w2.cell? ⟨w.heap.size + 1, 0, none⟩ = some (.int .i64 b.fam) := hB.cell 0
    have y1 : w2.cell? ⟨w.heap.size + 1, 1, none⟩ = some (.int .u64 (b.rd : Int)) := hB.cell 1
    have y2 : w2.cell? ⟨w.heap.size + 1, 2, none⟩ = some (.string ⟨b.addr.toArray⟩) := hB.cell 2
    have y3 : w2.cell? ⟨w.heap.size + 1, 3, none⟩ = some (.int .i64 b.len) := hB.cell 3
    have hAc := hA.alloc (Obj.cells #[.int .i64 b.fam, .int .u64 (b.rd : Int), .string ⟨(maskS b.addr a.len).toArray⟩, .int .i64 a.len] 37)
    have z0 : (w2.alloc (Obj.cells #[.int .i64 b.fam, .int .u64 (b.rd : Int), .string ⟨(maskS b.addr a.len).toArray⟩, .int .i64 a.len] 37)).cell? ⟨w.heap.size, 0, none⟩ = some (.int .i64 a.fam) := hAc.cell 0
    have z1 : (w2.alloc (Obj.cells #[.int .i64 b.fam, .int .u64 (b.rd : Int), .string ⟨(maskS b.addr a.len).toArray⟩, .int .i64 a.len] 37)).cell? ⟨w.heap.size, 1, none⟩ = some (.int .u64 (a.rd : Int)) := hAc.cell 1
    have z2 : (w2.alloc (Obj.cells #[.int .i64 b.fam, .int .u64 (b.rd : Int), .string ⟨(maskS b.addr a.len).toArray⟩, .int .i64 a.len] 37)).cell? ⟨w.heap.size, 2, none⟩ = some (.string ⟨a.addr.toArray⟩) := hAc.cell 2
    have z3 : (w2.alloc (Obj.cells #[.int .i64 b.fam, .int .u64 (b.rd : Int), .string ⟨(maskS b.addr a.len).toArray⟩, .int .i64 a.len] 37)).cell? ⟨w.heap.size, 3, none⟩ = some (.int .i64 a.len) := hAc.cell 3
    replace hE1 := hide hE1
    replace hA := hide hA
    replace hB := hide hB
    replace hAc := hide hAc
    go_wp2
    go_ret
    exact ⟨rfl, hE1.out.alloc _⟩
open Go.RowKit Go.Sort

end Go.Proofs.YtoghdmoldcjedaaDoor
