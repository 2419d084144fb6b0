/- Walks: which prefix covers which. Walks: which prefix covers which: the document's. -/
import Derived.Test.YtmhmcdpadmimlaaGreatDoorP9
namespace Go.Proofs.YtmhmcdpadmimlaaGreatDoor
open Go.RowKit Go.Sort
set_option linter.unusedVariables false

noncomputable instance (a b : Pfx) : Decidable (Cov a b) := Classical.propDecidable _
noncomputable def covB (a b : Pfx) : Bool := decide (Cov a b)

set_option maxRecDepth 20000 in
set_option maxHeartbeats 1000000 in
theorem ACov_any (a b : Pfx) (w : World) (ha : a.addr.length ≤ 1048576) (hb : b.addr.length ≤ 1048576) :
    Calls Tryz.prog 15 #[valP a, valP b] w fun e w' => e = .returned (.bool (covB a b)) ∧ Ext w w' := by
  have hck := fun W => ACheck_any b W hb
  have hct := fun W => ACut_any b a.len W hb
  have mixed : Tryz.prog.follows Departure.mixedOrders = true := by kernel_rfl
  have hcases : (covB a b = false ∧ ¬ MayP b ∧ errP (MayP b) = 2) ∨ (covB a b = false ∧ errP (MayP b) = 0 ∧ a.len < 0) ∨ (covB a b = false ∧ errP (MayP b) = 0 ∧ 0 ≤ a.len ∧ b.len < a.len) ∨ (MayP b ∧ errP (MayP b) = 0 ∧ 0 ≤ a.len ∧ a.len ≤ b.len ∧ cutS b a.len = (cutOf b a.len, 0)) := by
    rcases errP_cases b with ⟨h, he⟩ | ⟨h, he⟩
    · by_cases h0 : a.len < 0
      · exact .inr (.inl ⟨decide_eq_false fun hc => by have := hc.2.1; omega, he, h0⟩)
      · by_cases h1 : b.len < a.len
        · exact .inr (.inr (.inl ⟨decide_eq_false fun hc => by have := hc.2.2.1; omega, he, by omega, h1⟩))
        · exact .inr (.inr (.inr ⟨h, he, by omega, by omega, if_pos ⟨h, by omega, by omega⟩⟩))
    · exact .inl ⟨decide_eq_false fun hc => h hc.1, h, he⟩
  rcases hcases with ⟨hc, hm, he⟩ | ⟨hc, he, h0⟩ | ⟨hc, he, h0, h1⟩ | ⟨hm, he, h0, h1, hcs⟩
  · rw [hc]
    simp only [he, valP] at hck ⊢
    clear hct
    replace hck := hide hck
    replace hc := hide hc
    replace he := hide he
    replace hm := hide hm
    go_enter Tryz.func15, Tryz.ntmps15
    go_wp2_with fail
    refine (hck.out _).mono ?_
    rintro e w1 ⟨rfl, he1⟩
    have hA := ((Blk.new w 27 #[.int .i64 a.fam, .int .u64 (a.rd : Int), .string ⟨a.addr.toArray⟩, .int .i64 a.len]).alloc (Obj.cells #[.int .i64 b.fam, .int .u64 (b.rd : Int), .string ⟨b.addr.toArray⟩, .int .i64 b.len] 27)).ext he1
    have hB := (Blk.new (w.alloc (Obj.cells #[.int .i64 a.fam, .int .u64 (a.rd : Int), .string ⟨a.addr.toArray⟩, .int .i64 a.len] 27)) 27 #[.int .i64 b.fam, .int .u64 (b.rd : Int), .string ⟨b.addr.toArray⟩, .int .i64 b.len]).ext he1
    rw [show (w.alloc (Obj.cells #[.int .i64 a.fam, .int .u64 (a.rd : Int), .string ⟨a.addr.toArray⟩, .int .i64 a.len] 27)).heap.size = w.heap.size + 1 by simp] at hB
    have hE1 : Ext w w1 := (((Ext.refl w).alloc _).alloc _).trans he1
    clear he1
    have x0 : w1.cell? ⟨w.heap.size, 0, none⟩ = some (.int .i64 a.fam) := hA.cell 0
    have x1 : w1.cell? ⟨w.heap.size, 1, none⟩ = some (.int .u64 (a.rd : Int)) := hA.cell 1
    have x2 : w1.cell? ⟨w.heap.size, 2, none⟩ = some (.string ⟨a.addr.toArray⟩) := hA.cell 2
    have x3 : w1.cell? ⟨w.heap.size, 3, none⟩ = some (.int .i64 a.len) := hA.cell 3
    have y0 : w1.cell? ⟨w.heap.size + 1, 0, none⟩ = some (.int .i64 b.fam) := hB.cell 0
    have y1 : w1.cell? ⟨w.heap.size + 1, 1, none⟩ = some (.int .u64 (b.rd : Int)) := hB.cell 1
    have y2 : w1.cell? ⟨w.heap.size + 1, 2, none⟩ = some (.string ⟨b.addr.toArray⟩) := hB.cell 2
    have y3 : w1.cell? ⟨w.heap.size + 1, 3, none⟩ = some (.int .i64 b.len) := hB.cell 3
    replace hE1 := hide hE1
    replace hA := hide hA
    replace hB := hide hB
    go_wp2
    go_ret
    exact ⟨rfl, hE1.out⟩
  · rw [hc]
    simp only [he, valP] at hck ⊢
    clear hct
    replace hck := hide hck
    replace hc := hide hc
    replace he := hide he
    go_enter Tryz.func15, Tryz.ntmps15
    go_wp2_with fail
    refine (hck.out _).mono ?_
    rintro e w1 ⟨rfl, he1⟩
    have hA := ((Blk.new w 27 #[.int .i64 a.fam, .int .u64 (a.rd : Int), .string ⟨a.addr.toArray⟩, .int .i64 a.len]).alloc (Obj.cells #[.int .i64 b.fam, .int .u64 (b.rd : Int), .string ⟨b.addr.toArray⟩, .int .i64 b.len] 27)).ext he1
    have hB := (Blk.new (w.alloc (Obj.cells #[.int .i64 a.fam, .int .u64 (a.rd : Int), .string ⟨a.addr.toArray⟩, .int .i64 a.len] 27)) 27 #[.int .i64 b.fam, .int .u64 (b.rd : Int), .string ⟨b.addr.toArray⟩, .int .i64 b.len]).ext he1
    rw [show (w.alloc (Obj.cells #[.int .i64 a.fam, .int .u64 (a.rd : Int), .string ⟨a.addr.toArray⟩, .int .i64 a.len] 27)).heap.size = w.heap.size + 1 by simp] at hB
    have hE1 : Ext w w1 := (((Ext.refl w).alloc _).alloc _).trans he1
    clear he1
    have x0 : w1.cell? ⟨w.heap.size, 0, none⟩ = some (.int .i64 a.fam) := hA.cell 0
    have x1 : w1.cell? ⟨w.heap.size, 1, none⟩ = some (.int .u64 (a.rd : Int)) := hA.cell 1
    have x2 : w1.cell? ⟨w.heap.size, 2, none⟩ = some (.string ⟨a.addr.toArray⟩) := hA.cell 2
    have x3 : w1.cell? ⟨w.heap.size, 3, none⟩ = some (.int .i64 a.len) := hA.cell 3
    have y0 : w1.cell? ⟨w.heap.size + 1, 0, none⟩ = some (.int .i64 b.fam) := hB.cell 0
    have y1 : w1.cell? ⟨w.heap.size + 1, 1, none⟩ = some (.int .u64 (b.rd : Int)) := hB.cell 1
    have y2 : w1.cell? ⟨w.heap.size + 1, 2, none⟩ = some (.string ⟨b.addr.toArray⟩) := hB.cell 2
    have y3 : w1.cell? ⟨w.heap.size + 1, 3, none⟩ = some (.int .i64 b.len) := hB.cell 3
    replace hE1 := hide hE1
    replace hA := hide hA
    replace hB := hide hB
    go_wp2
    go_ret
    exact ⟨rfl, hE1.out⟩
  · rw [hc]
    simp only [he, valP] at hck ⊢
    clear hct
    replace hck := hide hck
    replace hc := hide hc
    replace he := hide he
    go_enter Tryz.func15, Tryz.ntmps15
    go_wp2_with fail
    refine (hck.out _).mono ?_
    rintro e w1 ⟨rfl, he1⟩
    have hA := ((Blk.new w 27 #[.int .i64 a.fam, .int .u64 (a.rd : Int), .string ⟨a.addr.toArray⟩, .int .i64 a.len]).alloc (Obj.cells #[.int .i64 b.fam, .int .u64 (b.rd : Int), .string ⟨b.addr.toArray⟩, .int .i64 b.len] 27)).ext he1
    have hB := (Blk.new (w.alloc (Obj.cells #[.int .i64 a.fam, .int .u64 (a.rd : Int), .string ⟨a.addr.toArray⟩, .int .i64 a.len] 27)) 27 #[.int .i64 b.fam, .int .u64 (b.rd : Int), .string ⟨b.addr.toArray⟩, .int .i64 b.len]).ext he1
    rw [show (w.alloc (Obj.cells #[.int .i64 a.fam, .int .u64 (a.rd : Int), .string ⟨a.addr.toArray⟩, .int .i64 a.len] 27)).heap.size = w.heap.size + 1 by simp] at hB
    have hE1 : Ext w w1 := (((Ext.refl w).alloc _).alloc _).trans he1
    clear he1
    have x0 : w1.cell? ⟨w.heap.size, 0, none⟩ = some (.int .i64 a.fam) := hA.cell 0
    have x1 : w1.cell? ⟨w.heap.size, 1, none⟩ = some (.int .u64 (a.rd : Int)) := hA.cell 1
    have x2 : w1.cell? ⟨w.heap.size, 2, none⟩ = some (.string ⟨a.addr.toArray⟩) := hA.cell 2
    have x3 : w1.cell? ⟨w.heap.size, 3, none⟩ = some (.int .i64 a.len) := hA.cell 3
    have y0 : w1.cell? ⟨w.heap.size + 1, 0, none⟩ = some (.int .i64 b.fam) := hB.cell 0
    have y1 : w1.cell? ⟨w.heap.size + 1, 1, none⟩ = some (.int .u64 (b.rd : Int)) := hB.cell 1
    have y2 : w1.cell? ⟨w.heap.size + 1, 2, none⟩ = some (.string ⟨b.addr.toArray⟩) := hB.cell 2
    have y3 : w1.cell? ⟨w.heap.size + 1, 3, none⟩ = some (.int .i64 b.len) := hB.cell 3
    replace hE1 := hide hE1
    replace hA := hide hA
    replace hB := hide hB
    go_wp2
    go_ret
    exact ⟨rfl, hE1.out⟩
  · have heq : ∀ W, (binOp .eql 27 (.agg #[.int .i64 b.fam, .int .u64 (b.rd : Int), .string ⟨(maskS b.addr a.len).toArray⟩, .int .i64 a.len]) (.agg #[.int .i64 a.fam, .int .u64 (a.rd : Int), .string ⟨a.addr.toArray⟩, .int .i64 a.len])).run Tryz.prog W = .ok (.bool (covB a b)) W := fun W => by
      rw [run_eqP]
      congr 2
      unfold covB
      apply decide_eq_decide.2
      constructor
      · rintro ⟨e1, e2, e3, _⟩
        exact ⟨hm, h0, h1, Pfx.eq e1 (by show b.rd = a.rd; omega) e3 rfl⟩
      · rintro ⟨_, _, _, e⟩
        refine ⟨?_, ?_, ?_, rfl⟩
        · have := congrArg Pfx.fam e; exact this
        · have := congrArg Pfx.rd e; exact congrArg Int.ofNat this
        · have := congrArg Pfx.addr e; exact this
    have heg : ∀ x y xs ys W, (eqGuard .eql 27 x y (.agg xs) (.agg ys)).run Tryz.prog W = .ok () W := fun x y xs ys W => run_eqGuard_agg W .eql _ x y xs ys Tryz.eqGuardType27
    generalize covB a b = C at heq ⊢
    simp only [he, valP] at hck ⊢
    simp only [hcs, valP, cutOf] at hct
    replace hck := hide hck
    replace hct := hide hct
    replace hm := hide hm
    replace he := hide he
    replace hcs := hide hcs
    go_enter Tryz.func15, Tryz.ntmps15
    go_wp2_with fail
    refine (hck.out _).mono ?_
    rintro e w1 ⟨rfl, he1⟩
    have hA := ((Blk.new w 27 #[.int .i64 a.fam, .int .u64 (a.rd : Int), .string ⟨a.addr.toArray⟩, .int .i64 a.len]).alloc (Obj.cells #[.int .i64 b.fam, .int .u64 (b.rd : Int), .string ⟨b.addr.toArray⟩, .int .i64 b.len] 27)).ext he1
    have hB := (Blk.new (w.alloc (Obj.cells #[.int .i64 a.fam, .int .u64 (a.rd : Int), .string ⟨a.addr.toArray⟩, .int .i64 a.len] 27)) 27 #[.int .i64 b.fam, .int .u64 (b.rd : Int), .string ⟨b.addr.toArray⟩, .int .i64 b.len]).ext he1
    rw [show (w.alloc (Obj.cells #[.int .i64 a.fam, .int .u64 (a.rd : Int), .string ⟨a.addr.toArray⟩, .int .i64 a.len] 27)).heap.size = w.heap.size + 1 by simp] at hB
    have hE1 : Ext w w1 := (((Ext.refl w).alloc _).alloc _).trans he1
    clear he1
    have x0 : w1.cell? ⟨w.heap.size, 0, none⟩ = some (.int .i64 a.fam) := hA.cell 0
    have x1 : w1.cell? ⟨w.heap.size, 1, none⟩ = some (.int .u64 (a.rd : Int)) := hA.cell 1
    have x2 : w1.cell? ⟨w.heap.size, 2, none⟩ = some (.string ⟨a.addr.toArray⟩) := hA.cell 2
    have x3 : w1.cell? ⟨w.heap.size, 3, none⟩ = some (.int .i64 a.len) := hA.cell 3
    have y0 : w1.cell? ⟨w.heap.size + 1, 0, none⟩ = some (.int .i64 b.fam) := hB.cell 0
    have y1 : w1.cell? ⟨w.heap.size + 1, 1, none⟩ = some (.int .u64 (b.rd : Int)) := hB.cell 1
    have y2 : w1.cell? ⟨w.heap.size + 1, 2, none⟩ = some (.string ⟨b.addr.toArray⟩) := hB.cell 2
    have y3 : w1.cell? ⟨w.heap.size + 1, 3, none⟩ = some (.int .i64 b.len) := hB.cell 3
    replace hE1 := hide hE1
    replace hA := hide hA
    replace hB := hide hB
    go_wp2_with fail
    refine (hct.out _).mono ?_
    rintro e w2 ⟨rfl, he2⟩
    clear x0 x1 x2 x3 y0 y1 y2 y3
    replace hA := hA.out.ext he2
    replace hB := hB.out.ext he2
    replace hE1 := hE1.out.trans he2
    clear he2
    have x0 : w2.cell? ⟨w.heap.size, 0, none⟩ = some (.int .i64 a.fam) := hA.cell 0
    have x1 : w2.cell? ⟨w.heap.size, 1, none⟩ = some (.int .u64 (a.rd : Int)) := hA.cell 1
    have x2 : w2.cell? ⟨w.heap.size, 2, none⟩ = some (.string ⟨a.addr.toArray⟩) := hA.cell 2
    have x3 : w2.cell? ⟨w.heap.size, 3, none⟩ = some (.int .i64 a.len) := hA.cell 3
    have y0 : w2.cell? ⟨w.heap.size + 1, 0, none⟩ = some (.int .i64 b.fam) := hB.cell 0
    have y1 : w2.cell? ⟨w.heap.size + 1, 1, none⟩ = some (.int .u64 (b.rd : Int)) := hB.cell 1
    have y2 : w2.cell? ⟨w.heap.size + 1, 2, none⟩ = some (.string ⟨b.addr.toArray⟩) := hB.cell 2
    have y3 : w2.cell? ⟨w.heap.size + 1, 3, none⟩ = some (.int .i64 b.len) := hB.cell 3
    have hAc := hA.alloc (Obj.cells #[.int .i64 b.fam, .int .u64 (b.rd : Int), .string ⟨(maskS b.addr a.len).toArray⟩, .int .i64 a.len] 27)
    have z0 : (w2.alloc (Obj.cells #[.int .i64 b.fam, .int .u64 (b.rd : Int), .string ⟨(maskS b.addr a.len).toArray⟩, .int .i64 a.len] 27)).cell? ⟨w.heap.size, 0, none⟩ = some (.int .i64 a.fam) := hAc.cell 0
    have z1 : (w2.alloc (Obj.cells #[.int .i64 b.fam, .int .u64 (b.rd : Int), .string ⟨(maskS b.addr a.len).toArray⟩, .int .i64 a.len] 27)).cell? ⟨w.heap.size, 1, none⟩ = some (.int .u64 (a.rd : Int)) := hAc.cell 1
    have z2 : (w2.alloc (Obj.cells #[.int .i64 b.fam, .int .u64 (b.rd : Int), .string ⟨(maskS b.addr a.len).toArray⟩, .int .i64 a.len] 27)).cell? ⟨w.heap.size, 2, none⟩ = some (.string ⟨a.addr.toArray⟩) := hAc.cell 2
    have z3 : (w2.alloc (Obj.cells #[.int .i64 b.fam, .int .u64 (b.rd : Int), .string ⟨(maskS b.addr a.len).toArray⟩, .int .i64 a.len] 27)).cell? ⟨w.heap.size, 3, none⟩ = some (.int .i64 a.len) := hAc.cell 3
    replace hE1 := hide hE1
    replace hA := hide hA
    replace hB := hide hB
    replace hAc := hide hAc
    go_wp2
    go_ret
    exact ⟨rfl, hE1.out.alloc _⟩
open Go.RowKit Go.Sort

theorem quiet_RBit (a : List UInt8) (n : Int) (w : World) (ha : a.length ≤ 1048576) (h1 : -9223372036854775808 ≤ n) (h2 : n ≤ 9223372036854775807) (m : Nat) :
    Calls Tryz.prog 45 #[.string ⟨a.toArray⟩, .int .i64 n] (w.drewN m) fun e w'' => e = .returned (.int .i64 (bitV (bitZ a n))) ∧ ∃ m, w'' = w.drewN m :=
  Calls.quiet_of_same ((RBit_any a n _ ha h1 h2).mono fun e w' h => ⟨h.1, h.2.symm⟩)

set_option maxRecDepth 20000 in
set_option maxHeartbeats 800000 in
theorem RCov_any (a b : Pfx) (w : World) (ha : a.addr.length ≤ 1048576) (hb : b.addr.length ≤ 1048576) :
    Calls Tryz.prog 34 #[valP a, valP b] w fun e w' => e = .returned (.bool (covB a b)) ∧ Ext w w' := by
  have hca := fun W => RMay_any a W ha
  have hcb := fun W => RMay_any b W hb
  have mixed : Tryz.prog.follows Departure.mixedOrders = true := by kernel_rfl
  by_cases ma : MayP a
  case neg =>
    have hc : covB a b = false := decide_eq_false fun h => ma (Cov.iff.1 h).1
    have hm : mayB a = false := decide_eq_false ma
    rw [hc]
    simp only [hm, valP] at hca ⊢
    clear hcb
    replace hca := hide hca
    replace hc := hide hc
    replace ma := hide ma
    replace hm := hide hm
    go_enter Tryz.func34, Tryz.ntmps34
    go_wp2_with fail
    refine (hca.out _).mono ?_
    rintro e w1 ⟨rfl, he1⟩
    have hA := ((Blk.new w 27 #[.int .i64 a.fam, .int .u64 (a.rd : Int), .string ⟨a.addr.toArray⟩, .int .i64 a.len]).alloc (Obj.cells #[.int .i64 b.fam, .int .u64 (b.rd : Int), .string ⟨b.addr.toArray⟩, .int .i64 b.len] 27)).ext he1
    have hB := (Blk.new (w.alloc (Obj.cells #[.int .i64 a.fam, .int .u64 (a.rd : Int), .string ⟨a.addr.toArray⟩, .int .i64 a.len] 27)) 27 #[.int .i64 b.fam, .int .u64 (b.rd : Int), .string ⟨b.addr.toArray⟩, .int .i64 b.len]).ext he1
    rw [show (w.alloc (Obj.cells #[.int .i64 a.fam, .int .u64 (a.rd : Int), .string ⟨a.addr.toArray⟩, .int .i64 a.len] 27)).heap.size = w.heap.size + 1 by simp] at hB
    have hE1 : Ext w w1 := (((Ext.refl w).alloc _).alloc _).trans he1
    clear he1
    have x0 : w1.cell? ⟨w.heap.size, 0, none⟩ = some (.int .i64 a.fam) := hA.cell 0
    have x1 : w1.cell? ⟨w.heap.size, 1, none⟩ = some (.int .u64 (a.rd : Int)) := hA.cell 1
    have x2 : w1.cell? ⟨w.heap.size, 2, none⟩ = some (.string ⟨a.addr.toArray⟩) := hA.cell 2
    have x3 : w1.cell? ⟨w.heap.size, 3, none⟩ = some (.int .i64 a.len) := hA.cell 3
    have y0 : w1.cell? ⟨w.heap.size + 1, 0, none⟩ = some (.int .i64 b.fam) := hB.cell 0
    have y1 : w1.cell? ⟨w.heap.size + 1, 1, none⟩ = some (.int .u64 (b.rd : Int)) := hB.cell 1
    have y2 : w1.cell? ⟨w.heap.size + 1, 2, none⟩ = some (.string ⟨b.addr.toArray⟩) := hB.cell 2
    have y3 : w1.cell? ⟨w.heap.size + 1, 3, none⟩ = some (.int .i64 b.len) := hB.cell 3
    replace hE1 := hide hE1
    replace hA := hide hA
    replace hB := hide hB
    go_wp2
    go_ret
    exact ⟨rfl, hE1.out⟩
  have hma : mayB a = true := decide_eq_true ma
  by_cases mb : MayP b
  case neg =>
    have hc : covB a b = false := decide_eq_false fun h => mb (Cov.iff.1 h).2.1
    have hm : mayB b = false := decide_eq_false mb
    rw [hc]
    simp only [hma, valP] at hca ⊢
    simp only [hm, valP] at hcb
    replace hca := hide hca
    replace hcb := hide hcb
    replace hc := hide hc
    replace ma := hide ma
    replace hma := hide hma
    replace mb := hide mb
    replace hm := hide hm
    go_enter Tryz.func34, Tryz.ntmps34
    go_wp2_with fail
    refine (hca.out _).mono ?_
    rintro e w1 ⟨rfl, he1⟩
    have hA := ((Blk.new w 27 #[.int .i64 a.fam, .int .u64 (a.rd : Int), .string ⟨a.addr.toArray⟩, .int .i64 a.len]).alloc (Obj.cells #[.int .i64 b.fam, .int .u64 (b.rd : Int), .string ⟨b.addr.toArray⟩, .int .i64 b.len] 27)).ext he1
    have hB := (Blk.new (w.alloc (Obj.cells #[.int .i64 a.fam, .int .u64 (a.rd : Int), .string ⟨a.addr.toArray⟩, .int .i64 a.len] 27)) 27 #[.int .i64 b.fam, .int .u64 (b.rd : Int), .string ⟨b.addr.toArray⟩, .int .i64 b.len]).ext he1
    rw [show (w.alloc (Obj.cells #[.int .i64 a.fam, .int .u64 (a.rd : Int), .string ⟨a.addr.toArray⟩, .int .i64 a.len] 27)).heap.size = w.heap.size + 1 by simp] at hB
    have hE1 : Ext w w1 := (((Ext.refl w).alloc _).alloc _).trans he1
    clear he1
    have x0 : w1.cell? ⟨w.heap.size, 0, none⟩ = some (.int .i64 a.fam) := hA.cell 0
    have x1 : w1.cell? ⟨w.heap.size, 1, none⟩ = some (.int .u64 (a.rd : Int)) := hA.cell 1
    have x2 : w1.cell? ⟨w.heap.size, 2, none⟩ = some (.string ⟨a.addr.toArray⟩) := hA.cell 2
    have x3 : w1.cell? ⟨w.heap.size, 3, none⟩ = some (.int .i64 a.len) := hA.cell 3
    have y0 : w1.cell? ⟨w.heap.size + 1, 0, none⟩ = some (.int .i64 b.fam) := hB.cell 0
    have y1 : w1.cell? ⟨w.heap.size + 1, 1, none⟩ = some (.int .u64 (b.rd : Int)) := hB.cell 1
    have y2 : w1.cell? ⟨w.heap.size + 1, 2, none⟩ = some (.string ⟨b.addr.toArray⟩) := hB.cell 2
    have y3 : w1.cell? ⟨w.heap.size + 1, 3, none⟩ = some (.int .i64 b.len) := hB.cell 3
    replace hE1 := hide hE1
    replace hA := hide hA
    replace hB := hide hB
    go_wp2_with fail
    refine (hcb.out _).mono ?_
    rintro e w2 ⟨rfl, he2⟩
    clear x0 x1 x2 x3 y0 y1 y2 y3
    replace hA := hA.out.ext he2
    replace hB := hB.out.ext he2
    replace hE1 := hE1.out.trans he2
    clear he2
    have x0 : w2.cell? ⟨w.heap.size, 0, none⟩ = some (.int .i64 a.fam) := hA.cell 0
    have x1 : w2.cell? ⟨w.heap.size, 1, none⟩ = some (.int .u64 (a.rd : Int)) := hA.cell 1
    have x2 : w2.cell? ⟨w.heap.size, 2, none⟩ = some (.string ⟨a.addr.toArray⟩) := hA.cell 2
    have x3 : w2.cell? ⟨w.heap.size, 3, none⟩ = some (.int .i64 a.len) := hA.cell 3
    have y0 : w2.cell? ⟨w.heap.size + 1, 0, none⟩ = some (.int .i64 b.fam) := hB.cell 0
    have y1 : w2.cell? ⟨w.heap.size + 1, 1, none⟩ = some (.int .u64 (b.rd : Int)) := hB.cell 1
    have y2 : w2.cell? ⟨w.heap.size + 1, 2, none⟩ = some (.string ⟨b.addr.toArray⟩) := hB.cell 2
    have y3 : w2.cell? ⟨w.heap.size + 1, 3, none⟩ = some (.int .i64 b.len) := hB.cell 3
    replace hE1 := hide hE1
    replace hA := hide hA
    replace hB := hide hB
    go_wp2
    go_ret
    exact ⟨rfl, hE1.out⟩
  have hmb : mayB b = true := decide_eq_true mb
  simp only [hma, valP] at hca ⊢
  simp only [hmb, valP] at hcb
  replace hca := hide hca
  replace hcb := hide hcb
  replace ma := hide ma
  replace hma := hide hma
  replace mb := hide mb
  replace hmb := hide hmb
  by_cases c1 : a.fam = b.fam
  case neg =>
    have hc : covB a b = false := decide_eq_false fun h => c1 (Cov.iff.1 h).2.2.1
    have b1 : (a.fam != b.fam) = true := bne_iff_ne.2 c1
    rw [hc]
    replace hc := hide hc
    replace c1 := hide c1
    go_enter Tryz.func34, Tryz.ntmps34
    go_wp2_with fail
    refine (hca.out _).mono ?_
    rintro e w1 ⟨rfl, he1⟩
    have hA := ((Blk.new w 27 #[.int .i64 a.fam, .int .u64 (a.rd : Int), .string ⟨a.addr.toArray⟩, .int .i64 a.len]).alloc (Obj.cells #[.int .i64 b.fam, .int .u64 (b.rd : Int), .string ⟨b.addr.toArray⟩, .int .i64 b.len] 27)).ext he1
    have hB := (Blk.new (w.alloc (Obj.cells #[.int .i64 a.fam, .int .u64 (a.rd : Int), .string ⟨a.addr.toArray⟩, .int .i64 a.len] 27)) 27 #[.int .i64 b.fam, .int .u64 (b.rd : Int), .string ⟨b.addr.toArray⟩, .int .i64 b.len]).ext he1
    rw [show (w.alloc (Obj.cells #[.int .i64 a.fam, .int .u64 (a.rd : Int), .string ⟨a.addr.toArray⟩, .int .i64 a.len] 27)).heap.size = w.heap.size + 1 by simp] at hB
    have hE1 : Ext w w1 := (((Ext.refl w).alloc _).alloc _).trans he1
    clear he1
    have x0 : w1.cell? ⟨w.heap.size, 0, none⟩ = some (.int .i64 a.fam) := hA.cell 0
    have x1 : w1.cell? ⟨w.heap.size, 1, none⟩ = some (.int .u64 (a.rd : Int)) := hA.cell 1
    have x2 : w1.cell? ⟨w.heap.size, 2, none⟩ = some (.string ⟨a.addr.toArray⟩) := hA.cell 2
    have x3 : w1.cell? ⟨w.heap.size, 3, none⟩ = some (.int .i64 a.len) := hA.cell 3
    have y0 : w1.cell? ⟨w.heap.size + 1, 0, none⟩ = some (.int .i64 b.fam) := hB.cell 0
    have y1 : w1.cell? ⟨w.heap.size + 1, 1, none⟩ = some (.int .u64 (b.rd : Int)) := hB.cell 1
    have y2 : w1.cell? ⟨w.heap.size + 1, 2, none⟩ = some (.string ⟨b.addr.toArray⟩) := hB.cell 2
    have y3 : w1.cell? ⟨w.heap.size + 1, 3, none⟩ = some (.int .i64 b.len) := hB.cell 3
    replace hE1 := hide hE1
    replace hA := hide hA
    replace hB := hide hB
    go_wp2_with fail
    refine (hcb.out _).mono ?_
    rintro e w2 ⟨rfl, he2⟩
    clear x0 x1 x2 x3 y0 y1 y2 y3
    replace hA := hA.out.ext he2
    replace hB := hB.out.ext he2
    replace hE1 := hE1.out.trans he2
    clear he2
    have x0 : w2.cell? ⟨w.heap.size, 0, none⟩ = some (.int .i64 a.fam) := hA.cell 0
    have x1 : w2.cell? ⟨w.heap.size, 1, none⟩ = some (.int .u64 (a.rd : Int)) := hA.cell 1
    have x2 : w2.cell? ⟨w.heap.size, 2, none⟩ = some (.string ⟨a.addr.toArray⟩) := hA.cell 2
    have x3 : w2.cell? ⟨w.heap.size, 3, none⟩ = some (.int .i64 a.len) := hA.cell 3
    have y0 : w2.cell? ⟨w.heap.size + 1, 0, none⟩ = some (.int .i64 b.fam) := hB.cell 0
    have y1 : w2.cell? ⟨w.heap.size + 1, 1, none⟩ = some (.int .u64 (b.rd : Int)) := hB.cell 1
    have y2 : w2.cell? ⟨w.heap.size + 1, 2, none⟩ = some (.string ⟨b.addr.toArray⟩) := hB.cell 2
    have y3 : w2.cell? ⟨w.heap.size + 1, 3, none⟩ = some (.int .i64 b.len) := hB.cell 3
    replace hE1 := hide hE1
    replace hA := hide hA
    replace hB := hide hB
    go_wp2
    go_ret
    exact ⟨rfl, hE1.out⟩
  have b1 : (a.fam != b.fam) = false := by rw [c1]; exact bne_self_eq_false _
  by_cases c2 : a.rd = b.rd
  case neg =>
    have hc : covB a b = false := decide_eq_false fun h => c2 (Cov.iff.1 h).2.2.2.1
    have b2 : ((a.rd : Int) != (b.rd : Int)) = true := bne_iff_ne.2 (by omega)
    rw [hc]
    replace hc := hide hc
    replace c1 := hide c1
    replace c2 := hide c2
    go_enter Tryz.func34, Tryz.ntmps34
    go_wp2_with fail
    refine (hca.out _).mono ?_
    rintro e w1 ⟨rfl, he1⟩
    have hA := ((Blk.new w 27 #[.int .i64 a.fam, .int .u64 (a.rd : Int), .string ⟨a.addr.toArray⟩, .int .i64 a.len]).alloc (Obj.cells #[.int .i64 b.fam, .int .u64 (b.rd : Int), .string ⟨b.addr.toArray⟩, .int .i64 b.len] 27)).ext he1
    have hB := (Blk.new (w.alloc (Obj.cells #[.int .i64 a.fam, .int .u64 (a.rd : Int), .string ⟨a.addr.toArray⟩, .int .i64 a.len] 27)) 27 #[.int .i64 b.fam, .int .u64 (b.rd : Int), .string ⟨b.addr.toArray⟩, .int .i64 b.len]).ext he1
    rw [show (w.alloc (Obj.cells #[.int .i64 a.fam, .int .u64 (a.rd : Int), .string ⟨a.addr.toArray⟩, .int .i64 a.len] 27)).heap.size = w.heap.size + 1 by simp] at hB
    have hE1 : Ext w w1 := (((Ext.refl w).alloc _).alloc _).trans he1
    clear he1
    have x0 : w1.cell? ⟨w.heap.size, 0, none⟩ = some (.int .i64 a.fam) := hA.cell 0
    have x1 : w1.cell? ⟨w.heap.size, 1, none⟩ = some (.int .u64 (a.rd : Int)) := hA.cell 1
    have x2 : w1.cell? ⟨w.heap.size, 2, none⟩ = some (.string ⟨a.addr.toArray⟩) := hA.cell 2
    have x3 : w1.cell? ⟨w.heap.size, 3, none⟩ = some (.int .i64 a.len) := hA.cell 3
    have y0 : w1.cell? ⟨w.heap.size + 1, 0, none⟩ = some (.int .i64 b.fam) := hB.cell 0
    have y1 : w1.cell? ⟨w.heap.size + 1, 1, none⟩ = some (.int .u64 (b.rd : Int)) := hB.cell 1
    have y2 : w1.cell? ⟨w.heap.size + 1, 2, none⟩ = some (.string ⟨b.addr.toArray⟩) := hB.cell 2
    have y3 : w1.cell? ⟨w.heap.size + 1, 3, none⟩ = some (.int .i64 b.len) := hB.cell 3
    replace hE1 := hide hE1
    replace hA := hide hA
    replace hB := hide hB
    go_wp2_with fail
    refine (hcb.out _).mono ?_
    rintro e w2 ⟨rfl, he2⟩
    clear x0 x1 x2 x3 y0 y1 y2 y3
    replace hA := hA.out.ext he2
    replace hB := hB.out.ext he2
    replace hE1 := hE1.out.trans he2
    clear he2
    have x0 : w2.cell? ⟨w.heap.size, 0, none⟩ = some (.int .i64 a.fam) := hA.cell 0
    have x1 : w2.cell? ⟨w.heap.size, 1, none⟩ = some (.int .u64 (a.rd : Int)) := hA.cell 1
    have x2 : w2.cell? ⟨w.heap.size, 2, none⟩ = some (.string ⟨a.addr.toArray⟩) := hA.cell 2
    have x3 : w2.cell? ⟨w.heap.size, 3, none⟩ = some (.int .i64 a.len) := hA.cell 3
    have y0 : w2.cell? ⟨w.heap.size + 1, 0, none⟩ = some (.int .i64 b.fam) := hB.cell 0
    have y1 : w2.cell? ⟨w.heap.size + 1, 1, none⟩ = some (.int .u64 (b.rd : Int)) := hB.cell 1
    have y2 : w2.cell? ⟨w.heap.size + 1, 2, none⟩ = some (.string ⟨b.addr.toArray⟩) := hB.cell 2
    have y3 : w2.cell? ⟨w.heap.size + 1, 3, none⟩ = some (.int .i64 b.len) := hB.cell 3
    replace hE1 := hide hE1
    replace hA := hide hA
    replace hB := hide hB
    go_wp2
    go_ret
    exact ⟨rfl, hE1.out⟩
  have b2 : ((a.rd : Int) != (b.rd : Int)) = false := by rw [c2]; exact bne_self_eq_false _
  by_cases c3 : a.len ≤ b.len
  case neg =>
    have hc : covB a b = false := decide_eq_false fun h => c3 (Cov.iff.1 h).2.2.2.2.1
    rw [hc]
    replace hc := hide hc
    replace c1 := hide c1
    replace c2 := hide c2
    have c3 : b.len < a.len := by omega
    go_enter Tryz.func34, Tryz.ntmps34
    go_wp2_with fail
    refine (hca.out _).mono ?_
    rintro e w1 ⟨rfl, he1⟩
    have hA := ((Blk.new w 27 #[.int .i64 a.fam, .int .u64 (a.rd : Int), .string ⟨a.addr.toArray⟩, .int .i64 a.len]).alloc (Obj.cells #[.int .i64 b.fam, .int .u64 (b.rd : Int), .string ⟨b.addr.toArray⟩, .int .i64 b.len] 27)).ext he1
    have hB := (Blk.new (w.alloc (Obj.cells #[.int .i64 a.fam, .int .u64 (a.rd : Int), .string ⟨a.addr.toArray⟩, .int .i64 a.len] 27)) 27 #[.int .i64 b.fam, .int .u64 (b.rd : Int), .string ⟨b.addr.toArray⟩, .int .i64 b.len]).ext he1
    rw [show (w.alloc (Obj.cells #[.int .i64 a.fam, .int .u64 (a.rd : Int), .string ⟨a.addr.toArray⟩, .int .i64 a.len] 27)).heap.size = w.heap.size + 1 by simp] at hB
    have hE1 : Ext w w1 := (((Ext.refl w).alloc _).alloc _).trans he1
    clear he1
    have x0 : w1.cell? ⟨w.heap.size, 0, none⟩ = some (.int .i64 a.fam) := hA.cell 0
    have x1 : w1.cell? ⟨w.heap.size, 1, none⟩ = some (.int .u64 (a.rd : Int)) := hA.cell 1
    have x2 : w1.cell? ⟨w.heap.size, 2, none⟩ = some (.string ⟨a.addr.toArray⟩) := hA.cell 2
    have x3 : w1.cell? ⟨w.heap.size, 3, none⟩ = some (.int .i64 a.len) := hA.cell 3
    have y0 : w1.cell? ⟨w.heap.size + 1, 0, none⟩ = some (.int .i64 b.fam) := hB.cell 0
    have y1 : w1.cell? ⟨w.heap.size + 1, 1, none⟩ = some (.int .u64 (b.rd : Int)) := hB.cell 1
    have y2 : w1.cell? ⟨w.heap.size + 1, 2, none⟩ = some (.string ⟨b.addr.toArray⟩) := hB.cell 2
    have y3 : w1.cell? ⟨w.heap.size + 1, 3, none⟩ = some (.int .i64 b.len) := hB.cell 3
    replace hE1 := hide hE1
    replace hA := hide hA
    replace hB := hide hB
    go_wp2_with fail
    refine (hcb.out _).mono ?_
    rintro e w2 ⟨rfl, he2⟩
    clear x0 x1 x2 x3 y0 y1 y2 y3
    replace hA := hA.out.ext he2
    replace hB := hB.out.ext he2
    replace hE1 := hE1.out.trans he2
    clear he2
    have x0 : w2.cell? ⟨w.heap.size, 0, none⟩ = some (.int .i64 a.fam) := hA.cell 0
    have x1 : w2.cell? ⟨w.heap.size, 1, none⟩ = some (.int .u64 (a.rd : Int)) := hA.cell 1
    have x2 : w2.cell? ⟨w.heap.size, 2, none⟩ = some (.string ⟨a.addr.toArray⟩) := hA.cell 2
    have x3 : w2.cell? ⟨w.heap.size, 3, none⟩ = some (.int .i64 a.len) := hA.cell 3
    have y0 : w2.cell? ⟨w.heap.size + 1, 0, none⟩ = some (.int .i64 b.fam) := hB.cell 0
    have y1 : w2.cell? ⟨w.heap.size + 1, 1, none⟩ = some (.int .u64 (b.rd : Int)) := hB.cell 1
    have y2 : w2.cell? ⟨w.heap.size + 1, 2, none⟩ = some (.string ⟨b.addr.toArray⟩) := hB.cell 2
    have y3 : w2.cell? ⟨w.heap.size + 1, 3, none⟩ = some (.int .i64 b.len) := hB.cell 3
    replace hE1 := hide hE1
    replace hA := hide hA
    replace hB := hide hB
    go_wp2
    go_ret
    exact ⟨rfl, hE1.out⟩
  have hCt : (∀ i : Nat, (i : Int) < a.len → bitN a.addr i = bitN b.addr i) → covB a b = true := fun h => decide_eq_true (Cov.iff.2 ⟨ma.out, mb.out, c1, c2, c3, h⟩)
  have hCf : ∀ i : Nat, (i : Int) < a.len → bitN a.addr i ≠ bitN b.addr i → covB a b = false := fun i h1 h2 => decide_eq_false fun h => h2 ((Cov.iff.1 h).2.2.2.2.2 i h1)
  generalize covB a b = C at hCt hCf ⊢
  have hal : a.len ≤ 128 := by have := ma.out.1.small; omega
  have hal0 : 0 ≤ a.len := by have := ma.out.1.small; omega
  replace hCt := hide hCt
  replace hCf := hide hCf
  replace c1 := hide c1
  replace c2 := hide c2
  go_enter Tryz.func34, Tryz.ntmps34
  go_wp2_with fail
  refine (hca.out _).mono ?_
  rintro e w1 ⟨rfl, he1⟩
  have hA := ((Blk.new w 27 #[.int .i64 a.fam, .int .u64 (a.rd : Int), .string ⟨a.addr.toArray⟩, .int .i64 a.len]).alloc (Obj.cells #[.int .i64 b.fam, .int .u64 (b.rd : Int), .string ⟨b.addr.toArray⟩, .int .i64 b.len] 27)).ext he1
  have hB := (Blk.new (w.alloc (Obj.cells #[.int .i64 a.fam, .int .u64 (a.rd : Int), .string ⟨a.addr.toArray⟩, .int .i64 a.len] 27)) 27 #[.int .i64 b.fam, .int .u64 (b.rd : Int), .string ⟨b.addr.toArray⟩, .int .i64 b.len]).ext he1
  rw [show (w.alloc (Obj.cells #[.int .i64 a.fam, .int .u64 (a.rd : Int), .string ⟨a.addr.toArray⟩, .int .i64 a.len] 27)).heap.size = w.heap.size + 1 by simp] at hB
  have hE1 : Ext w w1 := (((Ext.refl w).alloc _).alloc _).trans he1
  clear he1
  have x0 : w1.cell? ⟨w.heap.size, 0, none⟩ = some (.int .i64 a.fam) := hA.cell 0
  have x1 : w1.cell? ⟨w.heap.size, 1, none⟩ = some (.int .u64 (a.rd : Int)) := hA.cell 1
  have x2 : w1.cell? ⟨w.heap.size, 2, none⟩ = some (.string ⟨a.addr.toArray⟩) := hA.cell 2
  have x3 : w1.cell? ⟨w.heap.size, 3, none⟩ = some (.int .i64 a.len) := hA.cell 3
  have y0 : w1.cell? ⟨w.heap.size + 1, 0, none⟩ = some (.int .i64 b.fam) := hB.cell 0
  have y1 : w1.cell? ⟨w.heap.size + 1, 1, none⟩ = some (.int .u64 (b.rd : Int)) := hB.cell 1
  have y2 : w1.cell? ⟨w.heap.size + 1, 2, none⟩ = some (.string ⟨b.addr.toArray⟩) := hB.cell 2
  have y3 : w1.cell? ⟨w.heap.size + 1, 3, none⟩ = some (.int .i64 b.len) := hB.cell 3
  replace hE1 := hide hE1
  replace hA := hide hA
  replace hB := hide hB
  go_wp2_with fail
  refine (hcb.out _).mono ?_
  rintro e w2 ⟨rfl, he2⟩
  clear x0 x1 x2 x3 y0 y1 y2 y3
  replace hA := hA.out.ext he2
  replace hB := hB.out.ext he2
  replace hE1 := hE1.out.trans he2
  clear he2
  have x0 : w2.cell? ⟨w.heap.size, 0, none⟩ = some (.int .i64 a.fam) := hA.cell 0
  have x1 : w2.cell? ⟨w.heap.size, 1, none⟩ = some (.int .u64 (a.rd : Int)) := hA.cell 1
  have x2 : w2.cell? ⟨w.heap.size, 2, none⟩ = some (.string ⟨a.addr.toArray⟩) := hA.cell 2
  have x3 : w2.cell? ⟨w.heap.size, 3, none⟩ = some (.int .i64 a.len) := hA.cell 3
  have y0 : w2.cell? ⟨w.heap.size + 1, 0, none⟩ = some (.int .i64 b.fam) := hB.cell 0
  have y1 : w2.cell? ⟨w.heap.size + 1, 1, none⟩ = some (.int .u64 (b.rd : Int)) := hB.cell 1
  have y2 : w2.cell? ⟨w.heap.size + 1, 2, none⟩ = some (.string ⟨b.addr.toArray⟩) := hB.cell 2
  have y3 : w2.cell? ⟨w.heap.size + 1, 3, none⟩ = some (.int .i64 b.len) := hB.cell 3
  replace hE1 := hide hE1
  replace hA := hide hA
  replace hB := hide hB
  go_wp2_with fail
  go_loopw [5] (fun q wr => ∃ k : Nat, (k : Int) ≤ a.len ∧ q = .int .i64 k ∧ Hid (∀ i : Nat, i < k → bitN a.addr i = bitN b.addr i) ∧ Ext w2 wr) (fun q _ => (a.len - intOf q).toNat)
  case atStart => exact ⟨0, by omega, rfl, (fun i h => absurd h (Nat.not_lt_zero i)), Ext.refl _⟩
  case round =>
    clear x0 x1 x2 x3 y0 y1 y2 y3
    obtain ⟨k, hk, rfl, hz0, hE⟩ := hrel
    replace hA := hA.out.ext hE
    replace hB := hB.out.ext hE
    have x2 : wr.cell? ⟨w.heap.size, 2, none⟩ = some (.string ⟨a.addr.toArray⟩) := hA.cell 2
    have x3 : wr.cell? ⟨w.heap.size, 3, none⟩ = some (.int .i64 a.len) := hA.cell 3
    have y2 : wr.cell? ⟨w.heap.size + 1, 2, none⟩ = some (.string ⟨b.addr.toArray⟩) := hB.cell 2
    replace hA := hide hA
    replace hB := hide hB
    replace hE := hide hE
    by_cases hlt : (k : Int) < a.len
    · have b3 := quiet_RBit a.addr k wr (by omega) (by omega) (by omega)
      have b4 := quiet_RBit b.addr k wr (by omega) (by omega) (by omega)
      have e1 : bitZ a.addr k = bitN a.addr k := by unfold bitZ; rw [if_neg (by omega)]; rfl
      have e2 : bitZ b.addr k = bitN b.addr k := by unfold bitZ; rw [if_neg (by omega)]; rfl
      rw [e1] at b3
      rw [e2] at b4
      clear e1 e2
      rcases (show bitN a.addr k = bitN b.addr k ∨ bitN a.addr k ≠ bitN b.addr k from Decidable.em _) with hbk | hbk
      · have hnx : ∀ i : Nat, i < k + 1 → bitN a.addr i = bitN b.addr i := fun i h => by rcases Nat.lt_succ_iff_lt_or_eq.1 h with h | rfl; exact hz0.out i h; exact hbk
        rw [← hbk] at b4
        replace hbk := hide hbk
        replace hnx := hide hnx
        cases hv : bitN a.addr k
        all_goals
          rw [hv] at b3 b4
          replace hv := hide hv
          replace b3 := hide b3
          replace b4 := hide b4
          go_wp2_with fail
          go_quiet ((go_at_call 45; first | (with_reducible exact b3.out _) | (with_reducible exact b4.out _)))
          go_wp2
          go_roundw
          case rel => exact ⟨k + 1, by omega, by go_num, hnx, hE.out.drewN _⟩
          case measure => simp [intOf]; omega
      · have hC := hCf.out k hlt hbk
        replace hC := hide hC
        cases hv : bitN a.addr k
        all_goals
          cases hv2 : bitN b.addr k
          all_goals
            first
            | (exfalso; exact hbk (hv.trans hv2.symm))
            | (rw [hv] at b3
               rw [hv2] at b4
               replace hv := hide hv
               replace hv2 := hide hv2
               replace b3 := hide b3
               replace b4 := hide b4
               replace hbk := hide hbk
               go_wp2_with fail
               go_quiet ((go_at_call 45; first | (with_reducible exact b3.out _) | (with_reducible exact b4.out _)))
               go_wp2
               go_ret
               exact ⟨by rw [hC.out]; rfl, (hE1.out.trans hE.out).drewN _⟩)
    · have hC := hCt.out (fun i hi => hz0.out i (by omega))
      replace hC := hide hC
      go_wp2
      go_ret
      exact ⟨by rw [hC.out]; rfl, hE1.out.trans hE.out⟩
end Go.Proofs.YtmhmcdpadmimlaaGreatDoor
