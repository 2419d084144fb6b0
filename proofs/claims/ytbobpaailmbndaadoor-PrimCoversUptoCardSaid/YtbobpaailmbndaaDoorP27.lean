/- The walk of PrimCovers. -/
import Derived.Test.YtbobpaailmbndaaDoorP26
import Derived.Test.YtbobpaailmbndaaDoorPV
import Derived.Test.YtbobpaailmbndaaDoorP16
namespace Go.Proofs.YtbobpaailmbndaaDoor
open Go.RowKit Go.Sort
set_option linter.unusedVariables false

theorem neqP_run (W : World) (a b : Pfx) (e : Bool) (h : e = true ↔ a = b) : (binOp .neq 24 (.agg #[.int .i64 a.fam, .int .u64 (a.rd : Int), .string ⟨a.addr.toArray⟩, .int .i64 a.len]) (.agg #[.int .i64 b.fam, .int .u64 (b.rd : Int), .string ⟨b.addr.toArray⟩, .int .i64 b.len])).run Tryd.prog W = .ok (.bool (!e)) W := by
  have h1 := eqP_run W a b e h
  rw [run_eql_struct] at h1
  rw [run_neq_struct]
  generalize (Op.equalIn 10000 24 (.agg #[.int .i64 a.fam, .int .u64 (a.rd : Int), .string ⟨a.addr.toArray⟩, .int .i64 a.len]) (.agg #[.int .i64 b.fam, .int .u64 (b.rd : Int), .string ⟨b.addr.toArray⟩, .int .i64 b.len])).run Tryd.prog W = r at h1 ⊢
  cases r with
  | ok b w' =>
    simp only [Result.andThen] at h1 ⊢
    injection h1 with e1 e2
    injection e1 with e1
    subst e1
    subst e2
    rfl
  | halt x w' => simp only [Result.andThen] at h1; cases h1
theorem neqF_run (W : World) (a b : Pfx) (h : a = b) : (binOp .neq 24 (.agg #[.int .i64 a.fam, .int .u64 (a.rd : Int), .string ⟨a.addr.toArray⟩, .int .i64 a.len]) (.agg #[.int .i64 b.fam, .int .u64 (b.rd : Int), .string ⟨b.addr.toArray⟩, .int .i64 b.len])).run Tryd.prog W = .ok (.bool false) W := neqP_run W a b true (by simp [h])
theorem quiet_ABit (a : List UInt8) (n : Int) (w : World) (ha : a.length ≤ 1048576) (h1 : -9223372036854775808 ≤ n) (h2 : n ≤ 9223372036854775807) (m : Nat) :
    Calls Tryd.prog 30 #[.string ⟨a.toArray⟩, .int .i64 n] (w.drewN m) fun e w'' => e = .returned (.int .i64 (bitV (bitZ a n))) ∧ ∃ m, w'' = w.drewN m :=
  Calls.quiet_of_same ((ABit_any a n _ ha h1 h2).mono fun e w' h => ⟨h.1, h.2.symm⟩)
/-- What the law asks, plain: which of the four covers hold. -/
theorem covers_cases {a b : Pfx} {k : Int} (hb : MayP b) (h : cutOk b k) : (covB a b = false ∧ covB a (cutOf b k) = false) ∨ (covB a b = true ∧ cutS b a.len = (a, 0) ∧ covB b a = false ∧ covB a (cutOf b k) = true) ∨ (covB a b = true ∧ cutS b a.len = (a, 0) ∧ covB b a = false ∧ covB a (cutOf b k) = false ∧ covB (cutOf b k) a = true) ∨
    (covB a b = true ∧ cutS b a.len = (a, 0) ∧ covB b a = true ∧ a = b ∧ covB a (cutOf b k) = true) ∨ (covB a b = true ∧ cutS b a.len = (a, 0) ∧ covB b a = true ∧ a = b ∧ covB a (cutOf b k) = false ∧ covB (cutOf b k) a = true) := by
  by_cases h1 : Cov a b
  · have hc : cutS b a.len = (a, 0) := by
      unfold cutS
      rw [if_pos ⟨hb, h1.2.1, h1.2.2.1⟩, h1.2.2.2]
    have e1 : covB a b = true := decide_eq_true h1
    by_cases h2 : Cov b a <;> by_cases h3 : Cov a (cutOf b k)
    · exact .inr (.inr (.inr (.inl ⟨e1, hc, decide_eq_true h2, cov_anti h1 h2, decide_eq_true h3⟩)))
    · have h4 : Cov (cutOf b k) a := (cov_two h h1).resolve_left h3
      exact .inr (.inr (.inr (.inr ⟨e1, hc, decide_eq_true h2, cov_anti h1 h2, decide_eq_false h3, decide_eq_true h4⟩)))
    · exact .inr (.inl ⟨e1, hc, decide_eq_false h2, decide_eq_true h3⟩)
    · have h4 : Cov (cutOf b k) a := (cov_two h h1).resolve_left h3
      exact .inr (.inr (.inl ⟨e1, hc, decide_eq_false h2, decide_eq_false h3, decide_eq_true h4⟩))
  · exact .inl ⟨decide_eq_false h1, decide_eq_false fun h3 => h1 (cov_up h h3)⟩

set_option maxRecDepth 20000 in
set_option maxHeartbeats 8000000 in
theorem PrimCovers_walk (x y : Rw) (n : UInt8) (w : World) (hT : Tab w) (hV : Vars w) :
    Calls Tryd.prog 8 #[valR x, valR y, .int .u8 (n.toNat : Int)] w fun e w' => e = .returned (.bool true) ∧ Ext w w' := by
  have mixed : Tryd.prog.follows Departure.mixedOrders = true := by kernel_rfl
  have qwk := fun W (h : Ext w W) => works_any W (hT.ext h) (hV.ext h)
  clear hT hV
  replace qwk := hide qwk
  have heg : ∀ o x y xs ys W, (eqGuard o 24 x y (.agg xs) (.agg ys)).run Tryd.prog W = .ok () W := fun o x y xs ys W => run_eqGuard_agg W o _ x y xs ys Tryd.eqGuardType24
  unfold valR
  go_enter Tryd.func8, Tryd.ntmps8
  go_wp2
  have hX := (Blk.new w 37 (cellsR x)).alloc (Obj.cells #[.int .u8 (y.fam.toNat : Int), .int .u64 (y.rd : Int), .int .u8 ((y.b 0).toNat : Int), .int .u8 ((y.b 1).toNat : Int), .int .u8 ((y.b 2).toNat : Int), .int .u8 ((y.b 3).toNat : Int), .int .u8 ((y.b 4).toNat : Int), .int .u8 ((y.b 5).toNat : Int), .int .u8 ((y.b 6).toNat : Int), .int .u8 ((y.b 7).toNat : Int), .int .u8 ((y.b 8).toNat : Int), .int .u8 ((y.b 9).toNat : Int), .int .u8 ((y.b 10).toNat : Int), .int .u8 ((y.b 11).toNat : Int), .int .u8 ((y.b 12).toNat : Int), .int .u8 ((y.b 13).toNat : Int), .int .u8 ((y.b 14).toNat : Int), .int .u8 ((y.b 15).toNat : Int), .int .u8 (y.len.toNat : Int)] 37)
  have hY := Blk.new (w.alloc (Obj.cells #[.int .u8 (x.fam.toNat : Int), .int .u64 (x.rd : Int), .int .u8 ((x.b 0).toNat : Int), .int .u8 ((x.b 1).toNat : Int), .int .u8 ((x.b 2).toNat : Int), .int .u8 ((x.b 3).toNat : Int), .int .u8 ((x.b 4).toNat : Int), .int .u8 ((x.b 5).toNat : Int), .int .u8 ((x.b 6).toNat : Int), .int .u8 ((x.b 7).toNat : Int), .int .u8 ((x.b 8).toNat : Int), .int .u8 ((x.b 9).toNat : Int), .int .u8 ((x.b 10).toNat : Int), .int .u8 ((x.b 11).toNat : Int), .int .u8 ((x.b 12).toNat : Int), .int .u8 ((x.b 13).toNat : Int), .int .u8 ((x.b 14).toNat : Int), .int .u8 ((x.b 15).toNat : Int), .int .u8 (x.len.toNat : Int)] 37)) 37 (cellsR y)
  have E : Ext w ((w.alloc (Obj.cells #[.int .u8 (x.fam.toNat : Int), .int .u64 (x.rd : Int), .int .u8 ((x.b 0).toNat : Int), .int .u8 ((x.b 1).toNat : Int), .int .u8 ((x.b 2).toNat : Int), .int .u8 ((x.b 3).toNat : Int), .int .u8 ((x.b 4).toNat : Int), .int .u8 ((x.b 5).toNat : Int), .int .u8 ((x.b 6).toNat : Int), .int .u8 ((x.b 7).toNat : Int), .int .u8 ((x.b 8).toNat : Int), .int .u8 ((x.b 9).toNat : Int), .int .u8 ((x.b 10).toNat : Int), .int .u8 ((x.b 11).toNat : Int), .int .u8 ((x.b 12).toNat : Int), .int .u8 ((x.b 13).toNat : Int), .int .u8 ((x.b 14).toNat : Int), .int .u8 ((x.b 15).toNat : Int), .int .u8 (x.len.toNat : Int)] 37)).alloc (Obj.cells #[.int .u8 (y.fam.toNat : Int), .int .u64 (y.rd : Int), .int .u8 ((y.b 0).toNat : Int), .int .u8 ((y.b 1).toNat : Int), .int .u8 ((y.b 2).toNat : Int), .int .u8 ((y.b 3).toNat : Int), .int .u8 ((y.b 4).toNat : Int), .int .u8 ((y.b 5).toNat : Int), .int .u8 ((y.b 6).toNat : Int), .int .u8 ((y.b 7).toNat : Int), .int .u8 ((y.b 8).toNat : Int), .int .u8 ((y.b 9).toNat : Int), .int .u8 ((y.b 10).toNat : Int), .int .u8 ((y.b 11).toNat : Int), .int .u8 ((y.b 12).toNat : Int), .int .u8 ((y.b 13).toNat : Int), .int .u8 ((y.b 14).toNat : Int), .int .u8 ((y.b 15).toNat : Int), .int .u8 (y.len.toNat : Int)] 37)) := ((Ext.refl w).alloc _).alloc _
  rw [show (w.alloc (Obj.cells #[.int .u8 (x.fam.toNat : Int), .int .u64 (x.rd : Int), .int .u8 ((x.b 0).toNat : Int), .int .u8 ((x.b 1).toNat : Int), .int .u8 ((x.b 2).toNat : Int), .int .u8 ((x.b 3).toNat : Int), .int .u8 ((x.b 4).toNat : Int), .int .u8 ((x.b 5).toNat : Int), .int .u8 ((x.b 6).toNat : Int), .int .u8 ((x.b 7).toNat : Int), .int .u8 ((x.b 8).toNat : Int), .int .u8 ((x.b 9).toNat : Int), .int .u8 ((x.b 10).toNat : Int), .int .u8 ((x.b 11).toNat : Int), .int .u8 ((x.b 12).toNat : Int), .int .u8 ((x.b 13).toNat : Int), .int .u8 ((x.b 14).toNat : Int), .int .u8 ((x.b 15).toNat : Int), .int .u8 (x.len.toNat : Int)] 37)).heap.size = w.heap.size + 1 by simp] at hY
  replace hX : Blk ((w.alloc (Obj.cells #[.int .u8 (x.fam.toNat : Int), .int .u64 (x.rd : Int), .int .u8 ((x.b 0).toNat : Int), .int .u8 ((x.b 1).toNat : Int), .int .u8 ((x.b 2).toNat : Int), .int .u8 ((x.b 3).toNat : Int), .int .u8 ((x.b 4).toNat : Int), .int .u8 ((x.b 5).toNat : Int), .int .u8 ((x.b 6).toNat : Int), .int .u8 ((x.b 7).toNat : Int), .int .u8 ((x.b 8).toNat : Int), .int .u8 ((x.b 9).toNat : Int), .int .u8 ((x.b 10).toNat : Int), .int .u8 ((x.b 11).toNat : Int), .int .u8 ((x.b 12).toNat : Int), .int .u8 ((x.b 13).toNat : Int), .int .u8 ((x.b 14).toNat : Int), .int .u8 ((x.b 15).toNat : Int), .int .u8 (x.len.toNat : Int)] 37)).alloc (Obj.cells #[.int .u8 (y.fam.toNat : Int), .int .u64 (y.rd : Int), .int .u8 ((y.b 0).toNat : Int), .int .u8 ((y.b 1).toNat : Int), .int .u8 ((y.b 2).toNat : Int), .int .u8 ((y.b 3).toNat : Int), .int .u8 ((y.b 4).toNat : Int), .int .u8 ((y.b 5).toNat : Int), .int .u8 ((y.b 6).toNat : Int), .int .u8 ((y.b 7).toNat : Int), .int .u8 ((y.b 8).toNat : Int), .int .u8 ((y.b 9).toNat : Int), .int .u8 ((y.b 10).toNat : Int), .int .u8 ((y.b 11).toNat : Int), .int .u8 ((y.b 12).toNat : Int), .int .u8 ((y.b 13).toNat : Int), .int .u8 ((y.b 14).toNat : Int), .int .u8 ((y.b 15).toNat : Int), .int .u8 (y.len.toNat : Int)] 37)) w.heap.size 37 (cellsR x) := hX
  replace hY : Blk ((w.alloc (Obj.cells #[.int .u8 (x.fam.toNat : Int), .int .u64 (x.rd : Int), .int .u8 ((x.b 0).toNat : Int), .int .u8 ((x.b 1).toNat : Int), .int .u8 ((x.b 2).toNat : Int), .int .u8 ((x.b 3).toNat : Int), .int .u8 ((x.b 4).toNat : Int), .int .u8 ((x.b 5).toNat : Int), .int .u8 ((x.b 6).toNat : Int), .int .u8 ((x.b 7).toNat : Int), .int .u8 ((x.b 8).toNat : Int), .int .u8 ((x.b 9).toNat : Int), .int .u8 ((x.b 10).toNat : Int), .int .u8 ((x.b 11).toNat : Int), .int .u8 ((x.b 12).toNat : Int), .int .u8 ((x.b 13).toNat : Int), .int .u8 ((x.b 14).toNat : Int), .int .u8 ((x.b 15).toNat : Int), .int .u8 (x.len.toNat : Int)] 37)).alloc (Obj.cells #[.int .u8 (y.fam.toNat : Int), .int .u64 (y.rd : Int), .int .u8 ((y.b 0).toNat : Int), .int .u8 ((y.b 1).toNat : Int), .int .u8 ((y.b 2).toNat : Int), .int .u8 ((y.b 3).toNat : Int), .int .u8 ((y.b 4).toNat : Int), .int .u8 ((y.b 5).toNat : Int), .int .u8 ((y.b 6).toNat : Int), .int .u8 ((y.b 7).toNat : Int), .int .u8 ((y.b 8).toNat : Int), .int .u8 ((y.b 9).toNat : Int), .int .u8 ((y.b 10).toNat : Int), .int .u8 ((y.b 11).toNat : Int), .int .u8 ((y.b 12).toNat : Int), .int .u8 ((y.b 13).toNat : Int), .int .u8 ((y.b 14).toNat : Int), .int .u8 ((y.b 15).toNat : Int), .int .u8 (y.len.toNat : Int)] 37)) (w.heap.size + 1) 37 (cellsR y) := hY
  generalize ((w.alloc (Obj.cells #[.int .u8 (x.fam.toNat : Int), .int .u64 (x.rd : Int), .int .u8 ((x.b 0).toNat : Int), .int .u8 ((x.b 1).toNat : Int), .int .u8 ((x.b 2).toNat : Int), .int .u8 ((x.b 3).toNat : Int), .int .u8 ((x.b 4).toNat : Int), .int .u8 ((x.b 5).toNat : Int), .int .u8 ((x.b 6).toNat : Int), .int .u8 ((x.b 7).toNat : Int), .int .u8 ((x.b 8).toNat : Int), .int .u8 ((x.b 9).toNat : Int), .int .u8 ((x.b 10).toNat : Int), .int .u8 ((x.b 11).toNat : Int), .int .u8 ((x.b 12).toNat : Int), .int .u8 ((x.b 13).toNat : Int), .int .u8 ((x.b 14).toNat : Int), .int .u8 ((x.b 15).toNat : Int), .int .u8 (x.len.toNat : Int)] 37)).alloc (Obj.cells #[.int .u8 (y.fam.toNat : Int), .int .u64 (y.rd : Int), .int .u8 ((y.b 0).toNat : Int), .int .u8 ((y.b 1).toNat : Int), .int .u8 ((y.b 2).toNat : Int), .int .u8 ((y.b 3).toNat : Int), .int .u8 ((y.b 4).toNat : Int), .int .u8 ((y.b 5).toNat : Int), .int .u8 ((y.b 6).toNat : Int), .int .u8 ((y.b 7).toNat : Int), .int .u8 ((y.b 8).toNat : Int), .int .u8 ((y.b 9).toNat : Int), .int .u8 ((y.b 10).toNat : Int), .int .u8 ((y.b 11).toNat : Int), .int .u8 ((y.b 12).toNat : Int), .int .u8 ((y.b 13).toNat : Int), .int .u8 ((y.b 14).toNat : Int), .int .u8 ((y.b 15).toNat : Int), .int .u8 (y.len.toNat : Int)] 37)) = W at hX hY E ⊢
  refine wp_region_J (J := Fill.J W [⟨0, 1, 4, 6, 3, 15, 16, 7, w.heap.size, x⟩, ⟨2, 3, 5, 7, 4, 17, 18, 8, w.heap.size + 1, y⟩]) mixed (by kernel_rfl) (by kernel_rfl) (fun _ => undef) ?start (Fill.keeps Of_any _ (by kernel_rfl) ?fits ?cov ?inj ?src ?sz) ?rest
  case start => exact ⟨(Ext.refl _).drew, fun k hk => ⟨Bool.noConfusion, Bool.noConfusion, Bool.noConfusion, Bool.noConfusion⟩, fun k hk k' hk' hne h => Bool.noConfusion h⟩
  case fits =>
    intro k hk
    simp only [List.mem_cons, List.not_mem_nil, or_false] at hk
    rcases hk with rfl | rfl
    all_goals exact ⟨⟨_, rfl, rfl, rfl, rfl⟩, ⟨_, rfl, rfl, rfl, rfl, by simp [Region.binds]⟩, ⟨_, rfl, rfl, rfl, rfl⟩, ⟨_, rfl, rfl, rfl, rfl, by simp [Region.binds], by simp [Region.binds]⟩⟩
  case cov =>
    intro i hi
    replace hi : i < 8 := hi
    simp only [List.mem_cons, List.not_mem_nil, or_false, exists_eq_or_imp, exists_eq_left]
    omega
  case inj =>
    intro k hk k' hk' h
    simp only [List.mem_cons, List.not_mem_nil, or_false] at hk hk'
    rcases hk with rfl | rfl <;> rcases hk' with rfl | rfl <;> first | rfl | (exfalso; revert h; simp)
  case src =>
    intro k hk
    simp only [List.mem_cons, List.not_mem_nil, or_false] at hk
    rcases hk with rfl | rfl
    · exact ⟨rfl, by kernel_rfl, hX⟩
    · exact ⟨rfl, by kernel_rfl, hY⟩
  case sz =>
    intro k hk
    simp only [List.mem_cons, List.not_mem_nil, or_false] at hk
    rcases hk with rfl | rfl
    all_goals exact ⟨by simp, by simp, by simp⟩
  case rest =>
    rintro done val w1 hall ⟨hE1, hO, _⟩
    replace hall : ∀ i, i < 8 → done i = true := hall
    have e0 := hall 0 (by decide)
    have e1 := hall 1 (by decide)
    have e2 := hall 2 (by decide)
    have e3 := hall 3 (by decide)
    have e4 := hall 4 (by decide)
    have e5 := hall 5 (by decide)
    have e6 := hall 6 (by decide)
    have e7 := hall 7 (by decide)
    have k1 := hO ⟨0, 1, 4, 6, 3, 15, 16, 7, w.heap.size, x⟩ (by simp)
    have k2 := hO ⟨2, 3, 5, 7, 4, 17, 18, 8, w.heap.size + 1, y⟩ (by simp)
    clear hO hall
    have l1 : val 0 = valR x := k1.l e0
    have l2 : val 2 = valR y := k2.l e2
    have c1 : val 1 = valP (rawP x) := k1.c e1
    have c2 : val 3 = valP (rawP y) := k2.c e3
    obtain ⟨gA, a1, _, A⟩ := k1.a e4
    obtain ⟨gB, b1, _, B⟩ := k2.a e5
    replace a1 : val 4 = .pointer (some ⟨gA, 0, none⟩) := a1
    replace b1 : val 5 = .pointer (some ⟨gB, 0, none⟩) := b1
    rw [if_pos e6] at A
    rw [if_pos e7] at B
    clear k1 k2
    replace E := E.trans hE1
    clear hE1
    simp only [putD, e0, e1, e2, e3, e4, e5, e6, e7, if_true, Nat.zero_add, Nat.reduceAdd, l1, l2, c1, c2, a1, b1]
    clear e0 e1 e2 e3 e4 e5 e6 e7 l1 l2 c1 c2 a1 b1 hX hY
    have hb := raw_may y
    have hal := raw_len x
    have hbl := raw_len y
    generalize rawP x = a at *
    generalize rawP y = b at *
    have hsm := hb.1.small
    have t1 : Int.tmod (n.toNat : Int) (b.len + 1) = ((n.toNat % (b.len.toNat + 1) : Nat) : Int) := by
      rw [Int.tmod_eq_emod_of_nonneg (by omega), show b.len + 1 = ((b.len.toNat + 1 : Nat) : Int) by omega]
      rfl
    have hkm : n.toNat % (b.len.toNat + 1) < b.len.toNat + 1 := Nat.mod_lt _ (by omega)
    generalize n.toNat % (b.len.toNat + 1) = k at t1 hkm
    have hck : cutOk b (k : Int) := ⟨hb, by omega, by omega⟩
    have qcut := fun W => ACut_any b (k : Int) W hbl
    rw [show cutS b (k : Int) = (cutOf b k, 0) from if_pos hck] at qcut
    have hcl : (cutOf b k).addr.length ≤ 1048576 := by show (maskS b.addr k).length ≤ _; rw [maskS_len]; exact hbl
    have qc1 := fun W => ACov_any (cutOf b k) b W hcl hbl
    rw [show covB (cutOf b k) b = true from decide_eq_true (cov_cut hck)] at qc1
    have qc2 := fun W => ACov_any b b W hbl hbl
    rw [show covB b b = true from decide_eq_true (cov_self hb)] at qc2
    have qcm := fun W => ACmp_any (cutOf b k) b W
    have hm : decide (0 < cmpP (cutOf b k) b) = false := decide_eq_false (by have := cut_cmp hck; omega)
    generalize cmpP (cutOf b k) b = m at qcm hm
    have hlk : ((cutOf b (k : Int)).len != (k : Int)) = false := by show ((k : Int) != (k : Int)) = false; simp
    have hbit : ∀ i : Nat, i < k → bitZ (cutOf b k).addr i = bitZ b.addr i := fun i hi => cut_bit (by omega)
    have hcs := covers_cases (a := a) hb hck
    have qab := fun W => ACov_any a b W hal hbl
    have qba := fun W => ACov_any b a W hbl hal
    have qac := fun W => ACov_any a (cutOf b k) W hal hcl
    have qca := fun W => ACov_any (cutOf b k) a W hcl hal
    have qct := fun W => ACut_any b a.len W hbl
    have qneq := fun W (h : a = b) => neqF_run W a b h
    have qnaa := fun W => neqF_run W a a rfl
    replace qneq := hide qneq
    have qbc := fun (i : Nat) (hi : (i : Int) ≤ 128) W => quiet_ABit (cutOf b k).addr i W hcl (by omega) (by omega)
    have qbb := fun (i : Nat) (hi : (i : Int) ≤ 128) W => quiet_ABit b.addr i W hbl (by omega) (by omega)
    generalize cutOf b k = c at *
    have w1' : IntKind.i64.wrap (n.toNat : Int) = (n.toNat : Int) := by have := n.toNat_lt; rw [IntKind.wrap_i64]; omega
    have w2 : IntKind.i64.wrap (b.len + 1) = b.len + 1 := by rw [IntKind.wrap_i64]; omega
    have w3 : IntKind.i64.wrap (k : Int) = (k : Int) := by rw [IntKind.wrap_i64]; omega
    have z1 : ¬ b.len + 1 = 0 := by omega
    have z2 : ((b.len + 1 : Int) == 0) = false := by rw [beq_eq_false_iff_ne]; omega
    have hk128 : (k : Int) ≤ 128 := by omega
    clear hck hb hal hbl hcl hkm hsm
    simp only [valP, valR] at qcut qc1 qc2 qcm qab qba qac qca qct ⊢
    have A : Blk w1 (gA) 24 #[.int .i64 a.fam, .int .u64 (a.rd : Int), .string ⟨a.addr.toArray⟩, .int .i64 a.len] := A
    replace A := hide A
    have B : Blk w1 (gB) 24 #[.int .i64 b.fam, .int .u64 (b.rd : Int), .string ⟨b.addr.toArray⟩, .int .i64 b.len] := B
    replace B := hide B
    replace hcs := hide hcs
    replace E := hide E
    replace qcut := hide qcut
    replace qc1 := hide qc1
    replace qc2 := hide qc2
    replace qcm := hide qcm
    replace qab := hide qab
    replace qba := hide qba
    replace qac := hide qac
    replace qca := hide qca
    replace qct := hide qct
    replace hbit := hide hbit
    replace hk128 := hide hk128
    replace qbc := hide qbc
    replace qbb := hide qbb
    have A_0 : w1.cell? ⟨gA, 0, none⟩ = some (.int .i64 a.fam) := A.out.cell 0
    have A_1 : w1.cell? ⟨gA, 1, none⟩ = some (.int .u64 (a.rd : Int)) := A.out.cell 1
    have A_2 : w1.cell? ⟨gA, 2, none⟩ = some (.string ⟨a.addr.toArray⟩) := A.out.cell 2
    have A_3 : w1.cell? ⟨gA, 3, none⟩ = some (.int .i64 a.len) := A.out.cell 3
    have B_0 : w1.cell? ⟨gB, 0, none⟩ = some (.int .i64 b.fam) := B.out.cell 0
    have B_1 : w1.cell? ⟨gB, 1, none⟩ = some (.int .u64 (b.rd : Int)) := B.out.cell 1
    have B_2 : w1.cell? ⟨gB, 2, none⟩ = some (.string ⟨b.addr.toArray⟩) := B.out.cell 2
    have B_3 : w1.cell? ⟨gB, 3, none⟩ = some (.int .i64 b.len) := B.out.cell 3
    go_wp2_with fail
    refine (qcut.out _).mono ?_
    rintro e W3 ⟨rfl, he_⟩
    clear A_0 A_1 A_2 A_3 B_0 B_1 B_2 B_3
    replace E := hide (E.out.trans he_)
    replace A := hide (A.out.ext he_)
    replace B := hide (B.out.ext he_)
    clear he_
    have A_0 : W3.cell? ⟨gA, 0, none⟩ = some (.int .i64 a.fam) := A.out.cell 0
    have A_1 : W3.cell? ⟨gA, 1, none⟩ = some (.int .u64 (a.rd : Int)) := A.out.cell 1
    have A_2 : W3.cell? ⟨gA, 2, none⟩ = some (.string ⟨a.addr.toArray⟩) := A.out.cell 2
    have A_3 : W3.cell? ⟨gA, 3, none⟩ = some (.int .i64 a.len) := A.out.cell 3
    have B_0 : W3.cell? ⟨gB, 0, none⟩ = some (.int .i64 b.fam) := B.out.cell 0
    have B_1 : W3.cell? ⟨gB, 1, none⟩ = some (.int .u64 (b.rd : Int)) := B.out.cell 1
    have B_2 : W3.cell? ⟨gB, 2, none⟩ = some (.string ⟨b.addr.toArray⟩) := B.out.cell 2
    have B_3 : W3.cell? ⟨gB, 3, none⟩ = some (.int .i64 b.len) := B.out.cell 3
    clear A_0 A_1 A_2 A_3 B_0 B_1 B_2 B_3
    have C := Blk.new W3 24 #[.int .i64 c.fam, .int .u64 (c.rd : Int), .string ⟨c.addr.toArray⟩, .int .i64 c.len]
    replace A := A.out.alloc (Obj.cells #[.int .i64 c.fam, .int .u64 (c.rd : Int), .string ⟨c.addr.toArray⟩, .int .i64 c.len] 24)
    replace B := B.out.alloc (Obj.cells #[.int .i64 c.fam, .int .u64 (c.rd : Int), .string ⟨c.addr.toArray⟩, .int .i64 c.len] 24)
    replace E := E.out.alloc (Obj.cells #[.int .i64 c.fam, .int .u64 (c.rd : Int), .string ⟨c.addr.toArray⟩, .int .i64 c.len] 24)
    generalize hW4 : W3.alloc (Obj.cells #[.int .i64 c.fam, .int .u64 (c.rd : Int), .string ⟨c.addr.toArray⟩, .int .i64 c.len] 24) = W4 at A B C E
    generalize hgC : W3.heap.size = gC at C
    replace A := hide A
    replace B := hide B
    replace C := hide C
    replace E := hide E
    have A_0 : W4.cell? ⟨gA, 0, none⟩ = some (.int .i64 a.fam) := A.out.cell 0
    have A_1 : W4.cell? ⟨gA, 1, none⟩ = some (.int .u64 (a.rd : Int)) := A.out.cell 1
    have A_2 : W4.cell? ⟨gA, 2, none⟩ = some (.string ⟨a.addr.toArray⟩) := A.out.cell 2
    have A_3 : W4.cell? ⟨gA, 3, none⟩ = some (.int .i64 a.len) := A.out.cell 3
    have B_0 : W4.cell? ⟨gB, 0, none⟩ = some (.int .i64 b.fam) := B.out.cell 0
    have B_1 : W4.cell? ⟨gB, 1, none⟩ = some (.int .u64 (b.rd : Int)) := B.out.cell 1
    have B_2 : W4.cell? ⟨gB, 2, none⟩ = some (.string ⟨b.addr.toArray⟩) := B.out.cell 2
    have B_3 : W4.cell? ⟨gB, 3, none⟩ = some (.int .i64 b.len) := B.out.cell 3
    have C_0 : W4.cell? ⟨gC, 0, none⟩ = some (.int .i64 c.fam) := C.out.cell 0
    have C_1 : W4.cell? ⟨gC, 1, none⟩ = some (.int .u64 (c.rd : Int)) := C.out.cell 1
    have C_2 : W4.cell? ⟨gC, 2, none⟩ = some (.string ⟨c.addr.toArray⟩) := C.out.cell 2
    have C_3 : W4.cell? ⟨gC, 3, none⟩ = some (.int .i64 c.len) := C.out.cell 3
    go_wp2_with fail
    refine (qc1.out _).mono ?_
    rintro e W5 ⟨rfl, he_⟩
    clear A_0 A_1 A_2 A_3 B_0 B_1 B_2 B_3 C_0 C_1 C_2 C_3
    replace E := hide (E.out.trans he_)
    replace A := hide (A.out.ext he_)
    replace B := hide (B.out.ext he_)
    replace C := hide (C.out.ext he_)
    clear he_
    have A_0 : W5.cell? ⟨gA, 0, none⟩ = some (.int .i64 a.fam) := A.out.cell 0
    have A_1 : W5.cell? ⟨gA, 1, none⟩ = some (.int .u64 (a.rd : Int)) := A.out.cell 1
    have A_2 : W5.cell? ⟨gA, 2, none⟩ = some (.string ⟨a.addr.toArray⟩) := A.out.cell 2
    have A_3 : W5.cell? ⟨gA, 3, none⟩ = some (.int .i64 a.len) := A.out.cell 3
    have B_0 : W5.cell? ⟨gB, 0, none⟩ = some (.int .i64 b.fam) := B.out.cell 0
    have B_1 : W5.cell? ⟨gB, 1, none⟩ = some (.int .u64 (b.rd : Int)) := B.out.cell 1
    have B_2 : W5.cell? ⟨gB, 2, none⟩ = some (.string ⟨b.addr.toArray⟩) := B.out.cell 2
    have B_3 : W5.cell? ⟨gB, 3, none⟩ = some (.int .i64 b.len) := B.out.cell 3
    have C_0 : W5.cell? ⟨gC, 0, none⟩ = some (.int .i64 c.fam) := C.out.cell 0
    have C_1 : W5.cell? ⟨gC, 1, none⟩ = some (.int .u64 (c.rd : Int)) := C.out.cell 1
    have C_2 : W5.cell? ⟨gC, 2, none⟩ = some (.string ⟨c.addr.toArray⟩) := C.out.cell 2
    have C_3 : W5.cell? ⟨gC, 3, none⟩ = some (.int .i64 c.len) := C.out.cell 3
    clear hW4
    go_wp2_with fail
    refine (qc2.out _).mono ?_
    rintro e W6 ⟨rfl, he_⟩
    clear A_0 A_1 A_2 A_3 B_0 B_1 B_2 B_3 C_0 C_1 C_2 C_3
    replace E := hide (E.out.trans he_)
    replace A := hide (A.out.ext he_)
    replace B := hide (B.out.ext he_)
    replace C := hide (C.out.ext he_)
    clear he_
    have A_0 : W6.cell? ⟨gA, 0, none⟩ = some (.int .i64 a.fam) := A.out.cell 0
    have A_1 : W6.cell? ⟨gA, 1, none⟩ = some (.int .u64 (a.rd : Int)) := A.out.cell 1
    have A_2 : W6.cell? ⟨gA, 2, none⟩ = some (.string ⟨a.addr.toArray⟩) := A.out.cell 2
    have A_3 : W6.cell? ⟨gA, 3, none⟩ = some (.int .i64 a.len) := A.out.cell 3
    have B_0 : W6.cell? ⟨gB, 0, none⟩ = some (.int .i64 b.fam) := B.out.cell 0
    have B_1 : W6.cell? ⟨gB, 1, none⟩ = some (.int .u64 (b.rd : Int)) := B.out.cell 1
    have B_2 : W6.cell? ⟨gB, 2, none⟩ = some (.string ⟨b.addr.toArray⟩) := B.out.cell 2
    have B_3 : W6.cell? ⟨gB, 3, none⟩ = some (.int .i64 b.len) := B.out.cell 3
    have C_0 : W6.cell? ⟨gC, 0, none⟩ = some (.int .i64 c.fam) := C.out.cell 0
    have C_1 : W6.cell? ⟨gC, 1, none⟩ = some (.int .u64 (c.rd : Int)) := C.out.cell 1
    have C_2 : W6.cell? ⟨gC, 2, none⟩ = some (.string ⟨c.addr.toArray⟩) := C.out.cell 2
    have C_3 : W6.cell? ⟨gC, 3, none⟩ = some (.int .i64 c.len) := C.out.cell 3
    go_wp2_with fail
    refine (qcm.out _).mono ?_
    rintro e W7 ⟨rfl, he_⟩
    clear A_0 A_1 A_2 A_3 B_0 B_1 B_2 B_3 C_0 C_1 C_2 C_3
    replace E := hide (E.out.trans he_)
    replace A := hide (A.out.ext he_)
    replace B := hide (B.out.ext he_)
    replace C := hide (C.out.ext he_)
    clear he_
    have A_0 : W7.cell? ⟨gA, 0, none⟩ = some (.int .i64 a.fam) := A.out.cell 0
    have A_1 : W7.cell? ⟨gA, 1, none⟩ = some (.int .u64 (a.rd : Int)) := A.out.cell 1
    have A_2 : W7.cell? ⟨gA, 2, none⟩ = some (.string ⟨a.addr.toArray⟩) := A.out.cell 2
    have A_3 : W7.cell? ⟨gA, 3, none⟩ = some (.int .i64 a.len) := A.out.cell 3
    have B_0 : W7.cell? ⟨gB, 0, none⟩ = some (.int .i64 b.fam) := B.out.cell 0
    have B_1 : W7.cell? ⟨gB, 1, none⟩ = some (.int .u64 (b.rd : Int)) := B.out.cell 1
    have B_2 : W7.cell? ⟨gB, 2, none⟩ = some (.string ⟨b.addr.toArray⟩) := B.out.cell 2
    have B_3 : W7.cell? ⟨gB, 3, none⟩ = some (.int .i64 b.len) := B.out.cell 3
    have C_0 : W7.cell? ⟨gC, 0, none⟩ = some (.int .i64 c.fam) := C.out.cell 0
    have C_1 : W7.cell? ⟨gC, 1, none⟩ = some (.int .u64 (c.rd : Int)) := C.out.cell 1
    have C_2 : W7.cell? ⟨gC, 2, none⟩ = some (.string ⟨c.addr.toArray⟩) := C.out.cell 2
    have C_3 : W7.cell? ⟨gC, 3, none⟩ = some (.int .i64 c.len) := C.out.cell 3
    clear hgC
    replace hcs := hcs.out
    rcases hcs with ⟨p1, p2⟩ | ⟨p1, p2, p3, p4⟩ | ⟨p1, p2, p3, p4, p5⟩ | ⟨p1, p2, p3, p4, p5⟩ | ⟨p1, p2, p3, p4, p5, p6⟩
    · rw [p1] at qab
      rw [p2] at qac
      replace p1 := hide p1
      replace p2 := hide p2
      go_wp2_with fail
      refine (qab.out _).mono ?_
      rintro e W8 ⟨rfl, he_⟩
      clear A_0 A_1 A_2 A_3 B_0 B_1 B_2 B_3 C_0 C_1 C_2 C_3
      replace E := hide (E.out.trans he_)
      replace A := hide (A.out.ext he_)
      replace B := hide (B.out.ext he_)
      replace C := hide (C.out.ext he_)
      clear he_
      have A_0 : W8.cell? ⟨gA, 0, none⟩ = some (.int .i64 a.fam) := A.out.cell 0
      have A_1 : W8.cell? ⟨gA, 1, none⟩ = some (.int .u64 (a.rd : Int)) := A.out.cell 1
      have A_2 : W8.cell? ⟨gA, 2, none⟩ = some (.string ⟨a.addr.toArray⟩) := A.out.cell 2
      have A_3 : W8.cell? ⟨gA, 3, none⟩ = some (.int .i64 a.len) := A.out.cell 3
      have B_0 : W8.cell? ⟨gB, 0, none⟩ = some (.int .i64 b.fam) := B.out.cell 0
      have B_1 : W8.cell? ⟨gB, 1, none⟩ = some (.int .u64 (b.rd : Int)) := B.out.cell 1
      have B_2 : W8.cell? ⟨gB, 2, none⟩ = some (.string ⟨b.addr.toArray⟩) := B.out.cell 2
      have B_3 : W8.cell? ⟨gB, 3, none⟩ = some (.int .i64 b.len) := B.out.cell 3
      have C_0 : W8.cell? ⟨gC, 0, none⟩ = some (.int .i64 c.fam) := C.out.cell 0
      have C_1 : W8.cell? ⟨gC, 1, none⟩ = some (.int .u64 (c.rd : Int)) := C.out.cell 1
      have C_2 : W8.cell? ⟨gC, 2, none⟩ = some (.string ⟨c.addr.toArray⟩) := C.out.cell 2
      have C_3 : W8.cell? ⟨gC, 3, none⟩ = some (.int .i64 c.len) := C.out.cell 3
      go_wp2_with fail
      refine (qab.out _).mono ?_
      rintro e W9 ⟨rfl, he_⟩
      clear A_0 A_1 A_2 A_3 B_0 B_1 B_2 B_3 C_0 C_1 C_2 C_3
      replace E := hide (E.out.trans he_)
      replace A := hide (A.out.ext he_)
      replace B := hide (B.out.ext he_)
      replace C := hide (C.out.ext he_)
      clear he_
      have A_0 : W9.cell? ⟨gA, 0, none⟩ = some (.int .i64 a.fam) := A.out.cell 0
      have A_1 : W9.cell? ⟨gA, 1, none⟩ = some (.int .u64 (a.rd : Int)) := A.out.cell 1
      have A_2 : W9.cell? ⟨gA, 2, none⟩ = some (.string ⟨a.addr.toArray⟩) := A.out.cell 2
      have A_3 : W9.cell? ⟨gA, 3, none⟩ = some (.int .i64 a.len) := A.out.cell 3
      have B_0 : W9.cell? ⟨gB, 0, none⟩ = some (.int .i64 b.fam) := B.out.cell 0
      have B_1 : W9.cell? ⟨gB, 1, none⟩ = some (.int .u64 (b.rd : Int)) := B.out.cell 1
      have B_2 : W9.cell? ⟨gB, 2, none⟩ = some (.string ⟨b.addr.toArray⟩) := B.out.cell 2
      have B_3 : W9.cell? ⟨gB, 3, none⟩ = some (.int .i64 b.len) := B.out.cell 3
      have C_0 : W9.cell? ⟨gC, 0, none⟩ = some (.int .i64 c.fam) := C.out.cell 0
      have C_1 : W9.cell? ⟨gC, 1, none⟩ = some (.int .u64 (c.rd : Int)) := C.out.cell 1
      have C_2 : W9.cell? ⟨gC, 2, none⟩ = some (.string ⟨c.addr.toArray⟩) := C.out.cell 2
      have C_3 : W9.cell? ⟨gC, 3, none⟩ = some (.int .i64 c.len) := C.out.cell 3
      go_wp2_with fail
      refine (qac.out _).mono ?_
      rintro e W10 ⟨rfl, he_⟩
      clear A_0 A_1 A_2 A_3 B_0 B_1 B_2 B_3 C_0 C_1 C_2 C_3
      replace E := hide (E.out.trans he_)
      replace A := hide (A.out.ext he_)
      replace B := hide (B.out.ext he_)
      replace C := hide (C.out.ext he_)
      clear he_
      have A_0 : W10.cell? ⟨gA, 0, none⟩ = some (.int .i64 a.fam) := A.out.cell 0
      have A_1 : W10.cell? ⟨gA, 1, none⟩ = some (.int .u64 (a.rd : Int)) := A.out.cell 1
      have A_2 : W10.cell? ⟨gA, 2, none⟩ = some (.string ⟨a.addr.toArray⟩) := A.out.cell 2
      have A_3 : W10.cell? ⟨gA, 3, none⟩ = some (.int .i64 a.len) := A.out.cell 3
      have B_0 : W10.cell? ⟨gB, 0, none⟩ = some (.int .i64 b.fam) := B.out.cell 0
      have B_1 : W10.cell? ⟨gB, 1, none⟩ = some (.int .u64 (b.rd : Int)) := B.out.cell 1
      have B_2 : W10.cell? ⟨gB, 2, none⟩ = some (.string ⟨b.addr.toArray⟩) := B.out.cell 2
      have B_3 : W10.cell? ⟨gB, 3, none⟩ = some (.int .i64 b.len) := B.out.cell 3
      have C_0 : W10.cell? ⟨gC, 0, none⟩ = some (.int .i64 c.fam) := C.out.cell 0
      have C_1 : W10.cell? ⟨gC, 1, none⟩ = some (.int .u64 (c.rd : Int)) := C.out.cell 1
      have C_2 : W10.cell? ⟨gC, 2, none⟩ = some (.string ⟨c.addr.toArray⟩) := C.out.cell 2
      have C_3 : W10.cell? ⟨gC, 3, none⟩ = some (.int .i64 c.len) := C.out.cell 3
      go_wp2
      clear A_0 A_1 A_2 A_3 B_0 B_1 B_2 B_3 C_0 C_1 C_2 C_3
      go_loopw [14] (fun q wr => ∃ i : Nat, i ≤ k ∧ q = .int .i64 i ∧ Ext W10 wr) (fun q _ => k - (intOf q).toNat)
      case atStart => exact ⟨0, Nat.zero_le _, rfl, Ext.refl _⟩
      case round =>
        obtain ⟨i, hi, rfl, hE⟩ := hrel
        replace B := hide (B.out.ext hE)
        replace C := hide (C.out.ext hE)
        replace E := hide (E.out.trans hE)
        replace hE := hide hE
        have B_0 : wr.cell? ⟨gB, 0, none⟩ = some (.int .i64 b.fam) := B.out.cell 0
        have B_1 : wr.cell? ⟨gB, 1, none⟩ = some (.int .u64 (b.rd : Int)) := B.out.cell 1
        have B_2 : wr.cell? ⟨gB, 2, none⟩ = some (.string ⟨b.addr.toArray⟩) := B.out.cell 2
        have B_3 : wr.cell? ⟨gB, 3, none⟩ = some (.int .i64 b.len) := B.out.cell 3
        have C_0 : wr.cell? ⟨gC, 0, none⟩ = some (.int .i64 c.fam) := C.out.cell 0
        have C_1 : wr.cell? ⟨gC, 1, none⟩ = some (.int .u64 (c.rd : Int)) := C.out.cell 1
        have C_2 : wr.cell? ⟨gC, 2, none⟩ = some (.string ⟨c.addr.toArray⟩) := C.out.cell 2
        have C_3 : wr.cell? ⟨gC, 3, none⟩ = some (.int .i64 c.len) := C.out.cell 3
        have hk1 := hk128.out
        by_cases hlt : (i : Int) < (k : Int)
        · have b3 := qbc.out i (by omega) wr
          have b4 := qbb.out i (by omega) wr
          rw [hbit.out i (by omega)] at b3
          generalize bitV (bitZ b.addr i) = v at b3 b4
          have hv : (v != v) = false := by simp
          replace b3 := hide b3
          replace b4 := hide b4
          go_wp2_with fail
          go_quiet ((go_at_call 30; first | (with_reducible exact b3.out _) | (with_reducible exact b4.out _)))
          go_wp2
          go_roundw
          case rel => exact ⟨i + 1, by omega, by go_num, hE.out.drewN _⟩
          case measure => simp [intOf]; omega
        · skip
          go_wp2_with fail
          refine (qwk.out _ E.out).mono ?_
          rintro e WZ ⟨rfl, he_⟩
          clear B_0 B_1 B_2 B_3 C_0 C_1 C_2 C_3
          replace E := hide (E.out.trans he_)
          clear he_
          go_wp2
          go_ret
          exact ⟨rfl, E.out⟩
    · rw [p1] at qab
      rw [p2] at qct
      rw [p3] at qba
      rw [p4] at qac
      replace p1 := hide p1
      replace p2 := hide p2
      replace p3 := hide p3
      replace p4 := hide p4
      go_wp2_with fail
      refine (qab.out _).mono ?_
      rintro e W8 ⟨rfl, he_⟩
      clear A_0 A_1 A_2 A_3 B_0 B_1 B_2 B_3 C_0 C_1 C_2 C_3
      replace E := hide (E.out.trans he_)
      replace A := hide (A.out.ext he_)
      replace B := hide (B.out.ext he_)
      replace C := hide (C.out.ext he_)
      clear he_
      have A_0 : W8.cell? ⟨gA, 0, none⟩ = some (.int .i64 a.fam) := A.out.cell 0
      have A_1 : W8.cell? ⟨gA, 1, none⟩ = some (.int .u64 (a.rd : Int)) := A.out.cell 1
      have A_2 : W8.cell? ⟨gA, 2, none⟩ = some (.string ⟨a.addr.toArray⟩) := A.out.cell 2
      have A_3 : W8.cell? ⟨gA, 3, none⟩ = some (.int .i64 a.len) := A.out.cell 3
      have B_0 : W8.cell? ⟨gB, 0, none⟩ = some (.int .i64 b.fam) := B.out.cell 0
      have B_1 : W8.cell? ⟨gB, 1, none⟩ = some (.int .u64 (b.rd : Int)) := B.out.cell 1
      have B_2 : W8.cell? ⟨gB, 2, none⟩ = some (.string ⟨b.addr.toArray⟩) := B.out.cell 2
      have B_3 : W8.cell? ⟨gB, 3, none⟩ = some (.int .i64 b.len) := B.out.cell 3
      have C_0 : W8.cell? ⟨gC, 0, none⟩ = some (.int .i64 c.fam) := C.out.cell 0
      have C_1 : W8.cell? ⟨gC, 1, none⟩ = some (.int .u64 (c.rd : Int)) := C.out.cell 1
      have C_2 : W8.cell? ⟨gC, 2, none⟩ = some (.string ⟨c.addr.toArray⟩) := C.out.cell 2
      have C_3 : W8.cell? ⟨gC, 3, none⟩ = some (.int .i64 c.len) := C.out.cell 3
      go_wp2_with fail
      refine (qct.out _).mono ?_
      rintro e W9 ⟨rfl, he_⟩
      clear A_0 A_1 A_2 A_3 B_0 B_1 B_2 B_3 C_0 C_1 C_2 C_3
      replace E := hide (E.out.trans he_)
      replace A := hide (A.out.ext he_)
      replace B := hide (B.out.ext he_)
      replace C := hide (C.out.ext he_)
      clear he_
      have A_0 : W9.cell? ⟨gA, 0, none⟩ = some (.int .i64 a.fam) := A.out.cell 0
      have A_1 : W9.cell? ⟨gA, 1, none⟩ = some (.int .u64 (a.rd : Int)) := A.out.cell 1
      have A_2 : W9.cell? ⟨gA, 2, none⟩ = some (.string ⟨a.addr.toArray⟩) := A.out.cell 2
      have A_3 : W9.cell? ⟨gA, 3, none⟩ = some (.int .i64 a.len) := A.out.cell 3
      have B_0 : W9.cell? ⟨gB, 0, none⟩ = some (.int .i64 b.fam) := B.out.cell 0
      have B_1 : W9.cell? ⟨gB, 1, none⟩ = some (.int .u64 (b.rd : Int)) := B.out.cell 1
      have B_2 : W9.cell? ⟨gB, 2, none⟩ = some (.string ⟨b.addr.toArray⟩) := B.out.cell 2
      have B_3 : W9.cell? ⟨gB, 3, none⟩ = some (.int .i64 b.len) := B.out.cell 3
      have C_0 : W9.cell? ⟨gC, 0, none⟩ = some (.int .i64 c.fam) := C.out.cell 0
      have C_1 : W9.cell? ⟨gC, 1, none⟩ = some (.int .u64 (c.rd : Int)) := C.out.cell 1
      have C_2 : W9.cell? ⟨gC, 2, none⟩ = some (.string ⟨c.addr.toArray⟩) := C.out.cell 2
      have C_3 : W9.cell? ⟨gC, 3, none⟩ = some (.int .i64 c.len) := C.out.cell 3
      clear A_0 A_1 A_2 A_3 B_0 B_1 B_2 B_3 C_0 C_1 C_2 C_3
      have D := Blk.new W9 24 #[.int .i64 a.fam, .int .u64 (a.rd : Int), .string ⟨a.addr.toArray⟩, .int .i64 a.len]
      replace A := A.out.alloc (Obj.cells #[.int .i64 a.fam, .int .u64 (a.rd : Int), .string ⟨a.addr.toArray⟩, .int .i64 a.len] 24)
      replace B := B.out.alloc (Obj.cells #[.int .i64 a.fam, .int .u64 (a.rd : Int), .string ⟨a.addr.toArray⟩, .int .i64 a.len] 24)
      replace C := C.out.alloc (Obj.cells #[.int .i64 a.fam, .int .u64 (a.rd : Int), .string ⟨a.addr.toArray⟩, .int .i64 a.len] 24)
      replace E := E.out.alloc (Obj.cells #[.int .i64 a.fam, .int .u64 (a.rd : Int), .string ⟨a.addr.toArray⟩, .int .i64 a.len] 24)
      generalize hWd : W9.alloc (Obj.cells #[.int .i64 a.fam, .int .u64 (a.rd : Int), .string ⟨a.addr.toArray⟩, .int .i64 a.len] 24) = W10 at A B C D E
      generalize hgD : W9.heap.size = gD at D
      replace A := hide A
      replace B := hide B
      replace C := hide C
      replace D := hide D
      replace E := hide E
      have A_0 : W10.cell? ⟨gA, 0, none⟩ = some (.int .i64 a.fam) := A.out.cell 0
      have A_1 : W10.cell? ⟨gA, 1, none⟩ = some (.int .u64 (a.rd : Int)) := A.out.cell 1
      have A_2 : W10.cell? ⟨gA, 2, none⟩ = some (.string ⟨a.addr.toArray⟩) := A.out.cell 2
      have A_3 : W10.cell? ⟨gA, 3, none⟩ = some (.int .i64 a.len) := A.out.cell 3
      have B_0 : W10.cell? ⟨gB, 0, none⟩ = some (.int .i64 b.fam) := B.out.cell 0
      have B_1 : W10.cell? ⟨gB, 1, none⟩ = some (.int .u64 (b.rd : Int)) := B.out.cell 1
      have B_2 : W10.cell? ⟨gB, 2, none⟩ = some (.string ⟨b.addr.toArray⟩) := B.out.cell 2
      have B_3 : W10.cell? ⟨gB, 3, none⟩ = some (.int .i64 b.len) := B.out.cell 3
      have C_0 : W10.cell? ⟨gC, 0, none⟩ = some (.int .i64 c.fam) := C.out.cell 0
      have C_1 : W10.cell? ⟨gC, 1, none⟩ = some (.int .u64 (c.rd : Int)) := C.out.cell 1
      have C_2 : W10.cell? ⟨gC, 2, none⟩ = some (.string ⟨c.addr.toArray⟩) := C.out.cell 2
      have C_3 : W10.cell? ⟨gC, 3, none⟩ = some (.int .i64 c.len) := C.out.cell 3
      have D_0 : W10.cell? ⟨gD, 0, none⟩ = some (.int .i64 a.fam) := D.out.cell 0
      have D_1 : W10.cell? ⟨gD, 1, none⟩ = some (.int .u64 (a.rd : Int)) := D.out.cell 1
      have D_2 : W10.cell? ⟨gD, 2, none⟩ = some (.string ⟨a.addr.toArray⟩) := D.out.cell 2
      have D_3 : W10.cell? ⟨gD, 3, none⟩ = some (.int .i64 a.len) := D.out.cell 3
      go_wp2_with fail
      refine (qac.out _).mono ?_
      rintro e W11 ⟨rfl, he_⟩
      clear A_0 A_1 A_2 A_3 B_0 B_1 B_2 B_3 C_0 C_1 C_2 C_3 D_0 D_1 D_2 D_3
      replace E := hide (E.out.trans he_)
      replace A := hide (A.out.ext he_)
      replace B := hide (B.out.ext he_)
      replace C := hide (C.out.ext he_)
      clear he_
      have A_0 : W11.cell? ⟨gA, 0, none⟩ = some (.int .i64 a.fam) := A.out.cell 0
      have A_1 : W11.cell? ⟨gA, 1, none⟩ = some (.int .u64 (a.rd : Int)) := A.out.cell 1
      have A_2 : W11.cell? ⟨gA, 2, none⟩ = some (.string ⟨a.addr.toArray⟩) := A.out.cell 2
      have A_3 : W11.cell? ⟨gA, 3, none⟩ = some (.int .i64 a.len) := A.out.cell 3
      have B_0 : W11.cell? ⟨gB, 0, none⟩ = some (.int .i64 b.fam) := B.out.cell 0
      have B_1 : W11.cell? ⟨gB, 1, none⟩ = some (.int .u64 (b.rd : Int)) := B.out.cell 1
      have B_2 : W11.cell? ⟨gB, 2, none⟩ = some (.string ⟨b.addr.toArray⟩) := B.out.cell 2
      have B_3 : W11.cell? ⟨gB, 3, none⟩ = some (.int .i64 b.len) := B.out.cell 3
      have C_0 : W11.cell? ⟨gC, 0, none⟩ = some (.int .i64 c.fam) := C.out.cell 0
      have C_1 : W11.cell? ⟨gC, 1, none⟩ = some (.int .u64 (c.rd : Int)) := C.out.cell 1
      have C_2 : W11.cell? ⟨gC, 2, none⟩ = some (.string ⟨c.addr.toArray⟩) := C.out.cell 2
      have C_3 : W11.cell? ⟨gC, 3, none⟩ = some (.int .i64 c.len) := C.out.cell 3
      clear hWd hgD
      go_wp2_with fail
      refine (qab.out _).mono ?_
      rintro e W12 ⟨rfl, he_⟩
      clear A_0 A_1 A_2 A_3 B_0 B_1 B_2 B_3 C_0 C_1 C_2 C_3
      replace E := hide (E.out.trans he_)
      replace A := hide (A.out.ext he_)
      replace B := hide (B.out.ext he_)
      replace C := hide (C.out.ext he_)
      clear he_
      have A_0 : W12.cell? ⟨gA, 0, none⟩ = some (.int .i64 a.fam) := A.out.cell 0
      have A_1 : W12.cell? ⟨gA, 1, none⟩ = some (.int .u64 (a.rd : Int)) := A.out.cell 1
      have A_2 : W12.cell? ⟨gA, 2, none⟩ = some (.string ⟨a.addr.toArray⟩) := A.out.cell 2
      have A_3 : W12.cell? ⟨gA, 3, none⟩ = some (.int .i64 a.len) := A.out.cell 3
      have B_0 : W12.cell? ⟨gB, 0, none⟩ = some (.int .i64 b.fam) := B.out.cell 0
      have B_1 : W12.cell? ⟨gB, 1, none⟩ = some (.int .u64 (b.rd : Int)) := B.out.cell 1
      have B_2 : W12.cell? ⟨gB, 2, none⟩ = some (.string ⟨b.addr.toArray⟩) := B.out.cell 2
      have B_3 : W12.cell? ⟨gB, 3, none⟩ = some (.int .i64 b.len) := B.out.cell 3
      have C_0 : W12.cell? ⟨gC, 0, none⟩ = some (.int .i64 c.fam) := C.out.cell 0
      have C_1 : W12.cell? ⟨gC, 1, none⟩ = some (.int .u64 (c.rd : Int)) := C.out.cell 1
      have C_2 : W12.cell? ⟨gC, 2, none⟩ = some (.string ⟨c.addr.toArray⟩) := C.out.cell 2
      have C_3 : W12.cell? ⟨gC, 3, none⟩ = some (.int .i64 c.len) := C.out.cell 3
      go_wp2_with fail
      refine (qba.out _).mono ?_
      rintro e W13 ⟨rfl, he_⟩
      clear A_0 A_1 A_2 A_3 B_0 B_1 B_2 B_3 C_0 C_1 C_2 C_3
      replace E := hide (E.out.trans he_)
      replace A := hide (A.out.ext he_)
      replace B := hide (B.out.ext he_)
      replace C := hide (C.out.ext he_)
      clear he_
      have A_0 : W13.cell? ⟨gA, 0, none⟩ = some (.int .i64 a.fam) := A.out.cell 0
      have A_1 : W13.cell? ⟨gA, 1, none⟩ = some (.int .u64 (a.rd : Int)) := A.out.cell 1
      have A_2 : W13.cell? ⟨gA, 2, none⟩ = some (.string ⟨a.addr.toArray⟩) := A.out.cell 2
      have A_3 : W13.cell? ⟨gA, 3, none⟩ = some (.int .i64 a.len) := A.out.cell 3
      have B_0 : W13.cell? ⟨gB, 0, none⟩ = some (.int .i64 b.fam) := B.out.cell 0
      have B_1 : W13.cell? ⟨gB, 1, none⟩ = some (.int .u64 (b.rd : Int)) := B.out.cell 1
      have B_2 : W13.cell? ⟨gB, 2, none⟩ = some (.string ⟨b.addr.toArray⟩) := B.out.cell 2
      have B_3 : W13.cell? ⟨gB, 3, none⟩ = some (.int .i64 b.len) := B.out.cell 3
      have C_0 : W13.cell? ⟨gC, 0, none⟩ = some (.int .i64 c.fam) := C.out.cell 0
      have C_1 : W13.cell? ⟨gC, 1, none⟩ = some (.int .u64 (c.rd : Int)) := C.out.cell 1
      have C_2 : W13.cell? ⟨gC, 2, none⟩ = some (.string ⟨c.addr.toArray⟩) := C.out.cell 2
      have C_3 : W13.cell? ⟨gC, 3, none⟩ = some (.int .i64 c.len) := C.out.cell 3
      go_wp2_with fail
      refine (qac.out _).mono ?_
      rintro e W14 ⟨rfl, he_⟩
      clear A_0 A_1 A_2 A_3 B_0 B_1 B_2 B_3 C_0 C_1 C_2 C_3
      replace E := hide (E.out.trans he_)
      replace A := hide (A.out.ext he_)
      replace B := hide (B.out.ext he_)
      replace C := hide (C.out.ext he_)
      clear he_
      have A_0 : W14.cell? ⟨gA, 0, none⟩ = some (.int .i64 a.fam) := A.out.cell 0
      have A_1 : W14.cell? ⟨gA, 1, none⟩ = some (.int .u64 (a.rd : Int)) := A.out.cell 1
      have A_2 : W14.cell? ⟨gA, 2, none⟩ = some (.string ⟨a.addr.toArray⟩) := A.out.cell 2
      have A_3 : W14.cell? ⟨gA, 3, none⟩ = some (.int .i64 a.len) := A.out.cell 3
      have B_0 : W14.cell? ⟨gB, 0, none⟩ = some (.int .i64 b.fam) := B.out.cell 0
      have B_1 : W14.cell? ⟨gB, 1, none⟩ = some (.int .u64 (b.rd : Int)) := B.out.cell 1
      have B_2 : W14.cell? ⟨gB, 2, none⟩ = some (.string ⟨b.addr.toArray⟩) := B.out.cell 2
      have B_3 : W14.cell? ⟨gB, 3, none⟩ = some (.int .i64 b.len) := B.out.cell 3
      have C_0 : W14.cell? ⟨gC, 0, none⟩ = some (.int .i64 c.fam) := C.out.cell 0
      have C_1 : W14.cell? ⟨gC, 1, none⟩ = some (.int .u64 (c.rd : Int)) := C.out.cell 1
      have C_2 : W14.cell? ⟨gC, 2, none⟩ = some (.string ⟨c.addr.toArray⟩) := C.out.cell 2
      have C_3 : W14.cell? ⟨gC, 3, none⟩ = some (.int .i64 c.len) := C.out.cell 3
      go_wp2_with fail
      refine (qab.out _).mono ?_
      rintro e W15 ⟨rfl, he_⟩
      clear A_0 A_1 A_2 A_3 B_0 B_1 B_2 B_3 C_0 C_1 C_2 C_3
      replace E := hide (E.out.trans he_)
      replace A := hide (A.out.ext he_)
      replace B := hide (B.out.ext he_)
      replace C := hide (C.out.ext he_)
      clear he_
      have A_0 : W15.cell? ⟨gA, 0, none⟩ = some (.int .i64 a.fam) := A.out.cell 0
      have A_1 : W15.cell? ⟨gA, 1, none⟩ = some (.int .u64 (a.rd : Int)) := A.out.cell 1
      have A_2 : W15.cell? ⟨gA, 2, none⟩ = some (.string ⟨a.addr.toArray⟩) := A.out.cell 2
      have A_3 : W15.cell? ⟨gA, 3, none⟩ = some (.int .i64 a.len) := A.out.cell 3
      have B_0 : W15.cell? ⟨gB, 0, none⟩ = some (.int .i64 b.fam) := B.out.cell 0
      have B_1 : W15.cell? ⟨gB, 1, none⟩ = some (.int .u64 (b.rd : Int)) := B.out.cell 1
      have B_2 : W15.cell? ⟨gB, 2, none⟩ = some (.string ⟨b.addr.toArray⟩) := B.out.cell 2
      have B_3 : W15.cell? ⟨gB, 3, none⟩ = some (.int .i64 b.len) := B.out.cell 3
      have C_0 : W15.cell? ⟨gC, 0, none⟩ = some (.int .i64 c.fam) := C.out.cell 0
      have C_1 : W15.cell? ⟨gC, 1, none⟩ = some (.int .u64 (c.rd : Int)) := C.out.cell 1
      have C_2 : W15.cell? ⟨gC, 2, none⟩ = some (.string ⟨c.addr.toArray⟩) := C.out.cell 2
      have C_3 : W15.cell? ⟨gC, 3, none⟩ = some (.int .i64 c.len) := C.out.cell 3
      go_wp2
      clear A_0 A_1 A_2 A_3 B_0 B_1 B_2 B_3 C_0 C_1 C_2 C_3
      go_loopw [14] (fun q wr => ∃ i : Nat, i ≤ k ∧ q = .int .i64 i ∧ Ext W15 wr) (fun q _ => k - (intOf q).toNat)
      case atStart => exact ⟨0, Nat.zero_le _, rfl, Ext.refl _⟩
      case round =>
        obtain ⟨i, hi, rfl, hE⟩ := hrel
        replace B := hide (B.out.ext hE)
        replace C := hide (C.out.ext hE)
        replace E := hide (E.out.trans hE)
        replace hE := hide hE
        have B_0 : wr.cell? ⟨gB, 0, none⟩ = some (.int .i64 b.fam) := B.out.cell 0
        have B_1 : wr.cell? ⟨gB, 1, none⟩ = some (.int .u64 (b.rd : Int)) := B.out.cell 1
        have B_2 : wr.cell? ⟨gB, 2, none⟩ = some (.string ⟨b.addr.toArray⟩) := B.out.cell 2
        have B_3 : wr.cell? ⟨gB, 3, none⟩ = some (.int .i64 b.len) := B.out.cell 3
        have C_0 : wr.cell? ⟨gC, 0, none⟩ = some (.int .i64 c.fam) := C.out.cell 0
        have C_1 : wr.cell? ⟨gC, 1, none⟩ = some (.int .u64 (c.rd : Int)) := C.out.cell 1
        have C_2 : wr.cell? ⟨gC, 2, none⟩ = some (.string ⟨c.addr.toArray⟩) := C.out.cell 2
        have C_3 : wr.cell? ⟨gC, 3, none⟩ = some (.int .i64 c.len) := C.out.cell 3
        have hk1 := hk128.out
        by_cases hlt : (i : Int) < (k : Int)
        · have b3 := qbc.out i (by omega) wr
          have b4 := qbb.out i (by omega) wr
          rw [hbit.out i (by omega)] at b3
          generalize bitV (bitZ b.addr i) = v at b3 b4
          have hv : (v != v) = false := by simp
          replace b3 := hide b3
          replace b4 := hide b4
          go_wp2_with fail
          go_quiet ((go_at_call 30; first | (with_reducible exact b3.out _) | (with_reducible exact b4.out _)))
          go_wp2
          go_roundw
          case rel => exact ⟨i + 1, by omega, by go_num, hE.out.drewN _⟩
          case measure => simp [intOf]; omega
        · skip
          go_wp2_with fail
          refine (qwk.out _ E.out).mono ?_
          rintro e WZ ⟨rfl, he_⟩
          clear B_0 B_1 B_2 B_3 C_0 C_1 C_2 C_3
          replace E := hide (E.out.trans he_)
          clear he_
          go_wp2
          go_ret
          exact ⟨rfl, E.out⟩
    · rw [p1] at qab
      rw [p2] at qct
      rw [p3] at qba
      rw [p4] at qac
      rw [p5] at qca
      replace p1 := hide p1
      replace p2 := hide p2
      replace p3 := hide p3
      replace p4 := hide p4
      replace p5 := hide p5
      go_wp2_with fail
      refine (qab.out _).mono ?_
      rintro e W8 ⟨rfl, he_⟩
      clear A_0 A_1 A_2 A_3 B_0 B_1 B_2 B_3 C_0 C_1 C_2 C_3
      replace E := hide (E.out.trans he_)
      replace A := hide (A.out.ext he_)
      replace B := hide (B.out.ext he_)
      replace C := hide (C.out.ext he_)
      clear he_
      have A_0 : W8.cell? ⟨gA, 0, none⟩ = some (.int .i64 a.fam) := A.out.cell 0
      have A_1 : W8.cell? ⟨gA, 1, none⟩ = some (.int .u64 (a.rd : Int)) := A.out.cell 1
      have A_2 : W8.cell? ⟨gA, 2, none⟩ = some (.string ⟨a.addr.toArray⟩) := A.out.cell 2
      have A_3 : W8.cell? ⟨gA, 3, none⟩ = some (.int .i64 a.len) := A.out.cell 3
      have B_0 : W8.cell? ⟨gB, 0, none⟩ = some (.int .i64 b.fam) := B.out.cell 0
      have B_1 : W8.cell? ⟨gB, 1, none⟩ = some (.int .u64 (b.rd : Int)) := B.out.cell 1
      have B_2 : W8.cell? ⟨gB, 2, none⟩ = some (.string ⟨b.addr.toArray⟩) := B.out.cell 2
      have B_3 : W8.cell? ⟨gB, 3, none⟩ = some (.int .i64 b.len) := B.out.cell 3
      have C_0 : W8.cell? ⟨gC, 0, none⟩ = some (.int .i64 c.fam) := C.out.cell 0
      have C_1 : W8.cell? ⟨gC, 1, none⟩ = some (.int .u64 (c.rd : Int)) := C.out.cell 1
      have C_2 : W8.cell? ⟨gC, 2, none⟩ = some (.string ⟨c.addr.toArray⟩) := C.out.cell 2
      have C_3 : W8.cell? ⟨gC, 3, none⟩ = some (.int .i64 c.len) := C.out.cell 3
      go_wp2_with fail
      refine (qct.out _).mono ?_
      rintro e W9 ⟨rfl, he_⟩
      clear A_0 A_1 A_2 A_3 B_0 B_1 B_2 B_3 C_0 C_1 C_2 C_3
      replace E := hide (E.out.trans he_)
      replace A := hide (A.out.ext he_)
      replace B := hide (B.out.ext he_)
      replace C := hide (C.out.ext he_)
      clear he_
      have A_0 : W9.cell? ⟨gA, 0, none⟩ = some (.int .i64 a.fam) := A.out.cell 0
      have A_1 : W9.cell? ⟨gA, 1, none⟩ = some (.int .u64 (a.rd : Int)) := A.out.cell 1
      have A_2 : W9.cell? ⟨gA, 2, none⟩ = some (.string ⟨a.addr.toArray⟩) := A.out.cell 2
      have A_3 : W9.cell? ⟨gA, 3, none⟩ = some (.int .i64 a.len) := A.out.cell 3
      have B_0 : W9.cell? ⟨gB, 0, none⟩ = some (.int .i64 b.fam) := B.out.cell 0
      have B_1 : W9.cell? ⟨gB, 1, none⟩ = some (.int .u64 (b.rd : Int)) := B.out.cell 1
      have B_2 : W9.cell? ⟨gB, 2, none⟩ = some (.string ⟨b.addr.toArray⟩) := B.out.cell 2
      have B_3 : W9.cell? ⟨gB, 3, none⟩ = some (.int .i64 b.len) := B.out.cell 3
      have C_0 : W9.cell? ⟨gC, 0, none⟩ = some (.int .i64 c.fam) := C.out.cell 0
      have C_1 : W9.cell? ⟨gC, 1, none⟩ = some (.int .u64 (c.rd : Int)) := C.out.cell 1
      have C_2 : W9.cell? ⟨gC, 2, none⟩ = some (.string ⟨c.addr.toArray⟩) := C.out.cell 2
      have C_3 : W9.cell? ⟨gC, 3, none⟩ = some (.int .i64 c.len) := C.out.cell 3
      clear A_0 A_1 A_2 A_3 B_0 B_1 B_2 B_3 C_0 C_1 C_2 C_3
      have D := Blk.new W9 24 #[.int .i64 a.fam, .int .u64 (a.rd : Int), .string ⟨a.addr.toArray⟩, .int .i64 a.len]
      replace A := A.out.alloc (Obj.cells #[.int .i64 a.fam, .int .u64 (a.rd : Int), .string ⟨a.addr.toArray⟩, .int .i64 a.len] 24)
      replace B := B.out.alloc (Obj.cells #[.int .i64 a.fam, .int .u64 (a.rd : Int), .string ⟨a.addr.toArray⟩, .int .i64 a.len] 24)
      replace C := C.out.alloc (Obj.cells #[.int .i64 a.fam, .int .u64 (a.rd : Int), .string ⟨a.addr.toArray⟩, .int .i64 a.len] 24)
      replace E := E.out.alloc (Obj.cells #[.int .i64 a.fam, .int .u64 (a.rd : Int), .string ⟨a.addr.toArray⟩, .int .i64 a.len] 24)
      generalize hWd : W9.alloc (Obj.cells #[.int .i64 a.fam, .int .u64 (a.rd : Int), .string ⟨a.addr.toArray⟩, .int .i64 a.len] 24) = W10 at A B C D E
      generalize hgD : W9.heap.size = gD at D
      replace A := hide A
      replace B := hide B
      replace C := hide C
      replace D := hide D
      replace E := hide E
      have A_0 : W10.cell? ⟨gA, 0, none⟩ = some (.int .i64 a.fam) := A.out.cell 0
      have A_1 : W10.cell? ⟨gA, 1, none⟩ = some (.int .u64 (a.rd : Int)) := A.out.cell 1
      have A_2 : W10.cell? ⟨gA, 2, none⟩ = some (.string ⟨a.addr.toArray⟩) := A.out.cell 2
      have A_3 : W10.cell? ⟨gA, 3, none⟩ = some (.int .i64 a.len) := A.out.cell 3
      have B_0 : W10.cell? ⟨gB, 0, none⟩ = some (.int .i64 b.fam) := B.out.cell 0
      have B_1 : W10.cell? ⟨gB, 1, none⟩ = some (.int .u64 (b.rd : Int)) := B.out.cell 1
      have B_2 : W10.cell? ⟨gB, 2, none⟩ = some (.string ⟨b.addr.toArray⟩) := B.out.cell 2
      have B_3 : W10.cell? ⟨gB, 3, none⟩ = some (.int .i64 b.len) := B.out.cell 3
      have C_0 : W10.cell? ⟨gC, 0, none⟩ = some (.int .i64 c.fam) := C.out.cell 0
      have C_1 : W10.cell? ⟨gC, 1, none⟩ = some (.int .u64 (c.rd : Int)) := C.out.cell 1
      have C_2 : W10.cell? ⟨gC, 2, none⟩ = some (.string ⟨c.addr.toArray⟩) := C.out.cell 2
      have C_3 : W10.cell? ⟨gC, 3, none⟩ = some (.int .i64 c.len) := C.out.cell 3
      have D_0 : W10.cell? ⟨gD, 0, none⟩ = some (.int .i64 a.fam) := D.out.cell 0
      have D_1 : W10.cell? ⟨gD, 1, none⟩ = some (.int .u64 (a.rd : Int)) := D.out.cell 1
      have D_2 : W10.cell? ⟨gD, 2, none⟩ = some (.string ⟨a.addr.toArray⟩) := D.out.cell 2
      have D_3 : W10.cell? ⟨gD, 3, none⟩ = some (.int .i64 a.len) := D.out.cell 3
      go_wp2_with fail
      refine (qac.out _).mono ?_
      rintro e W11 ⟨rfl, he_⟩
      clear A_0 A_1 A_2 A_3 B_0 B_1 B_2 B_3 C_0 C_1 C_2 C_3 D_0 D_1 D_2 D_3
      replace E := hide (E.out.trans he_)
      replace A := hide (A.out.ext he_)
      replace B := hide (B.out.ext he_)
      replace C := hide (C.out.ext he_)
      clear he_
      have A_0 : W11.cell? ⟨gA, 0, none⟩ = some (.int .i64 a.fam) := A.out.cell 0
      have A_1 : W11.cell? ⟨gA, 1, none⟩ = some (.int .u64 (a.rd : Int)) := A.out.cell 1
      have A_2 : W11.cell? ⟨gA, 2, none⟩ = some (.string ⟨a.addr.toArray⟩) := A.out.cell 2
      have A_3 : W11.cell? ⟨gA, 3, none⟩ = some (.int .i64 a.len) := A.out.cell 3
      have B_0 : W11.cell? ⟨gB, 0, none⟩ = some (.int .i64 b.fam) := B.out.cell 0
      have B_1 : W11.cell? ⟨gB, 1, none⟩ = some (.int .u64 (b.rd : Int)) := B.out.cell 1
      have B_2 : W11.cell? ⟨gB, 2, none⟩ = some (.string ⟨b.addr.toArray⟩) := B.out.cell 2
      have B_3 : W11.cell? ⟨gB, 3, none⟩ = some (.int .i64 b.len) := B.out.cell 3
      have C_0 : W11.cell? ⟨gC, 0, none⟩ = some (.int .i64 c.fam) := C.out.cell 0
      have C_1 : W11.cell? ⟨gC, 1, none⟩ = some (.int .u64 (c.rd : Int)) := C.out.cell 1
      have C_2 : W11.cell? ⟨gC, 2, none⟩ = some (.string ⟨c.addr.toArray⟩) := C.out.cell 2
      have C_3 : W11.cell? ⟨gC, 3, none⟩ = some (.int .i64 c.len) := C.out.cell 3
      clear hWd hgD
      go_wp2_with fail
      refine (qca.out _).mono ?_
      rintro e W12 ⟨rfl, he_⟩
      clear A_0 A_1 A_2 A_3 B_0 B_1 B_2 B_3 C_0 C_1 C_2 C_3
      replace E := hide (E.out.trans he_)
      replace A := hide (A.out.ext he_)
      replace B := hide (B.out.ext he_)
      replace C := hide (C.out.ext he_)
      clear he_
      have A_0 : W12.cell? ⟨gA, 0, none⟩ = some (.int .i64 a.fam) := A.out.cell 0
      have A_1 : W12.cell? ⟨gA, 1, none⟩ = some (.int .u64 (a.rd : Int)) := A.out.cell 1
      have A_2 : W12.cell? ⟨gA, 2, none⟩ = some (.string ⟨a.addr.toArray⟩) := A.out.cell 2
      have A_3 : W12.cell? ⟨gA, 3, none⟩ = some (.int .i64 a.len) := A.out.cell 3
      have B_0 : W12.cell? ⟨gB, 0, none⟩ = some (.int .i64 b.fam) := B.out.cell 0
      have B_1 : W12.cell? ⟨gB, 1, none⟩ = some (.int .u64 (b.rd : Int)) := B.out.cell 1
      have B_2 : W12.cell? ⟨gB, 2, none⟩ = some (.string ⟨b.addr.toArray⟩) := B.out.cell 2
      have B_3 : W12.cell? ⟨gB, 3, none⟩ = some (.int .i64 b.len) := B.out.cell 3
      have C_0 : W12.cell? ⟨gC, 0, none⟩ = some (.int .i64 c.fam) := C.out.cell 0
      have C_1 : W12.cell? ⟨gC, 1, none⟩ = some (.int .u64 (c.rd : Int)) := C.out.cell 1
      have C_2 : W12.cell? ⟨gC, 2, none⟩ = some (.string ⟨c.addr.toArray⟩) := C.out.cell 2
      have C_3 : W12.cell? ⟨gC, 3, none⟩ = some (.int .i64 c.len) := C.out.cell 3
      go_wp2_with fail
      refine (qab.out _).mono ?_
      rintro e W13 ⟨rfl, he_⟩
      clear A_0 A_1 A_2 A_3 B_0 B_1 B_2 B_3 C_0 C_1 C_2 C_3
      replace E := hide (E.out.trans he_)
      replace A := hide (A.out.ext he_)
      replace B := hide (B.out.ext he_)
      replace C := hide (C.out.ext he_)
      clear he_
      have A_0 : W13.cell? ⟨gA, 0, none⟩ = some (.int .i64 a.fam) := A.out.cell 0
      have A_1 : W13.cell? ⟨gA, 1, none⟩ = some (.int .u64 (a.rd : Int)) := A.out.cell 1
      have A_2 : W13.cell? ⟨gA, 2, none⟩ = some (.string ⟨a.addr.toArray⟩) := A.out.cell 2
      have A_3 : W13.cell? ⟨gA, 3, none⟩ = some (.int .i64 a.len) := A.out.cell 3
      have B_0 : W13.cell? ⟨gB, 0, none⟩ = some (.int .i64 b.fam) := B.out.cell 0
      have B_1 : W13.cell? ⟨gB, 1, none⟩ = some (.int .u64 (b.rd : Int)) := B.out.cell 1
      have B_2 : W13.cell? ⟨gB, 2, none⟩ = some (.string ⟨b.addr.toArray⟩) := B.out.cell 2
      have B_3 : W13.cell? ⟨gB, 3, none⟩ = some (.int .i64 b.len) := B.out.cell 3
      have C_0 : W13.cell? ⟨gC, 0, none⟩ = some (.int .i64 c.fam) := C.out.cell 0
      have C_1 : W13.cell? ⟨gC, 1, none⟩ = some (.int .u64 (c.rd : Int)) := C.out.cell 1
      have C_2 : W13.cell? ⟨gC, 2, none⟩ = some (.string ⟨c.addr.toArray⟩) := C.out.cell 2
      have C_3 : W13.cell? ⟨gC, 3, none⟩ = some (.int .i64 c.len) := C.out.cell 3
      go_wp2_with fail
      refine (qba.out _).mono ?_
      rintro e W14 ⟨rfl, he_⟩
      clear A_0 A_1 A_2 A_3 B_0 B_1 B_2 B_3 C_0 C_1 C_2 C_3
      replace E := hide (E.out.trans he_)
      replace A := hide (A.out.ext he_)
      replace B := hide (B.out.ext he_)
      replace C := hide (C.out.ext he_)
      clear he_
      have A_0 : W14.cell? ⟨gA, 0, none⟩ = some (.int .i64 a.fam) := A.out.cell 0
      have A_1 : W14.cell? ⟨gA, 1, none⟩ = some (.int .u64 (a.rd : Int)) := A.out.cell 1
      have A_2 : W14.cell? ⟨gA, 2, none⟩ = some (.string ⟨a.addr.toArray⟩) := A.out.cell 2
      have A_3 : W14.cell? ⟨gA, 3, none⟩ = some (.int .i64 a.len) := A.out.cell 3
      have B_0 : W14.cell? ⟨gB, 0, none⟩ = some (.int .i64 b.fam) := B.out.cell 0
      have B_1 : W14.cell? ⟨gB, 1, none⟩ = some (.int .u64 (b.rd : Int)) := B.out.cell 1
      have B_2 : W14.cell? ⟨gB, 2, none⟩ = some (.string ⟨b.addr.toArray⟩) := B.out.cell 2
      have B_3 : W14.cell? ⟨gB, 3, none⟩ = some (.int .i64 b.len) := B.out.cell 3
      have C_0 : W14.cell? ⟨gC, 0, none⟩ = some (.int .i64 c.fam) := C.out.cell 0
      have C_1 : W14.cell? ⟨gC, 1, none⟩ = some (.int .u64 (c.rd : Int)) := C.out.cell 1
      have C_2 : W14.cell? ⟨gC, 2, none⟩ = some (.string ⟨c.addr.toArray⟩) := C.out.cell 2
      have C_3 : W14.cell? ⟨gC, 3, none⟩ = some (.int .i64 c.len) := C.out.cell 3
      go_wp2_with fail
      refine (qac.out _).mono ?_
      rintro e W15 ⟨rfl, he_⟩
      clear A_0 A_1 A_2 A_3 B_0 B_1 B_2 B_3 C_0 C_1 C_2 C_3
      replace E := hide (E.out.trans he_)
      replace A := hide (A.out.ext he_)
      replace B := hide (B.out.ext he_)
      replace C := hide (C.out.ext he_)
      clear he_
      have A_0 : W15.cell? ⟨gA, 0, none⟩ = some (.int .i64 a.fam) := A.out.cell 0
      have A_1 : W15.cell? ⟨gA, 1, none⟩ = some (.int .u64 (a.rd : Int)) := A.out.cell 1
      have A_2 : W15.cell? ⟨gA, 2, none⟩ = some (.string ⟨a.addr.toArray⟩) := A.out.cell 2
      have A_3 : W15.cell? ⟨gA, 3, none⟩ = some (.int .i64 a.len) := A.out.cell 3
      have B_0 : W15.cell? ⟨gB, 0, none⟩ = some (.int .i64 b.fam) := B.out.cell 0
      have B_1 : W15.cell? ⟨gB, 1, none⟩ = some (.int .u64 (b.rd : Int)) := B.out.cell 1
      have B_2 : W15.cell? ⟨gB, 2, none⟩ = some (.string ⟨b.addr.toArray⟩) := B.out.cell 2
      have B_3 : W15.cell? ⟨gB, 3, none⟩ = some (.int .i64 b.len) := B.out.cell 3
      have C_0 : W15.cell? ⟨gC, 0, none⟩ = some (.int .i64 c.fam) := C.out.cell 0
      have C_1 : W15.cell? ⟨gC, 1, none⟩ = some (.int .u64 (c.rd : Int)) := C.out.cell 1
      have C_2 : W15.cell? ⟨gC, 2, none⟩ = some (.string ⟨c.addr.toArray⟩) := C.out.cell 2
      have C_3 : W15.cell? ⟨gC, 3, none⟩ = some (.int .i64 c.len) := C.out.cell 3
      go_wp2
      clear A_0 A_1 A_2 A_3 B_0 B_1 B_2 B_3 C_0 C_1 C_2 C_3
      go_loopw [14] (fun q wr => ∃ i : Nat, i ≤ k ∧ q = .int .i64 i ∧ Ext W15 wr) (fun q _ => k - (intOf q).toNat)
      case atStart => exact ⟨0, Nat.zero_le _, rfl, Ext.refl _⟩
      case round =>
        obtain ⟨i, hi, rfl, hE⟩ := hrel
        replace B := hide (B.out.ext hE)
        replace C := hide (C.out.ext hE)
        replace E := hide (E.out.trans hE)
        replace hE := hide hE
        have B_0 : wr.cell? ⟨gB, 0, none⟩ = some (.int .i64 b.fam) := B.out.cell 0
        have B_1 : wr.cell? ⟨gB, 1, none⟩ = some (.int .u64 (b.rd : Int)) := B.out.cell 1
        have B_2 : wr.cell? ⟨gB, 2, none⟩ = some (.string ⟨b.addr.toArray⟩) := B.out.cell 2
        have B_3 : wr.cell? ⟨gB, 3, none⟩ = some (.int .i64 b.len) := B.out.cell 3
        have C_0 : wr.cell? ⟨gC, 0, none⟩ = some (.int .i64 c.fam) := C.out.cell 0
        have C_1 : wr.cell? ⟨gC, 1, none⟩ = some (.int .u64 (c.rd : Int)) := C.out.cell 1
        have C_2 : wr.cell? ⟨gC, 2, none⟩ = some (.string ⟨c.addr.toArray⟩) := C.out.cell 2
        have C_3 : wr.cell? ⟨gC, 3, none⟩ = some (.int .i64 c.len) := C.out.cell 3
        have hk1 := hk128.out
        by_cases hlt : (i : Int) < (k : Int)
        · have b3 := qbc.out i (by omega) wr
          have b4 := qbb.out i (by omega) wr
          rw [hbit.out i (by omega)] at b3
          generalize bitV (bitZ b.addr i) = v at b3 b4
          have hv : (v != v) = false := by simp
          replace b3 := hide b3
          replace b4 := hide b4
          go_wp2_with fail
          go_quiet ((go_at_call 30; first | (with_reducible exact b3.out _) | (with_reducible exact b4.out _)))
          go_wp2
          go_roundw
          case rel => exact ⟨i + 1, by omega, by go_num, hE.out.drewN _⟩
          case measure => simp [intOf]; omega
        · skip
          go_wp2_with fail
          refine (qwk.out _ E.out).mono ?_
          rintro e WZ ⟨rfl, he_⟩
          clear B_0 B_1 B_2 B_3 C_0 C_1 C_2 C_3
          replace E := hide (E.out.trans he_)
          clear he_
          go_wp2
          go_ret
          exact ⟨rfl, E.out⟩
    · rw [p1] at qab
      rw [p2] at qct
      rw [p3] at qba
      rw [p5] at qac
      have hne := fun W => qneq.out W p4
      replace p4 := hide p4
      replace p1 := hide p1
      replace p2 := hide p2
      replace p3 := hide p3
      replace p5 := hide p5
      go_wp2_with fail
      refine (qab.out _).mono ?_
      rintro e W8 ⟨rfl, he_⟩
      clear A_0 A_1 A_2 A_3 B_0 B_1 B_2 B_3 C_0 C_1 C_2 C_3
      replace E := hide (E.out.trans he_)
      replace A := hide (A.out.ext he_)
      replace B := hide (B.out.ext he_)
      replace C := hide (C.out.ext he_)
      clear he_
      have A_0 : W8.cell? ⟨gA, 0, none⟩ = some (.int .i64 a.fam) := A.out.cell 0
      have A_1 : W8.cell? ⟨gA, 1, none⟩ = some (.int .u64 (a.rd : Int)) := A.out.cell 1
      have A_2 : W8.cell? ⟨gA, 2, none⟩ = some (.string ⟨a.addr.toArray⟩) := A.out.cell 2
      have A_3 : W8.cell? ⟨gA, 3, none⟩ = some (.int .i64 a.len) := A.out.cell 3
      have B_0 : W8.cell? ⟨gB, 0, none⟩ = some (.int .i64 b.fam) := B.out.cell 0
      have B_1 : W8.cell? ⟨gB, 1, none⟩ = some (.int .u64 (b.rd : Int)) := B.out.cell 1
      have B_2 : W8.cell? ⟨gB, 2, none⟩ = some (.string ⟨b.addr.toArray⟩) := B.out.cell 2
      have B_3 : W8.cell? ⟨gB, 3, none⟩ = some (.int .i64 b.len) := B.out.cell 3
      have C_0 : W8.cell? ⟨gC, 0, none⟩ = some (.int .i64 c.fam) := C.out.cell 0
      have C_1 : W8.cell? ⟨gC, 1, none⟩ = some (.int .u64 (c.rd : Int)) := C.out.cell 1
      have C_2 : W8.cell? ⟨gC, 2, none⟩ = some (.string ⟨c.addr.toArray⟩) := C.out.cell 2
      have C_3 : W8.cell? ⟨gC, 3, none⟩ = some (.int .i64 c.len) := C.out.cell 3
      go_wp2_with fail
      refine (qct.out _).mono ?_
      rintro e W9 ⟨rfl, he_⟩
      clear A_0 A_1 A_2 A_3 B_0 B_1 B_2 B_3 C_0 C_1 C_2 C_3
      replace E := hide (E.out.trans he_)
      replace A := hide (A.out.ext he_)
      replace B := hide (B.out.ext he_)
      replace C := hide (C.out.ext he_)
      clear he_
      have A_0 : W9.cell? ⟨gA, 0, none⟩ = some (.int .i64 a.fam) := A.out.cell 0
      have A_1 : W9.cell? ⟨gA, 1, none⟩ = some (.int .u64 (a.rd : Int)) := A.out.cell 1
      have A_2 : W9.cell? ⟨gA, 2, none⟩ = some (.string ⟨a.addr.toArray⟩) := A.out.cell 2
      have A_3 : W9.cell? ⟨gA, 3, none⟩ = some (.int .i64 a.len) := A.out.cell 3
      have B_0 : W9.cell? ⟨gB, 0, none⟩ = some (.int .i64 b.fam) := B.out.cell 0
      have B_1 : W9.cell? ⟨gB, 1, none⟩ = some (.int .u64 (b.rd : Int)) := B.out.cell 1
      have B_2 : W9.cell? ⟨gB, 2, none⟩ = some (.string ⟨b.addr.toArray⟩) := B.out.cell 2
      have B_3 : W9.cell? ⟨gB, 3, none⟩ = some (.int .i64 b.len) := B.out.cell 3
      have C_0 : W9.cell? ⟨gC, 0, none⟩ = some (.int .i64 c.fam) := C.out.cell 0
      have C_1 : W9.cell? ⟨gC, 1, none⟩ = some (.int .u64 (c.rd : Int)) := C.out.cell 1
      have C_2 : W9.cell? ⟨gC, 2, none⟩ = some (.string ⟨c.addr.toArray⟩) := C.out.cell 2
      have C_3 : W9.cell? ⟨gC, 3, none⟩ = some (.int .i64 c.len) := C.out.cell 3
      clear A_0 A_1 A_2 A_3 B_0 B_1 B_2 B_3 C_0 C_1 C_2 C_3
      have D := Blk.new W9 24 #[.int .i64 a.fam, .int .u64 (a.rd : Int), .string ⟨a.addr.toArray⟩, .int .i64 a.len]
      replace A := A.out.alloc (Obj.cells #[.int .i64 a.fam, .int .u64 (a.rd : Int), .string ⟨a.addr.toArray⟩, .int .i64 a.len] 24)
      replace B := B.out.alloc (Obj.cells #[.int .i64 a.fam, .int .u64 (a.rd : Int), .string ⟨a.addr.toArray⟩, .int .i64 a.len] 24)
      replace C := C.out.alloc (Obj.cells #[.int .i64 a.fam, .int .u64 (a.rd : Int), .string ⟨a.addr.toArray⟩, .int .i64 a.len] 24)
      replace E := E.out.alloc (Obj.cells #[.int .i64 a.fam, .int .u64 (a.rd : Int), .string ⟨a.addr.toArray⟩, .int .i64 a.len] 24)
      generalize hWd : W9.alloc (Obj.cells #[.int .i64 a.fam, .int .u64 (a.rd : Int), .string ⟨a.addr.toArray⟩, .int .i64 a.len] 24) = W10 at A B C D E
      generalize hgD : W9.heap.size = gD at D
      replace A := hide A
      replace B := hide B
      replace C := hide C
      replace D := hide D
      replace E := hide E
      have A_0 : W10.cell? ⟨gA, 0, none⟩ = some (.int .i64 a.fam) := A.out.cell 0
      have A_1 : W10.cell? ⟨gA, 1, none⟩ = some (.int .u64 (a.rd : Int)) := A.out.cell 1
      have A_2 : W10.cell? ⟨gA, 2, none⟩ = some (.string ⟨a.addr.toArray⟩) := A.out.cell 2
      have A_3 : W10.cell? ⟨gA, 3, none⟩ = some (.int .i64 a.len) := A.out.cell 3
      have B_0 : W10.cell? ⟨gB, 0, none⟩ = some (.int .i64 b.fam) := B.out.cell 0
      have B_1 : W10.cell? ⟨gB, 1, none⟩ = some (.int .u64 (b.rd : Int)) := B.out.cell 1
      have B_2 : W10.cell? ⟨gB, 2, none⟩ = some (.string ⟨b.addr.toArray⟩) := B.out.cell 2
      have B_3 : W10.cell? ⟨gB, 3, none⟩ = some (.int .i64 b.len) := B.out.cell 3
      have C_0 : W10.cell? ⟨gC, 0, none⟩ = some (.int .i64 c.fam) := C.out.cell 0
      have C_1 : W10.cell? ⟨gC, 1, none⟩ = some (.int .u64 (c.rd : Int)) := C.out.cell 1
      have C_2 : W10.cell? ⟨gC, 2, none⟩ = some (.string ⟨c.addr.toArray⟩) := C.out.cell 2
      have C_3 : W10.cell? ⟨gC, 3, none⟩ = some (.int .i64 c.len) := C.out.cell 3
      have D_0 : W10.cell? ⟨gD, 0, none⟩ = some (.int .i64 a.fam) := D.out.cell 0
      have D_1 : W10.cell? ⟨gD, 1, none⟩ = some (.int .u64 (a.rd : Int)) := D.out.cell 1
      have D_2 : W10.cell? ⟨gD, 2, none⟩ = some (.string ⟨a.addr.toArray⟩) := D.out.cell 2
      have D_3 : W10.cell? ⟨gD, 3, none⟩ = some (.int .i64 a.len) := D.out.cell 3
      go_wp2_with fail
      refine (qac.out _).mono ?_
      rintro e W11 ⟨rfl, he_⟩
      clear A_0 A_1 A_2 A_3 B_0 B_1 B_2 B_3 C_0 C_1 C_2 C_3 D_0 D_1 D_2 D_3
      replace E := hide (E.out.trans he_)
      replace A := hide (A.out.ext he_)
      replace B := hide (B.out.ext he_)
      replace C := hide (C.out.ext he_)
      clear he_
      have A_0 : W11.cell? ⟨gA, 0, none⟩ = some (.int .i64 a.fam) := A.out.cell 0
      have A_1 : W11.cell? ⟨gA, 1, none⟩ = some (.int .u64 (a.rd : Int)) := A.out.cell 1
      have A_2 : W11.cell? ⟨gA, 2, none⟩ = some (.string ⟨a.addr.toArray⟩) := A.out.cell 2
      have A_3 : W11.cell? ⟨gA, 3, none⟩ = some (.int .i64 a.len) := A.out.cell 3
      have B_0 : W11.cell? ⟨gB, 0, none⟩ = some (.int .i64 b.fam) := B.out.cell 0
      have B_1 : W11.cell? ⟨gB, 1, none⟩ = some (.int .u64 (b.rd : Int)) := B.out.cell 1
      have B_2 : W11.cell? ⟨gB, 2, none⟩ = some (.string ⟨b.addr.toArray⟩) := B.out.cell 2
      have B_3 : W11.cell? ⟨gB, 3, none⟩ = some (.int .i64 b.len) := B.out.cell 3
      have C_0 : W11.cell? ⟨gC, 0, none⟩ = some (.int .i64 c.fam) := C.out.cell 0
      have C_1 : W11.cell? ⟨gC, 1, none⟩ = some (.int .u64 (c.rd : Int)) := C.out.cell 1
      have C_2 : W11.cell? ⟨gC, 2, none⟩ = some (.string ⟨c.addr.toArray⟩) := C.out.cell 2
      have C_3 : W11.cell? ⟨gC, 3, none⟩ = some (.int .i64 c.len) := C.out.cell 3
      clear hWd hgD
      go_wp2_with fail
      refine (qab.out _).mono ?_
      rintro e W12 ⟨rfl, he_⟩
      clear A_0 A_1 A_2 A_3 B_0 B_1 B_2 B_3 C_0 C_1 C_2 C_3
      replace E := hide (E.out.trans he_)
      replace A := hide (A.out.ext he_)
      replace B := hide (B.out.ext he_)
      replace C := hide (C.out.ext he_)
      clear he_
      have A_0 : W12.cell? ⟨gA, 0, none⟩ = some (.int .i64 a.fam) := A.out.cell 0
      have A_1 : W12.cell? ⟨gA, 1, none⟩ = some (.int .u64 (a.rd : Int)) := A.out.cell 1
      have A_2 : W12.cell? ⟨gA, 2, none⟩ = some (.string ⟨a.addr.toArray⟩) := A.out.cell 2
      have A_3 : W12.cell? ⟨gA, 3, none⟩ = some (.int .i64 a.len) := A.out.cell 3
      have B_0 : W12.cell? ⟨gB, 0, none⟩ = some (.int .i64 b.fam) := B.out.cell 0
      have B_1 : W12.cell? ⟨gB, 1, none⟩ = some (.int .u64 (b.rd : Int)) := B.out.cell 1
      have B_2 : W12.cell? ⟨gB, 2, none⟩ = some (.string ⟨b.addr.toArray⟩) := B.out.cell 2
      have B_3 : W12.cell? ⟨gB, 3, none⟩ = some (.int .i64 b.len) := B.out.cell 3
      have C_0 : W12.cell? ⟨gC, 0, none⟩ = some (.int .i64 c.fam) := C.out.cell 0
      have C_1 : W12.cell? ⟨gC, 1, none⟩ = some (.int .u64 (c.rd : Int)) := C.out.cell 1
      have C_2 : W12.cell? ⟨gC, 2, none⟩ = some (.string ⟨c.addr.toArray⟩) := C.out.cell 2
      have C_3 : W12.cell? ⟨gC, 3, none⟩ = some (.int .i64 c.len) := C.out.cell 3
      go_wp2_with fail
      refine (qba.out _).mono ?_
      rintro e W13 ⟨rfl, he_⟩
      clear A_0 A_1 A_2 A_3 B_0 B_1 B_2 B_3 C_0 C_1 C_2 C_3
      replace E := hide (E.out.trans he_)
      replace A := hide (A.out.ext he_)
      replace B := hide (B.out.ext he_)
      replace C := hide (C.out.ext he_)
      clear he_
      have A_0 : W13.cell? ⟨gA, 0, none⟩ = some (.int .i64 a.fam) := A.out.cell 0
      have A_1 : W13.cell? ⟨gA, 1, none⟩ = some (.int .u64 (a.rd : Int)) := A.out.cell 1
      have A_2 : W13.cell? ⟨gA, 2, none⟩ = some (.string ⟨a.addr.toArray⟩) := A.out.cell 2
      have A_3 : W13.cell? ⟨gA, 3, none⟩ = some (.int .i64 a.len) := A.out.cell 3
      have B_0 : W13.cell? ⟨gB, 0, none⟩ = some (.int .i64 b.fam) := B.out.cell 0
      have B_1 : W13.cell? ⟨gB, 1, none⟩ = some (.int .u64 (b.rd : Int)) := B.out.cell 1
      have B_2 : W13.cell? ⟨gB, 2, none⟩ = some (.string ⟨b.addr.toArray⟩) := B.out.cell 2
      have B_3 : W13.cell? ⟨gB, 3, none⟩ = some (.int .i64 b.len) := B.out.cell 3
      have C_0 : W13.cell? ⟨gC, 0, none⟩ = some (.int .i64 c.fam) := C.out.cell 0
      have C_1 : W13.cell? ⟨gC, 1, none⟩ = some (.int .u64 (c.rd : Int)) := C.out.cell 1
      have C_2 : W13.cell? ⟨gC, 2, none⟩ = some (.string ⟨c.addr.toArray⟩) := C.out.cell 2
      have C_3 : W13.cell? ⟨gC, 3, none⟩ = some (.int .i64 c.len) := C.out.cell 3
      go_wp2_with fail
      refine (qac.out _).mono ?_
      rintro e W14 ⟨rfl, he_⟩
      clear A_0 A_1 A_2 A_3 B_0 B_1 B_2 B_3 C_0 C_1 C_2 C_3
      replace E := hide (E.out.trans he_)
      replace A := hide (A.out.ext he_)
      replace B := hide (B.out.ext he_)
      replace C := hide (C.out.ext he_)
      clear he_
      have A_0 : W14.cell? ⟨gA, 0, none⟩ = some (.int .i64 a.fam) := A.out.cell 0
      have A_1 : W14.cell? ⟨gA, 1, none⟩ = some (.int .u64 (a.rd : Int)) := A.out.cell 1
      have A_2 : W14.cell? ⟨gA, 2, none⟩ = some (.string ⟨a.addr.toArray⟩) := A.out.cell 2
      have A_3 : W14.cell? ⟨gA, 3, none⟩ = some (.int .i64 a.len) := A.out.cell 3
      have B_0 : W14.cell? ⟨gB, 0, none⟩ = some (.int .i64 b.fam) := B.out.cell 0
      have B_1 : W14.cell? ⟨gB, 1, none⟩ = some (.int .u64 (b.rd : Int)) := B.out.cell 1
      have B_2 : W14.cell? ⟨gB, 2, none⟩ = some (.string ⟨b.addr.toArray⟩) := B.out.cell 2
      have B_3 : W14.cell? ⟨gB, 3, none⟩ = some (.int .i64 b.len) := B.out.cell 3
      have C_0 : W14.cell? ⟨gC, 0, none⟩ = some (.int .i64 c.fam) := C.out.cell 0
      have C_1 : W14.cell? ⟨gC, 1, none⟩ = some (.int .u64 (c.rd : Int)) := C.out.cell 1
      have C_2 : W14.cell? ⟨gC, 2, none⟩ = some (.string ⟨c.addr.toArray⟩) := C.out.cell 2
      have C_3 : W14.cell? ⟨gC, 3, none⟩ = some (.int .i64 c.len) := C.out.cell 3
      go_wp2_with fail
      refine (qab.out _).mono ?_
      rintro e W15 ⟨rfl, he_⟩
      clear A_0 A_1 A_2 A_3 B_0 B_1 B_2 B_3 C_0 C_1 C_2 C_3
      replace E := hide (E.out.trans he_)
      replace A := hide (A.out.ext he_)
      replace B := hide (B.out.ext he_)
      replace C := hide (C.out.ext he_)
      clear he_
      have A_0 : W15.cell? ⟨gA, 0, none⟩ = some (.int .i64 a.fam) := A.out.cell 0
      have A_1 : W15.cell? ⟨gA, 1, none⟩ = some (.int .u64 (a.rd : Int)) := A.out.cell 1
      have A_2 : W15.cell? ⟨gA, 2, none⟩ = some (.string ⟨a.addr.toArray⟩) := A.out.cell 2
      have A_3 : W15.cell? ⟨gA, 3, none⟩ = some (.int .i64 a.len) := A.out.cell 3
      have B_0 : W15.cell? ⟨gB, 0, none⟩ = some (.int .i64 b.fam) := B.out.cell 0
      have B_1 : W15.cell? ⟨gB, 1, none⟩ = some (.int .u64 (b.rd : Int)) := B.out.cell 1
      have B_2 : W15.cell? ⟨gB, 2, none⟩ = some (.string ⟨b.addr.toArray⟩) := B.out.cell 2
      have B_3 : W15.cell? ⟨gB, 3, none⟩ = some (.int .i64 b.len) := B.out.cell 3
      have C_0 : W15.cell? ⟨gC, 0, none⟩ = some (.int .i64 c.fam) := C.out.cell 0
      have C_1 : W15.cell? ⟨gC, 1, none⟩ = some (.int .u64 (c.rd : Int)) := C.out.cell 1
      have C_2 : W15.cell? ⟨gC, 2, none⟩ = some (.string ⟨c.addr.toArray⟩) := C.out.cell 2
      have C_3 : W15.cell? ⟨gC, 3, none⟩ = some (.int .i64 c.len) := C.out.cell 3
      go_wp2
      clear A_0 A_1 A_2 A_3 B_0 B_1 B_2 B_3 C_0 C_1 C_2 C_3
      go_loopw [14] (fun q wr => ∃ i : Nat, i ≤ k ∧ q = .int .i64 i ∧ Ext W15 wr) (fun q _ => k - (intOf q).toNat)
      case atStart => exact ⟨0, Nat.zero_le _, rfl, Ext.refl _⟩
      case round =>
        obtain ⟨i, hi, rfl, hE⟩ := hrel
        replace B := hide (B.out.ext hE)
        replace C := hide (C.out.ext hE)
        replace E := hide (E.out.trans hE)
        replace hE := hide hE
        have B_0 : wr.cell? ⟨gB, 0, none⟩ = some (.int .i64 b.fam) := B.out.cell 0
        have B_1 : wr.cell? ⟨gB, 1, none⟩ = some (.int .u64 (b.rd : Int)) := B.out.cell 1
        have B_2 : wr.cell? ⟨gB, 2, none⟩ = some (.string ⟨b.addr.toArray⟩) := B.out.cell 2
        have B_3 : wr.cell? ⟨gB, 3, none⟩ = some (.int .i64 b.len) := B.out.cell 3
        have C_0 : wr.cell? ⟨gC, 0, none⟩ = some (.int .i64 c.fam) := C.out.cell 0
        have C_1 : wr.cell? ⟨gC, 1, none⟩ = some (.int .u64 (c.rd : Int)) := C.out.cell 1
        have C_2 : wr.cell? ⟨gC, 2, none⟩ = some (.string ⟨c.addr.toArray⟩) := C.out.cell 2
        have C_3 : wr.cell? ⟨gC, 3, none⟩ = some (.int .i64 c.len) := C.out.cell 3
        have hk1 := hk128.out
        by_cases hlt : (i : Int) < (k : Int)
        · have b3 := qbc.out i (by omega) wr
          have b4 := qbb.out i (by omega) wr
          rw [hbit.out i (by omega)] at b3
          generalize bitV (bitZ b.addr i) = v at b3 b4
          have hv : (v != v) = false := by simp
          replace b3 := hide b3
          replace b4 := hide b4
          go_wp2_with fail
          go_quiet ((go_at_call 30; first | (with_reducible exact b3.out _) | (with_reducible exact b4.out _)))
          go_wp2
          go_roundw
          case rel => exact ⟨i + 1, by omega, by go_num, hE.out.drewN _⟩
          case measure => simp [intOf]; omega
        · skip
          go_wp2_with fail
          refine (qwk.out _ E.out).mono ?_
          rintro e WZ ⟨rfl, he_⟩
          clear B_0 B_1 B_2 B_3 C_0 C_1 C_2 C_3
          replace E := hide (E.out.trans he_)
          clear he_
          go_wp2
          go_ret
          exact ⟨rfl, E.out⟩
    · rw [p1] at qab
      rw [p2] at qct
      rw [p3] at qba
      rw [p5] at qac
      rw [p6] at qca
      have hne := fun W => qneq.out W p4
      replace p4 := hide p4
      replace p1 := hide p1
      replace p2 := hide p2
      replace p3 := hide p3
      replace p5 := hide p5
      replace p6 := hide p6
      go_wp2_with fail
      refine (qab.out _).mono ?_
      rintro e W8 ⟨rfl, he_⟩
      clear A_0 A_1 A_2 A_3 B_0 B_1 B_2 B_3 C_0 C_1 C_2 C_3
      replace E := hide (E.out.trans he_)
      replace A := hide (A.out.ext he_)
      replace B := hide (B.out.ext he_)
      replace C := hide (C.out.ext he_)
      clear he_
      have A_0 : W8.cell? ⟨gA, 0, none⟩ = some (.int .i64 a.fam) := A.out.cell 0
      have A_1 : W8.cell? ⟨gA, 1, none⟩ = some (.int .u64 (a.rd : Int)) := A.out.cell 1
      have A_2 : W8.cell? ⟨gA, 2, none⟩ = some (.string ⟨a.addr.toArray⟩) := A.out.cell 2
      have A_3 : W8.cell? ⟨gA, 3, none⟩ = some (.int .i64 a.len) := A.out.cell 3
      have B_0 : W8.cell? ⟨gB, 0, none⟩ = some (.int .i64 b.fam) := B.out.cell 0
      have B_1 : W8.cell? ⟨gB, 1, none⟩ = some (.int .u64 (b.rd : Int)) := B.out.cell 1
      have B_2 : W8.cell? ⟨gB, 2, none⟩ = some (.string ⟨b.addr.toArray⟩) := B.out.cell 2
      have B_3 : W8.cell? ⟨gB, 3, none⟩ = some (.int .i64 b.len) := B.out.cell 3
      have C_0 : W8.cell? ⟨gC, 0, none⟩ = some (.int .i64 c.fam) := C.out.cell 0
      have C_1 : W8.cell? ⟨gC, 1, none⟩ = some (.int .u64 (c.rd : Int)) := C.out.cell 1
      have C_2 : W8.cell? ⟨gC, 2, none⟩ = some (.string ⟨c.addr.toArray⟩) := C.out.cell 2
      have C_3 : W8.cell? ⟨gC, 3, none⟩ = some (.int .i64 c.len) := C.out.cell 3
      go_wp2_with fail
      refine (qct.out _).mono ?_
      rintro e W9 ⟨rfl, he_⟩
      clear A_0 A_1 A_2 A_3 B_0 B_1 B_2 B_3 C_0 C_1 C_2 C_3
      replace E := hide (E.out.trans he_)
      replace A := hide (A.out.ext he_)
      replace B := hide (B.out.ext he_)
      replace C := hide (C.out.ext he_)
      clear he_
      have A_0 : W9.cell? ⟨gA, 0, none⟩ = some (.int .i64 a.fam) := A.out.cell 0
      have A_1 : W9.cell? ⟨gA, 1, none⟩ = some (.int .u64 (a.rd : Int)) := A.out.cell 1
      have A_2 : W9.cell? ⟨gA, 2, none⟩ = some (.string ⟨a.addr.toArray⟩) := A.out.cell 2
      have A_3 : W9.cell? ⟨gA, 3, none⟩ = some (.int .i64 a.len) := A.out.cell 3
      have B_0 : W9.cell? ⟨gB, 0, none⟩ = some (.int .i64 b.fam) := B.out.cell 0
      have B_1 : W9.cell? ⟨gB, 1, none⟩ = some (.int .u64 (b.rd : Int)) := B.out.cell 1
      have B_2 : W9.cell? ⟨gB, 2, none⟩ = some (.string ⟨b.addr.toArray⟩) := B.out.cell 2
      have B_3 : W9.cell? ⟨gB, 3, none⟩ = some (.int .i64 b.len) := B.out.cell 3
      have C_0 : W9.cell? ⟨gC, 0, none⟩ = some (.int .i64 c.fam) := C.out.cell 0
      have C_1 : W9.cell? ⟨gC, 1, none⟩ = some (.int .u64 (c.rd : Int)) := C.out.cell 1
      have C_2 : W9.cell? ⟨gC, 2, none⟩ = some (.string ⟨c.addr.toArray⟩) := C.out.cell 2
      have C_3 : W9.cell? ⟨gC, 3, none⟩ = some (.int .i64 c.len) := C.out.cell 3
      clear A_0 A_1 A_2 A_3 B_0 B_1 B_2 B_3 C_0 C_1 C_2 C_3
      have D := Blk.new W9 24 #[.int .i64 a.fam, .int .u64 (a.rd : Int), .string ⟨a.addr.toArray⟩, .int .i64 a.len]
      replace A := A.out.alloc (Obj.cells #[.int .i64 a.fam, .int .u64 (a.rd : Int), .string ⟨a.addr.toArray⟩, .int .i64 a.len] 24)
      replace B := B.out.alloc (Obj.cells #[.int .i64 a.fam, .int .u64 (a.rd : Int), .string ⟨a.addr.toArray⟩, .int .i64 a.len] 24)
      replace C := C.out.alloc (Obj.cells #[.int .i64 a.fam, .int .u64 (a.rd : Int), .string ⟨a.addr.toArray⟩, .int .i64 a.len] 24)
      replace E := E.out.alloc (Obj.cells #[.int .i64 a.fam, .int .u64 (a.rd : Int), .string ⟨a.addr.toArray⟩, .int .i64 a.len] 24)
      generalize hWd : W9.alloc (Obj.cells #[.int .i64 a.fam, .int .u64 (a.rd : Int), .string ⟨a.addr.toArray⟩, .int .i64 a.len] 24) = W10 at A B C D E
      generalize hgD : W9.heap.size = gD at D
      replace A := hide A
      replace B := hide B
      replace C := hide C
      replace D := hide D
      replace E := hide E
      have A_0 : W10.cell? ⟨gA, 0, none⟩ = some (.int .i64 a.fam) := A.out.cell 0
      have A_1 : W10.cell? ⟨gA, 1, none⟩ = some (.int .u64 (a.rd : Int)) := A.out.cell 1
      have A_2 : W10.cell? ⟨gA, 2, none⟩ = some (.string ⟨a.addr.toArray⟩) := A.out.cell 2
      have A_3 : W10.cell? ⟨gA, 3, none⟩ = some (.int .i64 a.len) := A.out.cell 3
      have B_0 : W10.cell? ⟨gB, 0, none⟩ = some (.int .i64 b.fam) := B.out.cell 0
      have B_1 : W10.cell? ⟨gB, 1, none⟩ = some (.int .u64 (b.rd : Int)) := B.out.cell 1
      have B_2 : W10.cell? ⟨gB, 2, none⟩ = some (.string ⟨b.addr.toArray⟩) := B.out.cell 2
      have B_3 : W10.cell? ⟨gB, 3, none⟩ = some (.int .i64 b.len) := B.out.cell 3
      have C_0 : W10.cell? ⟨gC, 0, none⟩ = some (.int .i64 c.fam) := C.out.cell 0
      have C_1 : W10.cell? ⟨gC, 1, none⟩ = some (.int .u64 (c.rd : Int)) := C.out.cell 1
      have C_2 : W10.cell? ⟨gC, 2, none⟩ = some (.string ⟨c.addr.toArray⟩) := C.out.cell 2
      have C_3 : W10.cell? ⟨gC, 3, none⟩ = some (.int .i64 c.len) := C.out.cell 3
      have D_0 : W10.cell? ⟨gD, 0, none⟩ = some (.int .i64 a.fam) := D.out.cell 0
      have D_1 : W10.cell? ⟨gD, 1, none⟩ = some (.int .u64 (a.rd : Int)) := D.out.cell 1
      have D_2 : W10.cell? ⟨gD, 2, none⟩ = some (.string ⟨a.addr.toArray⟩) := D.out.cell 2
      have D_3 : W10.cell? ⟨gD, 3, none⟩ = some (.int .i64 a.len) := D.out.cell 3
      go_wp2_with fail
      refine (qac.out _).mono ?_
      rintro e W11 ⟨rfl, he_⟩
      clear A_0 A_1 A_2 A_3 B_0 B_1 B_2 B_3 C_0 C_1 C_2 C_3 D_0 D_1 D_2 D_3
      replace E := hide (E.out.trans he_)
      replace A := hide (A.out.ext he_)
      replace B := hide (B.out.ext he_)
      replace C := hide (C.out.ext he_)
      clear he_
      have A_0 : W11.cell? ⟨gA, 0, none⟩ = some (.int .i64 a.fam) := A.out.cell 0
      have A_1 : W11.cell? ⟨gA, 1, none⟩ = some (.int .u64 (a.rd : Int)) := A.out.cell 1
      have A_2 : W11.cell? ⟨gA, 2, none⟩ = some (.string ⟨a.addr.toArray⟩) := A.out.cell 2
      have A_3 : W11.cell? ⟨gA, 3, none⟩ = some (.int .i64 a.len) := A.out.cell 3
      have B_0 : W11.cell? ⟨gB, 0, none⟩ = some (.int .i64 b.fam) := B.out.cell 0
      have B_1 : W11.cell? ⟨gB, 1, none⟩ = some (.int .u64 (b.rd : Int)) := B.out.cell 1
      have B_2 : W11.cell? ⟨gB, 2, none⟩ = some (.string ⟨b.addr.toArray⟩) := B.out.cell 2
      have B_3 : W11.cell? ⟨gB, 3, none⟩ = some (.int .i64 b.len) := B.out.cell 3
      have C_0 : W11.cell? ⟨gC, 0, none⟩ = some (.int .i64 c.fam) := C.out.cell 0
      have C_1 : W11.cell? ⟨gC, 1, none⟩ = some (.int .u64 (c.rd : Int)) := C.out.cell 1
      have C_2 : W11.cell? ⟨gC, 2, none⟩ = some (.string ⟨c.addr.toArray⟩) := C.out.cell 2
      have C_3 : W11.cell? ⟨gC, 3, none⟩ = some (.int .i64 c.len) := C.out.cell 3
      clear hWd hgD
      go_wp2_with fail
      refine (qca.out _).mono ?_
      rintro e W12 ⟨rfl, he_⟩
      clear A_0 A_1 A_2 A_3 B_0 B_1 B_2 B_3 C_0 C_1 C_2 C_3
      replace E := hide (E.out.trans he_)
      replace A := hide (A.out.ext he_)
      replace B := hide (B.out.ext he_)
      replace C := hide (C.out.ext he_)
      clear he_
      have A_0 : W12.cell? ⟨gA, 0, none⟩ = some (.int .i64 a.fam) := A.out.cell 0
      have A_1 : W12.cell? ⟨gA, 1, none⟩ = some (.int .u64 (a.rd : Int)) := A.out.cell 1
      have A_2 : W12.cell? ⟨gA, 2, none⟩ = some (.string ⟨a.addr.toArray⟩) := A.out.cell 2
      have A_3 : W12.cell? ⟨gA, 3, none⟩ = some (.int .i64 a.len) := A.out.cell 3
      have B_0 : W12.cell? ⟨gB, 0, none⟩ = some (.int .i64 b.fam) := B.out.cell 0
      have B_1 : W12.cell? ⟨gB, 1, none⟩ = some (.int .u64 (b.rd : Int)) := B.out.cell 1
      have B_2 : W12.cell? ⟨gB, 2, none⟩ = some (.string ⟨b.addr.toArray⟩) := B.out.cell 2
      have B_3 : W12.cell? ⟨gB, 3, none⟩ = some (.int .i64 b.len) := B.out.cell 3
      have C_0 : W12.cell? ⟨gC, 0, none⟩ = some (.int .i64 c.fam) := C.out.cell 0
      have C_1 : W12.cell? ⟨gC, 1, none⟩ = some (.int .u64 (c.rd : Int)) := C.out.cell 1
      have C_2 : W12.cell? ⟨gC, 2, none⟩ = some (.string ⟨c.addr.toArray⟩) := C.out.cell 2
      have C_3 : W12.cell? ⟨gC, 3, none⟩ = some (.int .i64 c.len) := C.out.cell 3
      go_wp2_with fail
      refine (qab.out _).mono ?_
      rintro e W13 ⟨rfl, he_⟩
      clear A_0 A_1 A_2 A_3 B_0 B_1 B_2 B_3 C_0 C_1 C_2 C_3
      replace E := hide (E.out.trans he_)
      replace A := hide (A.out.ext he_)
      replace B := hide (B.out.ext he_)
      replace C := hide (C.out.ext he_)
      clear he_
      have A_0 : W13.cell? ⟨gA, 0, none⟩ = some (.int .i64 a.fam) := A.out.cell 0
      have A_1 : W13.cell? ⟨gA, 1, none⟩ = some (.int .u64 (a.rd : Int)) := A.out.cell 1
      have A_2 : W13.cell? ⟨gA, 2, none⟩ = some (.string ⟨a.addr.toArray⟩) := A.out.cell 2
      have A_3 : W13.cell? ⟨gA, 3, none⟩ = some (.int .i64 a.len) := A.out.cell 3
      have B_0 : W13.cell? ⟨gB, 0, none⟩ = some (.int .i64 b.fam) := B.out.cell 0
      have B_1 : W13.cell? ⟨gB, 1, none⟩ = some (.int .u64 (b.rd : Int)) := B.out.cell 1
      have B_2 : W13.cell? ⟨gB, 2, none⟩ = some (.string ⟨b.addr.toArray⟩) := B.out.cell 2
      have B_3 : W13.cell? ⟨gB, 3, none⟩ = some (.int .i64 b.len) := B.out.cell 3
      have C_0 : W13.cell? ⟨gC, 0, none⟩ = some (.int .i64 c.fam) := C.out.cell 0
      have C_1 : W13.cell? ⟨gC, 1, none⟩ = some (.int .u64 (c.rd : Int)) := C.out.cell 1
      have C_2 : W13.cell? ⟨gC, 2, none⟩ = some (.string ⟨c.addr.toArray⟩) := C.out.cell 2
      have C_3 : W13.cell? ⟨gC, 3, none⟩ = some (.int .i64 c.len) := C.out.cell 3
      go_wp2_with fail
      refine (qba.out _).mono ?_
      rintro e W14 ⟨rfl, he_⟩
      clear A_0 A_1 A_2 A_3 B_0 B_1 B_2 B_3 C_0 C_1 C_2 C_3
      replace E := hide (E.out.trans he_)
      replace A := hide (A.out.ext he_)
      replace B := hide (B.out.ext he_)
      replace C := hide (C.out.ext he_)
      clear he_
      have A_0 : W14.cell? ⟨gA, 0, none⟩ = some (.int .i64 a.fam) := A.out.cell 0
      have A_1 : W14.cell? ⟨gA, 1, none⟩ = some (.int .u64 (a.rd : Int)) := A.out.cell 1
      have A_2 : W14.cell? ⟨gA, 2, none⟩ = some (.string ⟨a.addr.toArray⟩) := A.out.cell 2
      have A_3 : W14.cell? ⟨gA, 3, none⟩ = some (.int .i64 a.len) := A.out.cell 3
      have B_0 : W14.cell? ⟨gB, 0, none⟩ = some (.int .i64 b.fam) := B.out.cell 0
      have B_1 : W14.cell? ⟨gB, 1, none⟩ = some (.int .u64 (b.rd : Int)) := B.out.cell 1
      have B_2 : W14.cell? ⟨gB, 2, none⟩ = some (.string ⟨b.addr.toArray⟩) := B.out.cell 2
      have B_3 : W14.cell? ⟨gB, 3, none⟩ = some (.int .i64 b.len) := B.out.cell 3
      have C_0 : W14.cell? ⟨gC, 0, none⟩ = some (.int .i64 c.fam) := C.out.cell 0
      have C_1 : W14.cell? ⟨gC, 1, none⟩ = some (.int .u64 (c.rd : Int)) := C.out.cell 1
      have C_2 : W14.cell? ⟨gC, 2, none⟩ = some (.string ⟨c.addr.toArray⟩) := C.out.cell 2
      have C_3 : W14.cell? ⟨gC, 3, none⟩ = some (.int .i64 c.len) := C.out.cell 3
      go_wp2_with fail
      refine (qac.out _).mono ?_
      rintro e W15 ⟨rfl, he_⟩
      clear A_0 A_1 A_2 A_3 B_0 B_1 B_2 B_3 C_0 C_1 C_2 C_3
      replace E := hide (E.out.trans he_)
      replace A := hide (A.out.ext he_)
      replace B := hide (B.out.ext he_)
      replace C := hide (C.out.ext he_)
      clear he_
      have A_0 : W15.cell? ⟨gA, 0, none⟩ = some (.int .i64 a.fam) := A.out.cell 0
      have A_1 : W15.cell? ⟨gA, 1, none⟩ = some (.int .u64 (a.rd : Int)) := A.out.cell 1
      have A_2 : W15.cell? ⟨gA, 2, none⟩ = some (.string ⟨a.addr.toArray⟩) := A.out.cell 2
      have A_3 : W15.cell? ⟨gA, 3, none⟩ = some (.int .i64 a.len) := A.out.cell 3
      have B_0 : W15.cell? ⟨gB, 0, none⟩ = some (.int .i64 b.fam) := B.out.cell 0
      have B_1 : W15.cell? ⟨gB, 1, none⟩ = some (.int .u64 (b.rd : Int)) := B.out.cell 1
      have B_2 : W15.cell? ⟨gB, 2, none⟩ = some (.string ⟨b.addr.toArray⟩) := B.out.cell 2
      have B_3 : W15.cell? ⟨gB, 3, none⟩ = some (.int .i64 b.len) := B.out.cell 3
      have C_0 : W15.cell? ⟨gC, 0, none⟩ = some (.int .i64 c.fam) := C.out.cell 0
      have C_1 : W15.cell? ⟨gC, 1, none⟩ = some (.int .u64 (c.rd : Int)) := C.out.cell 1
      have C_2 : W15.cell? ⟨gC, 2, none⟩ = some (.string ⟨c.addr.toArray⟩) := C.out.cell 2
      have C_3 : W15.cell? ⟨gC, 3, none⟩ = some (.int .i64 c.len) := C.out.cell 3
      go_wp2
      clear A_0 A_1 A_2 A_3 B_0 B_1 B_2 B_3 C_0 C_1 C_2 C_3
      go_loopw [14] (fun q wr => ∃ i : Nat, i ≤ k ∧ q = .int .i64 i ∧ Ext W15 wr) (fun q _ => k - (intOf q).toNat)
      case atStart => exact ⟨0, Nat.zero_le _, rfl, Ext.refl _⟩
      case round =>
        obtain ⟨i, hi, rfl, hE⟩ := hrel
        replace B := hide (B.out.ext hE)
        replace C := hide (C.out.ext hE)
        replace E := hide (E.out.trans hE)
        replace hE := hide hE
        have B_0 : wr.cell? ⟨gB, 0, none⟩ = some (.int .i64 b.fam) := B.out.cell 0
        have B_1 : wr.cell? ⟨gB, 1, none⟩ = some (.int .u64 (b.rd : Int)) := B.out.cell 1
        have B_2 : wr.cell? ⟨gB, 2, none⟩ = some (.string ⟨b.addr.toArray⟩) := B.out.cell 2
        have B_3 : wr.cell? ⟨gB, 3, none⟩ = some (.int .i64 b.len) := B.out.cell 3
        have C_0 : wr.cell? ⟨gC, 0, none⟩ = some (.int .i64 c.fam) := C.out.cell 0
        have C_1 : wr.cell? ⟨gC, 1, none⟩ = some (.int .u64 (c.rd : Int)) := C.out.cell 1
        have C_2 : wr.cell? ⟨gC, 2, none⟩ = some (.string ⟨c.addr.toArray⟩) := C.out.cell 2
        have C_3 : wr.cell? ⟨gC, 3, none⟩ = some (.int .i64 c.len) := C.out.cell 3
        have hk1 := hk128.out
        by_cases hlt : (i : Int) < (k : Int)
        · have b3 := qbc.out i (by omega) wr
          have b4 := qbb.out i (by omega) wr
          rw [hbit.out i (by omega)] at b3
          generalize bitV (bitZ b.addr i) = v at b3 b4
          have hv : (v != v) = false := by simp
          replace b3 := hide b3
          replace b4 := hide b4
          go_wp2_with fail
          go_quiet ((go_at_call 30; first | (with_reducible exact b3.out _) | (with_reducible exact b4.out _)))
          go_wp2
          go_roundw
          case rel => exact ⟨i + 1, by omega, by go_num, hE.out.drewN _⟩
          case measure => simp [intOf]; omega
        · skip
          go_wp2_with fail
          refine (qwk.out _ E.out).mono ?_
          rintro e WZ ⟨rfl, he_⟩
          clear B_0 B_1 B_2 B_3 C_0 C_1 C_2 C_3
          replace E := hide (E.out.trans he_)
          clear he_
          go_wp2
          go_ret
          exact ⟨rfl, E.out⟩
end Go.Proofs.YtbobpaailmbndaaDoor
