/- Chapter 16, walks: are two terms the same, by the document (heraldref16.SameTerm)? Chapter 16, walks: may a condition, an action be, by the document? Printed by genfb.py. Chapter 16, walks: may a term be, by the document (heraldref16.MayTerm)? Chapter 16, walks: the document's kindOf, there, named, MayPolicy. Walks: the document's: may a pattern be, does it match, are two the same. Walks: two patterns compared. Walks: may a set be, has it a community, by the document; sets.Comm. Walks: may a set be, by the document (heraldref15.May, Check). Walks: two sets that are alike are told so (heraldref15.Same). -/
import Derived.Lib.SplitLaws
import Derived.Lib.ParseIntB
import Derived.Lib.ParseIntBCases
import Derived.Lib.ItoaNum
import Derived.Lib.Join
import Derived.WalkKit
import Derived.Below
import Derived.Outline
import Derived.LoopTactic
import Derived.Laws.OwnMore
import Derived.Deep.AppendLies
import Derived.Deep.Draws
import Derived.Lib.Hide
import Derived.BigQuiet
import Derived.Deep.QuietTactic
import Derived.WalkSpells
import Derived.WalkLawsBesides
import Derived.Deep.RegionHeld3
import Derived.Deep.DrawnRows
import Derived.Deep.RegionLaw
import Derived.Lib.ConvBytes
import Derived.Lib.Bytealg
import Derived.Lib.Small
import Derived.Test.YtljibkfbldjgdaaGreatDoorRows
import Derived.ProofKit
import Derived.Deep.Slices
import Derived.Shelf.GgClosure.StringsRunes
import Derived.Test.YtljibkfbldjgdaaGreatDoorProg
import Derived.Test.YtljibkfbldjgdaaGreatDoorShelf
import Derived.Orders
import Derived.StillTail
import Derived.Test.YtljibkfbldjgdaaGreatDoorShelf2
import Derived.Lib.UnsafeStr
import Derived.Shelf.RegionOpenPlain
import Derived.Laws.StructEq
import Derived.Lib.QuietBelow
import Derived.Lib.ItoaMem
import Derived.Lib.ItoaLen
import Derived.Deep.DeepCutAuto
import Derived.Defers
import Derived.Recover
import Derived.Maps.OwnSet
import Derived.Maps.Views
import Derived.Maps.Range
import Derived.DeepKeys5
import Derived.Deep.Cut
import Derived.Test.YtljibkfbldjgdaaGreatDoorPZ01
import Derived.Test.YtljibkfbldjgdaaGreatDoorPZ02
import Derived.Test.YtljibkfbldjgdaaGreatDoorPZ03
import Derived.Test.YtljibkfbldjgdaaGreatDoorPZ04
import Derived.Test.YtljibkfbldjgdaaGreatDoorPZ05
import Derived.Test.YtljibkfbldjgdaaGreatDoorPZ06
import Derived.Test.YtljibkfbldjgdaaGreatDoorPZ07
import Derived.Test.YtljibkfbldjgdaaGreatDoorPZ08
namespace Go.Proofs.YtljibkfbldjgdaaGreatDoor
section
theorem nameCh_cases16 (c : UInt8) : ∃ b1 b2 b3 b4 b5 r : Bool, decide ((97 : Int) ≤ (c.toNat : Int)) = b1 ∧ decide ((c.toNat : Int) ≤ 122) = b2 ∧ decide ((48 : Int) ≤ (c.toNat : Int)) = b3 ∧ decide ((c.toNat : Int) ≤ 57) = b4 ∧ ((c.toNat : Int) == 45) = b5 ∧ nameCh c = r ∧ ((b1 && b2) || ((b3 && b4) || b5)) = r := by
 refine ⟨_, _, _, _, _, _, rfl, rfl, rfl, rfl, rfl, rfl, ?_⟩
 unfold nameCh runeOk
 rw [show decide ((97 : Int) ≤ (c.toNat : Int)) = decide (97 ≤ c.toNat) from decide_eq_decide.2 (by omega), show decide ((c.toNat : Int) ≤ 122) = decide (c.toNat ≤ 122) from decide_eq_decide.2 (by omega), show decide ((48 : Int) ≤ (c.toNat : Int)) = decide (48 ≤ c.toNat) from decide_eq_decide.2 (by omega), show decide ((c.toNat : Int) ≤ 57) = decide (c.toNat ≤ 57) from decide_eq_decide.2 (by omega)]
 rw [show ((c.toNat : Int) == 45) = decide (c.toNat = 45) by rw [Bool.eq_iff_iff, beq_iff_eq, decide_eq_true_eq]; omega]
theorem allN_succ16 (s : List UInt8) (k : Nat) (hk : k < s.length) : (s.take (k + 1)).all nameCh = ((s.take k).all nameCh && nameCh s[k]) := by
 rw [List.take_succ_eq_append_getElem hk, List.all_append, List.all_cons, List.all_nil, Bool.and_true]
section
open Go.RowKit
set_option linter.unusedVariables false
deriving instance DecidableEq for CondS, ActS, TermS
theorem run_eqCond (W : World) (x y : CondS) :
  (binOp .eql 48 (.agg #[.int .i64 x.kind, .bool x.neg, .string ⟨x.name.toArray⟩, .int .i64 x.n]) (.agg #[.int .i64 y.kind, .bool y.neg, .string ⟨y.name.toArray⟩, .int .i64 y.n])).run Tryz.prog W = .ok (.bool (decide (x = y))) W := by
 obtain ⟨f, r, x, l⟩ := x
 obtain ⟨g, s, y, m⟩ := y
 have hS : Tryz.prog.underlying 48 = some (.struct (Tryz.prog.fieldsOf 48)) := by kernel_rfl
 rw [run_eql_struct, run_equalIn_agg W 9999 _ _ _ hS Tryz.stoodInHeld48]
 simp only [Program.fieldsOf, Tryz.underlying48]
 have e1 : ∀ (a b : Int) (w : World), (Op.equalIn 9999 3 (.int .i64 a) (.int .i64 b)).run Tryz.prog w = .ok (a == b) w := fun a b w => run_equalIn_int w 9998 _ .i64 .i64 a b Tryz.underlying3
 have e2 : ∀ (a b : Bool) (w : World), (Op.equalIn 9999 4 (.bool a) (.bool b)).run Tryz.prog w = .ok (a == b) w := fun a b w => run_equalIn_bool' w 9998 _ a b Tryz.underlying4
 have e3 : ∀ (a b : List UInt8) (w : World), (Op.equalIn 9999 9 (.string ⟨a.toArray⟩) (.string ⟨b.toArray⟩)).run Tryz.prog w = .ok (a == b) w := fun a b w => by
  rw [run_equalIn_string w 9998 _ _ _ Tryz.underlying9, ByteArray.toList_eq, ByteArray.toList_eq]
 by_cases h1 : f = g <;> by_cases h2 : r = s <;> by_cases h3 : x = y <;> by_cases h4 : l = m <;> simp [Op.eqFields, part, e1, e2, e3, h1, h2, h3, h4]
theorem run_eqAct (W : World) (x y : ActS) :
  (binOp .eql 51 (.agg #[.int .i64 x.kind, .string ⟨x.name.toArray⟩, .int .u32 (x.n.toNat : Int), .string ⟨x.addr.toArray⟩]) (.agg #[.int .i64 y.kind, .string ⟨y.name.toArray⟩, .int .u32 (y.n.toNat : Int), .string ⟨y.addr.toArray⟩])).run Tryz.prog W = .ok (.bool (decide (x = y))) W := by
 obtain ⟨f, x, r, l⟩ := x
 obtain ⟨g, y, s, m⟩ := y
 have hS : Tryz.prog.underlying 51 = some (.struct (Tryz.prog.fieldsOf 51)) := by kernel_rfl
 rw [run_eql_struct, run_equalIn_agg W 9999 _ _ _ hS Tryz.stoodInHeld51]
 simp only [Program.fieldsOf, Tryz.underlying51]
 have e1 : ∀ (a b : Int) (w : World), (Op.equalIn 9999 3 (.int .i64 a) (.int .i64 b)).run Tryz.prog w = .ok (a == b) w := fun a b w => run_equalIn_int w 9998 _ .i64 .i64 a b Tryz.underlying3
 have e2 : ∀ (a b : UInt32) (w : World), (Op.equalIn 9999 49 (.int .u32 (a.toNat : Int)) (.int .u32 (b.toNat : Int))).run Tryz.prog w = .ok (a == b) w := fun a b w => by
  have key : ((a.toNat : Int) == (b.toNat : Int)) = (a == b) := by
   rw [Bool.eq_iff_iff, beq_iff_eq, beq_iff_eq, ← UInt32.toNat_inj]
   omega
  rw [← key]
  exact run_equalIn_int w 9998 _ .u32 .u32 _ _ Tryz.underlying49
 have e3 : ∀ (a b : List UInt8) (w : World), (Op.equalIn 9999 9 (.string ⟨a.toArray⟩) (.string ⟨b.toArray⟩)).run Tryz.prog w = .ok (a == b) w := fun a b w => by
  rw [run_equalIn_string w 9998 _ _ _ Tryz.underlying9, ByteArray.toList_eq, ByteArray.toList_eq]
 by_cases h1 : f = g <;> by_cases h2 : r = s <;> by_cases h3 : x = y <;> by_cases h4 : l = m <;> simp [Op.eqFields, part, e1, e2, e3, h1, h2, h3, h4]
theorem run_neq_ofB {P : Program} {T : TypeId} {xs ys : Array Value} {W : World} {b : Bool} (h1 : (binOp .eql T (.agg xs) (.agg ys)).run P W = .ok (.bool b) W) :
    (binOp .neq T (.agg xs) (.agg ys)).run P W = .ok (.bool (!b)) W := by
  rw [run_eql_struct] at h1
  rw [run_neq_struct]
  generalize (Op.equalIn 10000 T (.agg xs) (.agg ys)).run P W = q at h1 ⊢
  cases q with
  | ok b w' =>
    simp only [Result.andThen] at h1 ⊢
    injection h1 with e1 e2
    injection e1 with e1
    subst e1
    subst e2
    rfl
  | halt x w' => simp only [Result.andThen] at h1; cases h1
theorem take_step {α : Type} {l m : List α} {k : Nat} (h : l.take k = m.take k) (h1 : k < l.length) (h2 : k < m.length) (e : l[k] = m[k]) : l.take (k + 1) = m.take (k + 1) := by
 rw [List.take_succ_eq_append_getElem h1, List.take_succ_eq_append_getElem h2, h, e]
theorem term_ne (t u : TermS) (h : ¬ t = u) : decide (t = u) = false := decide_eq_false h
set_option maxRecDepth 20000 in
set_option maxHeartbeats 4000000 in
theorem DSameTerm_any (a1 : Option Addr) (c1 : Nat) (a2 : Option Addr) (c2 : Nat) (t : TermS) (b1 : Option Addr) (d1 : Nat) (b2 : Option Addr) (d2 : Nat) (u : TermS) (w : World)
  (ht1 : t.conds.length ≤ 16777216) (ht2 : t.acts.length ≤ 16777216) (hu1 : u.conds.length ≤ 16777216) (hu2 : u.acts.length ≤ 16777216)
  (s1 : Sl ECond w (· < w.heap.size) a1 t.conds) (s2 : Sl EAct w (· < w.heap.size) a2 t.acts) (r1 : Sl ECond w (· < w.heap.size) b1 u.conds) (r2 : Sl EAct w (· < w.heap.size) b2 u.acts) :
  Calls Tryz.prog 14 #[.agg #[.slice a1 t.conds.length c1, .slice a2 t.acts.length c2], .agg #[.slice b1 u.conds.length d1, .slice b2 u.acts.length d2]] w fun e w' => e = .returned (.bool (decide (t = u))) ∧ Ext w w' := by
 have mixed : Tryz.prog.follows Departure.mixedOrders = true := by kernel_rfl
 by_cases hn1 : t.conds.length = u.conds.length
 case neg =>
  rw [term_ne t u (fun e => hn1 (by rw [e]))]
  have g1 : ((t.conds.length : Int) == (u.conds.length : Int)) = false := by rw [beq_eq_false_iff_ne]; omega
  clear s1 s2 r1 r2
  go_enter Tryz.func14, Tryz.ntmps14
  go_wp2
  go_ret
  exact ⟨rfl, ((Ext.refl w).alloc _).alloc _⟩
 by_cases hn2 : t.acts.length = u.acts.length
 case neg =>
  rw [term_ne t u (fun e => hn2 (by rw [e]))]
  have g1 : ((t.acts.length : Int) == (u.acts.length : Int)) = false := by rw [beq_eq_false_iff_ne]; omega
  rw [← hn1]
  clear s1 s2 r1 r2 hn1
  go_enter Tryz.func14, Tryz.ntmps14
  go_wp2
  go_ret
  exact ⟨rfl, ((Ext.refl w).alloc _).alloc _⟩
 rw [← hn1, ← hn2]
 clear hu1 hu2
 obtain ⟨t1, t2⟩ := t
 obtain ⟨u1, u2⟩ := u
 dsimp only at *
 have heq : decide (TermS.mk t1 t2 = TermS.mk u1 u2) = (decide (t1 = u1) && decide (t2 = u2)) := by
  by_cases h1 : t1 = u1 <;> by_cases h2 : t2 = u2 <;> simp [h1, h2]
 rw [heq]
 clear heq
 have hc := fun (x y : CondS) W => run_neq_ofB (run_eqCond W x y)
 have ha := fun (x y : ActS) W => run_neq_ofB (run_eqAct W x y)
 have hgc : ∀ x y xs ys W, (eqGuard .neq 48 x y (.agg xs) (.agg ys)).run Tryz.prog W = .ok () W := fun x y xs ys W => run_eqGuard_agg W .neq _ x y xs ys Tryz.eqGuardType48
 have hga : ∀ x y xs ys W, (eqGuard .neq 51 x y (.agg xs) (.agg ys)).run Tryz.prog W = .ok () W := fun x y xs ys W => run_eqGuard_agg W .neq _ x y xs ys Tryz.eqGuardType51
 replace s1 := hide s1
 replace s2 := hide s2
 replace r1 := hide r1
 replace r2 := hide r2
 replace hc := hide hc
 replace ha := hide ha
 replace hn1 := hide hn1
 replace hn2 := hide hn2
 go_enter Tryz.func14, Tryz.ntmps14
 have S := (Blk.new w 25 #[.slice a1 t1.length c1, .slice a2 t2.length c2]).alloc (Obj.cells #[.slice b1 t1.length d1, .slice b2 t2.length d2] 25)
 have E := ((Ext.refl w).alloc (Obj.cells #[.slice a1 t1.length c1, .slice a2 t2.length c2] 25)).alloc (Obj.cells #[.slice b1 t1.length d1, .slice b2 t2.length d2] 25)
 have T := Blk.new (w.alloc (Obj.cells #[.slice a1 t1.length c1, .slice a2 t2.length c2] 25)) 25 #[.slice b1 t1.length d1, .slice b2 t2.length d2]
 rw [show (w.alloc (Obj.cells #[.slice a1 t1.length c1, .slice a2 t2.length c2] 25)).heap.size = w.heap.size + 1 by simp] at T
 generalize hW0 : (w.alloc (Obj.cells #[.slice a1 t1.length c1, .slice a2 t2.length c2] 25)).alloc (Obj.cells #[.slice b1 t1.length d1, .slice b2 t2.length d2] 25) = W0 at S E T
 generalize hg0 : w.heap.size = g0 at S T
 replace S := hide S
 replace E := hide E
 replace T := hide T
 have S_0 : W0.cell? ⟨g0, 0, none⟩ = some (.slice a1 t1.length c1) := S.out.cell 0
 have S_1 : W0.cell? ⟨g0, 1, none⟩ = some (.slice a2 t2.length c2) := S.out.cell 1
 have T_0 : W0.cell? ⟨g0 + 1, 0, none⟩ = some (.slice b1 t1.length d1) := T.out.cell 0
 have T_1 : W0.cell? ⟨g0 + 1, 1, none⟩ = some (.slice b2 t2.length d2) := T.out.cell 1
 go_wp2_with fail
 clear hW0 hg0
 go_loopw [5] (fun i wr => ∃ k : Nat, k ≤ t1.length ∧ i = .int .i64 k ∧ Ext W0 wr ∧ t1.take k = u1.take k) (fun i _ => t1.length - (intOf i).toNat)
 case atStart => exact ⟨0, Nat.zero_le _, rfl, Ext.refl _, rfl⟩
 case round =>
  clear S_0 S_1 T_0 T_1
  obtain ⟨k, hk, rfl, hE, htk⟩ := hrel
  have S : Blk wr (g0) 25 #[.slice a1 t1.length c1, .slice a2 t2.length c2] := S.out.ext hE
  replace S := hide S
  have T : Blk wr (g0 + 1) 25 #[.slice b1 t1.length d1, .slice b2 t2.length d2] := T.out.ext hE
  replace T := hide T
  have E1 := hide (E.out.trans hE)
  have S_0 : wr.cell? ⟨g0, 0, none⟩ = some (.slice a1 t1.length c1) := S.out.cell 0
  have S_1 : wr.cell? ⟨g0, 1, none⟩ = some (.slice a2 t2.length c2) := S.out.cell 1
  have T_0 : wr.cell? ⟨g0 + 1, 0, none⟩ = some (.slice b1 t1.length d1) := T.out.cell 0
  have T_1 : wr.cell? ⟨g0 + 1, 1, none⟩ = some (.slice b2 t2.length d2) := T.out.cell 1
  by_cases hlt : k < t1.length
  ·obtain ⟨b, off, rfl, _, hin, hx⟩ := ECond.at (s1.out.ext E1.out) k hlt
   obtain ⟨b', off', rfl, _, _, hy⟩ := ECond.at (r1.out.ext E1.out) k (hn1.out ▸ hlt)
   have x0 : wr.cell? ⟨b, off + k * 4, none⟩ = some (.int .i64 t1[k].kind) := hx 0 _ rfl
   have x1 : wr.cell? ⟨b, off + k * 4 + 1, none⟩ = some (.bool t1[k].neg) := hx 1 _ rfl
   have x2 : wr.cell? ⟨b, off + k * 4 + 2, none⟩ = some (.string ⟨t1[k].name.toArray⟩) := hx 2 _ rfl
   have x3 : wr.cell? ⟨b, off + k * 4 + 3, none⟩ = some (.int .i64 t1[k].n) := hx 3 _ rfl
   have y0 : wr.cell? ⟨b', off' + k * 4, none⟩ = some (.int .i64 (u1[k]'(hn1.out ▸ hlt)).kind) := hy 0 _ rfl
   have y1 : wr.cell? ⟨b', off' + k * 4 + 1, none⟩ = some (.bool (u1[k]'(hn1.out ▸ hlt)).neg) := hy 1 _ rfl
   have y2 : wr.cell? ⟨b', off' + k * 4 + 2, none⟩ = some (.string ⟨(u1[k]'(hn1.out ▸ hlt)).name.toArray⟩) := hy 2 _ rfl
   have y3 : wr.cell? ⟨b', off' + k * 4 + 3, none⟩ = some (.int .i64 (u1[k]'(hn1.out ▸ hlt)).n) := hy 3 _ rfl
   have heq := fun W => hc.out t1[k] (u1[k]'(hn1.out ▸ hlt)) W
   have hst := take_step htk hlt (hn1.out ▸ hlt)
   have hne : ¬ t1[k] = u1[k]'(hn1.out ▸ hlt) → ¬ t1 = u1 := fun h e => h (by subst e; rfl)
   clear hx hy hin
   generalize t1[k] = x at *
   generalize u1[k]'(hn1.out ▸ hlt) = y at *
   replace hE := hide hE
   replace hst := hide hst
   replace hne := hide hne
   replace htk := hide htk
   by_cases hxy : x = y
   ·have hs := hide (hst.out hxy)
    clear hst hne
    subst hxy
    simp only [decide_true, Bool.not_true] at heq
    go_wp2_with fail
    go_region
    go_wp2
    go_roundw
    case rel => exact ⟨k + 1, by omega, by go_num, hE.out.drew, hs.out⟩
    case measure => simp [intOf]; omega
   ·rw [decide_eq_false hxy] at heq
    simp only [Bool.not_false] at heq
    have hr := hide (hne.out hxy)
    clear hne hxy hst
    go_wp2_with fail
    go_region
    go_wp2
    go_ret
    exact ⟨by rw [decide_eq_false hr.out, Bool.false_and]; rfl, E1.out.drew⟩
  ·obtain rfl : k = t1.length := by omega
   have hall : t1 = u1 := by
    have h2 : t1.take t1.length = u1.take u1.length := by rw [htk, hn1.out]
    rwa [List.take_length, List.take_length] at h2
   clear hlt hk htk
   replace hE := hide hE
   replace hall := hide hall
   go_wp2_with fail
   go_loopw [6] (fun i wQ => ∃ k : Nat, k ≤ t2.length ∧ i = .int .i64 k ∧ Ext wr wQ ∧ t2.take k = u2.take k) (fun i _ => t2.length - (intOf i).toNat)
   case atStart => exact ⟨0, Nat.zero_le _, rfl, Ext.refl _, rfl⟩
   case round =>
    clear S_0 S_1 T_0 T_1
    obtain ⟨k, hk, rfl, hE2, htk⟩ := hrel
    have S : Blk wr (g0) 25 #[.slice a1 t1.length c1, .slice a2 t2.length c2] := S.out.ext hE2
    replace S := hide S
    have T : Blk wr (g0 + 1) 25 #[.slice b1 t1.length d1, .slice b2 t2.length d2] := T.out.ext hE2
    replace T := hide T
    have E2 := hide (E1.out.trans hE2)
    have S_0 : wr.cell? ⟨g0, 0, none⟩ = some (.slice a1 t1.length c1) := S.out.cell 0
    have S_1 : wr.cell? ⟨g0, 1, none⟩ = some (.slice a2 t2.length c2) := S.out.cell 1
    have T_0 : wr.cell? ⟨g0 + 1, 0, none⟩ = some (.slice b1 t1.length d1) := T.out.cell 0
    have T_1 : wr.cell? ⟨g0 + 1, 1, none⟩ = some (.slice b2 t2.length d2) := T.out.cell 1
    by_cases hlt : k < t2.length
    ·obtain ⟨b, off, rfl, _, hin, hx⟩ := EAct.at (s2.out.ext E2.out) k hlt
     obtain ⟨b', off', rfl, _, _, hy⟩ := EAct.at (r2.out.ext E2.out) k (hn2.out ▸ hlt)
     have x0 : wr.cell? ⟨b, off + k * 4, none⟩ = some (.int .i64 t2[k].kind) := hx 0 _ rfl
     have x1 : wr.cell? ⟨b, off + k * 4 + 1, none⟩ = some (.string ⟨t2[k].name.toArray⟩) := hx 1 _ rfl
     have x2 : wr.cell? ⟨b, off + k * 4 + 2, none⟩ = some (.int .u32 (t2[k].n.toNat : Int)) := hx 2 _ rfl
     have x3 : wr.cell? ⟨b, off + k * 4 + 3, none⟩ = some (.string ⟨t2[k].addr.toArray⟩) := hx 3 _ rfl
     have y0 : wr.cell? ⟨b', off' + k * 4, none⟩ = some (.int .i64 (u2[k]'(hn2.out ▸ hlt)).kind) := hy 0 _ rfl
     have y1 : wr.cell? ⟨b', off' + k * 4 + 1, none⟩ = some (.string ⟨(u2[k]'(hn2.out ▸ hlt)).name.toArray⟩) := hy 1 _ rfl
     have y2 : wr.cell? ⟨b', off' + k * 4 + 2, none⟩ = some (.int .u32 ((u2[k]'(hn2.out ▸ hlt)).n.toNat : Int)) := hy 2 _ rfl
     have y3 : wr.cell? ⟨b', off' + k * 4 + 3, none⟩ = some (.string ⟨(u2[k]'(hn2.out ▸ hlt)).addr.toArray⟩) := hy 3 _ rfl
     have heq := fun W => ha.out t2[k] (u2[k]'(hn2.out ▸ hlt)) W
     have hst := take_step htk hlt (hn2.out ▸ hlt)
     have hne : ¬ t2[k] = u2[k]'(hn2.out ▸ hlt) → ¬ t2 = u2 := fun h e => h (by subst e; rfl)
     clear hx hy hin
     generalize t2[k] = x at *
     generalize u2[k]'(hn2.out ▸ hlt) = y at *
     replace hE2 := hide hE2
     replace hst := hide hst
     replace hne := hide hne
     replace htk := hide htk
     by_cases hxy : x = y
     ·have hs := hide (hst.out hxy)
      clear hst hne
      subst hxy
      simp only [decide_true, Bool.not_true] at heq
      go_wp2_with fail
      go_region
      go_wp2
      go_roundw
      case rel => exact ⟨k + 1, by omega, by go_num, hE2.out.drew, hs.out⟩
      case measure => simp [intOf]; omega
     ·rw [decide_eq_false hxy] at heq
      simp only [Bool.not_false] at heq
      have hr := hide (hne.out hxy)
      clear hne hxy hst
      go_wp2_with fail
      go_region
      go_wp2
      go_ret
      exact ⟨by rw [decide_eq_false hr.out, Bool.and_false]; rfl, E2.out.drew⟩
    ·obtain rfl : k = t2.length := by omega
     have hall2 : t2 = u2 := by
      have h2 : t2.take t2.length = u2.take u2.length := by rw [htk, hn2.out]
      rwa [List.take_length, List.take_length] at h2
     clear hlt hk htk
     replace hE2 := hide hE2
     replace hall2 := hide hall2
     go_wp2_with fail
     go_ret
     exact ⟨by rw [decide_eq_true hall.out, decide_eq_true hall2.out]; rfl, E2.out⟩
end
section
open Go.RowKit
set_option linter.unusedVariables false
set_option maxRecDepth 20000 in
set_option maxHeartbeats 2000000 in
theorem DName_any (s : List UInt8) (w : World) : Calls Tryz.prog 121 #[.string ⟨s.toArray⟩] w fun e w' => e = .returned (.bool (nameOk s)) ∧ w = w' := by
  have hz : (ByteArray.mk s.toArray).size = s.length := by simp [ByteArray.size]
  cases s with
  | nil =>
    go_enter Tryz.func121, Tryz.ntmps121
    go_wp2
    go_ret
    exact ⟨rfl, rfl⟩
  | cons x t =>
    have hix := ba_index0 (x :: t) x t rfl
    have hdef : nameOk (x :: t) = (decide ((x :: t).length ≤ 16) && (decide (97 ≤ x.toNat) && (x :: t).all nameCh)) := by
      unfold nameOk
      rw [decide_eq_true (p := 1 ≤ (x :: t).length) (by simp), Bool.true_and]
      rfl
    have hlen : 1 ≤ (x :: t).length := by simp
    have hhd : ∀ h : 0 < (x :: t).length, (x :: t)[0] = x := fun _ => rfl
    generalize hs : x :: t = s at *
    have e1 : decide ((s.length : Int) < 1) = false := decide_eq_false (by omega)
    by_cases h16 : 16 < s.length
    · have e2 : decide ((16 : Int) < (s.length : Int)) = true := decide_eq_true (by omega)
      have hr := hide (show nameOk s = false by rw [hdef, decide_eq_false (by omega), Bool.false_and])
      clear h16 hdef hs hhd
      go_enter Tryz.func121, Tryz.ntmps121
      go_wp2
      go_ret
      exact ⟨ret_bool hr.out.symm, rfl⟩
    have e2 : decide ((16 : Int) < (s.length : Int)) = false := decide_eq_false (by omega)
    rw [decide_eq_true (p := s.length ≤ 16) (by omega), Bool.true_and] at hdef
    by_cases h97 : x.toNat < 97
    · have e3 : decide ((x.toNat : Int) < 97) = true := decide_eq_true (by omega)
      have hr := hide (show nameOk s = false by rw [hdef, decide_eq_false (by omega), Bool.false_and])
      clear h16 hdef hs hhd h97
      go_enter Tryz.func121, Tryz.ntmps121
      go_wp2
      go_ret
      exact ⟨ret_bool hr.out.symm, rfl⟩
    have e3 : decide ((x.toNat : Int) < 97) = false := decide_eq_false (by omega)
    rw [decide_eq_true (p := 97 ≤ x.toNat) (by omega), Bool.true_and] at hdef
    by_cases h122 : 122 < x.toNat
    · have e4 : decide ((122 : Int) < (x.toNat : Int)) = true := decide_eq_true (by omega)
      have hr := hide (show nameOk s = false by
        rw [hdef, ← hs, List.all_cons]
        have : nameCh x = false := by unfold nameCh runeOk; simp; omega
        rw [this, Bool.false_and])
      clear h16 hdef hs hhd h97 h122
      go_enter Tryz.func121, Tryz.ntmps121
      go_wp2
      go_ret
      exact ⟨ret_bool hr.out.symm, rfl⟩
    have e4 : decide ((122 : Int) < (x.toNat : Int)) = false := decide_eq_false (by omega)
    have hle : s.length ≤ 16 := by omega
    clear hs hhd h16 h97 h122
    replace hdef := hide hdef
    go_enter Tryz.func121, Tryz.ntmps121
    go_wp2
    clear hix e1 e2 e3 e4
    go_loop [3] (fun i => ∃ k : Nat, k ≤ s.length ∧ i = .int .i64 k ∧ (s.take k).all nameCh = true) (fun i => s.length - (intOf i).toNat)
    case atStart => exact ⟨0, Nat.zero_le _, rfl, rfl⟩
    case round =>
      obtain ⟨k, hk, rfl, ha⟩ := hrel
      by_cases hlt : k < s.length
      · have e1 : (ByteArray.mk s.toArray)[k]'(by rw [hz]; exact hlt) = s[k] := rfl
        have hsu := allN_succ16 s k hlt
        rw [ha, Bool.true_and] at hsu
        have hbad : nameCh s[k] = false → nameOk s = false := fun h => by
          rw [hdef.out, List.all_eq_false]
          exact ⟨s[k], List.getElem_mem hlt, by rw [h]; decide⟩
        obtain ⟨b1, b2, b3, b4, b5, r, d1, d2, d3, d4, d5, d6, d7⟩ := nameCh_cases16 s[k]
        rw [d6] at hsu hbad
        clear d6 ha
        generalize s[k] = c at *
        replace hsu := hide hsu
        replace hbad := hide hbad
        cases b1 <;> cases b2 <;> cases b3 <;> cases b4 <;> cases b5 <;> subst d7 <;> first
          | (go_wp2; go_round; (case rel => exact ⟨k + 1, by omega, by go_num, hsu.out⟩); (case measure => simp [intOf]; omega))
          | (go_wp2; go_ret; exact ⟨ret_bool (hbad.out rfl).symm, rfl⟩)
      · obtain rfl : k = s.length := by omega
        have hr := hide (show nameOk s = true by rw [hdef.out]; rwa [List.take_length] at ha)
        clear ha
        go_wp2
        go_ret
        exact ⟨ret_bool hr.out.symm, rfl⟩
set_option maxRecDepth 20000 in
attribute [local go_sem ↓] Go.wp_at_zero Go.wp_at_succ
set_option maxRecDepth 20000 in
set_option maxHeartbeats 4000000 in
theorem DCond1 (neg : Bool) (name : List UInt8) (n : Int) (w : World) :
    Calls Tryz.prog 93 #[.agg #[.int .i64 1, .bool neg, .string ⟨name.toArray⟩, .int .i64 n]] w fun e w' => e = .returned (.bool (nameOk name && decide (n = 0))) ∧ Ext w w' := by
  have q := fun W => DName_any name W
  generalize nameOk name = nk at *
  replace q := hide q
  go_enter Tryz.func93, Tryz.ntmps93
  go_wp2_with fail
  refine (q.out _).mono ?_
  rintro e _ ⟨rfl, rfl⟩
  cases nk with
  | false =>
    go_wp2_with fail
    go_ret
    exact ⟨by simp, ((Ext.refl w).alloc _).alloc _⟩
  | true =>
    by_cases hn : n = 0
    · subst hn
      go_wp2_with fail
      go_ret
      exact ⟨by simp, ((Ext.refl w).alloc _).alloc _⟩
    · have hnb : (n == 0) = false := by simpa using hn
      go_wp2_with fail
      go_ret
      exact ⟨by first | (simp; done) | simp [hn], ((Ext.refl w).alloc _).alloc _⟩
set_option maxRecDepth 20000 in
set_option maxHeartbeats 4000000 in
theorem DCond2 (neg : Bool) (name : List UInt8) (n : Int) (w : World) :
    Calls Tryz.prog 93 #[.agg #[.int .i64 2, .bool neg, .string ⟨name.toArray⟩, .int .i64 n]] w fun e w' => e = .returned (.bool (nameOk name && decide (n = 0))) ∧ Ext w w' := by
  have q := fun W => DName_any name W
  generalize nameOk name = nk at *
  replace q := hide q
  go_enter Tryz.func93, Tryz.ntmps93
  go_wp2_with fail
  refine (q.out _).mono ?_
  rintro e _ ⟨rfl, rfl⟩
  cases nk with
  | false =>
    go_wp2_with fail
    go_ret
    exact ⟨by simp, ((Ext.refl w).alloc _).alloc _⟩
  | true =>
    by_cases hn : n = 0
    · subst hn
      go_wp2_with fail
      go_ret
      exact ⟨by simp, ((Ext.refl w).alloc _).alloc _⟩
    · have hnb : (n == 0) = false := by simpa using hn
      go_wp2_with fail
      go_ret
      exact ⟨by first | (simp; done) | simp [hn], ((Ext.refl w).alloc _).alloc _⟩
set_option maxRecDepth 20000 in
set_option maxHeartbeats 4000000 in
theorem DCond3 (neg : Bool) (name : List UInt8) (n : Int) (w : World) :
    Calls Tryz.prog 93 #[.agg #[.int .i64 3, .bool neg, .string ⟨name.toArray⟩, .int .i64 n]] w fun e w' => e = .returned (.bool (nameOk name && decide (n = 0))) ∧ Ext w w' := by
  have q := fun W => DName_any name W
  generalize nameOk name = nk at *
  replace q := hide q
  go_enter Tryz.func93, Tryz.ntmps93
  go_wp2_with fail
  refine (q.out _).mono ?_
  rintro e _ ⟨rfl, rfl⟩
  cases nk with
  | false =>
    go_wp2_with fail
    go_ret
    exact ⟨by simp, ((Ext.refl w).alloc _).alloc _⟩
  | true =>
    by_cases hn : n = 0
    · subst hn
      go_wp2_with fail
      go_ret
      exact ⟨by simp, ((Ext.refl w).alloc _).alloc _⟩
    · have hnb : (n == 0) = false := by simpa using hn
      go_wp2_with fail
      go_ret
      exact ⟨by first | (simp; done) | simp [hn], ((Ext.refl w).alloc _).alloc _⟩
set_option maxRecDepth 20000 in
set_option maxHeartbeats 4000000 in
theorem DCond4 (neg : Bool) (name : List UInt8) (n : Int) (w : World) :
    Calls Tryz.prog 93 #[.agg #[.int .i64 4, .bool neg, .string ⟨name.toArray⟩, .int .i64 n]] w fun e w' => e = .returned (.bool (nameOk name && decide (n = 0))) ∧ Ext w w' := by
  have q := fun W => DName_any name W
  generalize nameOk name = nk at *
  replace q := hide q
  go_enter Tryz.func93, Tryz.ntmps93
  go_wp2_with fail
  refine (q.out _).mono ?_
  rintro e _ ⟨rfl, rfl⟩
  cases nk with
  | false =>
    go_wp2_with fail
    go_ret
    exact ⟨by simp, ((Ext.refl w).alloc _).alloc _⟩
  | true =>
    by_cases hn : n = 0
    · subst hn
      go_wp2_with fail
      go_ret
      exact ⟨by simp, ((Ext.refl w).alloc _).alloc _⟩
    · have hnb : (n == 0) = false := by simpa using hn
      go_wp2_with fail
      go_ret
      exact ⟨by first | (simp; done) | simp [hn], ((Ext.refl w).alloc _).alloc _⟩
set_option maxRecDepth 20000 in
set_option maxHeartbeats 4000000 in
theorem DCond5 (neg : Bool) (name : List UInt8) (n : Int) (w : World) :
  Calls Tryz.prog 93 #[.agg #[.int .i64 5, .bool neg, .string ⟨name.toArray⟩, .int .i64 n]] w fun e w' => e = .returned (.bool (decide (0 ≤ n ∧ n ≤ 2) && decide (name = []))) ∧ Ext w w' := by
 have hcs : (decide (0 ≤ n) = false ∧ decide (0 ≤ n ∧ n ≤ 2) = false) ∨ (decide (0 ≤ n) = true ∧ decide (n ≤ 2) = false ∧ decide (0 ≤ n ∧ n ≤ 2) = false) ∨ (decide (0 ≤ n) = true ∧ decide (n ≤ 2) = true ∧ decide (0 ≤ n ∧ n ≤ 2) = true) := by
  by_cases h1 : 0 ≤ n
  ·by_cases h2 : n ≤ 2
   ·exact .inr (.inr ⟨decide_eq_true h1, decide_eq_true h2, decide_eq_true ⟨h1, h2⟩⟩)
   ·exact .inr (.inl ⟨decide_eq_true h1, decide_eq_false h2, decide_eq_false fun h => h2 h.2⟩)
  ·exact .inl ⟨decide_eq_false h1, decide_eq_false fun h => h1 h.1⟩
 generalize decide (0 ≤ n ∧ n ≤ 2) = r at *
 rcases hcs with ⟨h1, rfl⟩ | ⟨h1, h2, rfl⟩ | ⟨h1, h2, rfl⟩
 ·go_enter Tryz.func93, Tryz.ntmps93
  go_wp2_with fail
  go_ret
  exact ⟨by simp, ((Ext.refl w).alloc _).alloc _⟩
 ·go_enter Tryz.func93, Tryz.ntmps93
  go_wp2_with fail
  go_ret
  exact ⟨by simp, ((Ext.refl w).alloc _).alloc _⟩
 ·by_cases hn : name = []
  ·subst hn
   go_enter Tryz.func93, Tryz.ntmps93
   go_wp2_with fail
   go_ret
   exact ⟨by simp, ((Ext.refl w).alloc _).alloc _⟩
  ·have hnb : (name == []) = false := by simpa using hn
   go_enter Tryz.func93, Tryz.ntmps93
   go_wp2_with fail
   go_ret
   exact ⟨by first | (simp; done) | simp [hn], ((Ext.refl w).alloc _).alloc _⟩
set_option maxRecDepth 20000 in
set_option maxHeartbeats 4000000 in
theorem DCond6 (neg : Bool) (name : List UInt8) (n : Int) (w : World) :
  Calls Tryz.prog 93 #[.agg #[.int .i64 6, .bool neg, .string ⟨name.toArray⟩, .int .i64 n]] w fun e w' => e = .returned (.bool (decide (0 ≤ n ∧ n ≤ 65535) && decide (name = []))) ∧ Ext w w' := by
 have hcs : (decide (0 ≤ n) = false ∧ decide (0 ≤ n ∧ n ≤ 65535) = false) ∨ (decide (0 ≤ n) = true ∧ decide (n ≤ 65535) = false ∧ decide (0 ≤ n ∧ n ≤ 65535) = false) ∨ (decide (0 ≤ n) = true ∧ decide (n ≤ 65535) = true ∧ decide (0 ≤ n ∧ n ≤ 65535) = true) := by
  by_cases h1 : 0 ≤ n
  ·by_cases h2 : n ≤ 65535
   ·exact .inr (.inr ⟨decide_eq_true h1, decide_eq_true h2, decide_eq_true ⟨h1, h2⟩⟩)
   ·exact .inr (.inl ⟨decide_eq_true h1, decide_eq_false h2, decide_eq_false fun h => h2 h.2⟩)
  ·exact .inl ⟨decide_eq_false h1, decide_eq_false fun h => h1 h.1⟩
 generalize decide (0 ≤ n ∧ n ≤ 65535) = r at *
 rcases hcs with ⟨h1, rfl⟩ | ⟨h1, h2, rfl⟩ | ⟨h1, h2, rfl⟩
 ·go_enter Tryz.func93, Tryz.ntmps93
  go_wp2_with fail
  go_ret
  exact ⟨by simp, ((Ext.refl w).alloc _).alloc _⟩
 ·go_enter Tryz.func93, Tryz.ntmps93
  go_wp2_with fail
  go_ret
  exact ⟨by simp, ((Ext.refl w).alloc _).alloc _⟩
 ·by_cases hn : name = []
  ·subst hn
   go_enter Tryz.func93, Tryz.ntmps93
   go_wp2_with fail
   go_ret
   exact ⟨by simp, ((Ext.refl w).alloc _).alloc _⟩
  ·have hnb : (name == []) = false := by simpa using hn
   go_enter Tryz.func93, Tryz.ntmps93
   go_wp2_with fail
   go_ret
   exact ⟨by first | (simp; done) | simp [hn], ((Ext.refl w).alloc _).alloc _⟩
set_option maxRecDepth 20000 in
set_option maxHeartbeats 4000000 in
theorem DCond7 (neg : Bool) (name : List UInt8) (n : Int) (w : World) :
  Calls Tryz.prog 93 #[.agg #[.int .i64 7, .bool neg, .string ⟨name.toArray⟩, .int .i64 n]] w fun e w' => e = .returned (.bool (decide (1 ≤ n ∧ n ≤ 5) && decide (name = []))) ∧ Ext w w' := by
 have hcs : (decide (1 ≤ n) = false ∧ decide (1 ≤ n ∧ n ≤ 5) = false) ∨ (decide (1 ≤ n) = true ∧ decide (n ≤ 5) = false ∧ decide (1 ≤ n ∧ n ≤ 5) = false) ∨ (decide (1 ≤ n) = true ∧ decide (n ≤ 5) = true ∧ decide (1 ≤ n ∧ n ≤ 5) = true) := by
  by_cases h1 : 1 ≤ n
  ·by_cases h2 : n ≤ 5
   ·exact .inr (.inr ⟨decide_eq_true h1, decide_eq_true h2, decide_eq_true ⟨h1, h2⟩⟩)
   ·exact .inr (.inl ⟨decide_eq_true h1, decide_eq_false h2, decide_eq_false fun h => h2 h.2⟩)
  ·exact .inl ⟨decide_eq_false h1, decide_eq_false fun h => h1 h.1⟩
 generalize decide (1 ≤ n ∧ n ≤ 5) = r at *
 rcases hcs with ⟨h1, rfl⟩ | ⟨h1, h2, rfl⟩ | ⟨h1, h2, rfl⟩
 ·go_enter Tryz.func93, Tryz.ntmps93
  go_wp2_with fail
  go_ret
  exact ⟨by simp, ((Ext.refl w).alloc _).alloc _⟩
 ·go_enter Tryz.func93, Tryz.ntmps93
  go_wp2_with fail
  go_ret
  exact ⟨by simp, ((Ext.refl w).alloc _).alloc _⟩
 ·by_cases hn : name = []
  ·subst hn
   go_enter Tryz.func93, Tryz.ntmps93
   go_wp2_with fail
   go_ret
   exact ⟨by simp, ((Ext.refl w).alloc _).alloc _⟩
  ·have hnb : (name == []) = false := by simpa using hn
   go_enter Tryz.func93, Tryz.ntmps93
   go_wp2_with fail
   go_ret
   exact ⟨by first | (simp; done) | simp [hn], ((Ext.refl w).alloc _).alloc _⟩
set_option maxRecDepth 20000 in
set_option maxHeartbeats 4000000 in
theorem DCond0 (k : Int) (neg : Bool) (name : List UInt8) (n : Int) (w : World) (h1 : ¬ k = 1) (h2 : ¬ k = 2) (h3 : ¬ k = 3) (h4 : ¬ k = 4) (h5 : ¬ k = 5) (h6 : ¬ k = 6) (h7 : ¬ k = 7) :
  Calls Tryz.prog 93 #[.agg #[.int .i64 k, .bool neg, .string ⟨name.toArray⟩, .int .i64 n]] w fun e w' => e = .returned (.bool false) ∧ Ext w w' := by
 have g1 : (k == 1) = false := by simpa using h1
 have g2 : (k == 2) = false := by simpa using h2
 have g3 : (k == 3) = false := by simpa using h3
 have g4 : (k == 4) = false := by simpa using h4
 have g5 : (k == 5) = false := by simpa using h5
 have g6 : (k == 6) = false := by simpa using h6
 have g7 : (k == 7) = false := by simpa using h7
 clear h1 h2 h3 h4 h5 h6 h7
 go_enter Tryz.func93, Tryz.ntmps93
 go_wp2_with fail
 go_ret
 exact ⟨rfl, ((Ext.refl w).alloc _).alloc _⟩
theorem DCond_any (c : CondS) (w : World) :
  Calls Tryz.prog 93 #[.agg (condCs c).toArray] w fun e w' => e = .returned (.bool (condOk c)) ∧ Ext w w' := by
 obtain ⟨k, neg, name, n⟩ := c
 unfold condOk
 dsimp only
 by_cases h : k = 1 ∨ k = 2 ∨ k = 3 ∨ k = 4
 ·rw [if_pos h]
  rcases h with rfl | rfl | rfl | rfl
  ·exact DCond1 neg name n w
  ·exact DCond2 neg name n w
  ·exact DCond3 neg name n w
  ·exact DCond4 neg name n w
 rw [if_neg h]
 by_cases h5 : k = 5
 ·rw [if_pos h5]
  subst h5
  exact DCond5 neg name n w
 rw [if_neg h5]
 by_cases h6 : k = 6
 ·rw [if_pos h6]
  subst h6
  exact DCond6 neg name n w
 rw [if_neg h6]
 by_cases h7 : k = 7
 ·rw [if_pos h7]
  subst h7
  exact DCond7 neg name n w
 rw [if_neg h7]
 exact DCond0 k neg name n w (fun e => h (.inl e)) (fun e => h (.inr (.inl e))) (fun e => h (.inr (.inr (.inl e)))) (fun e => h (.inr (.inr (.inr e)))) h5 h6 h7
set_option maxRecDepth 20000 in
set_option maxHeartbeats 4000000 in
theorem DAct1 (name : List UInt8) (n : UInt32) (addr : List UInt8) (w : World) :
  Calls Tryz.prog 94 #[.agg #[.int .i64 1, .string ⟨name.toArray⟩, .int .u32 (n.toNat : Int), .string ⟨addr.toArray⟩]] w fun e w' => e = .returned (.bool (decide (name = []) && (decide (n = 0) && decide (addr = [])))) ∧ Ext w w' := by
 by_cases hname : name = []
 ·subst hname
  by_cases hn : n = 0
  ·subst hn
   have hz0 : ((0 : UInt32).toNat : Int) = 0 := rfl
   by_cases haddr : addr = []
   ·subst haddr
    go_enter Tryz.func94, Tryz.ntmps94
    go_wp2_with fail
    go_ret
    exact ⟨by simp, ((Ext.refl w).alloc _).alloc _⟩
   ·have hbaddr : (addr == []) = false := by simpa using haddr
    go_enter Tryz.func94, Tryz.ntmps94
    go_wp2_with fail
    go_ret
    exact ⟨by first | (simp; done) | simp [haddr], ((Ext.refl w).alloc _).alloc _⟩
  ·have hnb : ((n.toNat : Int) == 0) = false := by rw [beq_eq_false_iff_ne]; intro h; exact hn (UInt32.toNat_inj.1 (by rw [show (0 : UInt32).toNat = 0 from rfl]; omega))
   have hnb2 : (n.toNat == 0) = false := by rw [beq_eq_false_iff_ne]; intro h; exact hn (UInt32.toNat_inj.1 (by rw [show (0 : UInt32).toNat = 0 from rfl]; omega))
   have hnb3 : ¬ n.toNat = 0 := by simpa using hnb2
   go_enter Tryz.func94, Tryz.ntmps94
   go_wp2_with fail
   go_ret
   exact ⟨by first | (simp; done) | simp [hn], ((Ext.refl w).alloc _).alloc _⟩
 ·have hbname : (name == []) = false := by simpa using hname
  go_enter Tryz.func94, Tryz.ntmps94
  go_wp2_with fail
  go_ret
  exact ⟨by first | (simp; done) | simp [hname], ((Ext.refl w).alloc _).alloc _⟩
set_option maxRecDepth 20000 in
set_option maxHeartbeats 4000000 in
theorem DAct2 (name : List UInt8) (n : UInt32) (addr : List UInt8) (w : World) :
  Calls Tryz.prog 94 #[.agg #[.int .i64 2, .string ⟨name.toArray⟩, .int .u32 (n.toNat : Int), .string ⟨addr.toArray⟩]] w fun e w' => e = .returned (.bool (decide (name = []) && (decide (n = 0) && decide (addr = [])))) ∧ Ext w w' := by
 by_cases hname : name = []
 ·subst hname
  by_cases hn : n = 0
  ·subst hn
   have hz0 : ((0 : UInt32).toNat : Int) = 0 := rfl
   by_cases haddr : addr = []
   ·subst haddr
    go_enter Tryz.func94, Tryz.ntmps94
    go_wp2_with fail
    go_ret
    exact ⟨by simp, ((Ext.refl w).alloc _).alloc _⟩
   ·have hbaddr : (addr == []) = false := by simpa using haddr
    go_enter Tryz.func94, Tryz.ntmps94
    go_wp2_with fail
    go_ret
    exact ⟨by first | (simp; done) | simp [haddr], ((Ext.refl w).alloc _).alloc _⟩
  ·have hnb : ((n.toNat : Int) == 0) = false := by rw [beq_eq_false_iff_ne]; intro h; exact hn (UInt32.toNat_inj.1 (by rw [show (0 : UInt32).toNat = 0 from rfl]; omega))
   have hnb2 : (n.toNat == 0) = false := by rw [beq_eq_false_iff_ne]; intro h; exact hn (UInt32.toNat_inj.1 (by rw [show (0 : UInt32).toNat = 0 from rfl]; omega))
   have hnb3 : ¬ n.toNat = 0 := by simpa using hnb2
   go_enter Tryz.func94, Tryz.ntmps94
   go_wp2_with fail
   go_ret
   exact ⟨by first | (simp; done) | simp [hn], ((Ext.refl w).alloc _).alloc _⟩
 ·have hbname : (name == []) = false := by simpa using hname
  go_enter Tryz.func94, Tryz.ntmps94
  go_wp2_with fail
  go_ret
  exact ⟨by first | (simp; done) | simp [hname], ((Ext.refl w).alloc _).alloc _⟩
set_option maxRecDepth 20000 in
set_option maxHeartbeats 4000000 in
theorem DAct5 (name : List UInt8) (n : UInt32) (addr : List UInt8) (w : World) :
  Calls Tryz.prog 94 #[.agg #[.int .i64 5, .string ⟨name.toArray⟩, .int .u32 (n.toNat : Int), .string ⟨addr.toArray⟩]] w fun e w' => e = .returned (.bool (decide (name = []) && (decide (n = 0) && decide (addr = [])))) ∧ Ext w w' := by
 by_cases hname : name = []
 ·subst hname
  by_cases hn : n = 0
  ·subst hn
   have hz0 : ((0 : UInt32).toNat : Int) = 0 := rfl
   by_cases haddr : addr = []
   ·subst haddr
    go_enter Tryz.func94, Tryz.ntmps94
    go_wp2_with fail
    go_ret
    exact ⟨by simp, ((Ext.refl w).alloc _).alloc _⟩
   ·have hbaddr : (addr == []) = false := by simpa using haddr
    go_enter Tryz.func94, Tryz.ntmps94
    go_wp2_with fail
    go_ret
    exact ⟨by first | (simp; done) | simp [haddr], ((Ext.refl w).alloc _).alloc _⟩
  ·have hnb : ((n.toNat : Int) == 0) = false := by rw [beq_eq_false_iff_ne]; intro h; exact hn (UInt32.toNat_inj.1 (by rw [show (0 : UInt32).toNat = 0 from rfl]; omega))
   have hnb2 : (n.toNat == 0) = false := by rw [beq_eq_false_iff_ne]; intro h; exact hn (UInt32.toNat_inj.1 (by rw [show (0 : UInt32).toNat = 0 from rfl]; omega))
   have hnb3 : ¬ n.toNat = 0 := by simpa using hnb2
   go_enter Tryz.func94, Tryz.ntmps94
   go_wp2_with fail
   go_ret
   exact ⟨by first | (simp; done) | simp [hn], ((Ext.refl w).alloc _).alloc _⟩
 ·have hbname : (name == []) = false := by simpa using hname
  go_enter Tryz.func94, Tryz.ntmps94
  go_wp2_with fail
  go_ret
  exact ⟨by first | (simp; done) | simp [hname], ((Ext.refl w).alloc _).alloc _⟩
set_option maxRecDepth 20000 in
set_option maxHeartbeats 4000000 in
theorem DAct3 (name : List UInt8) (n : UInt32) (addr : List UInt8) (w : World) :
  Calls Tryz.prog 94 #[.agg #[.int .i64 3, .string ⟨name.toArray⟩, .int .u32 (n.toNat : Int), .string ⟨addr.toArray⟩]] w fun e w' => e = .returned (.bool (decide (name = []) && decide (addr = []))) ∧ Ext w w' := by
 by_cases hname : name = []
 ·subst hname
  by_cases haddr : addr = []
  ·subst haddr
   go_enter Tryz.func94, Tryz.ntmps94
   go_wp2_with fail
   go_ret
   exact ⟨by simp, ((Ext.refl w).alloc _).alloc _⟩
  ·have hbaddr : (addr == []) = false := by simpa using haddr
   go_enter Tryz.func94, Tryz.ntmps94
   go_wp2_with fail
   go_ret
   exact ⟨by first | (simp; done) | simp [haddr], ((Ext.refl w).alloc _).alloc _⟩
 ·have hbname : (name == []) = false := by simpa using hname
  go_enter Tryz.func94, Tryz.ntmps94
  go_wp2_with fail
  go_ret
  exact ⟨by first | (simp; done) | simp [hname], ((Ext.refl w).alloc _).alloc _⟩
set_option maxRecDepth 20000 in
set_option maxHeartbeats 4000000 in
theorem DAct4 (name : List UInt8) (n : UInt32) (addr : List UInt8) (w : World) :
  Calls Tryz.prog 94 #[.agg #[.int .i64 4, .string ⟨name.toArray⟩, .int .u32 (n.toNat : Int), .string ⟨addr.toArray⟩]] w fun e w' => e = .returned (.bool (decide (name = []) && decide (addr = []))) ∧ Ext w w' := by
 by_cases hname : name = []
 ·subst hname
  by_cases haddr : addr = []
  ·subst haddr
   go_enter Tryz.func94, Tryz.ntmps94
   go_wp2_with fail
   go_ret
   exact ⟨by simp, ((Ext.refl w).alloc _).alloc _⟩
  ·have hbaddr : (addr == []) = false := by simpa using haddr
   go_enter Tryz.func94, Tryz.ntmps94
   go_wp2_with fail
   go_ret
   exact ⟨by first | (simp; done) | simp [haddr], ((Ext.refl w).alloc _).alloc _⟩
 ·have hbname : (name == []) = false := by simpa using hname
  go_enter Tryz.func94, Tryz.ntmps94
  go_wp2_with fail
  go_ret
  exact ⟨by first | (simp; done) | simp [hname], ((Ext.refl w).alloc _).alloc _⟩
set_option maxRecDepth 20000 in
set_option maxHeartbeats 4000000 in
theorem DAct6 (name : List UInt8) (n : UInt32) (addr : List UInt8) (w : World) :
  Calls Tryz.prog 94 #[.agg #[.int .i64 6, .string ⟨name.toArray⟩, .int .u32 (n.toNat : Int), .string ⟨addr.toArray⟩]] w fun e w' => e = .returned (.bool (decide (name = []) && decide (addr = []))) ∧ Ext w w' := by
 by_cases hname : name = []
 ·subst hname
  by_cases haddr : addr = []
  ·subst haddr
   go_enter Tryz.func94, Tryz.ntmps94
   go_wp2_with fail
   go_ret
   exact ⟨by simp, ((Ext.refl w).alloc _).alloc _⟩
  ·have hbaddr : (addr == []) = false := by simpa using haddr
   go_enter Tryz.func94, Tryz.ntmps94
   go_wp2_with fail
   go_ret
   exact ⟨by first | (simp; done) | simp [haddr], ((Ext.refl w).alloc _).alloc _⟩
 ·have hbname : (name == []) = false := by simpa using hname
  go_enter Tryz.func94, Tryz.ntmps94
  go_wp2_with fail
  go_ret
  exact ⟨by first | (simp; done) | simp [hname], ((Ext.refl w).alloc _).alloc _⟩
set_option maxRecDepth 20000 in
set_option maxHeartbeats 4000000 in
theorem DAct7 (name : List UInt8) (n : UInt32) (addr : List UInt8) (w : World) :
    Calls Tryz.prog 94 #[.agg #[.int .i64 7, .string ⟨name.toArray⟩, .int .u32 (n.toNat : Int), .string ⟨addr.toArray⟩]] w fun e w' => e = .returned (.bool (nameOk name && (decide (n = 0) && decide (addr = [])))) ∧ Ext w w' := by
  have q := fun W => DName_any name W
  generalize nameOk name = nk at *
  replace q := hide q
  go_enter Tryz.func94, Tryz.ntmps94
  go_wp2_with fail
  refine (q.out _).mono ?_
  rintro e _ ⟨rfl, rfl⟩
  cases nk with
  | false =>
    go_wp2_with fail
    go_ret
    exact ⟨by simp, ((Ext.refl w).alloc _).alloc _⟩
  | true =>
    by_cases hn : n = 0
    · subst hn
      have hz0 : ((0 : UInt32).toNat : Int) = 0 := rfl
      by_cases haddr : addr = []
      · subst haddr
        go_wp2_with fail
        go_ret
        exact ⟨by simp, ((Ext.refl w).alloc _).alloc _⟩
      · have hbaddr : (addr == []) = false := by simpa using haddr
        go_wp2_with fail
        go_ret
        exact ⟨by first | (simp; done) | simp [haddr], ((Ext.refl w).alloc _).alloc _⟩
    · have hnb : ((n.toNat : Int) == 0) = false := by rw [beq_eq_false_iff_ne]; intro h; exact hn (UInt32.toNat_inj.1 (by rw [show (0 : UInt32).toNat = 0 from rfl]; omega))
      have hnb2 : (n.toNat == 0) = false := by rw [beq_eq_false_iff_ne]; intro h; exact hn (UInt32.toNat_inj.1 (by rw [show (0 : UInt32).toNat = 0 from rfl]; omega))
      have hnb3 : ¬ n.toNat = 0 := by simpa using hnb2
      go_wp2_with fail
      go_ret
      exact ⟨by first | (simp; done) | simp [hn], ((Ext.refl w).alloc _).alloc _⟩
set_option maxRecDepth 20000 in
set_option maxHeartbeats 4000000 in
theorem DAct8 (name : List UInt8) (n : UInt32) (addr : List UInt8) (w : World) :
  Calls Tryz.prog 94 #[.agg #[.int .i64 8, .string ⟨name.toArray⟩, .int .u32 (n.toNat : Int), .string ⟨addr.toArray⟩]] w fun e w' => e = .returned (.bool (decide (1 ≤ n.toNat ∧ n.toNat ≤ 8) && (decide (name = []) && decide (addr = [])))) ∧ Ext w w' := by
 have hcs : (decide (1 ≤ n.toNat) = false ∧ decide ((1 : Int) ≤ (n.toNat : Int)) = false ∧ decide (1 ≤ n.toNat ∧ n.toNat ≤ 8) = false) ∨ (decide (1 ≤ n.toNat) = true ∧ decide ((1 : Int) ≤ (n.toNat : Int)) = true ∧ decide ((n.toNat : Int) ≤ 8) = false ∧ decide (1 ≤ n.toNat ∧ n.toNat ≤ 8) = false) ∨ (decide (1 ≤ n.toNat) = true ∧ decide ((1 : Int) ≤ (n.toNat : Int)) = true ∧ decide ((n.toNat : Int) ≤ 8) = true ∧ decide (1 ≤ n.toNat ∧ n.toNat ≤ 8) = true) := by
  by_cases h1 : 1 ≤ n.toNat
  ·by_cases h2 : n.toNat ≤ 8
   ·exact .inr (.inr ⟨decide_eq_true h1, decide_eq_true (by omega), decide_eq_true (by omega), decide_eq_true ⟨h1, h2⟩⟩)
   ·exact .inr (.inl ⟨decide_eq_true h1, decide_eq_true (by omega), decide_eq_false (by omega), decide_eq_false fun h => h2 h.2⟩)
  ·exact .inl ⟨decide_eq_false h1, decide_eq_false (by omega), decide_eq_false fun h => h1 h.1⟩
 generalize decide (1 ≤ n.toNat ∧ n.toNat ≤ 8) = r at *
 rcases hcs with ⟨h0, h1, rfl⟩ | ⟨h0, h1, h2, rfl⟩ | ⟨h0, h1, h2, rfl⟩
 ·go_enter Tryz.func94, Tryz.ntmps94
  go_wp2_with fail
  go_ret
  exact ⟨by simp, ((Ext.refl w).alloc _).alloc _⟩
 ·go_enter Tryz.func94, Tryz.ntmps94
  go_wp2_with fail
  go_ret
  exact ⟨by simp, ((Ext.refl w).alloc _).alloc _⟩
 ·by_cases hname : name = []
  ·subst hname
   by_cases haddr : addr = []
   ·subst haddr
    go_enter Tryz.func94, Tryz.ntmps94
    go_wp2_with fail
    go_ret
    exact ⟨by simp, ((Ext.refl w).alloc _).alloc _⟩
   ·have hbaddr : (addr == []) = false := by simpa using haddr
    go_enter Tryz.func94, Tryz.ntmps94
    go_wp2_with fail
    go_ret
    exact ⟨by first | (simp; done) | simp [haddr], ((Ext.refl w).alloc _).alloc _⟩
  ·have hbname : (name == []) = false := by simpa using hname
   go_enter Tryz.func94, Tryz.ntmps94
   go_wp2_with fail
   go_ret
   exact ⟨by first | (simp; done) | simp [hname], ((Ext.refl w).alloc _).alloc _⟩
set_option maxRecDepth 20000 in
set_option maxHeartbeats 4000000 in
theorem DAct9 (name : List UInt8) (n : UInt32) (addr : List UInt8) (w : World) :
  Calls Tryz.prog 94 #[.agg #[.int .i64 9, .string ⟨name.toArray⟩, .int .u32 (n.toNat : Int), .string ⟨addr.toArray⟩]] w fun e w' => e = .returned (.bool (decide (addr.length = 4 ∨ addr.length = 16) && (decide (name = []) && decide (n = 0)))) ∧ Ext w w' := by
 have hsz : (ByteArray.mk addr.toArray).size = addr.length := ba_size addr
 have hcs : (((addr.length : Int) == 4) = true ∧ decide (addr.length = 4 ∨ addr.length = 16) = true) ∨ (((addr.length : Int) == 4) = false ∧ ((addr.length : Int) == 16) = true ∧ decide (addr.length = 4 ∨ addr.length = 16) = true) ∨ (((addr.length : Int) == 4) = false ∧ ((addr.length : Int) == 16) = false ∧ decide (addr.length = 4 ∨ addr.length = 16) = false) := by
  by_cases h1 : addr.length = 4
  ·exact .inl ⟨by rw [beq_iff_eq]; omega, decide_eq_true (.inl h1)⟩
  ·by_cases h2 : addr.length = 16
   ·exact .inr (.inl ⟨by rw [beq_eq_false_iff_ne]; omega, by rw [beq_iff_eq]; omega, decide_eq_true (.inr h2)⟩)
   ·exact .inr (.inr ⟨by rw [beq_eq_false_iff_ne]; omega, by rw [beq_eq_false_iff_ne]; omega, decide_eq_false fun h => h.elim h1 h2⟩)
 generalize decide (addr.length = 4 ∨ addr.length = 16) = r at *
 rcases hcs with ⟨h1, rfl⟩ | ⟨h1, h2, rfl⟩ | ⟨h1, h2, rfl⟩
 ·by_cases hname : name = []
  ·subst hname
   by_cases hn : n = 0
   ·subst hn
    have hz0 : ((0 : UInt32).toNat : Int) = 0 := rfl
    go_enter Tryz.func94, Tryz.ntmps94
    go_wp2_with fail
    go_ret
    exact ⟨by simp, ((Ext.refl w).alloc _).alloc _⟩
   ·have hnb : ((n.toNat : Int) == 0) = false := by rw [beq_eq_false_iff_ne]; intro h; exact hn (UInt32.toNat_inj.1 (by rw [show (0 : UInt32).toNat = 0 from rfl]; omega))
    have hnb2 : (n.toNat == 0) = false := by rw [beq_eq_false_iff_ne]; intro h; exact hn (UInt32.toNat_inj.1 (by rw [show (0 : UInt32).toNat = 0 from rfl]; omega))
    have hnb3 : ¬ n.toNat = 0 := by simpa using hnb2
    go_enter Tryz.func94, Tryz.ntmps94
    go_wp2_with fail
    go_ret
    exact ⟨by first | (simp; done) | simp [hn], ((Ext.refl w).alloc _).alloc _⟩
  ·have hbname : (name == []) = false := by simpa using hname
   go_enter Tryz.func94, Tryz.ntmps94
   go_wp2_with fail
   go_ret
   exact ⟨by first | (simp; done) | simp [hname], ((Ext.refl w).alloc _).alloc _⟩
 ·by_cases hname : name = []
  ·subst hname
   by_cases hn : n = 0
   ·subst hn
    have hz0 : ((0 : UInt32).toNat : Int) = 0 := rfl
    go_enter Tryz.func94, Tryz.ntmps94
    go_wp2_with fail
    go_ret
    exact ⟨by simp, ((Ext.refl w).alloc _).alloc _⟩
   ·have hnb : ((n.toNat : Int) == 0) = false := by rw [beq_eq_false_iff_ne]; intro h; exact hn (UInt32.toNat_inj.1 (by rw [show (0 : UInt32).toNat = 0 from rfl]; omega))
    have hnb2 : (n.toNat == 0) = false := by rw [beq_eq_false_iff_ne]; intro h; exact hn (UInt32.toNat_inj.1 (by rw [show (0 : UInt32).toNat = 0 from rfl]; omega))
    have hnb3 : ¬ n.toNat = 0 := by simpa using hnb2
    go_enter Tryz.func94, Tryz.ntmps94
    go_wp2_with fail
    go_ret
    exact ⟨by first | (simp; done) | simp [hn], ((Ext.refl w).alloc _).alloc _⟩
  ·have hbname : (name == []) = false := by simpa using hname
   go_enter Tryz.func94, Tryz.ntmps94
   go_wp2_with fail
   go_ret
   exact ⟨by first | (simp; done) | simp [hname], ((Ext.refl w).alloc _).alloc _⟩
 ·go_enter Tryz.func94, Tryz.ntmps94
  go_wp2_with fail
  go_ret
  exact ⟨by simp, ((Ext.refl w).alloc _).alloc _⟩
set_option maxRecDepth 20000 in
set_option maxHeartbeats 4000000 in
theorem DAct10 (name : List UInt8) (n : UInt32) (addr : List UInt8) (w : World) :
  Calls Tryz.prog 94 #[.agg #[.int .i64 10, .string ⟨name.toArray⟩, .int .u32 (n.toNat : Int), .string ⟨addr.toArray⟩]] w fun e w' => e = .returned (.bool (decide (n.toNat ≤ 2) && (decide (name = []) && decide (addr = [])))) ∧ Ext w w' := by
 have hcs : (decide ((n.toNat : Int) ≤ 2) = true ∧ decide (n.toNat ≤ 2) = true) ∨ (decide ((n.toNat : Int) ≤ 2) = false ∧ decide (n.toNat ≤ 2) = false) := by
  by_cases h1 : n.toNat ≤ 2
  ·exact .inl ⟨decide_eq_true (by omega), decide_eq_true h1⟩
  ·exact .inr ⟨decide_eq_false (by omega), decide_eq_false h1⟩
 generalize decide (n.toNat ≤ 2) = r at *
 rcases hcs with ⟨h1, rfl⟩ | ⟨h1, rfl⟩
 ·by_cases hname : name = []
  ·subst hname
   by_cases haddr : addr = []
   ·subst haddr
    go_enter Tryz.func94, Tryz.ntmps94
    go_wp2_with fail
    go_ret
    exact ⟨by simp, ((Ext.refl w).alloc _).alloc _⟩
   ·have hbaddr : (addr == []) = false := by simpa using haddr
    go_enter Tryz.func94, Tryz.ntmps94
    go_wp2_with fail
    go_ret
    exact ⟨by first | (simp; done) | simp [haddr], ((Ext.refl w).alloc _).alloc _⟩
  ·have hbname : (name == []) = false := by simpa using hname
   go_enter Tryz.func94, Tryz.ntmps94
   go_wp2_with fail
   go_ret
   exact ⟨by first | (simp; done) | simp [hname], ((Ext.refl w).alloc _).alloc _⟩
 ·go_enter Tryz.func94, Tryz.ntmps94
  go_wp2_with fail
  go_ret
  exact ⟨by simp, ((Ext.refl w).alloc _).alloc _⟩
set_option maxRecDepth 20000 in
set_option maxHeartbeats 4000000 in
theorem DAct0 (k : Int) (name : List UInt8) (n : UInt32) (addr : List UInt8) (w : World) (h1 : ¬ k = 1) (h2 : ¬ k = 2) (h3 : ¬ k = 3) (h4 : ¬ k = 4) (h5 : ¬ k = 5) (h6 : ¬ k = 6) (h7 : ¬ k = 7) (h8 : ¬ k = 8) (h9 : ¬ k = 9) (h10 : ¬ k = 10) :
  Calls Tryz.prog 94 #[.agg #[.int .i64 k, .string ⟨name.toArray⟩, .int .u32 (n.toNat : Int), .string ⟨addr.toArray⟩]] w fun e w' => e = .returned (.bool false) ∧ Ext w w' := by
 have g1 : (k == 1) = false := by simpa using h1
 have g2 : (k == 2) = false := by simpa using h2
 have g3 : (k == 3) = false := by simpa using h3
 have g4 : (k == 4) = false := by simpa using h4
 have g5 : (k == 5) = false := by simpa using h5
 have g6 : (k == 6) = false := by simpa using h6
 have g7 : (k == 7) = false := by simpa using h7
 have g8 : (k == 8) = false := by simpa using h8
 have g9 : (k == 9) = false := by simpa using h9
 have g10 : (k == 10) = false := by simpa using h10
 clear h1 h2 h3 h4 h5 h6 h7 h8 h9 h10
 go_enter Tryz.func94, Tryz.ntmps94
 go_wp2_with fail
 go_ret
 exact ⟨rfl, ((Ext.refl w).alloc _).alloc _⟩
theorem DAct_any (a : ActS) (w : World) :
  Calls Tryz.prog 94 #[.agg (actCs a).toArray] w fun e w' => e = .returned (.bool (actOk a)) ∧ Ext w w' := by
 obtain ⟨k, name, n, addr⟩ := a
 unfold actOk
 dsimp only
 by_cases h : k = 1 ∨ k = 2 ∨ k = 5
 ·rw [if_pos h]
  rcases h with rfl | rfl | rfl
  ·exact DAct1 name n addr w
  ·exact DAct2 name n addr w
  ·exact DAct5 name n addr w
 rw [if_neg h]
 by_cases h3 : k = 3 ∨ k = 4 ∨ k = 6
 ·rw [if_pos h3]
  rcases h3 with rfl | rfl | rfl
  ·exact DAct3 name n addr w
  ·exact DAct4 name n addr w
  ·exact DAct6 name n addr w
 rw [if_neg h3]
 by_cases h7 : k = 7
 ·rw [if_pos h7]; subst h7; exact DAct7 name n addr w
 rw [if_neg h7]
 by_cases h8 : k = 8
 ·rw [if_pos h8]; subst h8; exact DAct8 name n addr w
 rw [if_neg h8]
 by_cases h9 : k = 9
 ·rw [if_pos h9]; subst h9; exact DAct9 name n addr w
 rw [if_neg h9]
 by_cases h10 : k = 10
 ·rw [if_pos h10]; subst h10; exact DAct10 name n addr w
 rw [if_neg h10]
 exact DAct0 k name n addr w (fun e => h (.inl e)) (fun e => h (.inr (.inl e))) (fun e => h3 (.inl e)) (fun e => h3 (.inr (.inl e))) (fun e => h (.inr (.inr e))) (fun e => h3 (.inr (.inr e))) h7 h8 h9 h10
end
section
open Go.RowKit
set_option linter.unusedVariables false
attribute [local go_sem ↓] Go.wp_at_zero Go.wp_at_succ
theorem term_false_c {t : TermS} (k : Nat) (h : k < t.conds.length) (hc : condOk t.conds[k] = false) : termOk t = false := by
 rw [Bool.eq_false_iff]
 intro hok
 have := (ok_of_term hok).2.2.2.1 _ (List.getElem_mem h)
 rw [hc] at this
 cases this
theorem term_false_a {t : TermS} (k : Nat) (h : k < t.acts.length) (hc : actOk t.acts[k] = false) : termOk t = false := by
 rw [Bool.eq_false_iff]
 intro hok
 have := (ok_of_term hok).2.2.2.2 _ (List.getElem_mem h)
 rw [hc] at this
 cases this
theorem term_ends {t : TermS} (hok : termOk t = true) : ∀ k (h : k < t.acts.length), k + 1 ≠ t.acts.length → endsA t.acts[k] = false := by
 intro k h hk
 unfold termOk at hok
 simp only [Bool.and_eq_true] at hok
 have := List.all_eq_true.1 hok.2.2.2.2 t.acts[k] (by
  rw [List.dropLast_eq_take, List.mem_take_iff_getElem]
  exact ⟨k, by omega, rfl⟩)
 simpa using this
theorem term_false_e {t : TermS} (k : Nat) (h : k < t.acts.length) (hk : k + 1 ≠ t.acts.length) (hc : endsA t.acts[k] = true) : termOk t = false := by
 rw [Bool.eq_false_iff]
 intro hok
 have := term_ends hok k h hk
 rw [hc] at this
 cases this
theorem term_true {t : TermS} (h1 : t.conds.length ≤ 64) (h2 : 1 ≤ t.acts.length) (h3 : t.acts.length ≤ 64) (h4 : ∀ k (h : k < t.conds.length), condOk t.conds[k] = true)
  (h5 : ∀ k (h : k < t.acts.length), actOk t.acts[k] = true ∧ (k + 1 = t.acts.length ∨ endsA t.acts[k] = false)) : termOk t = true := by
 unfold termOk
 simp only [Bool.and_eq_true, decide_eq_true_eq]
 refine ⟨h1, ⟨h2, h3⟩, ?_, ?_, ?_⟩
 ·rw [List.all_eq_true]
  intro x hx
  obtain ⟨k, hk, rfl⟩ := List.getElem_of_mem hx
  exact h4 k hk
 ·rw [List.all_eq_true]
  intro x hx
  obtain ⟨k, hk, rfl⟩ := List.getElem_of_mem hx
  exact (h5 k hk).1
 ·rw [List.all_eq_true]
  intro x hx
  rw [List.dropLast_eq_take, List.mem_take_iff_getElem] at hx
  obtain ⟨k, hk, rfl⟩ := hx
  rcases (h5 k (by omega)).2 with h | h
  ·omega
  ·rw [h]; rfl
set_option maxRecDepth 20000 in
set_option maxHeartbeats 4000000 in
theorem DMayTerm_any (a1 : Option Addr) (c1 : Nat) (a2 : Option Addr) (c2 : Nat) (t : TermS) (w : World)
    (ht1 : t.conds.length ≤ 16777216) (ht2 : t.acts.length ≤ 16777216)
    (s1 : Sl ECond w (· < w.heap.size) a1 t.conds) (s2 : Sl EAct w (· < w.heap.size) a2 t.acts) :
    Calls Tryz.prog 37 #[.agg #[.slice a1 t.conds.length c1, .slice a2 t.acts.length c2]] w fun e w' => e = .returned (.bool (termOk t)) ∧ Ext w w' := by
  by_cases h64 : t.conds.length ≤ 64
  case neg =>
    have hr : termOk t = false := by rw [Bool.eq_false_iff]; intro h; exact h64 (ok_of_term h).1
    rw [hr]
    have g1 : decide ((64 : Int) < (t.conds.length : Int)) = true := decide_eq_true (by omega)
    clear s1 s2 h64 hr
    go_enter Tryz.func37, Tryz.ntmps37
    go_wp2
    go_ret
    exact ⟨rfl, (Ext.refl w).alloc _⟩
  have g1 : decide ((64 : Int) < (t.conds.length : Int)) = false := decide_eq_false (by omega)
  by_cases hge : 1 ≤ t.acts.length
  case neg =>
    have hr : termOk t = false := by rw [Bool.eq_false_iff]; intro h; exact hge (ok_of_term h).2.1
    rw [hr]
    have g2 : t.acts.length = 0 := by omega
    rw [g2]
    clear s1 s2 h64 hr
    go_enter Tryz.func37, Tryz.ntmps37
    go_wp2
    go_ret
    exact ⟨rfl, (Ext.refl w).alloc _⟩
  have g2 : decide ((t.acts.length : Int) < 1) = false := decide_eq_false (by omega)
  by_cases hle : t.acts.length ≤ 64
  case neg =>
    have hr : termOk t = false := by rw [Bool.eq_false_iff]; intro h; exact hle (ok_of_term h).2.2.1
    rw [hr]
    have g3 : decide ((64 : Int) < (t.acts.length : Int)) = true := decide_eq_true (by omega)
    have g4 : ¬ t.acts.length = 0 := by omega
    clear s1 s2 h64 hr
    go_enter Tryz.func37, Tryz.ntmps37
    go_wp2
    go_ret
    exact ⟨rfl, (Ext.refl w).alloc _⟩
  have g3 : decide ((64 : Int) < (t.acts.length : Int)) = false := decide_eq_false (by omega)
  have g4 : ¬ t.acts.length = 0 := by omega
  have q1 : ∀ (x : CondS) (W : World), Calls Tryz.prog 93 #[.agg #[.int .i64 x.kind, .bool x.neg, .string ⟨x.name.toArray⟩, .int .i64 x.n]] W fun e w' => e = .returned (.bool (condOk x)) ∧ Ext W w' := fun x W => DCond_any x W
  have q2 : ∀ (x : ActS) (W : World), Calls Tryz.prog 94 #[.agg #[.int .i64 x.kind, .string ⟨x.name.toArray⟩, .int .u32 (x.n.toNat : Int), .string ⟨x.addr.toArray⟩]] W fun e w' => e = .returned (.bool (actOk x)) ∧ Ext W w' := fun x W => DAct_any x W
  have hfc := fun k h => @term_false_c t k h
  have hfa := fun k h => @term_false_a t k h
  have hfe := fun k h => @term_false_e t k h
  have htr := @term_true t h64 hge hle
  generalize termOk t = res at hfc hfa hfe htr ⊢
  obtain ⟨t1, t2⟩ := t
  dsimp only at *
  have B := Blk.new w 25 #[.slice a1 t1.length c1, .slice a2 t2.length c2]
  have E := (Ext.refl w).alloc (Obj.cells #[.slice a1 t1.length c1, .slice a2 t2.length c2] 25)
  generalize hW0 : w.alloc (Obj.cells #[.slice a1 t1.length c1, .slice a2 t2.length c2] 25) = W0 at B E
  generalize hg0 : w.heap.size = g0 at B
  have m0 := B.cell 0
  have m1 := B.cell 1
  simp at m0 m1
  replace s1 := hide s1
  replace s2 := hide s2
  replace q1 := hide q1
  replace q2 := hide q2
  replace hfc := hide hfc
  replace hfa := hide hfa
  replace hfe := hide hfe
  replace htr := hide htr
  replace B := hide B
  replace E := hide E
  replace h64 := hide h64
  replace hge := hide hge
  replace hle := hide hle
  go_enter Tryz.func37, Tryz.ntmps37
  go_wp2_with fail
  clear hW0 hg0 g1 g2 g3 m0 m1
  go_loopw [3] (fun i wr => ∃ k : Nat, k ≤ t1.length ∧ i = .int .i64 k ∧ Ext W0 wr ∧ ∀ j (h : j < t1.length), j < k → condOk t1[j] = true) (fun i _ => t1.length - (intOf i).toNat)
  case atStart => exact ⟨0, Nat.zero_le _, rfl, Ext.refl _, fun j _ h => absurd h (Nat.not_lt_zero _)⟩
  case round =>
    obtain ⟨k, hk, rfl, hE, hin⟩ := hrel
    have B1 := B.out.ext hE
    have E1 := hide (E.out.trans hE)
    have m0 := B1.cell 0
    have m1 := B1.cell 1
    simp at m0 m1
    clear B1
    by_cases hlt : k < t1.length
    · obtain ⟨b, off, rfl, _, _, hx⟩ := ECond.at (s1.out.ext E1.out) k hlt
      have x0 : wr.cell? ⟨b, off + k * 4, none⟩ = some (.int .i64 t1[k].kind) := hx 0 _ rfl
      have x1 : wr.cell? ⟨b, off + k * 4 + 1, none⟩ = some (.bool t1[k].neg) := hx 1 _ rfl
      have x2 : wr.cell? ⟨b, off + k * 4 + 2, none⟩ = some (.string ⟨t1[k].name.toArray⟩) := hx 2 _ rfl
      have x3 : wr.cell? ⟨b, off + k * 4 + 3, none⟩ = some (.int .i64 t1[k].n) := hx 3 _ rfl
      have qq := q1.out t1[k]
      have hno := hfc.out k hlt
      have hyes : condOk t1[k] = true → ∀ j (h : j < t1.length), j < k + 1 → condOk t1[j] = true := fun h j h1 h2 => by
        by_cases e : j = k
        · subst e; exact h
        · exact hin j h1 (by omega)
      clear hx hin
      generalize t1[k] = x at *
      generalize condOk x = ok at *
      replace hE := hide hE
      replace qq := hide qq
      replace hno := hide hno
      replace hyes := hide hyes
      go_wp2_with fail
      refine (qq.out _).mono ?_
      rintro e wr2 ⟨rfl, he⟩
      replace E1 := hide (E1.out.trans he)
      replace hE := hide (hE.out.trans he)
      cases ok with
      | false =>
        obtain rfl := hno.out rfl
        go_wp2_with fail
        go_ret
        exact ⟨rfl, E1.out⟩
      | true =>
        go_wp2_with fail
        go_roundw
        case rel => exact ⟨k + 1, by omega, by go_num, hE.out, hyes.out (by trivial)⟩
        case measure => simp [intOf]; omega
    · obtain rfl : k = t1.length := by omega
      have htr2 := hide (htr.out fun j h => hin j h h)
      clear hlt hk hin htr hfc
      replace hE := hide hE
      go_wp2_with fail
      go_loopw [4] (fun i wQ => ∃ k : Nat, k ≤ t2.length ∧ i = .int .i64 k ∧ Ext wr wQ ∧ ∀ j (h : j < t2.length), j < k → actOk t2[j] = true ∧ (j + 1 = t2.length ∨ endsA t2[j] = false)) (fun i _ => t2.length - (intOf i).toNat)
      case atStart => exact ⟨0, Nat.zero_le _, rfl, Ext.refl _, fun j _ h => absurd h (Nat.not_lt_zero _)⟩
      case round =>
        clear m0 m1
        obtain ⟨k, hk, rfl, hE2, hin⟩ := hrel
        have B1 := B.out.ext (hE.out.trans hE2)
        replace E1 := hide (E1.out.trans hE2)
        have m0 := B1.cell 0
        have m1 := B1.cell 1
        simp at m0 m1
        by_cases hlt : k < t2.length
        · obtain ⟨b, off, rfl, _, _, hx⟩ := EAct.at (s2.out.ext E1.out) k hlt
          have x0 : wr.cell? ⟨b, off + k * 4, none⟩ = some (.int .i64 t2[k].kind) := hx 0 _ rfl
          have x1 : wr.cell? ⟨b, off + k * 4 + 1, none⟩ = some (.string ⟨t2[k].name.toArray⟩) := hx 1 _ rfl
          have x2 : wr.cell? ⟨b, off + k * 4 + 2, none⟩ = some (.int .u32 (t2[k].n.toNat : Int)) := hx 2 _ rfl
          have x3 : wr.cell? ⟨b, off + k * 4 + 3, none⟩ = some (.string ⟨t2[k].addr.toArray⟩) := hx 3 _ rfl
          have qq := q2.out t2[k]
          have hno := hfa.out k hlt
          have hne := hfe.out k hlt
          have hend : endsA t2[k] = (decide (t2[k].kind = 1) || decide (t2[k].kind = 2)) := rfl
          have hyes : actOk t2[k] = true → (k + 1 = t2.length ∨ endsA t2[k] = false) → ∀ j (h : j < t2.length), j < k + 1 → actOk t2[j] = true ∧ (j + 1 = t2.length ∨ endsA t2[j] = false) := fun h h' j h1 h2 => by
            by_cases e : j = k
            · subst e; exact ⟨h, h'⟩
            · exact hin j h1 (by omega)
          clear hx hin
          generalize t2[k] = x at *
          generalize actOk x = ok at *
          generalize endsA x = en at *
          have A := Blk.new wr 51 #[.int .i64 x.kind, .string ⟨x.name.toArray⟩, .int .u32 (x.n.toNat : Int), .string ⟨x.addr.toArray⟩]
          have F := (Ext.refl wr).alloc (Obj.cells #[.int .i64 x.kind, .string ⟨x.name.toArray⟩, .int .u32 (x.n.toNat : Int), .string ⟨x.addr.toArray⟩] 51)
          have n1 : (wr.alloc (Obj.cells #[.int .i64 x.kind, .string ⟨x.name.toArray⟩, .int .u32 (x.n.toNat : Int), .string ⟨x.addr.toArray⟩] 51)).cell? ⟨g0, 1, none⟩ = some (.slice (some ⟨b, off, none⟩) t2.length c2) := (B1.alloc _).cell 1
          clear B1
          have g7 : wrap64 ((t2.length : Int) - 1) = (t2.length : Int) - 1 := wrap64_id _ (by omega) (by omega)
          by_cases hl : k + 1 = t2.length
          · have g8 : ((k : Int) == (t2.length : Int) - 1) = true := by rw [beq_iff_eq]; omega
            replace hE2 := hide hE2
            replace qq := hide qq
            replace hno := hide hno
            replace hyes := hide hyes
            replace hne := hide hne
            replace hend := hide hend
            replace A := hide A
            replace F := hide F
            replace hl := hide hl
            replace hk := hide hk
            replace hlt := hide hlt
            go_wp2_with fail
            refine (qq.out _).mono ?_
            rintro e wr2 ⟨rfl, he⟩
            have F2 := F.out.trans he
            replace E1 := hide (E1.out.trans F2)
            replace hE2 := hide (hE2.out.trans F2)
            clear F2 A F n1
            cases ok with
            | false =>
              obtain rfl := hno.out rfl
              go_wp2_with fail
              go_ret
              exact ⟨rfl, E1.out⟩
            | true =>
              go_wp2_with fail
              go_roundw
              case rel => exact ⟨k + 1, by have := hlt.out; omega, by go_num, hE2.out, hyes.out (by trivial) (.inl hl.out)⟩
              case measure => have := hlt.out; simp [intOf]; omega
          · have g8 : ((k : Int) == (t2.length : Int) - 1) = false := by rw [beq_eq_false_iff_ne]; omega
            replace hE2 := hide hE2
            replace qq := hide qq
            replace hno := hide hno
            replace hyes := hide hyes
            replace hne := hide hne
            replace hend := hide hend
            replace A := hide A
            replace F := hide F
            replace hl := hide hl
            replace hk := hide hk
            replace hlt := hide hlt
            go_wp2_with fail
            refine (qq.out _).mono ?_
            rintro e wr2 ⟨rfl, he⟩
            have F2 := F.out.trans he
            replace E1 := hide (E1.out.trans F2)
            replace hE2 := hide (hE2.out.trans F2)
            have a0 := (A.out.ext he).cell 0
            simp at a0
            clear F2 A F n1
            cases ok with
            | false =>
              obtain rfl := hno.out rfl
              clear a0
              go_wp2_with fail
              go_ret
              exact ⟨rfl, E1.out⟩
            | true =>
              by_cases h1 : x.kind = 1
              · have h1b : (x.kind == 1) = true := by rw [h1]; rfl
                obtain rfl := hne.out hl.out (by rw [hend.out, decide_eq_true h1]; rfl)
                clear h1
                go_wp2_with fail
                go_ret
                exact ⟨rfl, E1.out⟩
              have h1b : (x.kind == 1) = false := by rw [beq_eq_false_iff_ne]; exact h1
              by_cases h2 : x.kind = 2
              · have h2b : (x.kind == 2) = true := by rw [h2]; rfl
                obtain rfl := hne.out hl.out (by rw [hend.out, decide_eq_true h2, Bool.or_true])
                clear h1 h2
                go_wp2_with fail
                go_ret
                exact ⟨rfl, E1.out⟩
              have h2b : (x.kind == 2) = false := by rw [beq_eq_false_iff_ne]; exact h2
              have hen : en = false := by rw [hend.out, decide_eq_false h1, decide_eq_false h2]; rfl
              clear h1 h2
              replace hen := hide hen
              go_wp2_with fail
              go_roundw
              case rel => exact ⟨k + 1, by have := hlt.out; omega, by go_num, hE2.out, hyes.out (by trivial) (.inr hen.out)⟩
              case measure => have := hlt.out; simp [intOf]; omega
        · clear B1
          obtain rfl : k = t2.length := by omega
          obtain rfl := htr2.out fun j h => hin j h h
          clear hlt hk hin
          replace hE2 := hide hE2
          go_wp2_with fail
          go_ret
          exact ⟨rfl, E1.out⟩
end
end
section
open Go.RowKit Go.Sort
set_option linter.unusedVariables false
def kindC (c : CondS) : Int := if c.kind = 1 ∨ c.kind = 2 ∨ c.kind = 3 then c.kind else 0
set_option maxRecDepth 20000 in
theorem DKind_any (c : CondS) (w : World) :
  Calls Tryz.prog 71 #[.agg #[.int .i64 c.kind, .bool c.neg, .string ⟨c.name.toArray⟩, .int .i64 c.n]] w fun e w' => e = .returned (.int .i64 (kindC c)) ∧ Ext w w' := by
 obtain ⟨ck, cn, cm, cv⟩ := c
 unfold kindC
 dsimp only
 have E := (Ext.refl w).alloc (Obj.cells #[.int .i64 ck, .bool cn, .string ⟨cm.toArray⟩, .int .i64 cv] 48)
 by_cases h1 : ck = 1
 ·subst h1
  replace E := hide E
  go_enter Tryz.func71, Tryz.ntmps71
  go_wp2_with fail
  go_ret
  exact ⟨by simp, E.out⟩
 by_cases h2 : ck = 2
 ·subst h2
  replace E := hide E
  go_enter Tryz.func71, Tryz.ntmps71
  go_wp2_with fail
  go_ret
  exact ⟨by simp, E.out⟩
 by_cases h3 : ck = 3
 ·subst h3
  replace E := hide E
  go_enter Tryz.func71, Tryz.ntmps71
  go_wp2_with fail
  go_ret
  exact ⟨by simp, E.out⟩
 have d1 : (ck == 1) = false := beq_eq_false_iff_ne.2 h1
 have d2 : (ck == 2) = false := beq_eq_false_iff_ne.2 h2
 have d3 : (ck == 3) = false := beq_eq_false_iff_ne.2 h3
 have hr : (if ck = 1 ∨ ck = 2 ∨ ck = 3 then ck else 0) = 0 := if_neg (by rintro (h | h | h); exact h1 h; exact h2 h; exact h3 h)
 rw [hr]
 clear h1 h2 h3 hr
 replace E := hide E
 go_enter Tryz.func71, Tryz.ntmps71
 go_wp2_with fail
 go_ret
 exact ⟨rfl, E.out⟩
theorem anyS_succ {f : StS → Bool} {l : List StS} {k : Nat} (h : k < l.length) : (l.take (k + 1)).any f = ((l.take k).any f || f l[k]) := by
 rw [List.take_succ_eq_append_getElem h, List.any_append]
 simp
theorem any_at {α : Type} {f : α → Bool} {l : List α} {k : Nat} (h : k < l.length) (h2 : f l[k] = true) : l.any f = true := List.any_eq_true.2 ⟨l[k], List.getElem_mem h, h2⟩
set_option maxRecDepth 20000 in
set_option maxHeartbeats 1000000 in
theorem DThere_any (a : Option Addr) (c : Nat) (l : List StS) (nm : List UInt8) (kd : Int) (w : World) (hl : l.length ≤ 16777216) (hs : Sl ESet w (· < w.heap.size) a l) :
    Calls Tryz.prog 72 #[.slice a l.length c, .string ⟨nm.toArray⟩, .int .i64 kd] w fun e w' => e = .returned (.bool (thereS l (nm, kd))) ∧ Ext w w' := by
  unfold thereS
  dsimp only
  replace hs := hide hs
  go_enter Tryz.func72, Tryz.ntmps72
  go_wp2_with fail
  go_loopw [7] (fun i wr => ∃ k : Nat, k ≤ l.length ∧ i = .int .i64 k ∧ wr = w ∧ (l.take k).any (fun s => s.name == nm && decide (s.kind = kd)) = false) (fun i _ => l.length - (intOf i).toNat)
  case atStart => exact ⟨0, Nat.zero_le _, rfl, rfl, rfl⟩
  case round =>
    obtain ⟨k, hk, rfl, rfl, hn⟩ := hrel
    by_cases hlt : k < l.length
    · obtain ⟨bs, os, a1, c1, a2, c2, a3, c3, rfl, hi, i0, i1, i2, i3, i4⟩ := ESet.at16 hs.out k hlt
      have hst := anyS_succ (f := fun s => s.name == nm && decide (s.kind = kd)) hlt
      have hat := any_at (f := fun s => s.name == nm && decide (s.kind = kd)) hlt
      rw [hn, Bool.false_or] at hst
      clear hi i2 i3 i4
      generalize l[k].name = n0 at *
      generalize l[k].kind = k0 at *
      generalize hc : (n0 == nm) = cc at *
      cases cc with
      | false =>
        rw [Bool.false_and] at hst
        clear hat
        replace hst := hide hst
        replace hn := hide hn
        go_wp2_with fail
        go_roundw
        case rel => exact ⟨k + 1, by omega, by go_num, by trivial, hst.out⟩
        case measure => simp [intOf]; omega
      | true =>
        rw [Bool.true_and] at hst hat
        by_cases hd : k0 = kd
        · have hr := hat (decide_eq_true hd)
          subst hd
          have hkk : (k0 == k0) = true := by simp
          clear hat hst
          replace hn := hide hn
          replace hr := hide hr
          go_wp2_with fail
          go_ret
          exact ⟨ret_bool hr.out.symm, Ext.refl _⟩
        · have hkk : (k0 == kd) = false := beq_eq_false_iff_ne.2 hd
          rw [decide_eq_false hd] at hst
          clear hat hd
          replace hst := hide hst
          replace hn := hide hn
          go_wp2_with fail
          go_roundw
          case rel => exact ⟨k + 1, by omega, by go_num, by trivial, hst.out⟩
          case measure => simp [intOf]; omega
    · obtain rfl : k = l.length := by omega
      rw [List.take_length] at hn
      replace hn := hide hn
      go_wp2_with fail
      go_ret
      exact ⟨ret_bool hn.out.symm, Ext.refl _⟩
theorem kindC_need {c : CondS} (h : kindC c ≠ 0) : needC c = some (c.name, c.kind) ∧ kindC c = c.kind := by
 unfold kindC at *
 unfold needC
 by_cases hk : c.kind = 1 ∨ c.kind = 2 ∨ c.kind = 3
 ·rw [if_pos hk, if_pos hk]
  exact ⟨rfl, rfl⟩
 ·rw [if_neg hk] at h
  exact absurd rfl h
theorem kindC_none {c : CondS} (h : kindC c = 0) : needC c = none := by
 unfold kindC at h
 unfold needC
 by_cases hk : c.kind = 1 ∨ c.kind = 2 ∨ c.kind = 3
 ·rw [if_pos hk] at h
  omega
 ·rw [if_neg hk]
theorem kindC_pos (c : CondS) : kindC c = 0 ∨ 0 < kindC c := by
 unfold kindC
 by_cases hk : c.kind = 1 ∨ c.kind = 2 ∨ c.kind = 3
 ·rw [if_pos hk]; omega
 ·rw [if_neg hk]; exact .inl rfl
theorem need_inC {p : PolS} {t : TermS} {c : CondS} {n : List UInt8 × Int} (ht : t ∈ p.terms) (hc : c ∈ t.conds) (h : needC c = some n) : n ∈ needsP p :=
 List.mem_flatMap.2 ⟨t, ht, List.mem_append_left _ (List.mem_filterMap.2 ⟨c, hc, h⟩)⟩
theorem need_inA {p : PolS} {t : TermS} {c : ActS} {n : List UInt8 × Int} (ht : t ∈ p.terms) (hc : c ∈ t.acts) (h : needA c = some n) : n ∈ needsP p :=
 List.mem_flatMap.2 ⟨t, ht, List.mem_append_right _ (List.mem_filterMap.2 ⟨c, hc, h⟩)⟩
theorem need_of {p : PolS} {n : List UInt8 × Int} (h : n ∈ needsP p) : ∃ t ∈ p.terms, (∃ c ∈ t.conds, needC c = some n) ∨ ∃ c ∈ t.acts, needA c = some n := by
 obtain ⟨t, ht, h⟩ := List.mem_flatMap.1 h
 rcases List.mem_append.1 h with h | h
 ·obtain ⟨c, hc, hn⟩ := List.mem_filterMap.1 h
  exact ⟨t, ht, .inl ⟨c, hc, hn⟩⟩
 ·obtain ⟨c, hc, hn⟩ := List.mem_filterMap.1 h
  exact ⟨t, ht, .inr ⟨c, hc, hn⟩⟩
/-- A policy names it. -/
def namedP (p : PolS) (nm : List UInt8) : Bool := (needsP p).any fun n => n.1 == nm
theorem named_c {p : PolS} {t : TermS} {c : CondS} {nm : List UInt8} (ht : t ∈ p.terms) (hc : c ∈ t.conds) (hk : kindC c ≠ 0) (hn : c.name = nm) : namedP p nm = true :=
 List.any_eq_true.2 ⟨_, need_inC ht hc (kindC_need hk).1, by simp [hn]⟩
theorem named_a {p : PolS} {t : TermS} {c : ActS} {nm : List UInt8} (ht : t ∈ p.terms) (hc : c ∈ t.acts) (hk : c.kind = 7) (hn : c.name = nm) : namedP p nm = true :=
 List.any_eq_true.2 ⟨(c.name, 2), need_inA ht hc (if_pos hk), by simp [hn]⟩
def unnamedT (nm : List UInt8) (t : TermS) : Prop := (∀ c ∈ t.conds, kindC c ≠ 0 → c.name ≠ nm) ∧ ∀ c ∈ t.acts, c.kind = 7 → c.name ≠ nm
theorem named_no {p : PolS} {nm : List UInt8} (h : ∀ t ∈ p.terms, unnamedT nm t) : namedP p nm = false := by
 rw [namedP, List.any_eq_false]
 intro n hn he
 obtain ⟨t, ht, h2⟩ := need_of hn
 obtain ⟨h3, h4⟩ := h t ht
 rcases h2 with ⟨c, hc, h5⟩ | ⟨c, hc, h5⟩
 ·by_cases hk : kindC c = 0
  ·rw [kindC_none hk] at h5; cases h5
  ·rw [(kindC_need hk).1] at h5
   injection h5 with h5
   subst h5
   exact h3 c hc hk (eq_of_beq he)
 ·unfold needA at h5
  split at h5
  ·rename_i h7
   injection h5 with h5
   subst h5
   exact h4 c hc h7 (eq_of_beq he)
  ·cases h5
theorem take_snoc {α : Type} {P : α → Prop} {l : List α} {k : Nat} (h : k < l.length) (h1 : ∀ x ∈ l.take k, P x) (h2 : P l[k]) : ∀ x ∈ l.take (k + 1), P x := fun x hx => by
 rw [List.take_succ_eq_append_getElem h, List.mem_append, List.mem_singleton] at hx
 rcases hx with hx | rfl
 ·exact h1 x hx
 ·exact h2
set_option maxRecDepth 20000 in
set_option maxHeartbeats 4000000 in
theorem DNamed_any (p : PolS) (a : Option Addr) (ca : Nat) (nm : List UInt8) (w : World) (hl : p.terms.length ≤ 16777216) (s1 : Sl ETerm w (· < w.heap.size) a p.terms) :
    Calls Tryz.prog 63 #[.agg #[.string ⟨p.name.toArray⟩, .slice a p.terms.length ca, .bool p.els], .string ⟨nm.toArray⟩] w fun e w' => e = .returned (.bool (namedP p nm)) ∧ Ext w w' := by
  have S := Blk.new w 35 #[.string ⟨p.name.toArray⟩, .slice a p.terms.length ca, .bool p.els]
  have E := (Ext.refl w).alloc (Obj.cells #[.string ⟨p.name.toArray⟩, .slice a p.terms.length ca, .bool p.els] 35)
  have hyc := fun t ht c hc h1 h2 => named_c (p := p) (t := t) (c := c) (nm := nm) ht hc h1 h2
  have hya := fun t ht c hc h1 h2 => named_a (p := p) (t := t) (c := c) (nm := nm) ht hc h1 h2
  have hno := named_no (p := p) (nm := nm)
  generalize namedP p nm = r at *
  generalize hW0 : w.alloc (Obj.cells #[.string ⟨p.name.toArray⟩, .slice a p.terms.length ca, .bool p.els] 35) = W0 at S E
  obtain ⟨g0, hg0⟩ : ∃ g0, w.heap.size = g0 := ⟨_, rfl⟩
  rw [hg0] at S
  generalize p.terms = T at *
  replace S := hide S
  replace E := hide E
  replace s1 := hide s1
  replace hyc := hide hyc
  replace hya := hide hya
  replace hno := hide hno
  go_enter Tryz.func63, Tryz.ntmps63
  go_wp2_with fail
  clear hW0 hg0
  go_loopw [5] (fun i wr => ∃ k : Nat, k ≤ T.length ∧ i = .int .i64 k ∧ Ext W0 wr ∧ ∀ t ∈ T.take k, unnamedT nm t) (fun i _ => T.length - (intOf i).toNat)
  case atStart => exact ⟨0, Nat.zero_le _, rfl, Ext.refl _, fun t ht => by simp at ht⟩
  case round =>
    obtain ⟨k, hk, rfl, F, hn⟩ := hrel
    by_cases hlt : k < T.length
    · obtain ⟨b1, of1, x1, p1, x2, p2, rfl, _, i1, i2, n3, r1, n4, r2⟩ := ETerm.at (s1.out.ext (E.out.trans F)) k hlt
      have hst := take_snoc (P := unnamedT nm) hlt hn
      have hyc' := hyc.out T[k] (List.getElem_mem hlt)
      have hya' := hya.out T[k] (List.getElem_mem hlt)
      unfold unnamedT at hst
      generalize T[k] = t at *
      obtain ⟨cl, al⟩ := t
      dsimp only at *
      have S1 := S.out.ext F
      have X := Blk.new wr 25 #[.slice x1 cl.length p1, .slice x2 al.length p2]
      have eX := (Ext.refl wr).alloc (Obj.cells #[.slice x1 cl.length p1, .slice x2 al.length p2] 25)
      replace r1 := r1.ext eX
      replace r2 := r2.ext eX
      have F1 := F.trans eX
      replace S1 := hide S1
      replace X := hide X
      replace r1 := hide r1
      replace r2 := hide r2
      replace F1 := hide F1
      replace hst := hide hst
      replace hyc' := hide hyc'
      replace hya' := hide hya'
      replace hn := hide hn
      clear eX F
      have S1_0 : wr.cell? ⟨g0, 0, none⟩ = some (.string ⟨p.name.toArray⟩) := S1.out.cell 0
      have S1_1 : wr.cell? ⟨g0, 1, none⟩ = some (.slice (some ⟨b1, of1, none⟩) T.length ca) := S1.out.cell 1
      have S1_2 : wr.cell? ⟨g0, 2, none⟩ = some (.bool p.els) := S1.out.cell 2
      go_upto_region 5 with fail
      clear S1_0 S1_1 S1_2
      generalize wr.alloc (Obj.cells #[.slice x1 cl.length p1, .slice x2 al.length p2] 25) = W3 at X r1 r2 F1 ⊢
      generalize wr.heap.size = gt at X ⊢
      clear i1 i2
      go_wp2_with fail
      go_loopw [7] (fun i wx => ∃ j : Nat, j ≤ cl.length ∧ i = .int .i64 j ∧ Ext W3 wx ∧ ∀ c ∈ cl.take j, kindC c ≠ 0 → c.name ≠ nm) (fun i _ => cl.length - (intOf i).toNat)
      case atStart => exact ⟨0, Nat.zero_le _, rfl, Ext.refl _, fun t ht => by simp at ht⟩
      case round =>
        rename World => wx
        obtain ⟨j, hj, rfl, G, hc⟩ := hrel
        have X2 := hide (X.out.ext G)
        by_cases hlj : j < cl.length
        · obtain ⟨bc, oc, rfl, _, hin, c0, c1, c2, c3⟩ := ECond.atC (r1.out.ext G) j hlj
          have hst2 := take_snoc (P := fun c : CondS => kindC c ≠ 0 → c.name ≠ nm) hlj hc
          have hy := hyc'.out cl[j] (List.getElem_mem hlj)
          have hm := List.getElem_mem hlj
          generalize cl[j] = cc at *
          have qk := fun W => DKind_any cc W
          have hkp := kindC_pos cc
          generalize kindC cc = kc at *
          obtain ⟨ck, cn, cm, cv⟩ := cc
          dsimp only at *
          clear hin hm
          replace hst2 := hide hst2
          replace hy := hide hy
          replace qk := hide qk
          replace hc := hide hc
          replace G := hide G
          have X2_0 : wx.cell? ⟨gt, 0, none⟩ = some (.slice (some ⟨bc, oc, none⟩) cl.length p1) := X2.out.cell 0
          have X2_1 : wx.cell? ⟨gt, 1, none⟩ = some (.slice x2 al.length p2) := X2.out.cell 1
          go_wp2_with fail
          (with_reducible refine (qk.out _).mono ?_)
          rintro e W4 ⟨rfl, he⟩
          have X4 := hide (X2.out.ext he)
          have c2' := he.cell c2
          replace G := hide (G.out.trans he)
          clear he qk c0 c1 c2 c3
          clear X2_0 X2_1
          have X4_0 : W4.cell? ⟨gt, 0, none⟩ = some (.slice (some ⟨bc, oc, none⟩) cl.length p1) := X4.out.cell 0
          have X4_1 : W4.cell? ⟨gt, 1, none⟩ = some (.slice x2 al.length p2) := X4.out.cell 1
          by_cases hk0 : kc = 0
          · subst hk0
            have hs := hide (hst2.out fun h => absurd rfl h)
            clear hst2 hy hkp
            go_wp2_with fail
            go_roundw
            case rel => exact ⟨j + 1, by omega, by go_num, G.out, hs.out⟩
            case measure => simp [intOf]; omega
          · have hkp' : 0 < kc := by omega
            have hdk : decide (kc > 0) = true := decide_eq_true hkp'
            generalize hcm : (cm == nm) = cc at *
            cases cc with
            | true =>
              have hr := hy.out hk0 (eq_of_beq hcm)
              subst hr
              clear hst2 hy hkp hk0
              have EE := hide (E.out.trans (F1.out.trans G.out))
              go_wp2_with fail
              go_ret
              exact ⟨rfl, EE.out⟩
            | false =>
              have hs := hide (hst2.out fun _ h => by rw [h] at hcm; simp at hcm)
              clear hst2 hy hkp hk0
              go_wp2_with fail
              clear X4_0 X4_1
              clear c2' hcm hdk hkp'
              go_roundw
              case rel => exact ⟨j + 1, by omega, by go_num, G.out, hs.out⟩
              case measure => simp [intOf]; omega
        · obtain rfl : j = cl.length := by omega
          rw [List.take_length] at hc
          clear hlj hj
          replace hc := hide hc
          replace G := hide G
          have X2_0 : wx.cell? ⟨gt, 0, none⟩ = some (.slice x1 cl.length p1) := X2.out.cell 0
          have X2_1 : wx.cell? ⟨gt, 1, none⟩ = some (.slice x2 al.length p2) := X2.out.cell 1
          go_wp2_with fail
          clear X2_0 X2_1
          go_loopw [8] (fun i wy => ∃ j : Nat, j ≤ al.length ∧ i = .int .i64 j ∧ wy = wx ∧ ∀ c ∈ al.take j, c.kind = 7 → c.name ≠ nm) (fun i _ => al.length - (intOf i).toNat)
          case atStart => exact ⟨0, Nat.zero_le _, rfl, rfl, fun t ht => by simp at ht⟩
          case round =>
            obtain ⟨j, hj, rfl, rfl, ha⟩ := hrel
            rename World => wy
            by_cases hlj : j < al.length
            · obtain ⟨bc, oc, rfl, _, hin, c0, c1, c2, c3⟩ := EAct.atC (r2.out.ext G.out) j hlj
              have hst2 := take_snoc (P := fun c : ActS => c.kind = 7 → c.name ≠ nm) hlj ha
              have hy := hya'.out al[j] (List.getElem_mem hlj)
              generalize al[j] = cc at *
              obtain ⟨ck, cm, cn, cv⟩ := cc
              dsimp only at *
              clear hin c2 c3
              replace hst2 := hide hst2
              replace hy := hide hy
              replace ha := hide ha
              have X2_0 : wy.cell? ⟨gt, 0, none⟩ = some (.slice x1 cl.length p1) := X2.out.cell 0
              have X2_1 : wy.cell? ⟨gt, 1, none⟩ = some (.slice (some ⟨bc, oc, none⟩) al.length p2) := X2.out.cell 1
              by_cases hk7 : ck = 7
              · subst hk7
                generalize hcm : (cm == nm) = cc at *
                cases cc with
                | true =>
                  have hr := hy.out rfl (eq_of_beq hcm)
                  subst hr
                  clear hst2 hy
                  have EE := hide (E.out.trans (F1.out.trans G.out))
                  go_wp2_with fail
                  go_ret
                  exact ⟨rfl, EE.out⟩
                | false =>
                  have hs := hide (hst2.out fun _ h => by rw [h] at hcm; simp at hcm)
                  clear hst2 hy
                  go_wp2_with fail
                  go_roundw
                  case rel => exact ⟨j + 1, by omega, by go_num, by trivial, hs.out⟩
                  case measure => simp [intOf]; omega
              · have hkb : (ck == 7) = false := beq_eq_false_iff_ne.2 hk7
                have hs := hide (hst2.out fun h => absurd h hk7)
                clear hst2 hy hk7
                go_wp2_with fail
                clear X2_0 X2_1
                go_roundw
                case rel => exact ⟨j + 1, by omega, by go_num, by trivial, hs.out⟩
                case measure => simp [intOf]; omega
            · obtain rfl : j = al.length := by omega
              rw [List.take_length] at ha
              clear hlj hj
              have hs := hide (hst.out ⟨hc.out, ha⟩)
              replace ha := hide ha
              have FF := hide (F1.out.trans G.out)
              have X2_0 : wy.cell? ⟨gt, 0, none⟩ = some (.slice x1 cl.length p1) := X2.out.cell 0
              have X2_1 : wy.cell? ⟨gt, 1, none⟩ = some (.slice x2 al.length p2) := X2.out.cell 1
              go_wp2_with fail
              clear X2_0 X2_1
              go_roundw
              case rel => exact ⟨k + 1, by omega, by go_num, FF.out, hs.out⟩
              case measure => simp [intOf]; omega
    · obtain rfl : k = T.length := by omega
      rw [List.take_length] at hn
      have hr := hno.out hn
      subst hr
      have EE := E.out.trans F
      have S1 := S.out.ext F
      clear hn F hno hyc hya
      replace EE := hide EE
      replace S1 := hide S1
      have S1_0 : wr.cell? ⟨g0, 0, none⟩ = some (.string ⟨p.name.toArray⟩) := S1.out.cell 0
      have S1_1 : wr.cell? ⟨g0, 1, none⟩ = some (.slice a T.length ca) := S1.out.cell 1
      have S1_2 : wr.cell? ⟨g0, 2, none⟩ = some (.bool p.els) := S1.out.cell 2
      go_wp2_with fail
      clear S1_0 S1_1 S1_2
      go_ret
      exact ⟨rfl, EE.out⟩
set_option maxRecDepth 20000 in
set_option maxHeartbeats 4000000 in
theorem DMayPol_any (p : PolS) (a : Option Addr) (ca : Nat) (w : World) (hl : p.terms.length ≤ 16777216) (s1 : Sl ETerm w (· < w.heap.size) a p.terms) :
    Calls Tryz.prog 69 #[.agg #[.string ⟨p.name.toArray⟩, .slice a p.terms.length ca, .bool p.els]] w fun e w' => e = .returned (.bool (polOk p)) ∧ Ext w w' := by
  have S := Blk.new w 35 #[.string ⟨p.name.toArray⟩, .slice a p.terms.length ca, .bool p.els]
  have E := (Ext.refl w).alloc (Obj.cells #[.string ⟨p.name.toArray⟩, .slice a p.terms.length ca, .bool p.els] 35)
  have qn := fun W => DName_any p.name W
  have hpo := polOk_bad (p := p)
  generalize polOk p = po at *
  generalize hW0 : w.alloc (Obj.cells #[.string ⟨p.name.toArray⟩, .slice a p.terms.length ca, .bool p.els] 35) = W0 at S E
  obtain ⟨g0, hg0⟩ : ∃ g0, w.heap.size = g0 := ⟨_, rfl⟩
  rw [hg0] at S
  generalize p.terms = T at *
  generalize nameOk p.name = bn at *
  replace S := hide S
  replace E := hide E
  replace s1 := hide s1
  replace qn := hide qn
  replace hpo := hide hpo
  go_enter Tryz.func69, Tryz.ntmps69
  have S_0 : W0.cell? ⟨g0, 0, none⟩ = some (.string ⟨p.name.toArray⟩) := S.out.cell 0
  have S_1 : W0.cell? ⟨g0, 1, none⟩ = some (.slice a T.length ca) := S.out.cell 1
  have S_2 : W0.cell? ⟨g0, 2, none⟩ = some (.bool p.els) := S.out.cell 2
  go_wp2_with fail
  (with_reducible refine (qn.out _).mono ?_)
  rintro e W1 ⟨rfl, rfl⟩
  clear hW0 hg0 qn
  cases bn with
  | false =>
    obtain rfl : po = false := hpo.out
    clear hpo
    go_wp2_with fail
    go_ret
    exact ⟨rfl, E.out⟩
  | true =>
    replace hpo := hpo.out
    rw [Bool.true_and] at hpo
    by_cases h64 : T.length ≤ 64
    case neg =>
      rw [decide_eq_false h64, Bool.false_and] at hpo
      subst hpo
      have hd := decide_eq_true (show (T.length : Int) > 64 by omega)
      go_wp2_with fail
      go_ret
      exact ⟨rfl, E.out⟩
    rw [decide_eq_true h64, Bool.true_and] at hpo
    replace hpo := hide hpo
    go_wp2_with fail
    clear S_0 S_1 S_2
    go_loopw [3] (fun i wr => ∃ k : Nat, k ≤ T.length ∧ i = .int .i64 k ∧ Ext W0 wr ∧ badT (T.take k) = false) (fun i _ => T.length - (intOf i).toNat)
    case atStart => exact ⟨0, Nat.zero_le _, rfl, Ext.refl _, rfl⟩
    case round =>
      obtain ⟨k, hk, rfl, F, hn⟩ := hrel
      have S1 := S.out.ext F
      by_cases hlt : k < T.length
      · obtain ⟨b1, of1, x1, p1, x2, p2, rfl, _, i1, i2, n3, r1, n4, r2⟩ := ETerm.at (s1.out.ext (E.out.trans F)) k hlt
        have hst := badT_take hlt hn
        have hba := badT_at (l := T) hlt
        generalize T[k] = t at *
        have qm := DMayTerm_any x1 p1 x2 p2 t wr n3 n4 r1 r2
        generalize termOk t = tk at *
        generalize t.conds.length = z1 at *
        generalize t.acts.length = z2 at *
        clear r1 r2 n3 n4
        replace S1 := hide S1
        replace F := hide F
        replace hn := hide hn
        replace hst := hide hst
        replace hba := hide hba
        replace qm := hide qm
        have S1_0 : wr.cell? ⟨g0, 0, none⟩ = some (.string ⟨p.name.toArray⟩) := S1.out.cell 0
        have S1_1 : wr.cell? ⟨g0, 1, none⟩ = some (.slice (some ⟨b1, of1, none⟩) T.length ca) := S1.out.cell 1
        have S1_2 : wr.cell? ⟨g0, 2, none⟩ = some (.bool p.els) := S1.out.cell 2
        go_wp2_with fail
        (with_reducible refine (qm.out).mono ?_)
        rintro e W2 ⟨rfl, he⟩
        clear S1_0 S1_1 S1_2
        replace F := hide (F.out.trans he)
        clear i1 i2 qm he
        cases tk with
        | true =>
          have h2 := hide (hst.out rfl)
          clear hst hba
          go_wp2_with fail
          go_roundw
          case rel => exact ⟨k + 1, by omega, by go_num, F.out, h2.out⟩
          case measure => simp [intOf]; omega
        | false =>
          have hp2 := hpo.out
          rw [hba.out rfl] at hp2
          subst hp2
          clear hst hba hpo
          go_wp2_with fail
          go_ret
          exact ⟨rfl, E.out.trans F.out⟩
      · obtain rfl : k = T.length := by omega
        rw [List.take_length] at hn
        have hp2 := hpo.out
        rw [hn] at hp2
        subst hp2
        clear hpo
        have EE := E.out.trans F
        clear hn F
        replace EE := hide EE
        replace S1 := hide S1
        have S1_0 : wr.cell? ⟨g0, 0, none⟩ = some (.string ⟨p.name.toArray⟩) := S1.out.cell 0
        have S1_1 : wr.cell? ⟨g0, 1, none⟩ = some (.slice a T.length ca) := S1.out.cell 1
        have S1_2 : wr.cell? ⟨g0, 2, none⟩ = some (.bool p.els) := S1.out.cell 2
        go_wp2_with fail
        clear S1_0 S1_1 S1_2
        go_ret
        exact ⟨rfl, EE.out⟩
end
section
open Go.RowKit Go.Sort
set_option linter.unusedVariables false
set_option maxHeartbeats 1000000 in
theorem RMayAtoms_any (a : Option Addr) (c : Nat) (l : List Atm) (w : World) (hl : l.length ≤ 16777216) (hs : Sl EAtm w (· < w.heap.size) a l) :
    Calls Tryz.prog 155 #[.slice a l.length c] w fun e w' => e = .returned (.bool (atmsOk l)) ∧ Ext w w' := by
  replace hs := hide hs
  go_enter Tryz.func155, Tryz.ntmps155
  go_wp2
  go_loopw [3] (fun i wr => ∃ k : Nat, k ≤ l.length ∧ i = .int .i64 k ∧ Ext w wr ∧ (l.take k).all atmOk = true) (fun i _ => l.length - (intOf i).toNat)
  case atStart => exact ⟨0, Nat.zero_le _, rfl, Ext.refl _, rfl⟩
  case round =>
    obtain ⟨k, hk, rfl, he, ha⟩ := hrel
    replace ha := hide ha
    replace he := hide he
    by_cases hlt : k < l.length
    · obtain ⟨b, off, rfl, _, hkd, x0, x1⟩ := EAtm.at (hs.out.ext he.out) k hlt
      have A := Blk.new wr 75 #[.int .i64 l[k].1, .int .u32 (l[k].2.toNat : Int)]
      have he' := hide (he.out.alloc (Obj.cells #[.int .i64 l[k].1, .int .u32 (l[k].2.toNat : Int)] 75))
      generalize hW : wr.alloc (Obj.cells #[.int .i64 l[k].1, .int .u32 (l[k].2.toNat : Int)] 75) = W at A he'
      generalize hg : wr.heap.size = g at A
      have A_0 : W.cell? ⟨g, 0, none⟩ = some (.int .i64 l[k].1) := A.cell 0
      have A_1 : W.cell? ⟨g, 1, none⟩ = some (.int .u32 (l[k].2.toNat : Int)) := A.cell 1
      replace A := hide A
      have hbad := fun h => allA_bad hlt h
      have hok := fun h : atmOk l[k] = true => (allA_succ l k hlt).trans (by rw [ha.out, h, Bool.true_and])
      have hcs := atm_cases l[k]
      generalize atmOk l[k] = ok at hbad hok hcs
      generalize l[k] = x at *
      obtain ⟨kd, av⟩ := x
      dsimp only at *
      replace hbad := hide hbad
      replace hok := hide hok
      rcases hcs with ⟨h1, rfl⟩ | ⟨h1, h3, rfl⟩ | ⟨h1, h3, b3, b4, e3, e4, e5⟩
      · have e1 : decide (kd < 1) = true := decide_eq_true h1
        clear h1
        go_wp2
        go_ret
        exact ⟨ret_bool (hbad.out (by trivial)).symm, he'.out⟩
      · have e1 : decide (kd < 1) = false := decide_eq_false (by omega)
        have e2 : decide (3 < kd) = true := decide_eq_true h3
        clear h1 h3
        go_wp2
        go_ret
        exact ⟨ret_bool (hbad.out (by trivial)).symm, he'.out⟩
      · have e1 : decide (kd < 1) = false := decide_eq_false (by omega)
        have e2 : decide (3 < kd) = false := decide_eq_false (by omega)
        clear h1 h3
        cases ok with
        | true =>
          rw [Bool.not_true] at e5
          cases b3 <;> cases b4 <;> first | exact absurd e5 (by decide) | (go_wp2; go_roundw; (case rel => exact ⟨k + 1, by omega, by go_num, he'.out, hok.out (by trivial)⟩); (case measure => simp [intOf]; omega))
        | false =>
          rw [Bool.not_false] at e5
          cases b3 <;> cases b4 <;> first | exact absurd e5 (by decide) | (go_wp2; go_ret; exact ⟨ret_bool (hbad.out (by trivial)).symm, he'.out⟩)
    · have hend : atmsOk l = decide (l.length ≤ 64) := by
        obtain rfl : k = l.length := by omega
        have := ha.out
        rw [List.take_length] at this
        unfold atmsOk
        rw [this, Bool.true_and]
      have hle : decide ((l.length : Int) ≤ 64) = decide (l.length ≤ 64) := decide_eq_decide.2 (by omega)
      rw [← hend] at hle
      clear hend
      go_wp2
      go_ret
      exact ⟨ret_bool rfl, he.out⟩
open Go.RowKit Go.Sort
theorem run_eqA (W : World) (f g : Int) (r s : Int) :
  (binOp .eql 75 (.agg #[.int .i64 f, .int .u32 r]) (.agg #[.int .i64 g, .int .u32 s])).run Tryz.prog W = .ok (.bool (decide (f = g ∧ r = s))) W := by
 have hS : Tryz.prog.underlying 75 = some (.struct (Tryz.prog.fieldsOf 75)) := by kernel_rfl
 rw [run_eql_struct, run_equalIn_agg W 9999 _ _ _ hS Tryz.stoodInHeld75]
 simp only [Program.fieldsOf, Tryz.underlying75]
 have e1 : ∀ (a b : Int) (w : World), (Op.equalIn 9999 3 (.int .i64 a) (.int .i64 b)).run Tryz.prog w = .ok (a == b) w := fun a b w => run_equalIn_int w 9998 _ .i64 .i64 a b Tryz.underlying3
 have e2 : ∀ (a b : Int) (w : World), (Op.equalIn 9999 49 (.int .u32 a) (.int .u32 b)).run Tryz.prog w = .ok (a == b) w := fun a b w => run_equalIn_int w 9998 _ .u32 .u32 a b Tryz.underlying49
 by_cases h1 : f = g <;> by_cases h2 : r = s <;> simp [Op.eqFields, part, e1, e2, h1, h2]
theorem eqA_run (W : World) (a b : Atm) (e : Bool) (h : e = true ↔ a = b) : (binOp .eql 75 (.agg #[.int .i64 a.1, .int .u32 (a.2.toNat : Int)]) (.agg #[.int .i64 b.1, .int .u32 (b.2.toNat : Int)])).run Tryz.prog W = .ok (.bool e) W := by
 rw [run_eqA]
 congr 2
 rw [show e = decide (e = true) by simp, decide_eq_decide, h]
 constructor
 ·rintro ⟨e1, e2⟩
  exact Prod.ext e1 (UInt32.toNat_inj.1 (by omega))
 ·rintro rfl
  exact ⟨rfl, rfl⟩
theorem neqA_run (W : World) (a b : Atm) (e : Bool) (h : e = true ↔ a = b) : (binOp .neq 75 (.agg #[.int .i64 a.1, .int .u32 (a.2.toNat : Int)]) (.agg #[.int .i64 b.1, .int .u32 (b.2.toNat : Int)])).run Tryz.prog W = .ok (.bool (!e)) W := by
  have h1 := eqA_run W a b e h
  rw [run_eql_struct] at h1
  rw [run_neq_struct]
  generalize (Op.equalIn 10000 75 (.agg #[.int .i64 a.1, .int .u32 (a.2.toNat : Int)]) (.agg #[.int .i64 b.1, .int .u32 (b.2.toNat : Int)])).run Tryz.prog W = r at h1 ⊢
  cases r with
  | ok b w' =>
    simp only [Result.andThen] at h1 ⊢
    injection h1 with e1 e2
    injection e1 with e1
    subst e1
    subst e2
    rfl
  | halt x w' => simp only [Result.andThen] at h1; cases h1
end
section
open Go.RowKit Go.Sort
set_option linter.unusedVariables false
theorem nameCh_cases (c : UInt8) : ∃ b1 b2 b3 b4 b5 r : Bool, decide ((97 : Int) ≤ (c.toNat : Int)) = b1 ∧ decide ((c.toNat : Int) ≤ 122) = b2 ∧ decide ((48 : Int) ≤ (c.toNat : Int)) = b3 ∧ decide ((c.toNat : Int) ≤ 57) = b4 ∧ ((c.toNat : Int) == 45) = b5 ∧ nameCh c = r ∧ ((b1 && b2) || ((b3 && b4) || b5)) = r := by
 refine ⟨_, _, _, _, _, _, rfl, rfl, rfl, rfl, rfl, rfl, ?_⟩
 unfold nameCh runeOk
 rw [show decide ((97 : Int) ≤ (c.toNat : Int)) = decide (97 ≤ c.toNat) from decide_eq_decide.2 (by omega), show decide ((c.toNat : Int) ≤ 122) = decide (c.toNat ≤ 122) from decide_eq_decide.2 (by omega), show decide ((48 : Int) ≤ (c.toNat : Int)) = decide (48 ≤ c.toNat) from decide_eq_decide.2 (by omega), show decide ((c.toNat : Int) ≤ 57) = decide (c.toNat ≤ 57) from decide_eq_decide.2 (by omega)]
 rw [show ((c.toNat : Int) == 45) = decide (c.toNat = 45) by rw [Bool.eq_iff_iff, beq_iff_eq, decide_eq_true_eq]; omega]
theorem allN_succ (s : List UInt8) (k : Nat) (hk : k < s.length) : (s.take (k + 1)).all nameCh = ((s.take k).all nameCh && nameCh s[k]) := by
 rw [List.take_succ_eq_append_getElem hk, List.all_append, List.all_cons, List.all_nil, Bool.and_true]
set_option maxRecDepth 20000 in
set_option maxHeartbeats 2000000 in
theorem RName_any (s : List UInt8) (w : World) : Calls Tryz.prog 151 #[.string ⟨s.toArray⟩] w fun e w' => e = .returned (.bool (nameOk s)) ∧ w = w' := by
  have hz : (ByteArray.mk s.toArray).size = s.length := by simp [ByteArray.size]
  cases s with
  | nil =>
    go_enter Tryz.func151, Tryz.ntmps151
    go_wp2
    go_ret
    exact ⟨rfl, rfl⟩
  | cons x t =>
    have hix := ba_index0 (x :: t) x t rfl
    have hdef : nameOk (x :: t) = (decide ((x :: t).length ≤ 16) && (decide (97 ≤ x.toNat) && (x :: t).all nameCh)) := by
      unfold nameOk
      rw [decide_eq_true (p := 1 ≤ (x :: t).length) (by simp), Bool.true_and]
      rfl
    have hlen : 1 ≤ (x :: t).length := by simp
    have hhd : ∀ h : 0 < (x :: t).length, (x :: t)[0] = x := fun _ => rfl
    generalize hs : x :: t = s at *
    have e1 : decide ((s.length : Int) < 1) = false := decide_eq_false (by omega)
    by_cases h16 : 16 < s.length
    · have e2 : decide ((16 : Int) < (s.length : Int)) = true := decide_eq_true (by omega)
      have hr := hide (show nameOk s = false by rw [hdef, decide_eq_false (by omega), Bool.false_and])
      clear h16 hdef hs hhd
      go_enter Tryz.func151, Tryz.ntmps151
      go_wp2
      go_ret
      exact ⟨ret_bool hr.out.symm, rfl⟩
    have e2 : decide ((16 : Int) < (s.length : Int)) = false := decide_eq_false (by omega)
    rw [decide_eq_true (p := s.length ≤ 16) (by omega), Bool.true_and] at hdef
    by_cases h97 : x.toNat < 97
    · have e3 : decide ((x.toNat : Int) < 97) = true := decide_eq_true (by omega)
      have hr := hide (show nameOk s = false by rw [hdef, decide_eq_false (by omega), Bool.false_and])
      clear h16 hdef hs hhd h97
      go_enter Tryz.func151, Tryz.ntmps151
      go_wp2
      go_ret
      exact ⟨ret_bool hr.out.symm, rfl⟩
    have e3 : decide ((x.toNat : Int) < 97) = false := decide_eq_false (by omega)
    rw [decide_eq_true (p := 97 ≤ x.toNat) (by omega), Bool.true_and] at hdef
    by_cases h122 : 122 < x.toNat
    · have e4 : decide ((122 : Int) < (x.toNat : Int)) = true := decide_eq_true (by omega)
      have hr := hide (show nameOk s = false by
        rw [hdef, ← hs, List.all_cons]
        have : nameCh x = false := by unfold nameCh runeOk; simp; omega
        rw [this, Bool.false_and])
      clear h16 hdef hs hhd h97 h122
      go_enter Tryz.func151, Tryz.ntmps151
      go_wp2
      go_ret
      exact ⟨ret_bool hr.out.symm, rfl⟩
    have e4 : decide ((122 : Int) < (x.toNat : Int)) = false := decide_eq_false (by omega)
    have hle : s.length ≤ 16 := by omega
    clear hs hhd h16 h97 h122
    replace hdef := hide hdef
    go_enter Tryz.func151, Tryz.ntmps151
    go_wp2
    clear hix e1 e2 e3 e4
    go_loop [3] (fun i => ∃ k : Nat, k ≤ s.length ∧ i = .int .i64 k ∧ (s.take k).all nameCh = true) (fun i => s.length - (intOf i).toNat)
    case atStart => exact ⟨0, Nat.zero_le _, rfl, rfl⟩
    case round =>
      obtain ⟨k, hk, rfl, ha⟩ := hrel
      by_cases hlt : k < s.length
      · have e1 : (ByteArray.mk s.toArray)[k]'(by rw [hz]; exact hlt) = s[k] := rfl
        have hsu := allN_succ s k hlt
        rw [ha, Bool.true_and] at hsu
        have hbad : nameCh s[k] = false → nameOk s = false := fun h => by
          rw [hdef.out, List.all_eq_false]
          exact ⟨s[k], List.getElem_mem hlt, by rw [h]; decide⟩
        obtain ⟨b1, b2, b3, b4, b5, r, d1, d2, d3, d4, d5, d6, d7⟩ := nameCh_cases s[k]
        rw [d6] at hsu hbad
        clear d6 ha
        generalize s[k] = c at *
        replace hsu := hide hsu
        replace hbad := hide hbad
        cases b1 <;> cases b2 <;> cases b3 <;> cases b4 <;> cases b5 <;> subst d7 <;> first
          | (go_wp2; go_round; (case rel => exact ⟨k + 1, by omega, by go_num, hsu.out⟩); (case measure => simp [intOf]; omega))
          | (go_wp2; go_ret; exact ⟨ret_bool (hbad.out rfl).symm, rfl⟩)
      · obtain rfl : k = s.length := by omega
        have hr := hide (show nameOk s = true by rw [hdef.out]; rwa [List.take_length] at ha)
        clear ha
        go_wp2
        go_ret
        exact ⟨ret_bool hr.out.symm, rfl⟩
set_option maxRecDepth 20000 in
set_option maxHeartbeats 2000000 in
theorem RMayC_any (a : Option Addr) (c : Nat) (l : List UInt32) (w : World) (hl : l.length ≤ 16777216) (hs : Sl EU32 w (· < w.heap.size) a l) :
  Calls Tryz.prog 154 #[.slice a l.length c] w fun e w' => e = .returned (.bool (commsOk l)) ∧ Ext w w' := by
 replace hs := hide hs
 go_enter Tryz.func154, Tryz.ntmps154
 go_wp2
 go_loopw [3] (fun i wr => ∃ j : Nat, (j ≤ l.length) ∧ i = .int .i64 ((j : Int) + 1) ∧ Ext w wr ∧ ∀ m (h : m + 1 < l.length), m < j → l[m].toNat < l[m + 1].toNat) (fun i _ => l.length + 1 - (intOf i).toNat)
 case atStart => exact ⟨0, Nat.zero_le _, rfl, Ext.refl _, fun m _ h => by omega⟩
 case round =>
  obtain ⟨j, hj, rfl, E, ha⟩ := hrel
  by_cases hlt : j + 1 < l.length
  ·obtain ⟨b, off, rfl, _, x0⟩ := EU32.at (hs.out.ext E) j (by omega)
   obtain ⟨b', off', he, _, x1⟩ := EU32.at (hs.out.ext E) (j + 1) hlt
   injection he with he
   injection he with h1 h2 _
   subst h1 h2
   have e1 : decide ((j : Int) + 1 < (l.length : Int)) = true := decide_eq_true (by omega)
   have hbad := fun h => risU_bad hlt h
   have hnx : l[j].toNat < l[j + 1].toNat → ∀ m (h : m + 1 < l.length), m < j + 1 → l[m].toNat < l[m + 1].toNat := fun h m hm hmj => by
    rcases Nat.lt_or_ge m j with h3 | h3
    ·exact ha m hm h3
    ·obtain rfl : m = j := by omega
     exact h
   have hj0 : ((j : Int) + 1).toNat = j + 1 := by omega
   generalize l[j].toNat = y at *
   generalize l[j + 1].toNat = z at *
   clear ha
   by_cases hyz : y < z
   ·have e2 : decide ((z : Int) ≤ (y : Int)) = false := decide_eq_false (by omega)
    have hn := hide (hnx hyz)
    have e3 : ¬ (z ≤ y) := by omega
    clear hnx hbad hyz
    replace E := hide E
    go_wp2_with fail
    go_region
    go_wp2
    go_roundw
    case rel => exact ⟨j + 1, by omega, by go_num, E.out.drew, hn.out⟩
    case measure => simp [intOf]; omega
   ·have e2 : decide ((z : Int) ≤ (y : Int)) = true := decide_eq_true (by omega)
    have hb := hide (hbad hyz)
    have e3 : z ≤ y := by omega
    clear hnx hbad hyz
    replace E := hide E
    go_wp2_with fail
    go_region
    go_wp2
    go_ret
    exact ⟨ret_bool hb.out.symm, E.out.drew⟩
  ·have e1 : decide ((j : Int) + 1 < (l.length : Int)) = false := decide_eq_false (by omega)
   have hr : commsOk l = decide (l.length ≤ 64) := by
    unfold commsOk
    rw [(risU_iff l).2 fun i h => ha i h (by omega), Bool.true_and]
   have e2 : decide ((l.length : Int) ≤ 64) = commsOk l := by rw [hr]; exact decide_eq_decide.2 (by omega)
   clear hr ha
   replace E := hide E
   go_wp2
   go_ret
   exact ⟨rfl, E.out⟩
/-! ### functions over lists of numbers -/
end
section
open Go.RowKit Go.Sort
set_option linter.unusedVariables false
theorem itm_split (x : Itm) : ∃ ok : Bool, decide (itmOk x) = ok ∧ ((mayB x.p = false ∧ ok = false) ∨ (mayB x.p = true ∧ decide (x.low < x.p.len) = true ∧ ok = false) ∨ (mayB x.p = true ∧ decide (x.low < x.p.len) = false ∧ decide (x.high < x.low) = true ∧ ok = false) ∨ (mayB x.p = true ∧ decide (x.low < x.p.len) = false ∧ decide (x.high < x.low) = false ∧ decide (8 * sizeS x.p.fam < x.high) = !ok)) := by
 refine ⟨_, rfl, ?_⟩
 by_cases h : MayP x.p
 ·have hm : mayB x.p = true := decide_eq_true h
  by_cases h1 : x.low < x.p.len
  ·exact .inr (.inl ⟨hm, decide_eq_true h1, decide_eq_false fun h3 => by have := h3.2.1; omega⟩)
  ·by_cases h2 : x.high < x.low
   ·exact .inr (.inr (.inl ⟨hm, decide_eq_false h1, decide_eq_true h2, decide_eq_false fun h3 => by have := h3.2.2.1; omega⟩))
   ·refine .inr (.inr (.inr ⟨hm, decide_eq_false h1, decide_eq_false h2, ?_⟩))
    by_cases h4 : x.high ≤ 8 * sizeS x.p.fam
    ·rw [decide_eq_false (by omega), decide_eq_true (show itmOk x from ⟨h, by omega, by omega, h4⟩)]; rfl
    ·rw [decide_eq_true (by omega), decide_eq_false (show ¬ itmOk x from fun h3 => h4 h3.2.2.2)]; rfl
 ·exact .inl ⟨decide_eq_false h, decide_eq_false fun h3 => h h3.1⟩
theorem allI_succ {α : Type} (f : α → Bool) (l : List α) (k : Nat) (hk : k < l.length) : (l.take (k + 1)).all f = ((l.take k).all f && f l[k]) := by
 rw [List.take_succ_eq_append_getElem hk, List.all_append, List.all_cons, List.all_nil, Bool.and_true]
theorem allI_bad {α : Type} {f : α → Bool} {l : List α} {k : Nat} (hk : k < l.length) (h : f l[k] = false) : l.all f = false := by
 rw [List.all_eq_false]
 exact ⟨l[k], List.getElem_mem hk, by rw [h]; decide⟩
theorem beq0 (n : Nat) : ((n : Int) == 0) = !decide (0 < n) := by
 rcases Nat.eq_zero_or_pos n with rfl | h
 ·rfl
 ·rw [decide_eq_true h, beq_eq_false_iff_ne.2 (by omega)]; rfl
set_option maxRecDepth 20000 in
set_option maxHeartbeats 8000000 in
theorem RMay15_any (s : StS) (a1 : Option Addr) (c1 : Nat) (a2 : Option Addr) (c2 : Nat) (a3 : Option Addr) (c3 : Nat) (w : World) (hs : SetIn w (· < w.heap.size) s a1 a2 a3) :
    Calls Tryz.prog 122 #[.agg #[.string ⟨s.name.toArray⟩, .int .i64 s.kind, .slice a1 s.items.length c1, .slice a2 s.comms.length c2, .slice a3 s.paths.length c3]] w fun e w' => e = .returned (.bool (setOk s)) ∧ Ext w w' := by
  have mixed : Tryz.prog.follows Departure.mixedOrders = true := by kernel_rfl
  obtain ⟨nm, b1, b2, b3, d1, d3, bi, bp, co, r, e0, e1, e2, e3, f1, f3, ei, ep, ec, er, hcs⟩ := setOk_cases s
  have qn := fun W => RName_any s.name W
  rw [e0] at qn
  have qc := fun W (h : Ext w W) => RMayC_any a2 c2 s.comms W hs.nComms (hs.comms.ext h)
  rw [ec] at qc
  rw [er]
  rw [all_not] at ei ep
  have hit : ∀ W, Ext w W → Sl EItm W (· < W.heap.size) a1 s.items := fun W h => hs.items.ext h
  have hpt : ∀ W, Ext w W → Sl EAtm.slice W (· < W.heap.size) a3 s.paths := fun W h => hs.paths.ext h
  have hni := hs.nItems
  have hnp := hs.nPaths
  have z1 := beq0 s.items.length
  have z2 := beq0 s.comms.length
  have z3 := beq0 s.paths.length
  rw [e1] at z1
  rw [e2] at z2
  rw [e3] at z3
  clear hs e0 ec er e1 e2 e3
  obtain ⟨nm0, kd, items, comms, paths⟩ := s
  dsimp only at *
  generalize comms.length = n2 at *
  replace qn := hide qn
  replace qc := hide qc
  replace hcs := hide hcs
  replace hit := hide hit
  replace hpt := hide hpt
  replace ei := hide ei
  replace ep := hide ep
  go_enter Tryz.func122, Tryz.ntmps122
  have S := Blk.new w 67 #[.string ⟨nm0.toArray⟩, .int .i64 kd, .slice a1 items.length c1, .slice a2 n2 c2, .slice a3 paths.length c3]
  have E := (Ext.refl w).alloc (Obj.cells #[.string ⟨nm0.toArray⟩, .int .i64 kd, .slice a1 items.length c1, .slice a2 n2 c2, .slice a3 paths.length c3] 67)
  generalize hW0 : w.alloc (Obj.cells #[.string ⟨nm0.toArray⟩, .int .i64 kd, .slice a1 items.length c1, .slice a2 n2 c2, .slice a3 paths.length c3] 67) = W0 at S E
  generalize hg0 : w.heap.size = g0 at S
  replace S := hide S
  replace E := hide E
  have S_0 : W0.cell? ⟨g0, 0, none⟩ = some (.string ⟨nm0.toArray⟩) := S.out.cell 0
  have S_1 : W0.cell? ⟨g0, 1, none⟩ = some (.int .i64 kd) := S.out.cell 1
  have S_2 : W0.cell? ⟨g0, 2, none⟩ = some (.slice a1 items.length c1) := S.out.cell 2
  have S_3 : W0.cell? ⟨g0, 3, none⟩ = some (.slice a2 n2 c2) := S.out.cell 3
  have S_4 : W0.cell? ⟨g0, 4, none⟩ = some (.slice a3 paths.length c3) := S.out.cell 4
  go_wp2_with fail
  refine (qn.out _).mono ?_
  rintro e W1 ⟨rfl, rfl⟩
  clear hW0 hg0
  cases nm with
  | false =>
    have hr : false = r := by
      rcases hcs.out with ⟨_, h⟩ | ⟨_, h⟩ | ⟨_, h⟩ | ⟨_, _, _, h⟩ <;> exact h
    subst hr
    go_wp2
    go_ret
    exact ⟨rfl, E.out⟩
  | true =>
    rcases hcs.out with ⟨rfl, hr⟩ | ⟨rfl, hr⟩ | ⟨rfl, hr⟩ | ⟨k1, k2, k3, hr⟩
    · clear hcs qc hpt ep f3
      rw [Bool.true_and] at hr
      go_wp2_with fail
      go_loopw [3] (fun i wr => ∃ k : Nat, k ≤ items.length ∧ i = .int .i64 k ∧ Ext W0 wr ∧ (items.take k).all (fun x => decide (itmOk x)) = true) (fun i _ => items.length - (intOf i).toNat)
      case atStart => exact ⟨0, Nat.zero_le _, rfl, Ext.refl _, rfl⟩
      case round =>
        clear S_0 S_1 S_2 S_3 S_4
        obtain ⟨k, hk, rfl, hE, ha⟩ := hrel
        have S : Blk wr (g0) 67 #[.string ⟨nm0.toArray⟩, .int .i64 1, .slice a1 items.length c1, .slice a2 n2 c2, .slice a3 paths.length c3] := S.out.ext hE
        replace S := hide S
        have E1 := hide (E.out.trans hE)
        have S_0 : wr.cell? ⟨g0, 0, none⟩ = some (.string ⟨nm0.toArray⟩) := S.out.cell 0
        have S_1 : wr.cell? ⟨g0, 1, none⟩ = some (.int .i64 1) := S.out.cell 1
        have S_2 : wr.cell? ⟨g0, 2, none⟩ = some (.slice a1 items.length c1) := S.out.cell 2
        have S_3 : wr.cell? ⟨g0, 3, none⟩ = some (.slice a2 n2 c2) := S.out.cell 3
        have S_4 : wr.cell? ⟨g0, 4, none⟩ = some (.slice a3 paths.length c3) := S.out.cell 4
        by_cases hlt : k < items.length
        · obtain ⟨b, off, rfl, _, hin, hc⟩ := EItm.at (hit.out wr E1.out) k hlt
          have x0 : wr.cell? ⟨b, off + k * 6, none⟩ = some (.int .i64 items[k].p.fam) := hc 0 _ rfl
          have x1 : wr.cell? ⟨b, off + k * 6 + 1, none⟩ = some (.int .u64 (items[k].p.rd : Int)) := hc 1 _ rfl
          have x2 : wr.cell? ⟨b, off + k * 6 + 2, none⟩ = some (.string ⟨items[k].p.addr.toArray⟩) := hc 2 _ rfl
          have x3 : wr.cell? ⟨b, off + k * 6 + 3, none⟩ = some (.int .i64 items[k].p.len) := hc 3 _ rfl
          have x4 : wr.cell? ⟨b, off + k * 6 + 4, none⟩ = some (.int .i64 items[k].low) := hc 4 _ rfl
          have x5 : wr.cell? ⟨b, off + k * 6 + 5, none⟩ = some (.int .i64 items[k].high) := hc 5 _ rfl
          have hnx := allI_succ (fun x => decide (itmOk x)) items k hlt
          rw [ha, Bool.true_and] at hnx
          have hbad := fun h => allI_bad (f := fun x => decide (itmOk x)) hlt h
          have qck := fun W => RMay_any items[k].p W hin.p.addr
          have qsz := fun W => RSize_any items[k].p.fam W
          have hz : 0 ≤ sizeS items[k].p.fam ∧ sizeS items[k].p.fam ≤ 16 := by rcases sizeS_cases items[k].p.fam with h | h | h <;> omega
          obtain ⟨ok, hok, hsp⟩ := itm_split items[k]
          rw [hok] at hnx
          try dsimp only at hbad
          rw [hok] at hbad
          clear hc hin hok ha
          generalize items[k] = x at *
          obtain ⟨⟨f, rd, ad, ln⟩, lo, hi⟩ := x
          simp only [valP] at qck
          dsimp only at *
          generalize mayB ⟨f, rd, ad, ln⟩ = mb at qck hsp
          generalize sizeS f = sz at qsz hsp hz
          obtain ⟨hz1, hz2⟩ := hz
          have X := Blk.new wr 72 #[.int .i64 f, .int .u64 (rd : Int), .string ⟨ad.toArray⟩, .int .i64 ln, .int .i64 lo, .int .i64 hi]
          have hE4 := hE.alloc (Obj.cells #[.int .i64 f, .int .u64 (rd : Int), .string ⟨ad.toArray⟩, .int .i64 ln, .int .i64 lo, .int .i64 hi] 72)
          have S4 := S.out.alloc (Obj.cells #[.int .i64 f, .int .u64 (rd : Int), .string ⟨ad.toArray⟩, .int .i64 ln, .int .i64 lo, .int .i64 hi] 72)
          generalize hW4 : wr.alloc (Obj.cells #[.int .i64 f, .int .u64 (rd : Int), .string ⟨ad.toArray⟩, .int .i64 ln, .int .i64 lo, .int .i64 hi] 72) = W4 at X hE4 S4
          generalize hg4 : wr.heap.size = g4 at X
          have E4 := hE4
          replace qck := hide qck
          replace qsz := hide qsz
          replace hnx := hide hnx
          replace hbad := hide hbad
          replace X := hide X
          replace E4 := hide E4
          clear hE4 hE S4
          go_wp2_with fail
          clear S_0 S_1 S_2 S_3 S_4
          clear hW4 hg4 x0 x1 x2 x3 x4 x5
          rcases hsp with ⟨rfl, rfl⟩ | ⟨rfl, e2, rfl⟩ | ⟨rfl, e2, e3, rfl⟩ | ⟨rfl, e2, e3, e4⟩
          ·
            have X_0 : ∀ d os, (grow (redrawn W4 d) os).cell? ⟨g4, 0, none⟩ = some (.int .i64 f) := cell_regrown (X.out.cell 0)
            have X_1 : ∀ d os, (grow (redrawn W4 d) os).cell? ⟨g4, 1, none⟩ = some (.int .u64 (rd : Int)) := cell_regrown (X.out.cell 1)
            have X_2 : ∀ d os, (grow (redrawn W4 d) os).cell? ⟨g4, 2, none⟩ = some (.string ⟨ad.toArray⟩) := cell_regrown (X.out.cell 2)
            have X_3 : ∀ d os, (grow (redrawn W4 d) os).cell? ⟨g4, 3, none⟩ = some (.int .i64 ln) := cell_regrown (X.out.cell 3)
            have X_4 : ∀ d os, (grow (redrawn W4 d) os).cell? ⟨g4, 4, none⟩ = some (.int .i64 lo) := cell_regrown (X.out.cell 4)
            have X_5 : ∀ d os, (grow (redrawn W4 d) os).cell? ⟨g4, 5, none⟩ = some (.int .i64 hi) := cell_regrown (X.out.cell 5)
            have cq0 := Calls.regr qck.out W4
            have cq1 := Calls.regrS qsz.out W4
            refine wp_region_quiet_below (by assumption) (by kernel_rfl) ?_
            repeat (go_big_quiet_step (first | (with_reducible exact cq0 _ _) | (with_reducible exact cq1 _ _)))
            refine wpQuiet_nil ?_
            intro _ hw_
            obtain ⟨⟨dq_, osq_⟩, hw_'⟩ := hw_
            subst hw_'
            replace E4 := hide (E4.out.trans (below_regrown _ dq_ osq_))
            replace X := hide (X.out.ext (below_regrown _ dq_ osq_))
            clear X_0 X_1 X_2 X_3 X_4 X_5
            clear cq0 cq1
            generalize grow (redrawn W4 dq_) osq_ = W5 at E4 X ⊢
            have X_0 : W5.cell? ⟨g4, 0, none⟩ = some (.int .i64 f) := X.out.cell 0
            have X_1 : W5.cell? ⟨g4, 1, none⟩ = some (.int .u64 (rd : Int)) := X.out.cell 1
            have X_2 : W5.cell? ⟨g4, 2, none⟩ = some (.string ⟨ad.toArray⟩) := X.out.cell 2
            have X_3 : W5.cell? ⟨g4, 3, none⟩ = some (.int .i64 ln) := X.out.cell 3
            have X_4 : W5.cell? ⟨g4, 4, none⟩ = some (.int .i64 lo) := X.out.cell 4
            have X_5 : W5.cell? ⟨g4, 5, none⟩ = some (.int .i64 hi) := X.out.cell 5
            have hb := hide (hbad.out rfl)
            clear hbad
            go_wp2
            go_ret
            exact ⟨ret_bool (by rw [← hr, ← ei.out, hb.out]; cases b2 <;> cases b3 <;> cases d1 <;> rfl), E.out.trans E4.out⟩
          ·
            have X_0 : ∀ d os, (grow (redrawn W4 d) os).cell? ⟨g4, 0, none⟩ = some (.int .i64 f) := cell_regrown (X.out.cell 0)
            have X_1 : ∀ d os, (grow (redrawn W4 d) os).cell? ⟨g4, 1, none⟩ = some (.int .u64 (rd : Int)) := cell_regrown (X.out.cell 1)
            have X_2 : ∀ d os, (grow (redrawn W4 d) os).cell? ⟨g4, 2, none⟩ = some (.string ⟨ad.toArray⟩) := cell_regrown (X.out.cell 2)
            have X_3 : ∀ d os, (grow (redrawn W4 d) os).cell? ⟨g4, 3, none⟩ = some (.int .i64 ln) := cell_regrown (X.out.cell 3)
            have X_4 : ∀ d os, (grow (redrawn W4 d) os).cell? ⟨g4, 4, none⟩ = some (.int .i64 lo) := cell_regrown (X.out.cell 4)
            have X_5 : ∀ d os, (grow (redrawn W4 d) os).cell? ⟨g4, 5, none⟩ = some (.int .i64 hi) := cell_regrown (X.out.cell 5)
            have cq0 := Calls.regr qck.out W4
            have cq1 := Calls.regrS qsz.out W4
            refine wp_region_quiet_below (by assumption) (by kernel_rfl) ?_
            repeat (go_big_quiet_step (first | (with_reducible exact cq0 _ _) | (with_reducible exact cq1 _ _)))
            refine wpQuiet_nil ?_
            intro _ hw_
            obtain ⟨⟨dq_, osq_⟩, hw_'⟩ := hw_
            subst hw_'
            replace E4 := hide (E4.out.trans (below_regrown _ dq_ osq_))
            replace X := hide (X.out.ext (below_regrown _ dq_ osq_))
            clear X_0 X_1 X_2 X_3 X_4 X_5
            clear cq0 cq1
            generalize grow (redrawn W4 dq_) osq_ = W5 at E4 X ⊢
            have X_0 : W5.cell? ⟨g4, 0, none⟩ = some (.int .i64 f) := X.out.cell 0
            have X_1 : W5.cell? ⟨g4, 1, none⟩ = some (.int .u64 (rd : Int)) := X.out.cell 1
            have X_2 : W5.cell? ⟨g4, 2, none⟩ = some (.string ⟨ad.toArray⟩) := X.out.cell 2
            have X_3 : W5.cell? ⟨g4, 3, none⟩ = some (.int .i64 ln) := X.out.cell 3
            have X_4 : W5.cell? ⟨g4, 4, none⟩ = some (.int .i64 lo) := X.out.cell 4
            have X_5 : W5.cell? ⟨g4, 5, none⟩ = some (.int .i64 hi) := X.out.cell 5
            have hb := hide (hbad.out rfl)
            clear hbad
            go_wp2
            go_ret
            exact ⟨ret_bool (by rw [← hr, ← ei.out, hb.out]; cases b2 <;> cases b3 <;> cases d1 <;> rfl), E.out.trans E4.out⟩
          ·
            have X_0 : ∀ d os, (grow (redrawn W4 d) os).cell? ⟨g4, 0, none⟩ = some (.int .i64 f) := cell_regrown (X.out.cell 0)
            have X_1 : ∀ d os, (grow (redrawn W4 d) os).cell? ⟨g4, 1, none⟩ = some (.int .u64 (rd : Int)) := cell_regrown (X.out.cell 1)
            have X_2 : ∀ d os, (grow (redrawn W4 d) os).cell? ⟨g4, 2, none⟩ = some (.string ⟨ad.toArray⟩) := cell_regrown (X.out.cell 2)
            have X_3 : ∀ d os, (grow (redrawn W4 d) os).cell? ⟨g4, 3, none⟩ = some (.int .i64 ln) := cell_regrown (X.out.cell 3)
            have X_4 : ∀ d os, (grow (redrawn W4 d) os).cell? ⟨g4, 4, none⟩ = some (.int .i64 lo) := cell_regrown (X.out.cell 4)
            have X_5 : ∀ d os, (grow (redrawn W4 d) os).cell? ⟨g4, 5, none⟩ = some (.int .i64 hi) := cell_regrown (X.out.cell 5)
            have cq0 := Calls.regr qck.out W4
            have cq1 := Calls.regrS qsz.out W4
            refine wp_region_quiet_below (by assumption) (by kernel_rfl) ?_
            repeat (go_big_quiet_step (first | (with_reducible exact cq0 _ _) | (with_reducible exact cq1 _ _)))
            refine wpQuiet_nil ?_
            intro _ hw_
            obtain ⟨⟨dq_, osq_⟩, hw_'⟩ := hw_
            subst hw_'
            replace E4 := hide (E4.out.trans (below_regrown _ dq_ osq_))
            replace X := hide (X.out.ext (below_regrown _ dq_ osq_))
            clear X_0 X_1 X_2 X_3 X_4 X_5
            clear cq0 cq1
            generalize grow (redrawn W4 dq_) osq_ = W5 at E4 X ⊢
            have X_0 : W5.cell? ⟨g4, 0, none⟩ = some (.int .i64 f) := X.out.cell 0
            have X_1 : W5.cell? ⟨g4, 1, none⟩ = some (.int .u64 (rd : Int)) := X.out.cell 1
            have X_2 : W5.cell? ⟨g4, 2, none⟩ = some (.string ⟨ad.toArray⟩) := X.out.cell 2
            have X_3 : W5.cell? ⟨g4, 3, none⟩ = some (.int .i64 ln) := X.out.cell 3
            have X_4 : W5.cell? ⟨g4, 4, none⟩ = some (.int .i64 lo) := X.out.cell 4
            have X_5 : W5.cell? ⟨g4, 5, none⟩ = some (.int .i64 hi) := X.out.cell 5
            have hb := hide (hbad.out rfl)
            clear hbad
            go_wp2
            go_ret
            exact ⟨ret_bool (by rw [← hr, ← ei.out, hb.out]; cases b2 <;> cases b3 <;> cases d1 <;> rfl), E.out.trans E4.out⟩
          · cases ok with
            | true =>
              rw [Bool.not_true] at e4
              have X_0 : ∀ d os, (grow (redrawn W4 d) os).cell? ⟨g4, 0, none⟩ = some (.int .i64 f) := cell_regrown (X.out.cell 0)
              have X_1 : ∀ d os, (grow (redrawn W4 d) os).cell? ⟨g4, 1, none⟩ = some (.int .u64 (rd : Int)) := cell_regrown (X.out.cell 1)
              have X_2 : ∀ d os, (grow (redrawn W4 d) os).cell? ⟨g4, 2, none⟩ = some (.string ⟨ad.toArray⟩) := cell_regrown (X.out.cell 2)
              have X_3 : ∀ d os, (grow (redrawn W4 d) os).cell? ⟨g4, 3, none⟩ = some (.int .i64 ln) := cell_regrown (X.out.cell 3)
              have X_4 : ∀ d os, (grow (redrawn W4 d) os).cell? ⟨g4, 4, none⟩ = some (.int .i64 lo) := cell_regrown (X.out.cell 4)
              have X_5 : ∀ d os, (grow (redrawn W4 d) os).cell? ⟨g4, 5, none⟩ = some (.int .i64 hi) := cell_regrown (X.out.cell 5)
              have cq0 := Calls.regr qck.out W4
              have cq1 := Calls.regrS qsz.out W4
              refine wp_region_quiet_below (by assumption) (by kernel_rfl) ?_
              repeat (go_big_quiet_step (first | (with_reducible exact cq0 _ _) | (with_reducible exact cq1 _ _)))
              refine wpQuiet_nil ?_
              intro _ hw_
              obtain ⟨⟨dq_, osq_⟩, hw_'⟩ := hw_
              subst hw_'
              replace E4 := hide (E4.out.trans (below_regrown _ dq_ osq_))
              replace X := hide (X.out.ext (below_regrown _ dq_ osq_))
              clear X_0 X_1 X_2 X_3 X_4 X_5
              clear cq0 cq1
              generalize grow (redrawn W4 dq_) osq_ = W5 at E4 X ⊢
              have X_0 : W5.cell? ⟨g4, 0, none⟩ = some (.int .i64 f) := X.out.cell 0
              have X_1 : W5.cell? ⟨g4, 1, none⟩ = some (.int .u64 (rd : Int)) := X.out.cell 1
              have X_2 : W5.cell? ⟨g4, 2, none⟩ = some (.string ⟨ad.toArray⟩) := X.out.cell 2
              have X_3 : W5.cell? ⟨g4, 3, none⟩ = some (.int .i64 ln) := X.out.cell 3
              have X_4 : W5.cell? ⟨g4, 4, none⟩ = some (.int .i64 lo) := X.out.cell 4
              have X_5 : W5.cell? ⟨g4, 5, none⟩ = some (.int .i64 hi) := X.out.cell 5
              clear hbad
              go_wp2
              go_roundw
              case rel => exact ⟨k + 1, by omega, by go_num, E4.out, hnx.out⟩
              case measure => simp [intOf]; omega
            | false =>
              rw [Bool.not_false] at e4
              have X_0 : ∀ d os, (grow (redrawn W4 d) os).cell? ⟨g4, 0, none⟩ = some (.int .i64 f) := cell_regrown (X.out.cell 0)
              have X_1 : ∀ d os, (grow (redrawn W4 d) os).cell? ⟨g4, 1, none⟩ = some (.int .u64 (rd : Int)) := cell_regrown (X.out.cell 1)
              have X_2 : ∀ d os, (grow (redrawn W4 d) os).cell? ⟨g4, 2, none⟩ = some (.string ⟨ad.toArray⟩) := cell_regrown (X.out.cell 2)
              have X_3 : ∀ d os, (grow (redrawn W4 d) os).cell? ⟨g4, 3, none⟩ = some (.int .i64 ln) := cell_regrown (X.out.cell 3)
              have X_4 : ∀ d os, (grow (redrawn W4 d) os).cell? ⟨g4, 4, none⟩ = some (.int .i64 lo) := cell_regrown (X.out.cell 4)
              have X_5 : ∀ d os, (grow (redrawn W4 d) os).cell? ⟨g4, 5, none⟩ = some (.int .i64 hi) := cell_regrown (X.out.cell 5)
              have cq0 := Calls.regr qck.out W4
              have cq1 := Calls.regrS qsz.out W4
              refine wp_region_quiet_below (by assumption) (by kernel_rfl) ?_
              repeat (go_big_quiet_step (first | (with_reducible exact cq0 _ _) | (with_reducible exact cq1 _ _)))
              refine wpQuiet_nil ?_
              intro _ hw_
              obtain ⟨⟨dq_, osq_⟩, hw_'⟩ := hw_
              subst hw_'
              replace E4 := hide (E4.out.trans (below_regrown _ dq_ osq_))
              replace X := hide (X.out.ext (below_regrown _ dq_ osq_))
              clear X_0 X_1 X_2 X_3 X_4 X_5
              clear cq0 cq1
              generalize grow (redrawn W4 dq_) osq_ = W5 at E4 X ⊢
              have X_0 : W5.cell? ⟨g4, 0, none⟩ = some (.int .i64 f) := X.out.cell 0
              have X_1 : W5.cell? ⟨g4, 1, none⟩ = some (.int .u64 (rd : Int)) := X.out.cell 1
              have X_2 : W5.cell? ⟨g4, 2, none⟩ = some (.string ⟨ad.toArray⟩) := X.out.cell 2
              have X_3 : W5.cell? ⟨g4, 3, none⟩ = some (.int .i64 ln) := X.out.cell 3
              have X_4 : W5.cell? ⟨g4, 4, none⟩ = some (.int .i64 lo) := X.out.cell 4
              have X_5 : W5.cell? ⟨g4, 5, none⟩ = some (.int .i64 hi) := X.out.cell 5
              have hb := hide (hbad.out rfl)
              clear hbad
              go_wp2
              go_ret
              exact ⟨ret_bool (by rw [← hr, ← ei.out, hb.out]; cases b2 <;> cases b3 <;> cases d1 <;> rfl), E.out.trans E4.out⟩
        · obtain rfl : k = items.length := by omega
          rw [List.take_length] at ha
          have hbi : bi = false := by rw [← ei.out, ha]; rfl
          subst hbi
          clear ha ei hit
          replace hE := hide hE
          cases d1 <;> cases b2 <;> cases b3 <;> subst hr <;> (
            simp only [Bool.not_true, Bool.not_false] at z2 z3
            go_wp2
            go_ret
            exact ⟨rfl, E1.out⟩)
    · clear hcs hit hpt ei ep f1 f3
      rw [Bool.true_and] at hr
      cases co <;> cases b1 <;> cases b3 <;> subst hr <;> (
        simp only [Bool.not_true, Bool.not_false] at z1 z3
        go_wp2_with fail
        refine (qc.out _ E.out).mono ?_
        rintro e W2 ⟨rfl, he⟩
        replace E := hide (E.out.trans he)
        have S : Blk W2 (g0) 67 #[.string ⟨nm0.toArray⟩, .int .i64 2, .slice a1 items.length c1, .slice a2 n2 c2, .slice a3 paths.length c3] := S.out.ext he
        replace S := hide S
        clear he
        clear S_0 S_1 S_2 S_3 S_4
        have S_0 : W2.cell? ⟨g0, 0, none⟩ = some (.string ⟨nm0.toArray⟩) := S.out.cell 0
        have S_1 : W2.cell? ⟨g0, 1, none⟩ = some (.int .i64 2) := S.out.cell 1
        have S_2 : W2.cell? ⟨g0, 2, none⟩ = some (.slice a1 items.length c1) := S.out.cell 2
        have S_3 : W2.cell? ⟨g0, 3, none⟩ = some (.slice a2 n2 c2) := S.out.cell 3
        have S_4 : W2.cell? ⟨g0, 4, none⟩ = some (.slice a3 paths.length c3) := S.out.cell 4
        go_wp2
        go_ret
        exact ⟨rfl, E.out⟩
        )
    · clear hcs qc hit ei f1
      rw [Bool.true_and] at hr
      go_wp2_with fail
      go_loopw [5] (fun i wr => ∃ k : Nat, k ≤ paths.length ∧ i = .int .i64 k ∧ Ext W0 wr ∧ (paths.take k).all atmsOk = true) (fun i _ => paths.length - (intOf i).toNat)
      case atStart => exact ⟨0, Nat.zero_le _, rfl, Ext.refl _, rfl⟩
      case round =>
        clear S_0 S_1 S_2 S_3 S_4
        obtain ⟨k, hk, rfl, hE, ha⟩ := hrel
        have S : Blk wr (g0) 67 #[.string ⟨nm0.toArray⟩, .int .i64 3, .slice a1 items.length c1, .slice a2 n2 c2, .slice a3 paths.length c3] := S.out.ext hE
        replace S := hide S
        have E1 := hide (E.out.trans hE)
        have S_0 : wr.cell? ⟨g0, 0, none⟩ = some (.string ⟨nm0.toArray⟩) := S.out.cell 0
        have S_1 : wr.cell? ⟨g0, 1, none⟩ = some (.int .i64 3) := S.out.cell 1
        have S_2 : wr.cell? ⟨g0, 2, none⟩ = some (.slice a1 items.length c1) := S.out.cell 2
        have S_3 : wr.cell? ⟨g0, 3, none⟩ = some (.slice a2 n2 c2) := S.out.cell 3
        have S_4 : wr.cell? ⟨g0, 4, none⟩ = some (.slice a3 paths.length c3) := S.out.cell 4
        by_cases hlt : k < paths.length
        · obtain ⟨b, off, ak, ck, rfl, _, x0, hm, hsk⟩ := EPat.at (hpt.out wr E1.out) k hlt
          have qa := RMayAtoms_any ak ck paths[k] wr hm hsk
          have hnx := allI_succ atmsOk paths k hlt
          rw [ha, Bool.true_and] at hnx
          have hbad := fun h => allI_bad (f := atmsOk) hlt h
          clear ha hsk hm
          generalize atmsOk paths[k] = ok at *
          generalize paths[k].length = nk at *
          replace qa := hide qa
          replace hnx := hide hnx
          replace hbad := hide hbad
          replace hE := hide hE
          go_wp2_with fail
          refine qa.out.mono ?_
          rintro e W2 ⟨rfl, he⟩
          replace hE := hide (hE.out.trans he)
          clear he qa x0
          clear S_0 S_1 S_2 S_3 S_4
          cases ok with
          | true =>
            clear hbad
            go_wp2_with fail
            go_roundw
            case rel => exact ⟨k + 1, by omega, by go_num, hE.out, hnx.out⟩
            case measure => simp [intOf]; omega
          | false =>
            have hb := hide (hbad.out rfl)
            clear hbad
            go_wp2
            go_ret
            exact ⟨ret_bool (by rw [← hr, ← ep.out, hb.out]; cases b1 <;> cases b2 <;> cases d3 <;> rfl), E.out.trans hE.out⟩
        · obtain rfl : k = paths.length := by omega
          rw [List.take_length] at ha
          have hbi : bp = false := by rw [← ep.out, ha]; rfl
          subst hbi
          clear ha ep hpt
          replace hE := hide hE
          have S_0 : wr.cell? ⟨g0, 0, none⟩ = some (.string ⟨nm0.toArray⟩) := S.out.cell 0
          have S_1 : wr.cell? ⟨g0, 1, none⟩ = some (.int .i64 3) := S.out.cell 1
          have S_2 : wr.cell? ⟨g0, 2, none⟩ = some (.slice a1 items.length c1) := S.out.cell 2
          have S_3 : wr.cell? ⟨g0, 3, none⟩ = some (.slice a2 n2 c2) := S.out.cell 3
          have S_4 : wr.cell? ⟨g0, 4, none⟩ = some (.slice a3 paths.length c3) := S.out.cell 4
          cases d3 <;> cases b1 <;> cases b2 <;> subst hr <;> (
            simp only [Bool.not_true, Bool.not_false] at z1 z2
            go_wp2
            go_ret
            exact ⟨rfl, E1.out⟩)
    · subst hr
      clear hcs qc hit hpt ei ep
      go_wp2
      go_ret
      exact ⟨rfl, E.out⟩
set_option maxRecDepth 20000 in
theorem RSCheck15_any (s : StS) (a1 : Option Addr) (c1 : Nat) (a2 : Option Addr) (c2 : Nat) (a3 : Option Addr) (c3 : Nat) (w : World) (hs : SetIn w (· < w.heap.size) s a1 a2 a3) :
  Calls Tryz.prog 70 #[.agg #[.string ⟨s.name.toArray⟩, .int .i64 s.kind, .slice a1 s.items.length c1, .slice a2 s.comms.length c2, .slice a3 s.paths.length c3]] w fun e w' => e = .returned (.int .i64 (errOf (setOk s))) ∧ Ext w w' := by
 have q := fun W (h : Ext w W) => RMay15_any s a1 c1 a2 c2 a3 c3 W (hs.ext h)
 generalize setOk s = ok at *
 obtain ⟨nm0, kd, items, comms, paths⟩ := s
 dsimp only at *
 generalize items.length = n1 at *
 generalize comms.length = n2 at *
 generalize paths.length = n3 at *
 clear hs
 replace q := hide q
 go_enter Tryz.func70, Tryz.ntmps70
 have S := Blk.new w 67 #[.string ⟨nm0.toArray⟩, .int .i64 kd, .slice a1 n1 c1, .slice a2 n2 c2, .slice a3 n3 c3]
 have E := (Ext.refl w).alloc (Obj.cells #[.string ⟨nm0.toArray⟩, .int .i64 kd, .slice a1 n1 c1, .slice a2 n2 c2, .slice a3 n3 c3] 67)
 generalize hW0 : w.alloc (Obj.cells #[.string ⟨nm0.toArray⟩, .int .i64 kd, .slice a1 n1 c1, .slice a2 n2 c2, .slice a3 n3 c3] 67) = W0 at S E
 generalize hg0 : w.heap.size = g0 at S
 replace S := hide S
 replace E := hide E
 have S_0 : W0.cell? ⟨g0, 0, none⟩ = some (.string ⟨nm0.toArray⟩) := S.out.cell 0
 have S_1 : W0.cell? ⟨g0, 1, none⟩ = some (.int .i64 kd) := S.out.cell 1
 have S_2 : W0.cell? ⟨g0, 2, none⟩ = some (.slice a1 n1 c1) := S.out.cell 2
 have S_3 : W0.cell? ⟨g0, 3, none⟩ = some (.slice a2 n2 c2) := S.out.cell 3
 have S_4 : W0.cell? ⟨g0, 4, none⟩ = some (.slice a3 n3 c3) := S.out.cell 4
 go_wp2_with fail
 refine (q.out _ E.out).mono ?_
 rintro e W1 ⟨rfl, he_⟩
 clear S_0 S_1 S_2 S_3 S_4
 replace E := hide (E.out.trans he_)
 replace S := hide (S.out.ext he_)
 clear he_
 have S_0 : W1.cell? ⟨g0, 0, none⟩ = some (.string ⟨nm0.toArray⟩) := S.out.cell 0
 have S_1 : W1.cell? ⟨g0, 1, none⟩ = some (.int .i64 kd) := S.out.cell 1
 have S_2 : W1.cell? ⟨g0, 2, none⟩ = some (.slice a1 n1 c1) := S.out.cell 2
 have S_3 : W1.cell? ⟨g0, 3, none⟩ = some (.slice a2 n2 c2) := S.out.cell 3
 have S_4 : W1.cell? ⟨g0, 4, none⟩ = some (.slice a3 n3 c3) := S.out.cell 4
 clear hW0 hg0
 cases ok <;> (
  go_wp2
  go_ret
  exact ⟨rfl, E.out⟩)
open Go.RowKit Go.Sort
end
end Go.Proofs.YtljibkfbldjgdaaGreatDoor
