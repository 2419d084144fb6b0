/- Chapter 16, walks: are two terms the same, by the document (heraldref16.SameTerm)? Chapter 16, walks: may a condition, an action be, by the document? Printed by genfb.py. Chapter 16, walks: may a term be, by the document (heraldref16.MayTerm)? -/
import Derived.Test.YtljibkfbldjgdaaGreatDoorER
import Derived.Test.YtljibkfbldjgdaaGreatDoorEK
namespace Go.Proofs.YtljibkfbldjgdaaGreatDoor
theorem nameCh_cases16 (c : UInt8) : ∃ b1 b2 b3 b4 b5 r : Bool, decide ((97 : Int) ≤ (c.toNat : Int)) = b1 ∧ decide ((c.toNat : Int) ≤ 122) = b2 ∧ decide ((48 : Int) ≤ (c.toNat : Int)) = b3 ∧ decide ((c.toNat : Int) ≤ 57) = b4 ∧ ((c.toNat : Int) == 45) = b5 ∧ nameCh c = r ∧ ((b1 && b2) || ((b3 && b4) || b5)) = r := by
  refine ⟨_, _, _, _, _, _, rfl, rfl, rfl, rfl, rfl, rfl, ?_⟩
  unfold nameCh runeOk
  rw [show decide ((97 : Int) ≤ (c.toNat : Int)) = decide (97 ≤ c.toNat) from decide_eq_decide.2 (by omega), show decide ((c.toNat : Int) ≤ 122) = decide (c.toNat ≤ 122) from decide_eq_decide.2 (by omega), show decide ((48 : Int) ≤ (c.toNat : Int)) = decide (48 ≤ c.toNat) from decide_eq_decide.2 (by omega), show decide ((c.toNat : Int) ≤ 57) = decide (c.toNat ≤ 57) from decide_eq_decide.2 (by omega)]
  rw [show ((c.toNat : Int) == 45) = decide (c.toNat = 45) by rw [Bool.eq_iff_iff, beq_iff_eq, decide_eq_true_eq]; omega]
theorem allN_succ16 (s : List UInt8) (k : Nat) (hk : k < s.length) : (s.take (k + 1)).all nameCh = ((s.take k).all nameCh && nameCh s[k]) := by
  rw [List.take_succ_eq_append_getElem hk, List.all_append, List.all_cons, List.all_nil, Bool.and_true]
section
open Go.RowKit
set_option linter.unusedVariables false
deriving instance DecidableEq for CondS, ActS, TermS

theorem run_eqCond (W : World) (x y : CondS) :
    (binOp .eql 48 (.agg #[.int .i64 x.kind, .bool x.neg, .string ⟨x.name.toArray⟩, .int .i64 x.n]) (.agg #[.int .i64 y.kind, .bool y.neg, .string ⟨y.name.toArray⟩, .int .i64 y.n])).run Tryz.prog W = .ok (.bool (decide (x = y))) W := by
  obtain ⟨f, r, x, l⟩ := x
  obtain ⟨g, s, y, m⟩ := y
  have hS : Tryz.prog.underlying 48 = some (.struct (Tryz.prog.fieldsOf 48)) := by kernel_rfl
  rw [run_eql_struct, run_equalIn_agg W 9999 _ _ _ hS Tryz.stoodInHeld48]
  simp only [Program.fieldsOf, Tryz.underlying48]
  have e1 : ∀ (a b : Int) (w : World), (Op.equalIn 9999 3 (.int .i64 a) (.int .i64 b)).run Tryz.prog w = .ok (a == b) w := fun a b w => run_equalIn_int w 9998 _ .i64 .i64 a b Tryz.underlying3
  have e2 : ∀ (a b : Bool) (w : World), (Op.equalIn 9999 4 (.bool a) (.bool b)).run Tryz.prog w = .ok (a == b) w := fun a b w => run_equalIn_bool' w 9998 _ a b Tryz.underlying4
  have e3 : ∀ (a b : List UInt8) (w : World), (Op.equalIn 9999 9 (.string ⟨a.toArray⟩) (.string ⟨b.toArray⟩)).run Tryz.prog w = .ok (a == b) w := fun a b w => by
    rw [run_equalIn_string w 9998 _ _ _ Tryz.underlying9, ByteArray.toList_eq, ByteArray.toList_eq]
  by_cases h1 : f = g <;> by_cases h2 : r = s <;> by_cases h3 : x = y <;> by_cases h4 : l = m <;> simp [Op.eqFields, part, e1, e2, e3, h1, h2, h3, h4]
theorem run_eqAct (W : World) (x y : ActS) :
    (binOp .eql 51 (.agg #[.int .i64 x.kind, .string ⟨x.name.toArray⟩, .int .u32 (x.n.toNat : Int), .string ⟨x.addr.toArray⟩]) (.agg #[.int .i64 y.kind, .string ⟨y.name.toArray⟩, .int .u32 (y.n.toNat : Int), .string ⟨y.addr.toArray⟩])).run Tryz.prog W = .ok (.bool (decide (x = y))) W := by
  obtain ⟨f, x, r, l⟩ := x
  obtain ⟨g, y, s, m⟩ := y
  have hS : Tryz.prog.underlying 51 = some (.struct (Tryz.prog.fieldsOf 51)) := by kernel_rfl
  rw [run_eql_struct, run_equalIn_agg W 9999 _ _ _ hS Tryz.stoodInHeld51]
  simp only [Program.fieldsOf, Tryz.underlying51]
  have e1 : ∀ (a b : Int) (w : World), (Op.equalIn 9999 3 (.int .i64 a) (.int .i64 b)).run Tryz.prog w = .ok (a == b) w := fun a b w => run_equalIn_int w 9998 _ .i64 .i64 a b Tryz.underlying3
  have e2 : ∀ (a b : UInt32) (w : World), (Op.equalIn 9999 49 (.int .u32 (a.toNat : Int)) (.int .u32 (b.toNat : Int))).run Tryz.prog w = .ok (a == b) w := fun a b w => by
    have key : ((a.toNat : Int) == (b.toNat : Int)) = (a == b) := by
      rw [Bool.eq_iff_iff, beq_iff_eq, beq_iff_eq, ← UInt32.toNat_inj]
      omega
    rw [← key]
    exact run_equalIn_int w 9998 _ .u32 .u32 _ _ Tryz.underlying49
  have e3 : ∀ (a b : List UInt8) (w : World), (Op.equalIn 9999 9 (.string ⟨a.toArray⟩) (.string ⟨b.toArray⟩)).run Tryz.prog w = .ok (a == b) w := fun a b w => by
    rw [run_equalIn_string w 9998 _ _ _ Tryz.underlying9, ByteArray.toList_eq, ByteArray.toList_eq]
  by_cases h1 : f = g <;> by_cases h2 : r = s <;> by_cases h3 : x = y <;> by_cases h4 : l = m <;> simp [Op.eqFields, part, e1, e2, e3, h1, h2, h3, h4]
theorem run_neq_ofB {P : Program} {T : TypeId} {xs ys : Array Value} {W : World} {b : Bool} (h1 : (binOp .eql T (.agg xs) (.agg ys)).run P W = .ok (.bool b) W) :
    (binOp .neq T (.agg xs) (.agg ys)).run P W = .ok (.bool (!b)) W := by
  rw [run_eql_struct] at h1
  rw [run_neq_struct]
  generalize (Op.equalIn 10000 T (.agg xs) (.agg ys)).run P W = q at h1 ⊢
  cases q with
  | ok b w' =>
    simp only [Result.andThen] at h1 ⊢
    injection h1 with e1 e2
    injection e1 with e1
    subst e1
    subst e2
    rfl
  | halt x w' => simp only [Result.andThen] at h1; cases h1
theorem take_step {α : Type} {l m : List α} {k : Nat} (h : l.take k = m.take k) (h1 : k < l.length) (h2 : k < m.length) (e : l[k] = m[k]) : l.take (k + 1) = m.take (k + 1) := by
  rw [List.take_succ_eq_append_getElem h1, List.take_succ_eq_append_getElem h2, h, e]
theorem term_ne (t u : TermS) (h : ¬ t = u) : decide (t = u) = false := decide_eq_false h

set_option maxRecDepth 20000 in
set_option maxHeartbeats 4000000 in
theorem DSameTerm_any (a1 : Option Addr) (c1 : Nat) (a2 : Option Addr) (c2 : Nat) (t : TermS) (b1 : Option Addr) (d1 : Nat) (b2 : Option Addr) (d2 : Nat) (u : TermS) (w : World)
    (ht1 : t.conds.length ≤ 16777216) (ht2 : t.acts.length ≤ 16777216) (hu1 : u.conds.length ≤ 16777216) (hu2 : u.acts.length ≤ 16777216)
    (s1 : Sl ECond w (· < w.heap.size) a1 t.conds) (s2 : Sl EAct w (· < w.heap.size) a2 t.acts) (r1 : Sl ECond w (· < w.heap.size) b1 u.conds) (r2 : Sl EAct w (· < w.heap.size) b2 u.acts) :
    Calls Tryz.prog 14 #[.agg #[.slice a1 t.conds.length c1, .slice a2 t.acts.length c2], .agg #[.slice b1 u.conds.length d1, .slice b2 u.acts.length d2]] w fun e w' => e = .returned (.bool (decide (t = u))) ∧ Ext w w' := by
  have mixed : Tryz.prog.follows Departure.mixedOrders = true := by kernel_rfl
  by_cases hn1 : t.conds.length = u.conds.length
  case neg =>
    rw [term_ne t u (fun e => hn1 (by rw [e]))]
    have g1 : ((t.conds.length : Int) == (u.conds.length : Int)) = false := by rw [beq_eq_false_iff_ne]; omega
    clear s1 s2 r1 r2
    go_enter Tryz.func14, Tryz.ntmps14
    go_wp2
    go_ret
    exact ⟨rfl, ((Ext.refl w).alloc _).alloc _⟩
  by_cases hn2 : t.acts.length = u.acts.length
  case neg =>
    rw [term_ne t u (fun e => hn2 (by rw [e]))]
    have g1 : ((t.acts.length : Int) == (u.acts.length : Int)) = false := by rw [beq_eq_false_iff_ne]; omega
    rw [← hn1]
    clear s1 s2 r1 r2 hn1
    go_enter Tryz.func14, Tryz.ntmps14
    go_wp2
    go_ret
    exact ⟨rfl, ((Ext.refl w).alloc _).alloc _⟩
  rw [← hn1, ← hn2]
  clear hu1 hu2
  obtain ⟨t1, t2⟩ := t
  obtain ⟨u1, u2⟩ := u
  dsimp only at *
  have heq : decide (TermS.mk t1 t2 = TermS.mk u1 u2) = (decide (t1 = u1) && decide (t2 = u2)) := by
    by_cases h1 : t1 = u1 <;> by_cases h2 : t2 = u2 <;> simp [h1, h2]
  rw [heq]
  clear heq
  have hc := fun (x y : CondS) W => run_neq_ofB (run_eqCond W x y)
  have ha := fun (x y : ActS) W => run_neq_ofB (run_eqAct W x y)
  have hgc : ∀ x y xs ys W, (eqGuard .neq 48 x y (.agg xs) (.agg ys)).run Tryz.prog W = .ok () W := fun x y xs ys W => run_eqGuard_agg W .neq _ x y xs ys Tryz.eqGuardType48
  have hga : ∀ x y xs ys W, (eqGuard .neq 51 x y (.agg xs) (.agg ys)).run Tryz.prog W = .ok () W := fun x y xs ys W => run_eqGuard_agg W .neq _ x y xs ys Tryz.eqGuardType51
  replace s1 := hide s1
  replace s2 := hide s2
  replace r1 := hide r1
  replace r2 := hide r2
  replace hc := hide hc
  replace ha := hide ha
  replace hn1 := hide hn1
  replace hn2 := hide hn2
  go_enter Tryz.func14, Tryz.ntmps14
  have S := (Blk.new w 25 #[.slice a1 t1.length c1, .slice a2 t2.length c2]).alloc (Obj.cells #[.slice b1 t1.length d1, .slice b2 t2.length d2] 25)
  have E := ((Ext.refl w).alloc (Obj.cells #[.slice a1 t1.length c1, .slice a2 t2.length c2] 25)).alloc (Obj.cells #[.slice b1 t1.length d1, .slice b2 t2.length d2] 25)
  have T := Blk.new (w.alloc (Obj.cells #[.slice a1 t1.length c1, .slice a2 t2.length c2] 25)) 25 #[.slice b1 t1.length d1, .slice b2 t2.length d2]
  rw [show (w.alloc (Obj.cells #[.slice a1 t1.length c1, .slice a2 t2.length c2] 25)).heap.size = w.heap.size + 1 by simp] at T
  generalize hW0 : (w.alloc (Obj.cells #[.slice a1 t1.length c1, .slice a2 t2.length c2] 25)).alloc (Obj.cells #[.slice b1 t1.length d1, .slice b2 t2.length d2] 25) = W0 at S E T
  generalize hg0 : w.heap.size = g0 at S T
  replace S := hide S
  replace E := hide E
  replace T := hide T
  have S_0 : W0.cell? ⟨g0, 0, none⟩ = some (.slice a1 t1.length c1) := S.out.cell 0
  have S_1 : W0.cell? ⟨g0, 1, none⟩ = some (.slice a2 t2.length c2) := S.out.cell 1
  have T_0 : W0.cell? ⟨g0 + 1, 0, none⟩ = some (.slice b1 t1.length d1) := T.out.cell 0
  have T_1 : W0.cell? ⟨g0 + 1, 1, none⟩ = some (.slice b2 t2.length d2) := T.out.cell 1
  go_wp2_with fail
  clear hW0 hg0
  go_loopw [5] (fun i wr => ∃ k : Nat, k ≤ t1.length ∧ i = .int .i64 k ∧ Ext W0 wr ∧ t1.take k = u1.take k) (fun i _ => t1.length - (intOf i).toNat)
  case atStart => exact ⟨0, Nat.zero_le _, rfl, Ext.refl _, rfl⟩
  case round =>
    clear S_0 S_1 T_0 T_1
    obtain ⟨k, hk, rfl, hE, htk⟩ := hrel
    have S : Blk wr (g0) 25 #[.slice a1 t1.length c1, .slice a2 t2.length c2] := S.out.ext hE
    replace S := hide S
    have T : Blk wr (g0 + 1) 25 #[.slice b1 t1.length d1, .slice b2 t2.length d2] := T.out.ext hE
    replace T := hide T
    have E1 := hide (E.out.trans hE)
    have S_0 : wr.cell? ⟨g0, 0, none⟩ = some (.slice a1 t1.length c1) := S.out.cell 0
    have S_1 : wr.cell? ⟨g0, 1, none⟩ = some (.slice a2 t2.length c2) := S.out.cell 1
    have T_0 : wr.cell? ⟨g0 + 1, 0, none⟩ = some (.slice b1 t1.length d1) := T.out.cell 0
    have T_1 : wr.cell? ⟨g0 + 1, 1, none⟩ = some (.slice b2 t2.length d2) := T.out.cell 1
    by_cases hlt : k < t1.length
    · obtain ⟨b, off, rfl, _, hin, hx⟩ := ECond.at (s1.out.ext E1.out) k hlt
      obtain ⟨b', off', rfl, _, _, hy⟩ := ECond.at (r1.out.ext E1.out) k (hn1.out ▸ hlt)
      have x0 : wr.cell? ⟨b, off + k * 4, none⟩ = some (.int .i64 t1[k].kind) := hx 0 _ rfl
      have x1 : wr.cell? ⟨b, off + k * 4 + 1, none⟩ = some (.bool t1[k].neg) := hx 1 _ rfl
      have x2 : wr.cell? ⟨b, off + k * 4 + 2, none⟩ = some (.string ⟨t1[k].name.toArray⟩) := hx 2 _ rfl
      have x3 : wr.cell? ⟨b, off + k * 4 + 3, none⟩ = some (.int .i64 t1[k].n) := hx 3 _ rfl
      have y0 : wr.cell? ⟨b', off' + k * 4, none⟩ = some (.int .i64 (u1[k]'(hn1.out ▸ hlt)).kind) := hy 0 _ rfl
      have y1 : wr.cell? ⟨b', off' + k * 4 + 1, none⟩ = some (.bool (u1[k]'(hn1.out ▸ hlt)).neg) := hy 1 _ rfl
      have y2 : wr.cell? ⟨b', off' + k * 4 + 2, none⟩ = some (.string ⟨(u1[k]'(hn1.out ▸ hlt)).name.toArray⟩) := hy 2 _ rfl
      have y3 : wr.cell? ⟨b', off' + k * 4 + 3, none⟩ = some (.int .i64 (u1[k]'(hn1.out ▸ hlt)).n) := hy 3 _ rfl
      have heq := fun W => hc.out t1[k] (u1[k]'(hn1.out ▸ hlt)) W
      have hst := take_step htk hlt (hn1.out ▸ hlt)
      have hne : ¬ t1[k] = u1[k]'(hn1.out ▸ hlt) → ¬ t1 = u1 := fun h e => h (by subst e; rfl)
      clear hx hy hin
      generalize t1[k] = x at *
      generalize u1[k]'(hn1.out ▸ hlt) = y at *
      replace hE := hide hE
      replace hst := hide hst
      replace hne := hide hne
      replace htk := hide htk
      by_cases hxy : x = y
      · have hs := hide (hst.out hxy)
        clear hst hne
        subst hxy
        simp only [decide_true, Bool.not_true] at heq
        go_wp2_with fail
        go_region
        go_wp2
        go_roundw
        case rel => exact ⟨k + 1, by omega, by go_num, hE.out.drew, hs.out⟩
        case measure => simp [intOf]; omega
      · rw [decide_eq_false hxy] at heq
        simp only [Bool.not_false] at heq
        have hr := hide (hne.out hxy)
        clear hne hxy hst
        go_wp2_with fail
        go_region
        go_wp2
        go_ret
        exact ⟨by rw [decide_eq_false hr.out, Bool.false_and]; rfl, E1.out.drew⟩
    · obtain rfl : k = t1.length := by omega
      have hall : t1 = u1 := by
        have h2 : t1.take t1.length = u1.take u1.length := by rw [htk, hn1.out]
        rwa [List.take_length, List.take_length] at h2
      clear hlt hk htk
      replace hE := hide hE
      replace hall := hide hall
      go_wp2_with fail
      go_loopw [6] (fun i wQ => ∃ k : Nat, k ≤ t2.length ∧ i = .int .i64 k ∧ Ext wr wQ ∧ t2.take k = u2.take k) (fun i _ => t2.length - (intOf i).toNat)
      case atStart => exact ⟨0, Nat.zero_le _, rfl, Ext.refl _, rfl⟩
      case round =>
        clear S_0 S_1 T_0 T_1
        obtain ⟨k, hk, rfl, hE2, htk⟩ := hrel
        have S : Blk wr (g0) 25 #[.slice a1 t1.length c1, .slice a2 t2.length c2] := S.out.ext hE2
        replace S := hide S
        have T : Blk wr (g0 + 1) 25 #[.slice b1 t1.length d1, .slice b2 t2.length d2] := T.out.ext hE2
        replace T := hide T
        have E2 := hide (E1.out.trans hE2)
        have S_0 : wr.cell? ⟨g0, 0, none⟩ = some (.slice a1 t1.length c1) := S.out.cell 0
        have S_1 : wr.cell? ⟨g0, 1, none⟩ = some (.slice a2 t2.length c2) := S.out.cell 1
        have T_0 : wr.cell? ⟨g0 + 1, 0, none⟩ = some (.slice b1 t1.length d1) := T.out.cell 0
        have T_1 : wr.cell? ⟨g0 + 1, 1, none⟩ = some (.slice b2 t2.length d2) := T.out.cell 1
        by_cases hlt : k < t2.length
        · obtain ⟨b, off, rfl, _, hin, hx⟩ := EAct.at (s2.out.ext E2.out) k hlt
          obtain ⟨b', off', rfl, _, _, hy⟩ := EAct.at (r2.out.ext E2.out) k (hn2.out ▸ hlt)
          have x0 : wr.cell? ⟨b, off + k * 4, none⟩ = some (.int .i64 t2[k].kind) := hx 0 _ rfl
          have x1 : wr.cell? ⟨b, off + k * 4 + 1, none⟩ = some (.string ⟨t2[k].name.toArray⟩) := hx 1 _ rfl
          have x2 : wr.cell? ⟨b, off + k * 4 + 2, none⟩ = some (.int .u32 (t2[k].n.toNat : Int)) := hx 2 _ rfl
          have x3 : wr.cell? ⟨b, off + k * 4 + 3, none⟩ = some (.string ⟨t2[k].addr.toArray⟩) := hx 3 _ rfl
          have y0 : wr.cell? ⟨b', off' + k * 4, none⟩ = some (.int .i64 (u2[k]'(hn2.out ▸ hlt)).kind) := hy 0 _ rfl
          have y1 : wr.cell? ⟨b', off' + k * 4 + 1, none⟩ = some (.string ⟨(u2[k]'(hn2.out ▸ hlt)).name.toArray⟩) := hy 1 _ rfl
          have y2 : wr.cell? ⟨b', off' + k * 4 + 2, none⟩ = some (.int .u32 ((u2[k]'(hn2.out ▸ hlt)).n.toNat : Int)) := hy 2 _ rfl
          have y3 : wr.cell? ⟨b', off' + k * 4 + 3, none⟩ = some (.string ⟨(u2[k]'(hn2.out ▸ hlt)).addr.toArray⟩) := hy 3 _ rfl
          have heq := fun W => ha.out t2[k] (u2[k]'(hn2.out ▸ hlt)) W
          have hst := take_step htk hlt (hn2.out ▸ hlt)
          have hne : ¬ t2[k] = u2[k]'(hn2.out ▸ hlt) → ¬ t2 = u2 := fun h e => h (by subst e; rfl)
          clear hx hy hin
          generalize t2[k] = x at *
          generalize u2[k]'(hn2.out ▸ hlt) = y at *
          replace hE2 := hide hE2
          replace hst := hide hst
          replace hne := hide hne
          replace htk := hide htk
          by_cases hxy : x = y
          · have hs := hide (hst.out hxy)
            clear hst hne
            subst hxy
            simp only [decide_true, Bool.not_true] at heq
            go_wp2_with fail
            go_region
            go_wp2
            go_roundw
            case rel => exact ⟨k + 1, by omega, by go_num, hE2.out.drew, hs.out⟩
            case measure => simp [intOf]; omega
          · rw [decide_eq_false hxy] at heq
            simp only [Bool.not_false] at heq
            have hr := hide (hne.out hxy)
            clear hne hxy hst
            go_wp2_with fail
            go_region
            go_wp2
            go_ret
            exact ⟨by rw [decide_eq_false hr.out, Bool.and_false]; rfl, E2.out.drew⟩
        · obtain rfl : k = t2.length := by omega
          have hall2 : t2 = u2 := by
            have h2 : t2.take t2.length = u2.take u2.length := by rw [htk, hn2.out]
            rwa [List.take_length, List.take_length] at h2
          clear hlt hk htk
          replace hE2 := hide hE2
          replace hall2 := hide hall2
          go_wp2_with fail
          go_ret
          exact ⟨by rw [decide_eq_true hall.out, decide_eq_true hall2.out]; rfl, E2.out⟩
end
section
open Go.RowKit
set_option linter.unusedVariables false

set_option maxRecDepth 20000 in
set_option maxHeartbeats 2000000 in
theorem DName_any (s : List UInt8) (w : World) : Calls Tryz.prog 121 #[.string ⟨s.toArray⟩] w fun e w' => e = .returned (.bool (nameOk s)) ∧ w = w' := by
  have hz : (ByteArray.mk s.toArray).size = s.length := by simp [ByteArray.size]
  cases s with
  | nil =>
    go_enter Tryz.func121, Tryz.ntmps121
    go_wp2
    go_ret
    exact ⟨rfl, rfl⟩
  | cons x t =>
    have hix := ba_index0 (x :: t) x t rfl
    have hdef : nameOk (x :: t) = (decide ((x :: t).length ≤ 16) && (decide (97 ≤ x.toNat) && (x :: t).all nameCh)) := by
      unfold nameOk
      rw [decide_eq_true (p := 1 ≤ (x :: t).length) (by simp), Bool.true_and]
      rfl
    have hlen : 1 ≤ (x :: t).length := by simp
    have hhd : ∀ h : 0 < (x :: t).length, (x :: t)[0] = x := fun _ => rfl
    generalize hs : x :: t = s at *
    have e1 : decide ((s.length : Int) < 1) = false := decide_eq_false (by omega)
    by_cases h16 : 16 < s.length
    · have e2 : decide ((16 : Int) < (s.length : Int)) = true := decide_eq_true (by omega)
      have hr := hide (show nameOk s = false by rw [hdef, decide_eq_false (by omega), Bool.false_and])
      clear h16 hdef hs hhd
      go_enter Tryz.func121, Tryz.ntmps121
      go_wp2
      go_ret
      exact ⟨ret_bool hr.out.symm, rfl⟩
    have e2 : decide ((16 : Int) < (s.length : Int)) = false := decide_eq_false (by omega)
    rw [decide_eq_true (p := s.length ≤ 16) (by omega), Bool.true_and] at hdef
    by_cases h97 : x.toNat < 97
    · have e3 : decide ((x.toNat : Int) < 97) = true := decide_eq_true (by omega)
      have hr := hide (show nameOk s = false by rw [hdef, decide_eq_false (by omega), Bool.false_and])
      clear h16 hdef hs hhd h97
      go_enter Tryz.func121, Tryz.ntmps121
      go_wp2
      go_ret
      exact ⟨ret_bool hr.out.symm, rfl⟩
    have e3 : decide ((x.toNat : Int) < 97) = false := decide_eq_false (by omega)
    rw [decide_eq_true (p := 97 ≤ x.toNat) (by omega), Bool.true_and] at hdef
    by_cases h122 : 122 < x.toNat
    · have e4 : decide ((122 : Int) < (x.toNat : Int)) = true := decide_eq_true (by omega)
      have hr := hide (show nameOk s = false by
        rw [hdef, ← hs, List.all_cons]
        have : nameCh x = false := by unfold nameCh runeOk; simp; omega
        rw [this, Bool.false_and])
      clear h16 hdef hs hhd h97 h122
      go_enter Tryz.func121, Tryz.ntmps121
      go_wp2
      go_ret
      exact ⟨ret_bool hr.out.symm, rfl⟩
    have e4 : decide ((122 : Int) < (x.toNat : Int)) = false := decide_eq_false (by omega)
    have hle : s.length ≤ 16 := by omega
    clear hs hhd h16 h97 h122
    replace hdef := hide hdef
    go_enter Tryz.func121, Tryz.ntmps121
    go_wp2
    clear hix e1 e2 e3 e4
    go_loop [3] (fun i => ∃ k : Nat, k ≤ s.length ∧ i = .int .i64 k ∧ (s.take k).all nameCh = true) (fun i => s.length - (intOf i).toNat)
    case atStart => exact ⟨0, Nat.zero_le _, rfl, rfl⟩
    case round =>
      obtain ⟨k, hk, rfl, ha⟩ := hrel
      by_cases hlt : k < s.length
      · have e1 : (ByteArray.mk s.toArray)[k]'(by rw [hz]; exact hlt) = s[k] := rfl
        have hsu := allN_succ16 s k hlt
        rw [ha, Bool.true_and] at hsu
        have hbad : nameCh s[k] = false → nameOk s = false := fun h => by
          rw [hdef.out, List.all_eq_false]
          exact ⟨s[k], List.getElem_mem hlt, by rw [h]; decide⟩
        obtain ⟨b1, b2, b3, b4, b5, r, d1, d2, d3, d4, d5, d6, d7⟩ := nameCh_cases16 s[k]
        rw [d6] at hsu hbad
        clear d6 ha
        generalize s[k] = c at *
        replace hsu := hide hsu
        replace hbad := hide hbad
        cases b1 <;> cases b2 <;> cases b3 <;> cases b4 <;> cases b5 <;> subst d7 <;> first
          | (go_wp2; go_round; (case rel => exact ⟨k + 1, by omega, by go_num, hsu.out⟩); (case measure => simp [intOf]; omega))
          | (go_wp2; go_ret; exact ⟨ret_bool (hbad.out rfl).symm, rfl⟩)
      · obtain rfl : k = s.length := by omega
        have hr := hide (show nameOk s = true by rw [hdef.out]; rwa [List.take_length] at ha)
        clear ha
        go_wp2
        go_ret
        exact ⟨ret_bool hr.out.symm, rfl⟩

set_option maxRecDepth 20000 in
attribute [local go_sem ↓] Go.wp_at_zero Go.wp_at_succ
set_option maxRecDepth 20000 in
set_option maxHeartbeats 4000000 in
theorem DCond1 (neg : Bool) (name : List UInt8) (n : Int) (w : World) :
    Calls Tryz.prog 93 #[.agg #[.int .i64 1, .bool neg, .string ⟨name.toArray⟩, .int .i64 n]] w fun e w' => e = .returned (.bool (nameOk name && decide (n = 0))) ∧ Ext w w' := by
  have q := fun W => DName_any name W
  generalize nameOk name = nk at *
  replace q := hide q
  go_enter Tryz.func93, Tryz.ntmps93
  go_wp2_with fail
  refine (q.out _).mono ?_
  rintro e _ ⟨rfl, rfl⟩
  cases nk with
  | false =>
    go_wp2_with fail
    go_ret
    exact ⟨by simp, ((Ext.refl w).alloc _).alloc _⟩
  | true =>
    by_cases hn : n = 0
    · subst hn
      go_wp2_with fail
      go_ret
      exact ⟨by simp, ((Ext.refl w).alloc _).alloc _⟩
    · have hnb : (n == 0) = false := by simpa using hn
      go_wp2_with fail
      go_ret
      exact ⟨by first | (simp; done) | simp [hn], ((Ext.refl w).alloc _).alloc _⟩
set_option maxRecDepth 20000 in
set_option maxHeartbeats 4000000 in
theorem DCond2 (neg : Bool) (name : List UInt8) (n : Int) (w : World) :
    Calls Tryz.prog 93 #[.agg #[.int .i64 2, .bool neg, .string ⟨name.toArray⟩, .int .i64 n]] w fun e w' => e = .returned (.bool (nameOk name && decide (n = 0))) ∧ Ext w w' := by
  have q := fun W => DName_any name W
  generalize nameOk name = nk at *
  replace q := hide q
  go_enter Tryz.func93, Tryz.ntmps93
  go_wp2_with fail
  refine (q.out _).mono ?_
  rintro e _ ⟨rfl, rfl⟩
  cases nk with
  | false =>
    go_wp2_with fail
    go_ret
    exact ⟨by simp, ((Ext.refl w).alloc _).alloc _⟩
  | true =>
    by_cases hn : n = 0
    · subst hn
      go_wp2_with fail
      go_ret
      exact ⟨by simp, ((Ext.refl w).alloc _).alloc _⟩
    · have hnb : (n == 0) = false := by simpa using hn
      go_wp2_with fail
      go_ret
      exact ⟨by first | (simp; done) | simp [hn], ((Ext.refl w).alloc _).alloc _⟩
set_option maxRecDepth 20000 in
set_option maxHeartbeats 4000000 in
theorem DCond3 (neg : Bool) (name : List UInt8) (n : Int) (w : World) :
    Calls Tryz.prog 93 #[.agg #[.int .i64 3, .bool neg, .string ⟨name.toArray⟩, .int .i64 n]] w fun e w' => e = .returned (.bool (nameOk name && decide (n = 0))) ∧ Ext w w' := by
  have q := fun W => DName_any name W
  generalize nameOk name = nk at *
  replace q := hide q
  go_enter Tryz.func93, Tryz.ntmps93
  go_wp2_with fail
  refine (q.out _).mono ?_
  rintro e _ ⟨rfl, rfl⟩
  cases nk with
  | false =>
    go_wp2_with fail
    go_ret
    exact ⟨by simp, ((Ext.refl w).alloc _).alloc _⟩
  | true =>
    by_cases hn : n = 0
    · subst hn
      go_wp2_with fail
      go_ret
      exact ⟨by simp, ((Ext.refl w).alloc _).alloc _⟩
    · have hnb : (n == 0) = false := by simpa using hn
      go_wp2_with fail
      go_ret
      exact ⟨by first | (simp; done) | simp [hn], ((Ext.refl w).alloc _).alloc _⟩
set_option maxRecDepth 20000 in
set_option maxHeartbeats 4000000 in
theorem DCond4 (neg : Bool) (name : List UInt8) (n : Int) (w : World) :
    Calls Tryz.prog 93 #[.agg #[.int .i64 4, .bool neg, .string ⟨name.toArray⟩, .int .i64 n]] w fun e w' => e = .returned (.bool (nameOk name && decide (n = 0))) ∧ Ext w w' := by
  have q := fun W => DName_any name W
  generalize nameOk name = nk at *
  replace q := hide q
  go_enter Tryz.func93, Tryz.ntmps93
  go_wp2_with fail
  refine (q.out _).mono ?_
  rintro e _ ⟨rfl, rfl⟩
  cases nk with
  | false =>
    go_wp2_with fail
    go_ret
    exact ⟨by simp, ((Ext.refl w).alloc _).alloc _⟩
  | true =>
    by_cases hn : n = 0
    · subst hn
      go_wp2_with fail
      go_ret
      exact ⟨by simp, ((Ext.refl w).alloc _).alloc _⟩
    · have hnb : (n == 0) = false := by simpa using hn
      go_wp2_with fail
      go_ret
      exact ⟨by first | (simp; done) | simp [hn], ((Ext.refl w).alloc _).alloc _⟩
set_option maxRecDepth 20000 in
set_option maxHeartbeats 4000000 in
theorem DCond5 (neg : Bool) (name : List UInt8) (n : Int) (w : World) :
    Calls Tryz.prog 93 #[.agg #[.int .i64 5, .bool neg, .string ⟨name.toArray⟩, .int .i64 n]] w fun e w' => e = .returned (.bool (decide (0 ≤ n ∧ n ≤ 2) && decide (name = []))) ∧ Ext w w' := by
  have hcs : (decide (0 ≤ n) = false ∧ decide (0 ≤ n ∧ n ≤ 2) = false) ∨ (decide (0 ≤ n) = true ∧ decide (n ≤ 2) = false ∧ decide (0 ≤ n ∧ n ≤ 2) = false) ∨ (decide (0 ≤ n) = true ∧ decide (n ≤ 2) = true ∧ decide (0 ≤ n ∧ n ≤ 2) = true) := by
    by_cases h1 : 0 ≤ n
    · by_cases h2 : n ≤ 2
      · exact .inr (.inr ⟨decide_eq_true h1, decide_eq_true h2, decide_eq_true ⟨h1, h2⟩⟩)
      · exact .inr (.inl ⟨decide_eq_true h1, decide_eq_false h2, decide_eq_false fun h => h2 h.2⟩)
    · exact .inl ⟨decide_eq_false h1, decide_eq_false fun h => h1 h.1⟩
  generalize decide (0 ≤ n ∧ n ≤ 2) = r at *
  rcases hcs with ⟨h1, rfl⟩ | ⟨h1, h2, rfl⟩ | ⟨h1, h2, rfl⟩
  · go_enter Tryz.func93, Tryz.ntmps93
    go_wp2_with fail
    go_ret
    exact ⟨by simp, ((Ext.refl w).alloc _).alloc _⟩
  · go_enter Tryz.func93, Tryz.ntmps93
    go_wp2_with fail
    go_ret
    exact ⟨by simp, ((Ext.refl w).alloc _).alloc _⟩
  · by_cases hn : name = []
    · subst hn
      go_enter Tryz.func93, Tryz.ntmps93
      go_wp2_with fail
      go_ret
      exact ⟨by simp, ((Ext.refl w).alloc _).alloc _⟩
    · have hnb : (name == []) = false := by simpa using hn
      go_enter Tryz.func93, Tryz.ntmps93
      go_wp2_with fail
      go_ret
      exact ⟨by first | (simp; done) | simp [hn], ((Ext.refl w).alloc _).alloc _⟩
set_option maxRecDepth 20000 in
set_option maxHeartbeats 4000000 in
theorem DCond6 (neg : Bool) (name : List UInt8) (n : Int) (w : World) :
    Calls Tryz.prog 93 #[.agg #[.int .i64 6, .bool neg, .string ⟨name.toArray⟩, .int .i64 n]] w fun e w' => e = .returned (.bool (decide (0 ≤ n ∧ n ≤ 65535) && decide (name = []))) ∧ Ext w w' := by
  have hcs : (decide (0 ≤ n) = false ∧ decide (0 ≤ n ∧ n ≤ 65535) = false) ∨ (decide (0 ≤ n) = true ∧ decide (n ≤ 65535) = false ∧ decide (0 ≤ n ∧ n ≤ 65535) = false) ∨ (decide (0 ≤ n) = true ∧ decide (n ≤ 65535) = true ∧ decide (0 ≤ n ∧ n ≤ 65535) = true) := by
    by_cases h1 : 0 ≤ n
    · by_cases h2 : n ≤ 65535
      · exact .inr (.inr ⟨decide_eq_true h1, decide_eq_true h2, decide_eq_true ⟨h1, h2⟩⟩)
      · exact .inr (.inl ⟨decide_eq_true h1, decide_eq_false h2, decide_eq_false fun h => h2 h.2⟩)
    · exact .inl ⟨decide_eq_false h1, decide_eq_false fun h => h1 h.1⟩
  generalize decide (0 ≤ n ∧ n ≤ 65535) = r at *
  rcases hcs with ⟨h1, rfl⟩ | ⟨h1, h2, rfl⟩ | ⟨h1, h2, rfl⟩
  · go_enter Tryz.func93, Tryz.ntmps93
    go_wp2_with fail
    go_ret
    exact ⟨by simp, ((Ext.refl w).alloc _).alloc _⟩
  · go_enter Tryz.func93, Tryz.ntmps93
    go_wp2_with fail
    go_ret
    exact ⟨by simp, ((Ext.refl w).alloc _).alloc _⟩
  · by_cases hn : name = []
    · subst hn
      go_enter Tryz.func93, Tryz.ntmps93
      go_wp2_with fail
      go_ret
      exact ⟨by simp, ((Ext.refl w).alloc _).alloc _⟩
    · have hnb : (name == []) = false := by simpa using hn
      go_enter Tryz.func93, Tryz.ntmps93
      go_wp2_with fail
      go_ret
      exact ⟨by first | (simp; done) | simp [hn], ((Ext.refl w).alloc _).alloc _⟩
set_option maxRecDepth 20000 in
set_option maxHeartbeats 4000000 in
theorem DCond7 (neg : Bool) (name : List UInt8) (n : Int) (w : World) :
    Calls Tryz.prog 93 #[.agg #[.int .i64 7, .bool neg, .string ⟨name.toArray⟩, .int .i64 n]] w fun e w' => e = .returned (.bool (decide (1 ≤ n ∧ n ≤ 5) && decide (name = []))) ∧ Ext w w' := by
  have hcs : (decide (1 ≤ n) = false ∧ decide (1 ≤ n ∧ n ≤ 5) = false) ∨ (decide (1 ≤ n) = true ∧ decide (n ≤ 5) = false ∧ decide (1 ≤ n ∧ n ≤ 5) = false) ∨ (decide (1 ≤ n) = true ∧ decide (n ≤ 5) = true ∧ decide (1 ≤ n ∧ n ≤ 5) = true) := by
    by_cases h1 : 1 ≤ n
    · by_cases h2 : n ≤ 5
      · exact .inr (.inr ⟨decide_eq_true h1, decide_eq_true h2, decide_eq_true ⟨h1, h2⟩⟩)
      · exact .inr (.inl ⟨decide_eq_true h1, decide_eq_false h2, decide_eq_false fun h => h2 h.2⟩)
    · exact .inl ⟨decide_eq_false h1, decide_eq_false fun h => h1 h.1⟩
  generalize decide (1 ≤ n ∧ n ≤ 5) = r at *
  rcases hcs with ⟨h1, rfl⟩ | ⟨h1, h2, rfl⟩ | ⟨h1, h2, rfl⟩
  · go_enter Tryz.func93, Tryz.ntmps93
    go_wp2_with fail
    go_ret
    exact ⟨by simp, ((Ext.refl w).alloc _).alloc _⟩
  · go_enter Tryz.func93, Tryz.ntmps93
    go_wp2_with fail
    go_ret
    exact ⟨by simp, ((Ext.refl w).alloc _).alloc _⟩
  · by_cases hn : name = []
    · subst hn
      go_enter Tryz.func93, Tryz.ntmps93
      go_wp2_with fail
      go_ret
      exact ⟨by simp, ((Ext.refl w).alloc _).alloc _⟩
    · have hnb : (name == []) = false := by simpa using hn
      go_enter Tryz.func93, Tryz.ntmps93
      go_wp2_with fail
      go_ret
      exact ⟨by first | (simp; done) | simp [hn], ((Ext.refl w).alloc _).alloc _⟩
set_option maxRecDepth 20000 in
set_option maxHeartbeats 4000000 in
theorem DCond0 (k : Int) (neg : Bool) (name : List UInt8) (n : Int) (w : World) (h1 : ¬ k = 1) (h2 : ¬ k = 2) (h3 : ¬ k = 3) (h4 : ¬ k = 4) (h5 : ¬ k = 5) (h6 : ¬ k = 6) (h7 : ¬ k = 7) :
    Calls Tryz.prog 93 #[.agg #[.int .i64 k, .bool neg, .string ⟨name.toArray⟩, .int .i64 n]] w fun e w' => e = .returned (.bool false) ∧ Ext w w' := by
  have g1 : (k == 1) = false := by simpa using h1
  have g2 : (k == 2) = false := by simpa using h2
  have g3 : (k == 3) = false := by simpa using h3
  have g4 : (k == 4) = false := by simpa using h4
  have g5 : (k == 5) = false := by simpa using h5
  have g6 : (k == 6) = false := by simpa using h6
  have g7 : (k == 7) = false := by simpa using h7
  clear h1 h2 h3 h4 h5 h6 h7
  go_enter Tryz.func93, Tryz.ntmps93
  go_wp2_with fail
  go_ret
  exact ⟨rfl, ((Ext.refl w).alloc _).alloc _⟩
theorem DCond_any (c : CondS) (w : World) :
    Calls Tryz.prog 93 #[.agg (condCs c).toArray] w fun e w' => e = .returned (.bool (condOk c)) ∧ Ext w w' := by
  obtain ⟨k, neg, name, n⟩ := c
  unfold condOk
  dsimp only
  by_cases h : k = 1 ∨ k = 2 ∨ k = 3 ∨ k = 4
  · rw [if_pos h]
    rcases h with rfl | rfl | rfl | rfl
    · exact DCond1 neg name n w
    · exact DCond2 neg name n w
    · exact DCond3 neg name n w
    · exact DCond4 neg name n w
  rw [if_neg h]
  by_cases h5 : k = 5
  · rw [if_pos h5]
    subst h5
    exact DCond5 neg name n w
  rw [if_neg h5]
  by_cases h6 : k = 6
  · rw [if_pos h6]
    subst h6
    exact DCond6 neg name n w
  rw [if_neg h6]
  by_cases h7 : k = 7
  · rw [if_pos h7]
    subst h7
    exact DCond7 neg name n w
  rw [if_neg h7]
  exact DCond0 k neg name n w (fun e => h (.inl e)) (fun e => h (.inr (.inl e))) (fun e => h (.inr (.inr (.inl e)))) (fun e => h (.inr (.inr (.inr e)))) h5 h6 h7

set_option maxRecDepth 20000 in
set_option maxHeartbeats 4000000 in
theorem DAct1 (name : List UInt8) (n : UInt32) (addr : List UInt8) (w : World) :
    Calls Tryz.prog 94 #[.agg #[.int .i64 1, .string ⟨name.toArray⟩, .int .u32 (n.toNat : Int), .string ⟨addr.toArray⟩]] w fun e w' => e = .returned (.bool (decide (name = []) && (decide (n = 0) && decide (addr = [])))) ∧ Ext w w' := by
  by_cases hname : name = []
  · subst hname
    by_cases hn : n = 0
    · subst hn
      have hz0 : ((0 : UInt32).toNat : Int) = 0 := rfl
      by_cases haddr : addr = []
      · subst haddr
        go_enter Tryz.func94, Tryz.ntmps94
        go_wp2_with fail
        go_ret
        exact ⟨by simp, ((Ext.refl w).alloc _).alloc _⟩
      · have hbaddr : (addr == []) = false := by simpa using haddr
        go_enter Tryz.func94, Tryz.ntmps94
        go_wp2_with fail
        go_ret
        exact ⟨by first | (simp; done) | simp [haddr], ((Ext.refl w).alloc _).alloc _⟩
    · have hnb : ((n.toNat : Int) == 0) = false := by rw [beq_eq_false_iff_ne]; intro h; exact hn (UInt32.toNat_inj.1 (by rw [show (0 : UInt32).toNat = 0 from rfl]; omega))
      have hnb2 : (n.toNat == 0) = false := by rw [beq_eq_false_iff_ne]; intro h; exact hn (UInt32.toNat_inj.1 (by rw [show (0 : UInt32).toNat = 0 from rfl]; omega))
      have hnb3 : ¬ n.toNat = 0 := by simpa using hnb2
      go_enter Tryz.func94, Tryz.ntmps94
      go_wp2_with fail
      go_ret
      exact ⟨by first | (simp; done) | simp [hn], ((Ext.refl w).alloc _).alloc _⟩
  · have hbname : (name == []) = false := by simpa using hname
    go_enter Tryz.func94, Tryz.ntmps94
    go_wp2_with fail
    go_ret
    exact ⟨by first | (simp; done) | simp [hname], ((Ext.refl w).alloc _).alloc _⟩
set_option maxRecDepth 20000 in
set_option maxHeartbeats 4000000 in
theorem DAct2 (name : List UInt8) (n : UInt32) (addr : List UInt8) (w : World) :
    Calls Tryz.prog 94 #[.agg #[.int .i64 2, .string ⟨name.toArray⟩, .int .u32 (n.toNat : Int), .string ⟨addr.toArray⟩]] w fun e w' => e = .returned (.bool (decide (name = []) && (decide (n = 0) && decide (addr = [])))) ∧ Ext w w' := by
  by_cases hname : name = []
  · subst hname
    by_cases hn : n = 0
    · subst hn
      have hz0 : ((0 : UInt32).toNat : Int) = 0 := rfl
      by_cases haddr : addr = []
      · subst haddr
        go_enter Tryz.func94, Tryz.ntmps94
        go_wp2_with fail
        go_ret
        exact ⟨by simp, ((Ext.refl w).alloc _).alloc _⟩
      · have hbaddr : (addr == []) = false := by simpa using haddr
        go_enter Tryz.func94, Tryz.ntmps94
        go_wp2_with fail
        go_ret
        exact ⟨by first | (simp; done) | simp [haddr], ((Ext.refl w).alloc _).alloc _⟩
    · have hnb : ((n.toNat : Int) == 0) = false := by rw [beq_eq_false_iff_ne]; intro h; exact hn (UInt32.toNat_inj.1 (by rw [show (0 : UInt32).toNat = 0 from rfl]; omega))
      have hnb2 : (n.toNat == 0) = false := by rw [beq_eq_false_iff_ne]; intro h; exact hn (UInt32.toNat_inj.1 (by rw [show (0 : UInt32).toNat = 0 from rfl]; omega))
      have hnb3 : ¬ n.toNat = 0 := by simpa using hnb2
      go_enter Tryz.func94, Tryz.ntmps94
      go_wp2_with fail
      go_ret
      exact ⟨by first | (simp; done) | simp [hn], ((Ext.refl w).alloc _).alloc _⟩
  · have hbname : (name == []) = false := by simpa using hname
    go_enter Tryz.func94, Tryz.ntmps94
    go_wp2_with fail
    go_ret
    exact ⟨by first | (simp; done) | simp [hname], ((Ext.refl w).alloc _).alloc _⟩
set_option maxRecDepth 20000 in
set_option maxHeartbeats 4000000 in
theorem DAct5 (name : List UInt8) (n : UInt32) (addr : List UInt8) (w : World) :
    Calls Tryz.prog 94 #[.agg #[.int .i64 5, .string ⟨name.toArray⟩, .int .u32 (n.toNat : Int), .string ⟨addr.toArray⟩]] w fun e w' => e = .returned (.bool (decide (name = []) && (decide (n = 0) && decide (addr = [])))) ∧ Ext w w' := by
  by_cases hname : name = []
  · subst hname
    by_cases hn : n = 0
    · subst hn
      have hz0 : ((0 : UInt32).toNat : Int) = 0 := rfl
      by_cases haddr : addr = []
      · subst haddr
        go_enter Tryz.func94, Tryz.ntmps94
        go_wp2_with fail
        go_ret
        exact ⟨by simp, ((Ext.refl w).alloc _).alloc _⟩
      · have hbaddr : (addr == []) = false := by simpa using haddr
        go_enter Tryz.func94, Tryz.ntmps94
        go_wp2_with fail
        go_ret
        exact ⟨by first | (simp; done) | simp [haddr], ((Ext.refl w).alloc _).alloc _⟩
    · have hnb : ((n.toNat : Int) == 0) = false := by rw [beq_eq_false_iff_ne]; intro h; exact hn (UInt32.toNat_inj.1 (by rw [show (0 : UInt32).toNat = 0 from rfl]; omega))
      have hnb2 : (n.toNat == 0) = false := by rw [beq_eq_false_iff_ne]; intro h; exact hn (UInt32.toNat_inj.1 (by rw [show (0 : UInt32).toNat = 0 from rfl]; omega))
      have hnb3 : ¬ n.toNat = 0 := by simpa using hnb2
      go_enter Tryz.func94, Tryz.ntmps94
      go_wp2_with fail
      go_ret
      exact ⟨by first | (simp; done) | simp [hn], ((Ext.refl w).alloc _).alloc _⟩
  · have hbname : (name == []) = false := by simpa using hname
    go_enter Tryz.func94, Tryz.ntmps94
    go_wp2_with fail
    go_ret
    exact ⟨by first | (simp; done) | simp [hname], ((Ext.refl w).alloc _).alloc _⟩
set_option maxRecDepth 20000 in
set_option maxHeartbeats 4000000 in
theorem DAct3 (name : List UInt8) (n : UInt32) (addr : List UInt8) (w : World) :
    Calls Tryz.prog 94 #[.agg #[.int .i64 3, .string ⟨name.toArray⟩, .int .u32 (n.toNat : Int), .string ⟨addr.toArray⟩]] w fun e w' => e = .returned (.bool (decide (name = []) && decide (addr = []))) ∧ Ext w w' := by
  by_cases hname : name = []
  · subst hname
    by_cases haddr : addr = []
    · subst haddr
      go_enter Tryz.func94, Tryz.ntmps94
      go_wp2_with fail
      go_ret
      exact ⟨by simp, ((Ext.refl w).alloc _).alloc _⟩
    · have hbaddr : (addr == []) = false := by simpa using haddr
      go_enter Tryz.func94, Tryz.ntmps94
      go_wp2_with fail
      go_ret
      exact ⟨by first | (simp; done) | simp [haddr], ((Ext.refl w).alloc _).alloc _⟩
  · have hbname : (name == []) = false := by simpa using hname
    go_enter Tryz.func94, Tryz.ntmps94
    go_wp2_with fail
    go_ret
    exact ⟨by first | (simp; done) | simp [hname], ((Ext.refl w).alloc _).alloc _⟩
set_option maxRecDepth 20000 in
set_option maxHeartbeats 4000000 in
theorem DAct4 (name : List UInt8) (n : UInt32) (addr : List UInt8) (w : World) :
    Calls Tryz.prog 94 #[.agg #[.int .i64 4, .string ⟨name.toArray⟩, .int .u32 (n.toNat : Int), .string ⟨addr.toArray⟩]] w fun e w' => e = .returned (.bool (decide (name = []) && decide (addr = []))) ∧ Ext w w' := by
  by_cases hname : name = []
  · subst hname
    by_cases haddr : addr = []
    · subst haddr
      go_enter Tryz.func94, Tryz.ntmps94
      go_wp2_with fail
      go_ret
      exact ⟨by simp, ((Ext.refl w).alloc _).alloc _⟩
    · have hbaddr : (addr == []) = false := by simpa using haddr
      go_enter Tryz.func94, Tryz.ntmps94
      go_wp2_with fail
      go_ret
      exact ⟨by first | (simp; done) | simp [haddr], ((Ext.refl w).alloc _).alloc _⟩
  · have hbname : (name == []) = false := by simpa using hname
    go_enter Tryz.func94, Tryz.ntmps94
    go_wp2_with fail
    go_ret
    exact ⟨by first | (simp; done) | simp [hname], ((Ext.refl w).alloc _).alloc _⟩
set_option maxRecDepth 20000 in
set_option maxHeartbeats 4000000 in
theorem DAct6 (name : List UInt8) (n : UInt32) (addr : List UInt8) (w : World) :
    Calls Tryz.prog 94 #[.agg #[.int .i64 6, .string ⟨name.toArray⟩, .int .u32 (n.toNat : Int), .string ⟨addr.toArray⟩]] w fun e w' => e = .returned (.bool (decide (name = []) && decide (addr = []))) ∧ Ext w w' := by
  by_cases hname : name = []
  · subst hname
    by_cases haddr : addr = []
    · subst haddr
      go_enter Tryz.func94, Tryz.ntmps94
      go_wp2_with fail
      go_ret
      exact ⟨by simp, ((Ext.refl w).alloc _).alloc _⟩
    · have hbaddr : (addr == []) = false := by simpa using haddr
      go_enter Tryz.func94, Tryz.ntmps94
      go_wp2_with fail
      go_ret
      exact ⟨by first | (simp; done) | simp [haddr], ((Ext.refl w).alloc _).alloc _⟩
  · have hbname : (name == []) = false := by simpa using hname
    go_enter Tryz.func94, Tryz.ntmps94
    go_wp2_with fail
    go_ret
    exact ⟨by first | (simp; done) | simp [hname], ((Ext.refl w).alloc _).alloc _⟩
set_option maxRecDepth 20000 in
set_option maxHeartbeats 4000000 in
theorem DAct7 (name : List UInt8) (n : UInt32) (addr : List UInt8) (w : World) :
    Calls Tryz.prog 94 #[.agg #[.int .i64 7, .string ⟨name.toArray⟩, .int .u32 (n.toNat : Int), .string ⟨addr.toArray⟩]] w fun e w' => e = .returned (.bool (nameOk name && (decide (n = 0) && decide (addr = [])))) ∧ Ext w w' := by
  have q := fun W => DName_any name W
  generalize nameOk name = nk at *
  replace q := hide q
  go_enter Tryz.func94, Tryz.ntmps94
  go_wp2_with fail
  refine (q.out _).mono ?_
  rintro e _ ⟨rfl, rfl⟩
  cases nk with
  | false =>
    go_wp2_with fail
    go_ret
    exact ⟨by simp, ((Ext.refl w).alloc _).alloc _⟩
  | true =>
    by_cases hn : n = 0
    · subst hn
      have hz0 : ((0 : UInt32).toNat : Int) = 0 := rfl
      by_cases haddr : addr = []
      · subst haddr
        go_wp2_with fail
        go_ret
        exact ⟨by simp, ((Ext.refl w).alloc _).alloc _⟩
      · have hbaddr : (addr == []) = false := by simpa using haddr
        go_wp2_with fail
        go_ret
        exact ⟨by first | (simp; done) | simp [haddr], ((Ext.refl w).alloc _).alloc _⟩
    · have hnb : ((n.toNat : Int) == 0) = false := by rw [beq_eq_false_iff_ne]; intro h; exact hn (UInt32.toNat_inj.1 (by rw [show (0 : UInt32).toNat = 0 from rfl]; omega))
      have hnb2 : (n.toNat == 0) = false := by rw [beq_eq_false_iff_ne]; intro h; exact hn (UInt32.toNat_inj.1 (by rw [show (0 : UInt32).toNat = 0 from rfl]; omega))
      have hnb3 : ¬ n.toNat = 0 := by simpa using hnb2
      go_wp2_with fail
      go_ret
      exact ⟨by first | (simp; done) | simp [hn], ((Ext.refl w).alloc _).alloc _⟩
set_option maxRecDepth 20000 in
set_option maxHeartbeats 4000000 in
theorem DAct8 (name : List UInt8) (n : UInt32) (addr : List UInt8) (w : World) :
    Calls Tryz.prog 94 #[.agg #[.int .i64 8, .string ⟨name.toArray⟩, .int .u32 (n.toNat : Int), .string ⟨addr.toArray⟩]] w fun e w' => e = .returned (.bool (decide (1 ≤ n.toNat ∧ n.toNat ≤ 8) && (decide (name = []) && decide (addr = [])))) ∧ Ext w w' := by
  have hcs : (decide (1 ≤ n.toNat) = false ∧ decide ((1 : Int) ≤ (n.toNat : Int)) = false ∧ decide (1 ≤ n.toNat ∧ n.toNat ≤ 8) = false) ∨ (decide (1 ≤ n.toNat) = true ∧ decide ((1 : Int) ≤ (n.toNat : Int)) = true ∧ decide ((n.toNat : Int) ≤ 8) = false ∧ decide (1 ≤ n.toNat ∧ n.toNat ≤ 8) = false) ∨ (decide (1 ≤ n.toNat) = true ∧ decide ((1 : Int) ≤ (n.toNat : Int)) = true ∧ decide ((n.toNat : Int) ≤ 8) = true ∧ decide (1 ≤ n.toNat ∧ n.toNat ≤ 8) = true) := by
    by_cases h1 : 1 ≤ n.toNat
    · by_cases h2 : n.toNat ≤ 8
      · exact .inr (.inr ⟨decide_eq_true h1, decide_eq_true (by omega), decide_eq_true (by omega), decide_eq_true ⟨h1, h2⟩⟩)
      · exact .inr (.inl ⟨decide_eq_true h1, decide_eq_true (by omega), decide_eq_false (by omega), decide_eq_false fun h => h2 h.2⟩)
    · exact .inl ⟨decide_eq_false h1, decide_eq_false (by omega), decide_eq_false fun h => h1 h.1⟩
  generalize decide (1 ≤ n.toNat ∧ n.toNat ≤ 8) = r at *
  rcases hcs with ⟨h0, h1, rfl⟩ | ⟨h0, h1, h2, rfl⟩ | ⟨h0, h1, h2, rfl⟩
  · go_enter Tryz.func94, Tryz.ntmps94
    go_wp2_with fail
    go_ret
    exact ⟨by simp, ((Ext.refl w).alloc _).alloc _⟩
  · go_enter Tryz.func94, Tryz.ntmps94
    go_wp2_with fail
    go_ret
    exact ⟨by simp, ((Ext.refl w).alloc _).alloc _⟩
  · by_cases hname : name = []
    · subst hname
      by_cases haddr : addr = []
      · subst haddr
        go_enter Tryz.func94, Tryz.ntmps94
        go_wp2_with fail
        go_ret
        exact ⟨by simp, ((Ext.refl w).alloc _).alloc _⟩
      · have hbaddr : (addr == []) = false := by simpa using haddr
        go_enter Tryz.func94, Tryz.ntmps94
        go_wp2_with fail
        go_ret
        exact ⟨by first | (simp; done) | simp [haddr], ((Ext.refl w).alloc _).alloc _⟩
    · have hbname : (name == []) = false := by simpa using hname
      go_enter Tryz.func94, Tryz.ntmps94
      go_wp2_with fail
      go_ret
      exact ⟨by first | (simp; done) | simp [hname], ((Ext.refl w).alloc _).alloc _⟩
set_option maxRecDepth 20000 in
set_option maxHeartbeats 4000000 in
theorem DAct9 (name : List UInt8) (n : UInt32) (addr : List UInt8) (w : World) :
    Calls Tryz.prog 94 #[.agg #[.int .i64 9, .string ⟨name.toArray⟩, .int .u32 (n.toNat : Int), .string ⟨addr.toArray⟩]] w fun e w' => e = .returned (.bool (decide (addr.length = 4 ∨ addr.length = 16) && (decide (name = []) && decide (n = 0)))) ∧ Ext w w' := by
  have hsz : (ByteArray.mk addr.toArray).size = addr.length := ba_size addr
  have hcs : (((addr.length : Int) == 4) = true ∧ decide (addr.length = 4 ∨ addr.length = 16) = true) ∨ (((addr.length : Int) == 4) = false ∧ ((addr.length : Int) == 16) = true ∧ decide (addr.length = 4 ∨ addr.length = 16) = true) ∨ (((addr.length : Int) == 4) = false ∧ ((addr.length : Int) == 16) = false ∧ decide (addr.length = 4 ∨ addr.length = 16) = false) := by
    by_cases h1 : addr.length = 4
    · exact .inl ⟨by rw [beq_iff_eq]; omega, decide_eq_true (.inl h1)⟩
    · by_cases h2 : addr.length = 16
      · exact .inr (.inl ⟨by rw [beq_eq_false_iff_ne]; omega, by rw [beq_iff_eq]; omega, decide_eq_true (.inr h2)⟩)
      · exact .inr (.inr ⟨by rw [beq_eq_false_iff_ne]; omega, by rw [beq_eq_false_iff_ne]; omega, decide_eq_false fun h => h.elim h1 h2⟩)
  generalize decide (addr.length = 4 ∨ addr.length = 16) = r at *
  rcases hcs with ⟨h1, rfl⟩ | ⟨h1, h2, rfl⟩ | ⟨h1, h2, rfl⟩
  · by_cases hname : name = []
    · subst hname
      by_cases hn : n = 0
      · subst hn
        have hz0 : ((0 : UInt32).toNat : Int) = 0 := rfl
        go_enter Tryz.func94, Tryz.ntmps94
        go_wp2_with fail
        go_ret
        exact ⟨by simp, ((Ext.refl w).alloc _).alloc _⟩
      · have hnb : ((n.toNat : Int) == 0) = false := by rw [beq_eq_false_iff_ne]; intro h; exact hn (UInt32.toNat_inj.1 (by rw [show (0 : UInt32).toNat = 0 from rfl]; omega))
        have hnb2 : (n.toNat == 0) = false := by rw [beq_eq_false_iff_ne]; intro h; exact hn (UInt32.toNat_inj.1 (by rw [show (0 : UInt32).toNat = 0 from rfl]; omega))
        have hnb3 : ¬ n.toNat = 0 := by simpa using hnb2
        go_enter Tryz.func94, Tryz.ntmps94
        go_wp2_with fail
        go_ret
        exact ⟨by first | (simp; done) | simp [hn], ((Ext.refl w).alloc _).alloc _⟩
    · have hbname : (name == []) = false := by simpa using hname
      go_enter Tryz.func94, Tryz.ntmps94
      go_wp2_with fail
      go_ret
      exact ⟨by first | (simp; done) | simp [hname], ((Ext.refl w).alloc _).alloc _⟩
  · by_cases hname : name = []
    · subst hname
      by_cases hn : n = 0
      · subst hn
        have hz0 : ((0 : UInt32).toNat : Int) = 0 := rfl
        go_enter Tryz.func94, Tryz.ntmps94
        go_wp2_with fail
        go_ret
        exact ⟨by simp, ((Ext.refl w).alloc _).alloc _⟩
      · have hnb : ((n.toNat : Int) == 0) = false := by rw [beq_eq_false_iff_ne]; intro h; exact hn (UInt32.toNat_inj.1 (by rw [show (0 : UInt32).toNat = 0 from rfl]; omega))
        have hnb2 : (n.toNat == 0) = false := by rw [beq_eq_false_iff_ne]; intro h; exact hn (UInt32.toNat_inj.1 (by rw [show (0 : UInt32).toNat = 0 from rfl]; omega))
        have hnb3 : ¬ n.toNat = 0 := by simpa using hnb2
        go_enter Tryz.func94, Tryz.ntmps94
        go_wp2_with fail
        go_ret
        exact ⟨by first | (simp; done) | simp [hn], ((Ext.refl w).alloc _).alloc _⟩
    · have hbname : (name == []) = false := by simpa using hname
      go_enter Tryz.func94, Tryz.ntmps94
      go_wp2_with fail
      go_ret
      exact ⟨by first | (simp; done) | simp [hname], ((Ext.refl w).alloc _).alloc _⟩
  · go_enter Tryz.func94, Tryz.ntmps94
    go_wp2_with fail
    go_ret
    exact ⟨by simp, ((Ext.refl w).alloc _).alloc _⟩
set_option maxRecDepth 20000 in
set_option maxHeartbeats 4000000 in
theorem DAct10 (name : List UInt8) (n : UInt32) (addr : List UInt8) (w : World) :
    Calls Tryz.prog 94 #[.agg #[.int .i64 10, .string ⟨name.toArray⟩, .int .u32 (n.toNat : Int), .string ⟨addr.toArray⟩]] w fun e w' => e = .returned (.bool (decide (n.toNat ≤ 2) && (decide (name = []) && decide (addr = [])))) ∧ Ext w w' := by
  have hcs : (decide ((n.toNat : Int) ≤ 2) = true ∧ decide (n.toNat ≤ 2) = true) ∨ (decide ((n.toNat : Int) ≤ 2) = false ∧ decide (n.toNat ≤ 2) = false) := by
    by_cases h1 : n.toNat ≤ 2
    · exact .inl ⟨decide_eq_true (by omega), decide_eq_true h1⟩
    · exact .inr ⟨decide_eq_false (by omega), decide_eq_false h1⟩
  generalize decide (n.toNat ≤ 2) = r at *
  rcases hcs with ⟨h1, rfl⟩ | ⟨h1, rfl⟩
  · by_cases hname : name = []
    · subst hname
      by_cases haddr : addr = []
      · subst haddr
        go_enter Tryz.func94, Tryz.ntmps94
        go_wp2_with fail
        go_ret
        exact ⟨by simp, ((Ext.refl w).alloc _).alloc _⟩
      · have hbaddr : (addr == []) = false := by simpa using haddr
        go_enter Tryz.func94, Tryz.ntmps94
        go_wp2_with fail
        go_ret
        exact ⟨by first | (simp; done) | simp [haddr], ((Ext.refl w).alloc _).alloc _⟩
    · have hbname : (name == []) = false := by simpa using hname
      go_enter Tryz.func94, Tryz.ntmps94
      go_wp2_with fail
      go_ret
      exact ⟨by first | (simp; done) | simp [hname], ((Ext.refl w).alloc _).alloc _⟩
  · go_enter Tryz.func94, Tryz.ntmps94
    go_wp2_with fail
    go_ret
    exact ⟨by simp, ((Ext.refl w).alloc _).alloc _⟩
set_option maxRecDepth 20000 in
set_option maxHeartbeats 4000000 in
theorem DAct0 (k : Int) (name : List UInt8) (n : UInt32) (addr : List UInt8) (w : World) (h1 : ¬ k = 1) (h2 : ¬ k = 2) (h3 : ¬ k = 3) (h4 : ¬ k = 4) (h5 : ¬ k = 5) (h6 : ¬ k = 6) (h7 : ¬ k = 7) (h8 : ¬ k = 8) (h9 : ¬ k = 9) (h10 : ¬ k = 10) :
    Calls Tryz.prog 94 #[.agg #[.int .i64 k, .string ⟨name.toArray⟩, .int .u32 (n.toNat : Int), .string ⟨addr.toArray⟩]] w fun e w' => e = .returned (.bool false) ∧ Ext w w' := by
  have g1 : (k == 1) = false := by simpa using h1
  have g2 : (k == 2) = false := by simpa using h2
  have g3 : (k == 3) = false := by simpa using h3
  have g4 : (k == 4) = false := by simpa using h4
  have g5 : (k == 5) = false := by simpa using h5
  have g6 : (k == 6) = false := by simpa using h6
  have g7 : (k == 7) = false := by simpa using h7
  have g8 : (k == 8) = false := by simpa using h8
  have g9 : (k == 9) = false := by simpa using h9
  have g10 : (k == 10) = false := by simpa using h10
  clear h1 h2 h3 h4 h5 h6 h7 h8 h9 h10
  go_enter Tryz.func94, Tryz.ntmps94
  go_wp2_with fail
  go_ret
  exact ⟨rfl, ((Ext.refl w).alloc _).alloc _⟩
theorem DAct_any (a : ActS) (w : World) :
    Calls Tryz.prog 94 #[.agg (actCs a).toArray] w fun e w' => e = .returned (.bool (actOk a)) ∧ Ext w w' := by
  obtain ⟨k, name, n, addr⟩ := a
  unfold actOk
  dsimp only
  by_cases h : k = 1 ∨ k = 2 ∨ k = 5
  · rw [if_pos h]
    rcases h with rfl | rfl | rfl
    · exact DAct1 name n addr w
    · exact DAct2 name n addr w
    · exact DAct5 name n addr w
  rw [if_neg h]
  by_cases h3 : k = 3 ∨ k = 4 ∨ k = 6
  · rw [if_pos h3]
    rcases h3 with rfl | rfl | rfl
    · exact DAct3 name n addr w
    · exact DAct4 name n addr w
    · exact DAct6 name n addr w
  rw [if_neg h3]
  by_cases h7 : k = 7
  · rw [if_pos h7]; subst h7; exact DAct7 name n addr w
  rw [if_neg h7]
  by_cases h8 : k = 8
  · rw [if_pos h8]; subst h8; exact DAct8 name n addr w
  rw [if_neg h8]
  by_cases h9 : k = 9
  · rw [if_pos h9]; subst h9; exact DAct9 name n addr w
  rw [if_neg h9]
  by_cases h10 : k = 10
  · rw [if_pos h10]; subst h10; exact DAct10 name n addr w
  rw [if_neg h10]
  exact DAct0 k name n addr w (fun e => h (.inl e)) (fun e => h (.inr (.inl e))) (fun e => h3 (.inl e)) (fun e => h3 (.inr (.inl e))) (fun e => h (.inr (.inr e))) (fun e => h3 (.inr (.inr e))) h7 h8 h9 h10
end
section
open Go.RowKit
set_option linter.unusedVariables false
attribute [local go_sem ↓] Go.wp_at_zero Go.wp_at_succ

theorem term_false_c {t : TermS} (k : Nat) (h : k < t.conds.length) (hc : condOk t.conds[k] = false) : termOk t = false := by
  rw [Bool.eq_false_iff]
  intro hok
  have := (ok_of_term hok).2.2.2.1 _ (List.getElem_mem h)
  rw [hc] at this
  cases this
theorem term_false_a {t : TermS} (k : Nat) (h : k < t.acts.length) (hc : actOk t.acts[k] = false) : termOk t = false := by
  rw [Bool.eq_false_iff]
  intro hok
  have := (ok_of_term hok).2.2.2.2 _ (List.getElem_mem h)
  rw [hc] at this
  cases this
theorem term_ends {t : TermS} (hok : termOk t = true) : ∀ k (h : k < t.acts.length), k + 1 ≠ t.acts.length → endsA t.acts[k] = false := by
  intro k h hk
  unfold termOk at hok
  simp only [Bool.and_eq_true] at hok
  have := List.all_eq_true.1 hok.2.2.2.2 t.acts[k] (by
    rw [List.dropLast_eq_take, List.mem_take_iff_getElem]
    exact ⟨k, by omega, rfl⟩)
  simpa using this
theorem term_false_e {t : TermS} (k : Nat) (h : k < t.acts.length) (hk : k + 1 ≠ t.acts.length) (hc : endsA t.acts[k] = true) : termOk t = false := by
  rw [Bool.eq_false_iff]
  intro hok
  have := term_ends hok k h hk
  rw [hc] at this
  cases this
theorem term_true {t : TermS} (h1 : t.conds.length ≤ 64) (h2 : 1 ≤ t.acts.length) (h3 : t.acts.length ≤ 64) (h4 : ∀ k (h : k < t.conds.length), condOk t.conds[k] = true)
    (h5 : ∀ k (h : k < t.acts.length), actOk t.acts[k] = true ∧ (k + 1 = t.acts.length ∨ endsA t.acts[k] = false)) : termOk t = true := by
  unfold termOk
  simp only [Bool.and_eq_true, decide_eq_true_eq]
  refine ⟨h1, ⟨h2, h3⟩, ?_, ?_, ?_⟩
  · rw [List.all_eq_true]
    intro x hx
    obtain ⟨k, hk, rfl⟩ := List.getElem_of_mem hx
    exact h4 k hk
  · rw [List.all_eq_true]
    intro x hx
    obtain ⟨k, hk, rfl⟩ := List.getElem_of_mem hx
    exact (h5 k hk).1
  · rw [List.all_eq_true]
    intro x hx
    rw [List.dropLast_eq_take, List.mem_take_iff_getElem] at hx
    obtain ⟨k, hk, rfl⟩ := hx
    rcases (h5 k (by omega)).2 with h | h
    · omega
    · rw [h]; rfl

set_option maxRecDepth 20000 in
set_option maxHeartbeats 4000000 in
theorem DMayTerm_any (a1 : Option Addr) (c1 : Nat) (a2 : Option Addr) (c2 : Nat) (t : TermS) (w : World)
    (ht1 : t.conds.length ≤ 16777216) (ht2 : t.acts.length ≤ 16777216)
    (s1 : Sl ECond w (· < w.heap.size) a1 t.conds) (s2 : Sl EAct w (· < w.heap.size) a2 t.acts) :
    Calls Tryz.prog 37 #[.agg #[.slice a1 t.conds.length c1, .slice a2 t.acts.length c2]] w fun e w' => e = .returned (.bool (termOk t)) ∧ Ext w w' := by
  by_cases h64 : t.conds.length ≤ 64
  case neg =>
    have hr : termOk t = false := by rw [Bool.eq_false_iff]; intro h; exact h64 (ok_of_term h).1
    rw [hr]
    have g1 : decide ((64 : Int) < (t.conds.length : Int)) = true := decide_eq_true (by omega)
    clear s1 s2 h64 hr
    go_enter Tryz.func37, Tryz.ntmps37
    go_wp2
    go_ret
    exact ⟨rfl, (Ext.refl w).alloc _⟩
  have g1 : decide ((64 : Int) < (t.conds.length : Int)) = false := decide_eq_false (by omega)
  by_cases hge : 1 ≤ t.acts.length
  case neg =>
    have hr : termOk t = false := by rw [Bool.eq_false_iff]; intro h; exact hge (ok_of_term h).2.1
    rw [hr]
    have g2 : t.acts.length = 0 := by omega
    rw [g2]
    clear s1 s2 h64 hr
    go_enter Tryz.func37, Tryz.ntmps37
    go_wp2
    go_ret
    exact ⟨rfl, (Ext.refl w).alloc _⟩
  have g2 : decide ((t.acts.length : Int) < 1) = false := decide_eq_false (by omega)
  by_cases hle : t.acts.length ≤ 64
  case neg =>
    have hr : termOk t = false := by rw [Bool.eq_false_iff]; intro h; exact hle (ok_of_term h).2.2.1
    rw [hr]
    have g3 : decide ((64 : Int) < (t.acts.length : Int)) = true := decide_eq_true (by omega)
    have g4 : ¬ t.acts.length = 0 := by omega
    clear s1 s2 h64 hr
    go_enter Tryz.func37, Tryz.ntmps37
    go_wp2
    go_ret
    exact ⟨rfl, (Ext.refl w).alloc _⟩
  have g3 : decide ((64 : Int) < (t.acts.length : Int)) = false := decide_eq_false (by omega)
  have g4 : ¬ t.acts.length = 0 := by omega
  have q1 : ∀ (x : CondS) (W : World), Calls Tryz.prog 93 #[.agg #[.int .i64 x.kind, .bool x.neg, .string ⟨x.name.toArray⟩, .int .i64 x.n]] W fun e w' => e = .returned (.bool (condOk x)) ∧ Ext W w' := fun x W => DCond_any x W
  have q2 : ∀ (x : ActS) (W : World), Calls Tryz.prog 94 #[.agg #[.int .i64 x.kind, .string ⟨x.name.toArray⟩, .int .u32 (x.n.toNat : Int), .string ⟨x.addr.toArray⟩]] W fun e w' => e = .returned (.bool (actOk x)) ∧ Ext W w' := fun x W => DAct_any x W
  have hfc := fun k h => @term_false_c t k h
  have hfa := fun k h => @term_false_a t k h
  have hfe := fun k h => @term_false_e t k h
  have htr := @term_true t h64 hge hle
  generalize termOk t = res at hfc hfa hfe htr ⊢
  obtain ⟨t1, t2⟩ := t
  dsimp only at *
  have B := Blk.new w 25 #[.slice a1 t1.length c1, .slice a2 t2.length c2]
  have E := (Ext.refl w).alloc (Obj.cells #[.slice a1 t1.length c1, .slice a2 t2.length c2] 25)
  generalize hW0 : w.alloc (Obj.cells #[.slice a1 t1.length c1, .slice a2 t2.length c2] 25) = W0 at B E
  generalize hg0 : w.heap.size = g0 at B
  have m0 := B.cell 0
  have m1 := B.cell 1
  simp at m0 m1
  replace s1 := hide s1
  replace s2 := hide s2
  replace q1 := hide q1
  replace q2 := hide q2
  replace hfc := hide hfc
  replace hfa := hide hfa
  replace hfe := hide hfe
  replace htr := hide htr
  replace B := hide B
  replace E := hide E
  replace h64 := hide h64
  replace hge := hide hge
  replace hle := hide hle
  go_enter Tryz.func37, Tryz.ntmps37
  go_wp2_with fail
  clear hW0 hg0 g1 g2 g3 m0 m1
  go_loopw [3] (fun i wr => ∃ k : Nat, k ≤ t1.length ∧ i = .int .i64 k ∧ Ext W0 wr ∧ ∀ j (h : j < t1.length), j < k → condOk t1[j] = true) (fun i _ => t1.length - (intOf i).toNat)
  case atStart => exact ⟨0, Nat.zero_le _, rfl, Ext.refl _, fun j _ h => absurd h (Nat.not_lt_zero _)⟩
  case round =>
    obtain ⟨k, hk, rfl, hE, hin⟩ := hrel
    have B1 := B.out.ext hE
    have E1 := hide (E.out.trans hE)
    have m0 := B1.cell 0
    have m1 := B1.cell 1
    simp at m0 m1
    clear B1
    by_cases hlt : k < t1.length
    · obtain ⟨b, off, rfl, _, _, hx⟩ := ECond.at (s1.out.ext E1.out) k hlt
      have x0 : wr.cell? ⟨b, off + k * 4, none⟩ = some (.int .i64 t1[k].kind) := hx 0 _ rfl
      have x1 : wr.cell? ⟨b, off + k * 4 + 1, none⟩ = some (.bool t1[k].neg) := hx 1 _ rfl
      have x2 : wr.cell? ⟨b, off + k * 4 + 2, none⟩ = some (.string ⟨t1[k].name.toArray⟩) := hx 2 _ rfl
      have x3 : wr.cell? ⟨b, off + k * 4 + 3, none⟩ = some (.int .i64 t1[k].n) := hx 3 _ rfl
      have qq := q1.out t1[k]
      have hno := hfc.out k hlt
      have hyes : condOk t1[k] = true → ∀ j (h : j < t1.length), j < k + 1 → condOk t1[j] = true := fun h j h1 h2 => by
        by_cases e : j = k
        · subst e; exact h
        · exact hin j h1 (by omega)
      clear hx hin
      generalize t1[k] = x at *
      generalize condOk x = ok at *
      replace hE := hide hE
      replace qq := hide qq
      replace hno := hide hno
      replace hyes := hide hyes
      go_wp2_with fail
      refine (qq.out _).mono ?_
      rintro e wr2 ⟨rfl, he⟩
      replace E1 := hide (E1.out.trans he)
      replace hE := hide (hE.out.trans he)
      cases ok with
      | false =>
        obtain rfl := hno.out rfl
        go_wp2_with fail
        go_ret
        exact ⟨rfl, E1.out⟩
      | true =>
        go_wp2_with fail
        go_roundw
        case rel => exact ⟨k + 1, by omega, by go_num, hE.out, hyes.out (by trivial)⟩
        case measure => simp [intOf]; omega
    · obtain rfl : k = t1.length := by omega
      have htr2 := hide (htr.out fun j h => hin j h h)
      clear hlt hk hin htr hfc
      replace hE := hide hE
      go_wp2_with fail
      go_loopw [4] (fun i wQ => ∃ k : Nat, k ≤ t2.length ∧ i = .int .i64 k ∧ Ext wr wQ ∧ ∀ j (h : j < t2.length), j < k → actOk t2[j] = true ∧ (j + 1 = t2.length ∨ endsA t2[j] = false)) (fun i _ => t2.length - (intOf i).toNat)
      case atStart => exact ⟨0, Nat.zero_le _, rfl, Ext.refl _, fun j _ h => absurd h (Nat.not_lt_zero _)⟩
      case round =>
        clear m0 m1
        obtain ⟨k, hk, rfl, hE2, hin⟩ := hrel
        have B1 := B.out.ext (hE.out.trans hE2)
        replace E1 := hide (E1.out.trans hE2)
        have m0 := B1.cell 0
        have m1 := B1.cell 1
        simp at m0 m1
        by_cases hlt : k < t2.length
        · obtain ⟨b, off, rfl, _, _, hx⟩ := EAct.at (s2.out.ext E1.out) k hlt
          have x0 : wr.cell? ⟨b, off + k * 4, none⟩ = some (.int .i64 t2[k].kind) := hx 0 _ rfl
          have x1 : wr.cell? ⟨b, off + k * 4 + 1, none⟩ = some (.string ⟨t2[k].name.toArray⟩) := hx 1 _ rfl
          have x2 : wr.cell? ⟨b, off + k * 4 + 2, none⟩ = some (.int .u32 (t2[k].n.toNat : Int)) := hx 2 _ rfl
          have x3 : wr.cell? ⟨b, off + k * 4 + 3, none⟩ = some (.string ⟨t2[k].addr.toArray⟩) := hx 3 _ rfl
          have qq := q2.out t2[k]
          have hno := hfa.out k hlt
          have hne := hfe.out k hlt
          have hend : endsA t2[k] = (decide (t2[k].kind = 1) || decide (t2[k].kind = 2)) := rfl
          have hyes : actOk t2[k] = true → (k + 1 = t2.length ∨ endsA t2[k] = false) → ∀ j (h : j < t2.length), j < k + 1 → actOk t2[j] = true ∧ (j + 1 = t2.length ∨ endsA t2[j] = false) := fun h h' j h1 h2 => by
            by_cases e : j = k
            · subst e; exact ⟨h, h'⟩
            · exact hin j h1 (by omega)
          clear hx hin
          generalize t2[k] = x at *
          generalize actOk x = ok at *
          generalize endsA x = en at *
          have A := Blk.new wr 51 #[.int .i64 x.kind, .string ⟨x.name.toArray⟩, .int .u32 (x.n.toNat : Int), .string ⟨x.addr.toArray⟩]
          have F := (Ext.refl wr).alloc (Obj.cells #[.int .i64 x.kind, .string ⟨x.name.toArray⟩, .int .u32 (x.n.toNat : Int), .string ⟨x.addr.toArray⟩] 51)
          have n1 : (wr.alloc (Obj.cells #[.int .i64 x.kind, .string ⟨x.name.toArray⟩, .int .u32 (x.n.toNat : Int), .string ⟨x.addr.toArray⟩] 51)).cell? ⟨g0, 1, none⟩ = some (.slice (some ⟨b, off, none⟩) t2.length c2) := (B1.alloc _).cell 1
          clear B1
          have g7 : wrap64 ((t2.length : Int) - 1) = (t2.length : Int) - 1 := wrap64_id _ (by omega) (by omega)
          by_cases hl : k + 1 = t2.length
          · have g8 : ((k : Int) == (t2.length : Int) - 1) = true := by rw [beq_iff_eq]; omega
            replace hE2 := hide hE2
            replace qq := hide qq
            replace hno := hide hno
            replace hyes := hide hyes
            replace hne := hide hne
            replace hend := hide hend
            replace A := hide A
            replace F := hide F
            replace hl := hide hl
            replace hk := hide hk
            replace hlt := hide hlt
            go_wp2_with fail
            refine (qq.out _).mono ?_
            rintro e wr2 ⟨rfl, he⟩
            have F2 := F.out.trans he
            replace E1 := hide (E1.out.trans F2)
            replace hE2 := hide (hE2.out.trans F2)
            clear F2 A F n1
            cases ok with
            | false =>
              obtain rfl := hno.out rfl
              go_wp2_with fail
              go_ret
              exact ⟨rfl, E1.out⟩
            | true =>
              go_wp2_with fail
              go_roundw
              case rel => exact ⟨k + 1, by have := hlt.out; omega, by go_num, hE2.out, hyes.out (by trivial) (.inl hl.out)⟩
              case measure => have := hlt.out; simp [intOf]; omega
          · have g8 : ((k : Int) == (t2.length : Int) - 1) = false := by rw [beq_eq_false_iff_ne]; omega
            replace hE2 := hide hE2
            replace qq := hide qq
            replace hno := hide hno
            replace hyes := hide hyes
            replace hne := hide hne
            replace hend := hide hend
            replace A := hide A
            replace F := hide F
            replace hl := hide hl
            replace hk := hide hk
            replace hlt := hide hlt
            go_wp2_with fail
            refine (qq.out _).mono ?_
            rintro e wr2 ⟨rfl, he⟩
            have F2 := F.out.trans he
            replace E1 := hide (E1.out.trans F2)
            replace hE2 := hide (hE2.out.trans F2)
            have a0 := (A.out.ext he).cell 0
            simp at a0
            clear F2 A F n1
            cases ok with
            | false =>
              obtain rfl := hno.out rfl
              clear a0
              go_wp2_with fail
              go_ret
              exact ⟨rfl, E1.out⟩
            | true =>
              by_cases h1 : x.kind = 1
              · have h1b : (x.kind == 1) = true := by rw [h1]; rfl
                obtain rfl := hne.out hl.out (by rw [hend.out, decide_eq_true h1]; rfl)
                clear h1
                go_wp2_with fail
                go_ret
                exact ⟨rfl, E1.out⟩
              have h1b : (x.kind == 1) = false := by rw [beq_eq_false_iff_ne]; exact h1
              by_cases h2 : x.kind = 2
              · have h2b : (x.kind == 2) = true := by rw [h2]; rfl
                obtain rfl := hne.out hl.out (by rw [hend.out, decide_eq_true h2, Bool.or_true])
                clear h1 h2
                go_wp2_with fail
                go_ret
                exact ⟨rfl, E1.out⟩
              have h2b : (x.kind == 2) = false := by rw [beq_eq_false_iff_ne]; exact h2
              have hen : en = false := by rw [hend.out, decide_eq_false h1, decide_eq_false h2]; rfl
              clear h1 h2
              replace hen := hide hen
              go_wp2_with fail
              go_roundw
              case rel => exact ⟨k + 1, by have := hlt.out; omega, by go_num, hE2.out, hyes.out (by trivial) (.inr hen.out)⟩
              case measure => have := hlt.out; simp [intOf]; omega
        · clear B1
          obtain rfl : k = t2.length := by omega
          obtain rfl := htr2.out fun j h => hin j h h
          clear hlt hk hin
          replace hE2 := hide hE2
          go_wp2_with fail
          go_ret
          exact ⟨rfl, E1.out⟩
end
end Go.Proofs.YtljibkfbldjgdaaGreatDoor
