/- Chapter 16, walks: slices.Equal at conditions and actions; are two terms the same (polc.Same$1)? Printed by genfj.py. Chapter 16, walks: slices.EqualFunc at terms; polc.Same. -/
import Derived.Test.YtljibkfbldjgdaaGreatDoorFB
namespace Go.Proofs.YtljibkfbldjgdaaGreatDoor
section
open Go.RowKit
set_option linter.unusedVariables false

set_option maxRecDepth 20000 in
set_option maxHeartbeats 4000000 in
theorem SEqC_any (a : Option Addr) (c : Nat) (l : List CondS) (b : Option Addr) (d : Nat) (m : List CondS) (w : World) (hl : l.length ≤ 16777216) (hm : m.length ≤ 16777216)
    (s1 : Sl ECond w (· < w.heap.size) a l) (s2 : Sl ECond w (· < w.heap.size) b m) :
    Calls Tryz.prog 42 #[.slice a l.length c, .slice b m.length d] w fun e w' => e = .returned (.bool (decide (l = m))) ∧ Ext w w' := by
  have mixed : Tryz.prog.follows Departure.mixedOrders = true := by kernel_rfl
  by_cases hn : l.length = m.length
  case neg =>
    rw [decide_eq_false fun e => hn (by rw [e])]
    have g1 : ((l.length : Int) == (m.length : Int)) = false := by rw [beq_eq_false_iff_ne]; omega
    clear s1 s2
    go_enter Tryz.func42, Tryz.ntmps42
    go_wp2
    go_ret
    exact ⟨rfl, Ext.refl w⟩
  rw [← hn]
  have ha := fun (x y : CondS) W => run_neq_ofB (run_eqCond W x y)
  have hga : ∀ x y xs ys W, (eqGuard .neq 48 x y (.agg xs) (.agg ys)).run Tryz.prog W = .ok () W := fun x y xs ys W => run_eqGuard_agg W .neq _ x y xs ys Tryz.eqGuardType48
  clear hm
  replace s1 := hide s1
  replace s2 := hide s2
  replace ha := hide ha
  replace hn := hide hn
  go_enter Tryz.func42, Tryz.ntmps42
  go_wp2_with fail
  go_loopw [13] (fun i wr => ∃ k : Nat, k ≤ l.length ∧ i = .int .i64 k ∧ Ext w wr ∧ l.take k = m.take k) (fun i _ => l.length - (intOf i).toNat)
  case atStart => exact ⟨0, Nat.zero_le _, rfl, Ext.refl _, rfl⟩
  case round =>
    obtain ⟨k, hk, rfl, hE, htk⟩ := hrel
    by_cases hlt : k < l.length
    · obtain ⟨b1, off, rfl, _, hin, hx⟩ := ECond.at (s1.out.ext hE) k hlt
      obtain ⟨b2, off', rfl, _, _, hy⟩ := ECond.at (s2.out.ext hE) k (hn.out ▸ hlt)
      have x0 : wr.cell? ⟨b1, off + k * 4, none⟩ = some (.int .i64 l[k].kind) := hx 0 _ rfl
      have x1 : wr.cell? ⟨b1, off + k * 4 + 1, none⟩ = some (.bool l[k].neg) := hx 1 _ rfl
      have x2 : wr.cell? ⟨b1, off + k * 4 + 2, none⟩ = some (.string ⟨l[k].name.toArray⟩) := hx 2 _ rfl
      have x3 : wr.cell? ⟨b1, off + k * 4 + 3, none⟩ = some (.int .i64 l[k].n) := hx 3 _ rfl
      have y0 : wr.cell? ⟨b2, off' + k * 4, none⟩ = some (.int .i64 (m[k]'(hn.out ▸ hlt)).kind) := hy 0 _ rfl
      have y1 : wr.cell? ⟨b2, off' + k * 4 + 1, none⟩ = some (.bool (m[k]'(hn.out ▸ hlt)).neg) := hy 1 _ rfl
      have y2 : wr.cell? ⟨b2, off' + k * 4 + 2, none⟩ = some (.string ⟨(m[k]'(hn.out ▸ hlt)).name.toArray⟩) := hy 2 _ rfl
      have y3 : wr.cell? ⟨b2, off' + k * 4 + 3, none⟩ = some (.int .i64 (m[k]'(hn.out ▸ hlt)).n) := hy 3 _ rfl
      have heq := fun W => ha.out l[k] (m[k]'(hn.out ▸ hlt)) W
      have hst := take_step htk hlt (hn.out ▸ hlt)
      have hne : ¬ l[k] = m[k]'(hn.out ▸ hlt) → ¬ l = m := fun h e => h (by subst e; rfl)
      clear hx hy hin
      generalize l[k] = x at *
      generalize m[k]'(hn.out ▸ hlt) = y at *
      replace hE := hide hE
      replace hst := hide hst
      replace hne := hide hne
      replace htk := hide htk
      by_cases hxy : x = y
      · have hs := hide (hst.out hxy)
        clear hst hne
        subst hxy
        simp only [decide_true, Bool.not_true] at heq
        go_wp2_with fail
        go_region
        go_wp2
        go_roundw
        case rel => exact ⟨k + 1, by omega, by go_num, hE.out.drew, hs.out⟩
        case measure => simp [intOf]; omega
      · rw [decide_eq_false hxy] at heq
        simp only [Bool.not_false] at heq
        have hr := hide (hne.out hxy)
        clear hne hxy hst
        go_wp2_with fail
        go_region
        go_wp2
        go_ret
        exact ⟨by rw [decide_eq_false hr.out]; rfl, hE.out.drew⟩
    · obtain rfl : k = l.length := by omega
      have hall : l = m := by
        have h2 : l.take l.length = m.take m.length := by rw [htk, hn.out]
        rwa [List.take_length, List.take_length] at h2
      clear hlt hk htk
      replace hE := hide hE
      replace hall := hide hall
      go_wp2_with fail
      go_ret
      exact ⟨by rw [decide_eq_true hall.out]; rfl, hE.out⟩
set_option maxRecDepth 20000 in
set_option maxHeartbeats 4000000 in
theorem SEqA_any (a : Option Addr) (c : Nat) (l : List ActS) (b : Option Addr) (d : Nat) (m : List ActS) (w : World) (hl : l.length ≤ 16777216) (hm : m.length ≤ 16777216)
    (s1 : Sl EAct w (· < w.heap.size) a l) (s2 : Sl EAct w (· < w.heap.size) b m) :
    Calls Tryz.prog 43 #[.slice a l.length c, .slice b m.length d] w fun e w' => e = .returned (.bool (decide (l = m))) ∧ Ext w w' := by
  have mixed : Tryz.prog.follows Departure.mixedOrders = true := by kernel_rfl
  by_cases hn : l.length = m.length
  case neg =>
    rw [decide_eq_false fun e => hn (by rw [e])]
    have g1 : ((l.length : Int) == (m.length : Int)) = false := by rw [beq_eq_false_iff_ne]; omega
    clear s1 s2
    go_enter Tryz.func43, Tryz.ntmps43
    go_wp2
    go_ret
    exact ⟨rfl, Ext.refl w⟩
  rw [← hn]
  have ha := fun (x y : ActS) W => run_neq_ofB (run_eqAct W x y)
  have hga : ∀ x y xs ys W, (eqGuard .neq 51 x y (.agg xs) (.agg ys)).run Tryz.prog W = .ok () W := fun x y xs ys W => run_eqGuard_agg W .neq _ x y xs ys Tryz.eqGuardType51
  clear hm
  replace s1 := hide s1
  replace s2 := hide s2
  replace ha := hide ha
  replace hn := hide hn
  go_enter Tryz.func43, Tryz.ntmps43
  go_wp2_with fail
  go_loopw [13] (fun i wr => ∃ k : Nat, k ≤ l.length ∧ i = .int .i64 k ∧ Ext w wr ∧ l.take k = m.take k) (fun i _ => l.length - (intOf i).toNat)
  case atStart => exact ⟨0, Nat.zero_le _, rfl, Ext.refl _, rfl⟩
  case round =>
    obtain ⟨k, hk, rfl, hE, htk⟩ := hrel
    by_cases hlt : k < l.length
    · obtain ⟨b1, off, rfl, _, hin, hx⟩ := EAct.at (s1.out.ext hE) k hlt
      obtain ⟨b2, off', rfl, _, _, hy⟩ := EAct.at (s2.out.ext hE) k (hn.out ▸ hlt)
      have x0 : wr.cell? ⟨b1, off + k * 4, none⟩ = some (.int .i64 l[k].kind) := hx 0 _ rfl
      have x1 : wr.cell? ⟨b1, off + k * 4 + 1, none⟩ = some (.string ⟨l[k].name.toArray⟩) := hx 1 _ rfl
      have x2 : wr.cell? ⟨b1, off + k * 4 + 2, none⟩ = some (.int .u32 (l[k].n.toNat : Int)) := hx 2 _ rfl
      have x3 : wr.cell? ⟨b1, off + k * 4 + 3, none⟩ = some (.string ⟨l[k].addr.toArray⟩) := hx 3 _ rfl
      have y0 : wr.cell? ⟨b2, off' + k * 4, none⟩ = some (.int .i64 (m[k]'(hn.out ▸ hlt)).kind) := hy 0 _ rfl
      have y1 : wr.cell? ⟨b2, off' + k * 4 + 1, none⟩ = some (.string ⟨(m[k]'(hn.out ▸ hlt)).name.toArray⟩) := hy 1 _ rfl
      have y2 : wr.cell? ⟨b2, off' + k * 4 + 2, none⟩ = some (.int .u32 ((m[k]'(hn.out ▸ hlt)).n.toNat : Int)) := hy 2 _ rfl
      have y3 : wr.cell? ⟨b2, off' + k * 4 + 3, none⟩ = some (.string ⟨(m[k]'(hn.out ▸ hlt)).addr.toArray⟩) := hy 3 _ rfl
      have heq := fun W => ha.out l[k] (m[k]'(hn.out ▸ hlt)) W
      have hst := take_step htk hlt (hn.out ▸ hlt)
      have hne : ¬ l[k] = m[k]'(hn.out ▸ hlt) → ¬ l = m := fun h e => h (by subst e; rfl)
      clear hx hy hin
      generalize l[k] = x at *
      generalize m[k]'(hn.out ▸ hlt) = y at *
      replace hE := hide hE
      replace hst := hide hst
      replace hne := hide hne
      replace htk := hide htk
      by_cases hxy : x = y
      · have hs := hide (hst.out hxy)
        clear hst hne
        subst hxy
        simp only [decide_true, Bool.not_true] at heq
        go_wp2_with fail
        go_region
        go_wp2
        go_roundw
        case rel => exact ⟨k + 1, by omega, by go_num, hE.out.drew, hs.out⟩
        case measure => simp [intOf]; omega
      · rw [decide_eq_false hxy] at heq
        simp only [Bool.not_false] at heq
        have hr := hide (hne.out hxy)
        clear hne hxy hst
        go_wp2_with fail
        go_region
        go_wp2
        go_ret
        exact ⟨by rw [decide_eq_false hr.out]; rfl, hE.out.drew⟩
    · obtain rfl : k = l.length := by omega
      have hall : l = m := by
        have h2 : l.take l.length = m.take m.length := by rw [htk, hn.out]
        rwa [List.take_length, List.take_length] at h2
      clear hlt hk htk
      replace hE := hide hE
      replace hall := hide hall
      go_wp2_with fail
      go_ret
      exact ⟨by rw [decide_eq_true hall.out]; rfl, hE.out⟩
set_option maxRecDepth 20000 in
set_option maxHeartbeats 4000000 in
theorem PSame1_any (a1 : Option Addr) (c1 : Nat) (a2 : Option Addr) (c2 : Nat) (t : TermS) (b1 : Option Addr) (d1 : Nat) (b2 : Option Addr) (d2 : Nat) (u : TermS) (w : World)
    (ht1 : t.conds.length ≤ 16777216) (ht2 : t.acts.length ≤ 16777216) (hu1 : u.conds.length ≤ 16777216) (hu2 : u.acts.length ≤ 16777216)
    (s1 : Sl ECond w (· < w.heap.size) a1 t.conds) (s2 : Sl EAct w (· < w.heap.size) a2 t.acts) (z1 : Sl ECond w (· < w.heap.size) b1 u.conds) (z2 : Sl EAct w (· < w.heap.size) b2 u.acts) :
    Calls Tryz.prog 41 #[.agg #[.slice a1 t.conds.length c1, .slice a2 t.acts.length c2], .agg #[.slice b1 u.conds.length d1, .slice b2 u.acts.length d2]] w fun e w' => e = .returned (.bool (decide (t = u))) ∧ Ext w w' := by
  have qc := fun W (h : Ext w W) => SEqC_any a1 c1 t.conds b1 d1 u.conds W ht1 hu1 (s1.ext h) (z1.ext h)
  have qa := fun W (h : Ext w W) => SEqA_any a2 c2 t.acts b2 d2 u.acts W ht2 hu2 (s2.ext h) (z2.ext h)
  have heq : decide (t = u) = (decide (t.conds = u.conds) && decide (t.acts = u.acts)) := by
    obtain ⟨t1, t2⟩ := t
    obtain ⟨u1, u2⟩ := u
    by_cases h1 : t1 = u1 <;> by_cases h2 : t2 = u2 <;> simp [h1, h2]
  rw [heq]
  generalize decide (t.conds = u.conds) = r1 at *
  generalize decide (t.acts = u.acts) = r2 at *
  clear heq ht1 ht2 hu1 hu2 s1 s2 z1 z2
  generalize t.conds.length = n1 at *
  generalize t.acts.length = n2 at *
  generalize u.conds.length = m1 at *
  generalize u.acts.length = m2 at *
  replace qc := hide qc
  replace qa := hide qa
  go_enter Tryz.func41, Tryz.ntmps41
  have S := (Blk.new w 25 #[.slice a1 n1 c1, .slice a2 n2 c2]).alloc (Obj.cells #[.slice b1 m1 d1, .slice b2 m2 d2] 25)
  have E := ((Ext.refl w).alloc (Obj.cells #[.slice a1 n1 c1, .slice a2 n2 c2] 25)).alloc (Obj.cells #[.slice b1 m1 d1, .slice b2 m2 d2] 25)
  have T := Blk.new (w.alloc (Obj.cells #[.slice a1 n1 c1, .slice a2 n2 c2] 25)) 25 #[.slice b1 m1 d1, .slice b2 m2 d2]
  rw [show (w.alloc (Obj.cells #[.slice a1 n1 c1, .slice a2 n2 c2] 25)).heap.size = w.heap.size + 1 by simp] at T
  generalize hW0 : (w.alloc (Obj.cells #[.slice a1 n1 c1, .slice a2 n2 c2] 25)).alloc (Obj.cells #[.slice b1 m1 d1, .slice b2 m2 d2] 25) = W0 at S E T
  generalize hg0 : w.heap.size = g0 at S T
  replace S := hide S
  replace E := hide E
  replace T := hide T
  have S_0 : W0.cell? ⟨g0, 0, none⟩ = some (.slice a1 n1 c1) := S.out.cell 0
  have S_1 : W0.cell? ⟨g0, 1, none⟩ = some (.slice a2 n2 c2) := S.out.cell 1
  have T_0 : W0.cell? ⟨g0 + 1, 0, none⟩ = some (.slice b1 m1 d1) := T.out.cell 0
  have T_1 : W0.cell? ⟨g0 + 1, 1, none⟩ = some (.slice b2 m2 d2) := T.out.cell 1
  go_wp2_with fail
  (with_reducible refine (qc.out _ E.out).mono ?_)
  rintro e W1 ⟨rfl, he⟩
  clear hW0 hg0
  have S : Blk W1 (g0) 25 #[.slice a1 n1 c1, .slice a2 n2 c2] := S.out.ext he
  replace S := hide S
  have T : Blk W1 (g0 + 1) 25 #[.slice b1 m1 d1, .slice b2 m2 d2] := T.out.ext he
  replace T := hide T
  replace E := hide (E.out.trans he)
  clear he qc
  clear S_0 S_1 T_0 T_1
  have S_0 : W1.cell? ⟨g0, 0, none⟩ = some (.slice a1 n1 c1) := S.out.cell 0
  have S_1 : W1.cell? ⟨g0, 1, none⟩ = some (.slice a2 n2 c2) := S.out.cell 1
  have T_0 : W1.cell? ⟨g0 + 1, 0, none⟩ = some (.slice b1 m1 d1) := T.out.cell 0
  have T_1 : W1.cell? ⟨g0 + 1, 1, none⟩ = some (.slice b2 m2 d2) := T.out.cell 1
  cases r1 with
  | false =>
    go_wp2_with fail
    go_ret
    exact ⟨rfl, E.out⟩
  | true =>
    go_wp2_with fail
    (with_reducible refine (qa.out _ E.out).mono ?_)
    rintro e W2 ⟨rfl, he⟩
    replace E := hide (E.out.trans he)
    clear he qa
    go_wp2_with fail
    go_ret
    exact ⟨by simp, E.out⟩
end
section
open Go.RowKit
set_option linter.unusedVariables false

set_option maxRecDepth 20000 in
set_option maxHeartbeats 4000000 in
theorem EqF_any (a : Option Addr) (c : Nat) (l : List TermS) (b : Option Addr) (d : Nat) (m : List TermS) (w : World) (hl : l.length ≤ 16777216) (hm : m.length ≤ 16777216)
    (s1 : Sl ETerm w (· < w.heap.size) a l) (s2 : Sl ETerm w (· < w.heap.size) b m) :
    Calls Tryz.prog 40 #[.slice a l.length c, .slice b m.length d, .func (.func 41) #[] #[]] w fun e w' => e = .returned (.bool (decide (l = m))) ∧ Ext w w' := by
  by_cases hn : l.length = m.length
  case neg =>
    rw [decide_eq_false fun e => hn (by rw [e])]
    have g1 : ((l.length : Int) == (m.length : Int)) = false := by rw [beq_eq_false_iff_ne]; omega
    clear s1 s2
    go_enter Tryz.func40, Tryz.ntmps40
    go_wp2
    go_ret
    exact ⟨rfl, Ext.refl w⟩
  rw [← hn]
  clear hm
  replace s1 := hide s1
  replace s2 := hide s2
  replace hn := hide hn
  go_enter Tryz.func40, Tryz.ntmps40
  go_wp2_with fail
  go_loopw [17] (fun i wr => ∃ k : Nat, k ≤ l.length ∧ i = .int .i64 k ∧ Ext w wr ∧ l.take k = m.take k) (fun i _ => l.length - (intOf i).toNat)
  case atStart => exact ⟨0, Nat.zero_le _, rfl, Ext.refl _, rfl⟩
  case round =>
    obtain ⟨k, hk, rfl, hE, htk⟩ := hrel
    by_cases hlt : k < l.length
    · obtain ⟨b1, o1, x1, p1, x2, p2, rfl, _, e1, e2, n1, r1, n2, r2⟩ := ETerm.at (s1.out.ext hE) k hlt
      obtain ⟨b2, o2, y1, q1, y2, q2, rfl, _, f1, f2, n3, r3, n4, r4⟩ := ETerm.at (s2.out.ext hE) k (hn.out ▸ hlt)
      have hst := take_step htk hlt (hn.out ▸ hlt)
      have hne : ¬ l[k] = m[k]'(hn.out ▸ hlt) → ¬ l = m := fun h e => h (by subst e; rfl)
      generalize l[k] = x at *
      generalize m[k]'(hn.out ▸ hlt) = y at *
      have qs := fun W (h : Ext wr W) => PSame1_any x1 p1 x2 p2 x y1 q1 y2 q2 y W n1 n2 n3 n4 (r1.ext h) (r2.ext h) (r3.ext h) (r4.ext h)
      have hb : (decide (x = y) = true → x = y) ∧ (decide (x = y) = false → ¬ x = y) := ⟨of_decide_eq_true, of_decide_eq_false⟩
      generalize decide (x = y) = bb at *
      clear n1 n2 n3 n4 r1 r2 r3 r4
      replace hE := hide hE
      replace hst := hide hst
      replace hne := hide hne
      replace htk := hide htk
      replace qs := hide qs
      replace hb := hide hb
      go_wp2_with fail
      (with_reducible refine (qs.out _ (((Ext.refl wr).alloc _).alloc _)).mono ?_)
      rintro e W2 ⟨rfl, he⟩
      replace hE := hide (hE.out.trans ((((Ext.refl wr).alloc _).alloc _).trans he))
      clear he qs e1 e2 f1 f2
      cases bb with
      | false =>
        have hr := hide (hne.out (hb.out.2 rfl))
        clear hst hne hb
        go_wp2_with fail
        go_ret
        exact ⟨by rw [decide_eq_false hr.out]; rfl, hE.out⟩
      | true =>
        have hs := hide (hst.out (hb.out.1 rfl))
        clear hst hne hb
        go_wp2_with fail
        go_roundw
        case rel => exact ⟨k + 1, by omega, by go_num, hE.out, hs.out⟩
        case measure => simp [intOf]; omega
    · obtain rfl : k = l.length := by omega
      have hall : l = m := by
        have h2 : l.take l.length = m.take m.length := by rw [htk, hn.out]
        rwa [List.take_length, List.take_length] at h2
      clear hlt hk htk
      replace hE := hide hE
      replace hall := hide hall
      go_wp2_with fail
      go_ret
      exact ⟨by rw [decide_eq_true hall.out]; rfl, hE.out⟩

/-- Are two policies the same? -/
def samePol (p q : PolS) : Bool := decide (p.name = q.name) && (decide (p.els = q.els) && decide (p.terms = q.terms))
set_option maxRecDepth 20000 in
set_option maxHeartbeats 4000000 in
theorem PSame_any (p : PolS) (a : Option Addr) (c : Nat) (q : PolS) (b : Option Addr) (d : Nat) (w : World) (hl : p.terms.length ≤ 16777216) (hm : q.terms.length ≤ 16777216)
    (s1 : Sl ETerm w (· < w.heap.size) a p.terms) (s2 : Sl ETerm w (· < w.heap.size) b q.terms) :
    Calls Tryz.prog 16 #[.agg #[.string ⟨p.name.toArray⟩, .slice a p.terms.length c, .bool p.els], .agg #[.string ⟨q.name.toArray⟩, .slice b q.terms.length d, .bool q.els]] w fun e w' => e = .returned (.bool (samePol p q)) ∧ Ext w w' := by
  have qf := fun W (h : Ext w W) => EqF_any a c p.terms b d q.terms W hl hm (s1.ext h) (s2.ext h)
  unfold samePol
  generalize decide (p.terms = q.terms) = bt at *
  obtain ⟨n1, t1, e1⟩ := p
  obtain ⟨n2, t2, e2⟩ := q
  dsimp only at *
  clear hl hm s1 s2
  have E := hide (((Ext.refl w).alloc (Obj.cells #[.string ⟨n1.toArray⟩, .slice a t1.length c, .bool e1] 35)).alloc (Obj.cells #[.string ⟨n2.toArray⟩, .slice b t2.length d, .bool e2] 35))
  replace qf := hide qf
  by_cases hn : n1 = n2
  case neg =>
    have hnb : (n1 == n2) = false := by rw [beq_eq_false_iff_ne]; exact hn
    rw [decide_eq_false hn, Bool.false_and]
    go_enter Tryz.func16, Tryz.ntmps16
    go_wp2_with fail
    go_ret
    exact ⟨rfl, E.out⟩
  subst hn
  by_cases he : e1 = e2
  case neg =>
    have heb : (e1 == e2) = false := by rw [beq_eq_false_iff_ne]; exact he
    rw [decide_eq_false he, Bool.false_and, Bool.and_false]
    go_enter Tryz.func16, Tryz.ntmps16
    go_wp2_with fail
    go_ret
    exact ⟨rfl, E.out⟩
  subst he
  rw [decide_eq_true rfl, decide_eq_true rfl, Bool.true_and, Bool.true_and]
  go_enter Tryz.func16, Tryz.ntmps16
  go_wp2_with fail
  (with_reducible refine (qf.out _ E.out).mono ?_)
  rintro e W2 ⟨rfl, h2⟩
  replace E := hide (E.out.trans h2)
  go_wp2_with fail
  go_ret
  exact ⟨rfl, E.out⟩
end
end Go.Proofs.YtljibkfbldjgdaaGreatDoor
