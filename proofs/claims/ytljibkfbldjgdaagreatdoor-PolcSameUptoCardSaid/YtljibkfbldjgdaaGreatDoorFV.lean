/- The law PolcSame, walked. Printed by gensame16.py. -/
import Derived.Test.YtljibkfbldjgdaaGreatDoorFU
import Derived.Test.YtljibkfbldjgdaaGreatDoorER
import Derived.Test.YtljibkfbldjgdaaGreatDoorPI
namespace Go.Proofs.YtljibkfbldjgdaaGreatDoor
open Go.RowKit Go.Sort
set_option linter.unusedVariables false

def OwnP (p : PolS) (lo hi : Nat) (v : Value) (w : World) : Prop :=
  ∃ a c, v = .agg #[.string ⟨p.name.toArray⟩, .slice a p.terms.length c, .bool p.els] ∧ Sl ETerm w (fun b => lo ≤ b ∧ b < hi) a p.terms ∧ hi ≤ w.heap.size
theorem OwnP.stays {W : World} {p : PolS} : Stays W (OwnP p) := by
  rintro lo hi v w w' ⟨a, c, rfl, h, hs⟩ hw hz
  exact ⟨a, c, rfl, h.frame fun b hb => hw b (.inr hb), Nat.le_trans hs hz⟩
theorem step_goA16 {P : Program} {Q : Exit → Act → World → Prop} {o : Oper} {a : Act} {w : World} {R : Nat → Nat → Value → World → Prop} (f : FuncId) {fn : Func} (xs : Array Operand) (ts : Array TypeId)
    (hop : o.op = Op.call { callee := Callee.value (Operand.func f), args := xs, argTypes := ts }) (hf : P.funcs[f]? = some fn) (hname : (fn.name == "runtime.NumGoroutine") = false) (hb : fn.body.isNone = false) (vs : Array Value) (hx : xs.map a.eval = vs)
    (hc : Calls P f vs w fun e w' => ∃ v, e = .returned v ∧ Ext w w' ∧ R w.heap.size w'.heap.size v w') : Oper.wp P o a w (fun a' w'' => ∃ v, a' = a.put o.dst v ∧ Ext w w'' ∧ R w.heap.size w''.heap.size v w'') Q := by
  unfold Oper.wp
  have h1 : fn.name ≠ "runtime.NumGoroutine" := by simpa using hname
  have hev : a.eval (Operand.func f) = .func (.func f) #[] #[] := rfl
  have h2 : ¬ (fn.body = none) := by intro h; simp [h] at hb
  have hrun : (execOp a.eval o).run P w = .ok (.enter f vs) w := by
    simp [execOp, hop, resolve, hev, Deferred.ofValue, invoke, hx, callFunc, hf, h1, h2]
  rw [hrun, Oper.upon_enter]
  exact hc.mono fun e w' h => by obtain ⟨v, rfl, hE, hR⟩ := h; exact ⟨v, rfl, hE, hR⟩
theorem samePol_refl (p : PolS) : samePol p p = true := by simp [samePol]

set_option maxRecDepth 20000 in
set_option maxHeartbeats 8000000 in
theorem PolcSame_walk (p : PolS) (aa : Option Addr) (ca : Nat) (q : PolS) (bb : Option Addr) (cb : Nat) (w : World) (hl : p.terms.length ≤ 16777216) (hm : q.terms.length ≤ 16777216)
    (s1 : Sl ETerm w (· < w.heap.size) aa p.terms) (s2 : Sl ETerm w (· < w.heap.size) bb q.terms) (hT : Tab w) (hD : Deb w) (hV : Vars w) :
    Calls Tryz.prog 4 #[.agg #[.string ⟨p.name.toArray⟩, .slice aa p.terms.length ca, .bool p.els], .agg #[.string ⟨q.name.toArray⟩, .slice bb q.terms.length cb, .bool q.els]] w fun e w' => e = .returned (.bool true) ∧ Ext w w' := by
  have mixed : Tryz.prog.follows Departure.mixedOrders = true := by kernel_rfl
  have qw := fun W (h : Ext w W) => PWorks_any W (hT.ext h) (hD.ext h) (hV.ext h)
  have S := (Blk.new w 35 #[.string ⟨p.name.toArray⟩, .slice aa p.terms.length ca, .bool p.els]).alloc (Obj.cells #[.string ⟨q.name.toArray⟩, .slice bb q.terms.length cb, .bool q.els] 35)
  have T := Blk.new (w.alloc (Obj.cells #[.string ⟨p.name.toArray⟩, .slice aa p.terms.length ca, .bool p.els] 35)) 35 #[.string ⟨q.name.toArray⟩, .slice bb q.terms.length cb, .bool q.els]
  have E := ((Ext.refl w).alloc (Obj.cells #[.string ⟨p.name.toArray⟩, .slice aa p.terms.length ca, .bool p.els] 35)).alloc (Obj.cells #[.string ⟨q.name.toArray⟩, .slice bb q.terms.length cb, .bool q.els] 35)
  rw [show (w.alloc (Obj.cells #[.string ⟨p.name.toArray⟩, .slice aa p.terms.length ca, .bool p.els] 35)).heap.size = w.heap.size + 1 by simp] at T
  generalize hW0 : (w.alloc (Obj.cells #[.string ⟨p.name.toArray⟩, .slice aa p.terms.length ca, .bool p.els] 35)).alloc (Obj.cells #[.string ⟨q.name.toArray⟩, .slice bb q.terms.length cb, .bool q.els] 35) = W0 at S T E
  have t1 := s1.ext E
  have t2 := s2.ext E
  generalize hg0 : w.heap.size = g0 at S T
  have q1 := fun W (h : Ext W0 W) => PSame_any p aa ca q bb cb W hl hm (t1.ext h) (t2.ext h)
  have q2 := fun W (h : Ext W0 W) => DSame16_any p aa ca q bb cb W hl hm (t1.ext h) (t2.ext h)
  have q3 : ∀ W, Ext W0 W → Calls Tryz.prog 18 #[.agg #[.string ⟨p.name.toArray⟩, .slice aa p.terms.length ca, .bool p.els]] W fun e w' => ∃ v, e = .returned v ∧ Ext W w' ∧ OwnP p W.heap.size w'.heap.size v w' := fun W h =>
    (DOwn16_any p aa ca W hl (t1.ext h)).mono fun e w' ⟨v, h1, h2, h3⟩ => by
      obtain ⟨x, y, rfl, hs⟩ := h3.sl
      exact ⟨_, h1, h2, x, y, rfl, hs.weakT, Nat.le_refl _⟩
  have q4 := fun W (h : Ext W0 W) x y (hx : Sl ETerm W (· < W.heap.size) x p.terms) => PSame_any p aa ca p x y W hl hl (t1.ext h) hx
  rw [samePol_refl] at q4
  generalize samePol p q = sp at q1 q2
  clear s1 s2 t1 t2 hT hD hV hl hm
  have x0 : W0.cell? ⟨g0, 0, none⟩ = some (.string ⟨p.name.toArray⟩) := S.cell 0
  have x1 : W0.cell? ⟨g0, 1, none⟩ = some (.slice aa p.terms.length ca) := S.cell 1
  have x2 : W0.cell? ⟨g0, 2, none⟩ = some (.bool p.els) := S.cell 2
  have y0 : W0.cell? ⟨g0 + 1, 0, none⟩ = some (.string ⟨q.name.toArray⟩) := T.cell 0
  have y1 : W0.cell? ⟨g0 + 1, 1, none⟩ = some (.slice bb q.terms.length cb) := T.cell 1
  have y2 : W0.cell? ⟨g0 + 1, 2, none⟩ = some (.bool q.els) := T.cell 2
  clear S T
  have hE0 := E
  replace E := hide E
  replace hE0 := hide hE0
  replace q1 := hide q1
  replace q2 := hide q2
  replace q3 := hide q3
  replace q4 := hide q4
  replace qw := hide qw
  go_enter Tryz.func4, Tryz.ntmps4
  go_upto_region 1 with fail
  clear hW0 hg0
  refine wp_region_JM (J := JV W0 _ (fun i => match i with | 0 => .val (.agg #[.string ⟨p.name.toArray⟩, .slice aa p.terms.length ca, .bool p.els]) | 1 => .val (.agg #[.string ⟨q.name.toArray⟩, .slice bb q.terms.length cb, .bool q.els]) | 2 => .val (.bool sp) | 3 => .val (.agg #[.string ⟨p.name.toArray⟩, .slice aa p.terms.length ca, .bool p.els]) | 4 => .val (.agg #[.string ⟨q.name.toArray⟩, .slice bb q.terms.length cb, .bool q.els]) | 5 => .val (.bool sp) | 6 => .val (.bool true) | 7 => .val (.bool true) | 8 => .val (.agg #[.string ⟨p.name.toArray⟩, .slice aa p.terms.length ca, .bool p.els]) | 9 => .val (.agg #[.string ⟨p.name.toArray⟩, .slice aa p.terms.length ca, .bool p.els]) | 10 => .any (OwnP p) | 11 => .val (.bool true) | 12 => .val (.bool true) | 13 => .val (.bool true) | 14 => .val (.bool true) | 15 => .val (.bool true) | 16 => .val (.bool true) | _ => .val undef)) mixed (by kernel_rfl) (by kernel_rfl) (fun _ => undef) (JV.start _ _ _ _) (JW.keepsG (by kernel_rfl) ?anys ?fill ?box ?steps) ?rest
  case anys =>
    intro i R hi hR
    replace hi : i < 17 := hi
    match i, hi, hR with
    | 0, _, hR => cases hR
    | 1, _, hR => cases hR
    | 2, _, hR => cases hR
    | 3, _, hR => cases hR
    | 4, _, hR => cases hR
    | 5, _, hR => cases hR
    | 6, _, hR => cases hR
    | 7, _, hR => cases hR
    | 8, _, hR => cases hR
    | 9, _, hR => cases hR
    | 10, _, hR => injection hR with hR; subst hR; exact OwnP.stays
    | 11, _, hR => cases hR
    | 12, _, hR => cases hR
    | 13, _, hR => cases hR
    | 14, _, hR => cases hR
    | 15, _, hR => cases hR
    | 16, _, hR => cases hR
    | i + 17, h, _ => exact absurd h (by omega)
  case fill =>
    intro i b hi hb
    replace hi : i < 17 := hi
    match i, hi, hb with
    | 0, _, hb => cases hb
    | 1, _, hb => cases hb
    | 2, _, hb => cases hb
    | 3, _, hb => cases hb
    | 4, _, hb => cases hb
    | 5, _, hb => cases hb
    | 6, _, hb => cases hb
    | 7, _, hb => cases hb
    | 8, _, hb => cases hb
    | 9, _, hb => cases hb
    | 10, _, hb => cases hb
    | 11, _, hb => cases hb
    | 12, _, hb => cases hb
    | 13, _, hb => cases hb
    | 14, _, hb => cases hb
    | 15, _, hb => cases hb
    | 16, _, hb => cases hb
    | i + 17, h, _ => exact absurd h (by omega)
  case box =>
    intro b st t z cs hi hb
    replace hi : b < 17 := hi
    match b, hi, hb with
    | 0, _, hb => cases hb
    | 1, _, hb => cases hb
    | 2, _, hb => cases hb
    | 3, _, hb => cases hb
    | 4, _, hb => cases hb
    | 5, _, hb => cases hb
    | 6, _, hb => cases hb
    | 7, _, hb => cases hb
    | 8, _, hb => cases hb
    | 9, _, hb => cases hb
    | 10, _, hb => cases hb
    | 11, _, hb => cases hb
    | 12, _, hb => cases hb
    | 13, _, hb => cases hb
    | 14, _, hb => cases hb
    | 15, _, hb => cases hb
    | 16, _, hb => cases hb
    | i + 17, h, _ => exact absurd h (by omega)
  case steps =>
    intro i hi
    replace hi : i < 17 := hi
    match i, hi with
    | 0, _ =>
      refine ⟨_, rfl, .inl rfl, ?_⟩
      intro a w9 done val G H hdn hdep hev hout hE9 hok hge9
      refine ⟨(fun v b hb => by cases hb), ?_⟩
      have u2 : a.eval (.tmp 2) = .pointer (some ⟨g0, 0, none⟩) := (hout 2 (by kernel_rfl)).trans rfl
      simp [Act.eval] at u2
      clear hdep hev hout hok hge9
      have z0 := hE9.cell x0
      have z1 := hE9.cell x1
      have z2 := hE9.cell x2
      refine step_val (w'' := w9) ?_ (Ext.refl _)
      go_simp
    | 1, _ =>
      refine ⟨_, rfl, .inl rfl, ?_⟩
      intro a w9 done val G H hdn hdep hev hout hE9 hok hge9
      refine ⟨(fun v b hb => by cases hb), ?_⟩
      have u3 : a.eval (.tmp 3) = .pointer (some ⟨g0 + 1, 0, none⟩) := (hout 3 (by kernel_rfl)).trans rfl
      simp [Act.eval] at u3
      clear hdep hev hout hok hge9
      have z0 := hE9.cell y0
      have z1 := hE9.cell y1
      have z2 := hE9.cell y2
      refine step_val (w'' := w9) ?_ (Ext.refl _)
      go_simp
    | 2, _ =>
      refine ⟨_, rfl, .inl rfl, ?_⟩
      intro a w9 done val G H hdn hdep hev hout hE9 hok hge9
      refine ⟨(fun v b hb => by cases hb), ?_⟩
      have d0 : done 0 = true := by first | exact hdep ⟨0, .data⟩ (by simp) rfl | exact hdep ⟨0, .phase⟩ (by simp) rfl
      have e0 := hev 0 _ 5 rfl rfl (by simp) d0
      have k0 := hok 0 (by decide) d0
      replace k0 : val 0 = (.agg #[.string ⟨p.name.toArray⟩, .slice aa p.terms.length ca, .bool p.els]) := k0
      rw [k0] at e0
      clear k0
      simp [Act.eval] at e0
      clear d0
      have d1 : done 1 = true := by first | exact hdep ⟨1, .data⟩ (by simp) rfl | exact hdep ⟨1, .phase⟩ (by simp) rfl
      have e1 := hev 1 _ 6 rfl rfl (by simp) d1
      have k1 := hok 1 (by decide) d1
      replace k1 : val 1 = (.agg #[.string ⟨q.name.toArray⟩, .slice bb q.terms.length cb, .bool q.els]) := k1
      rw [k1] at e1
      clear k1
      simp [Act.eval] at e1
      clear d1
      clear hdep hev hout hok hge9
      exact step_go 16 #[.tmp 5, .tmp 6] #[35, 35] rfl Tryz.func16 (by kernel_rfl) (by kernel_rfl) _ (by simp [Act.eval, e0, e1]; try rfl) (q1.out w9 hE9)
    | 3, _ =>
      refine ⟨_, rfl, .inl rfl, ?_⟩
      intro a w9 done val G H hdn hdep hev hout hE9 hok hge9
      refine ⟨(fun v b hb => by cases hb), ?_⟩
      have u2 : a.eval (.tmp 2) = .pointer (some ⟨g0, 0, none⟩) := (hout 2 (by kernel_rfl)).trans rfl
      simp [Act.eval] at u2
      clear hdep hev hout hok hge9
      have z0 := hE9.cell x0
      have z1 := hE9.cell x1
      have z2 := hE9.cell x2
      refine step_val (w'' := w9) ?_ (Ext.refl _)
      go_simp
    | 4, _ =>
      refine ⟨_, rfl, .inl rfl, ?_⟩
      intro a w9 done val G H hdn hdep hev hout hE9 hok hge9
      refine ⟨(fun v b hb => by cases hb), ?_⟩
      have u3 : a.eval (.tmp 3) = .pointer (some ⟨g0 + 1, 0, none⟩) := (hout 3 (by kernel_rfl)).trans rfl
      simp [Act.eval] at u3
      clear hdep hev hout hok hge9
      have z0 := hE9.cell y0
      have z1 := hE9.cell y1
      have z2 := hE9.cell y2
      refine step_val (w'' := w9) ?_ (Ext.refl _)
      go_simp
    | 5, _ =>
      refine ⟨_, rfl, .inl rfl, ?_⟩
      intro a w9 done val G H hdn hdep hev hout hE9 hok hge9
      refine ⟨(fun v b hb => by cases hb), ?_⟩
      have d3 : done 3 = true := by first | exact hdep ⟨3, .data⟩ (by simp) rfl | exact hdep ⟨3, .phase⟩ (by simp) rfl
      have e3 := hev 3 _ 8 rfl rfl (by simp) d3
      have k3 := hok 3 (by decide) d3
      replace k3 : val 3 = (.agg #[.string ⟨p.name.toArray⟩, .slice aa p.terms.length ca, .bool p.els]) := k3
      rw [k3] at e3
      clear k3
      simp [Act.eval] at e3
      clear d3
      have d4 : done 4 = true := by first | exact hdep ⟨4, .data⟩ (by simp) rfl | exact hdep ⟨4, .phase⟩ (by simp) rfl
      have e4 := hev 4 _ 9 rfl rfl (by simp) d4
      have k4 := hok 4 (by decide) d4
      replace k4 : val 4 = (.agg #[.string ⟨q.name.toArray⟩, .slice bb q.terms.length cb, .bool q.els]) := k4
      rw [k4] at e4
      clear k4
      simp [Act.eval] at e4
      clear d4
      clear hdep hev hout hok hge9
      exact step_go 17 #[.tmp 8, .tmp 9] #[35, 35] rfl Tryz.func17 (by kernel_rfl) (by kernel_rfl) _ (by simp [Act.eval, e3, e4]; try rfl) (q2.out w9 hE9)
    | 6, _ =>
      refine ⟨_, rfl, .inl rfl, ?_⟩
      intro a w9 done val G H hdn hdep hev hout hE9 hok hge9
      refine ⟨(fun v b hb => by cases hb), ?_⟩
      have d2 : done 2 = true := by first | exact hdep ⟨2, .data⟩ (by simp) rfl | exact hdep ⟨2, .phase⟩ (by simp) rfl
      have e2 := hev 2 _ 7 rfl rfl (by simp) d2
      have k2 := hok 2 (by decide) d2
      replace k2 : val 2 = (.bool sp) := k2
      rw [k2] at e2
      clear k2
      simp [Act.eval] at e2
      clear d2
      have d5 : done 5 = true := by first | exact hdep ⟨5, .data⟩ (by simp) rfl | exact hdep ⟨5, .phase⟩ (by simp) rfl
      have e5 := hev 5 _ 10 rfl rfl (by simp) d5
      have k5 := hok 5 (by decide) d5
      replace k5 : val 5 = (.bool sp) := k5
      rw [k5] at e5
      clear k5
      simp [Act.eval] at e5
      clear d5
      clear hdep hev hout hok hge9
      refine step_val (w'' := w9) ?_ (Ext.refl _)
      go_simp
    | 7, _ =>
      refine ⟨_, rfl, .inl rfl, ?_⟩
      intro a w9 done val G H hdn hdep hev hout hE9 hok hge9
      refine ⟨(fun v b hb => by cases hb), ?_⟩
      have d6 : done 6 = true := by first | exact hdep ⟨6, .data⟩ (by simp) rfl | exact hdep ⟨6, .phase⟩ (by simp) rfl
      have e6 := hev 6 _ 11 rfl rfl (by simp) d6
      have k6 := hok 6 (by decide) d6
      replace k6 : val 6 = (.bool true) := k6
      rw [k6] at e6
      clear k6
      simp [Act.eval] at e6
      clear d6
      clear hdep hev hout hok hge9
      refine step_val (w'' := w9) ?_ (Ext.refl _)
      go_simp
    | 8, _ =>
      refine ⟨_, rfl, .inr ⟨7, true, _, 12, rfl, rfl, rfl, (by simp), (by decide), rfl, (by simp [Region.binds])⟩, ?_⟩
      intro a w9 done val G H hdn hdep hev hout hE9 hok hge9
      refine ⟨(fun v b hb => by cases hb), ?_⟩
      have u2 : a.eval (.tmp 2) = .pointer (some ⟨g0, 0, none⟩) := (hout 2 (by kernel_rfl)).trans rfl
      simp [Act.eval] at u2
      clear hdep hev hout hok hge9
      have z0 := hE9.cell x0
      have z1 := hE9.cell x1
      have z2 := hE9.cell x2
      refine step_val (w'' := w9) ?_ (Ext.refl _)
      go_simp
    | 9, _ =>
      refine ⟨_, rfl, .inr ⟨7, true, _, 12, rfl, rfl, rfl, (by simp), (by decide), rfl, (by simp [Region.binds])⟩, ?_⟩
      intro a w9 done val G H hdn hdep hev hout hE9 hok hge9
      refine ⟨(fun v b hb => by cases hb), ?_⟩
      have u2 : a.eval (.tmp 2) = .pointer (some ⟨g0, 0, none⟩) := (hout 2 (by kernel_rfl)).trans rfl
      simp [Act.eval] at u2
      clear hdep hev hout hok hge9
      have z0 := hE9.cell x0
      have z1 := hE9.cell x1
      have z2 := hE9.cell x2
      refine step_val (w'' := w9) ?_ (Ext.refl _)
      go_simp
    | 10, _ =>
      refine ⟨_, rfl, .inr ⟨7, true, _, 12, rfl, rfl, rfl, (by simp), (by decide), rfl, (by simp [Region.binds])⟩, ?_⟩
      intro a w9 done val G H hdn hdep hev hout hE9 hok hge9
      refine ⟨(fun v b hb => by cases hb), ?_⟩
      have d9 : done 9 = true := by first | exact hdep ⟨9, .data⟩ (by simp) rfl | exact hdep ⟨9, .phase⟩ (by simp) rfl
      have e9 := hev 9 _ 14 rfl rfl (by simp) d9
      have k9 := hok 9 (by decide) d9
      replace k9 : val 9 = (.agg #[.string ⟨p.name.toArray⟩, .slice aa p.terms.length ca, .bool p.els]) := k9
      rw [k9] at e9
      clear k9
      simp [Act.eval] at e9
      clear d9
      clear hdep hev hout hok hge9
      exact step_goA16 18 #[.tmp 14] #[35] rfl Tryz.func18 (by kernel_rfl) (by kernel_rfl) _ (by simp [Act.eval, e9]; try rfl) (q3.out w9 hE9)
    | 11, _ =>
      refine ⟨_, rfl, .inr ⟨7, true, _, 12, rfl, rfl, rfl, (by simp), (by decide), rfl, (by simp [Region.binds])⟩, ?_⟩
      intro a w9 done val G H hdn hdep hev hout hE9 hok hge9
      refine ⟨(fun v b hb => by cases hb), ?_⟩
      have d8 : done 8 = true := by first | exact hdep ⟨8, .data⟩ (by simp) rfl | exact hdep ⟨8, .phase⟩ (by simp) rfl
      have e8 := hev 8 _ 13 rfl rfl (by simp) d8
      have k8 := hok 8 (by decide) d8
      replace k8 : val 8 = (.agg #[.string ⟨p.name.toArray⟩, .slice aa p.terms.length ca, .bool p.els]) := k8
      rw [k8] at e8
      clear k8
      simp [Act.eval] at e8
      clear d8
      have d10 : done 10 = true := by first | exact hdep ⟨10, .data⟩ (by simp) rfl | exact hdep ⟨10, .phase⟩ (by simp) rfl
      have e10 := hev 10 _ 15 rfl rfl (by simp) d10
      have k10 := hok 10 (by decide) d10
      obtain ⟨pa, pc, k10, h10, n10⟩ := k10
      rw [k10] at e10
      clear k10
      simp [Act.eval] at e10
      clear d10
      clear hdep hev hout hok hge9
      exact step_go 16 #[.tmp 13, .tmp 15] #[35, 35] rfl Tryz.func16 (by kernel_rfl) (by kernel_rfl) _ (by simp [Act.eval, e8, e10]; try rfl) (q4.out w9 hE9 pa pc (h10.mono fun b hb => Nat.lt_of_lt_of_le hb.2 n10))
    | 12, _ =>
      refine ⟨_, rfl, .inl rfl, ?_⟩
      intro a w9 done val G H hdn hdep hev hout hE9 hok hge9
      refine ⟨(fun v b hb => by cases hb), ?_⟩
      have d7 : done 7 = true := by first | exact hdep ⟨7, .data⟩ (by simp) rfl | exact hdep ⟨7, .phase⟩ (by simp) rfl
      have e7 := hev 7 _ 12 rfl rfl (by simp) d7
      have k7 := hok 7 (by decide) d7
      replace k7 : val 7 = (.bool true) := k7
      rw [k7] at e7
      clear k7
      simp [Act.eval] at e7
      clear d7
      have d11 : done 11 = true := by first | exact hdep ⟨11, .data⟩ (by simp) rfl | exact hdep ⟨11, .phase⟩ (by simp) rfl
      have e11 := hev 11 _ 16 rfl rfl (by simp) d11
      have k11 := hok 11 (by decide) d11
      replace k11 : val 11 = (.bool true) := k11
      rw [k11] at e11
      clear k11
      simp [Act.eval] at e11
      clear d11
      clear hdep hev hout hok hge9
      refine step_val (w'' := w9) ?_ (Ext.refl _)
      go_simp
    | 13, _ =>
      refine ⟨_, rfl, .inl rfl, ?_⟩
      intro a w9 done val G H hdn hdep hev hout hE9 hok hge9
      refine ⟨(fun v b hb => by cases hb), ?_⟩
      have d12 : done 12 = true := by first | exact hdep ⟨12, .data⟩ (by simp) rfl | exact hdep ⟨12, .phase⟩ (by simp) rfl
      have e12 := hev 12 _ 17 rfl rfl (by simp) d12
      have k12 := hok 12 (by decide) d12
      replace k12 : val 12 = (.bool true) := k12
      rw [k12] at e12
      clear k12
      simp [Act.eval] at e12
      clear d12
      clear hdep hev hout hok hge9
      refine step_val (w'' := w9) ?_ (Ext.refl _)
      go_simp
    | 14, _ =>
      refine ⟨_, rfl, .inr ⟨13, true, _, 18, rfl, rfl, rfl, (by simp), (by decide), rfl, (by simp [Region.binds])⟩, ?_⟩
      intro a w9 done val G H hdn hdep hev hout hE9 hok hge9
      refine ⟨(fun v b hb => by cases hb), ?_⟩
      clear hdep hev hout hok hge9
      exact step_go 15 #[] #[] rfl Tryz.func15 (by kernel_rfl) (by kernel_rfl) _ (by simp [Act.eval]; try rfl) (qw.out w9 (hE0.out.trans hE9))
    | 15, _ =>
      refine ⟨_, rfl, .inl rfl, ?_⟩
      intro a w9 done val G H hdn hdep hev hout hE9 hok hge9
      refine ⟨(fun v b hb => by cases hb), ?_⟩
      have d13 : done 13 = true := by first | exact hdep ⟨13, .data⟩ (by simp) rfl | exact hdep ⟨13, .phase⟩ (by simp) rfl
      have e13 := hev 13 _ 18 rfl rfl (by simp) d13
      have k13 := hok 13 (by decide) d13
      replace k13 : val 13 = (.bool true) := k13
      rw [k13] at e13
      clear k13
      simp [Act.eval] at e13
      clear d13
      have d14 : done 14 = true := by first | exact hdep ⟨14, .data⟩ (by simp) rfl | exact hdep ⟨14, .phase⟩ (by simp) rfl
      have e14 := hev 14 _ 19 rfl rfl (by simp) d14
      have k14 := hok 14 (by decide) d14
      replace k14 : val 14 = (.bool true) := k14
      rw [k14] at e14
      clear k14
      simp [Act.eval] at e14
      clear d14
      clear hdep hev hout hok hge9
      refine step_val (w'' := w9) ?_ (Ext.refl _)
      go_simp
    | 16, _ =>
      refine ⟨_, rfl, .inl rfl, ?_⟩
      intro a w9 done val G H hdn hdep hev hout hE9 hok hge9
      refine ⟨(fun v b hb => by cases hb), ?_⟩
      have d15 : done 15 = true := by first | exact hdep ⟨15, .data⟩ (by simp) rfl | exact hdep ⟨15, .phase⟩ (by simp) rfl
      have e15 := hev 15 _ 20 rfl rfl (by simp) d15
      have k15 := hok 15 (by decide) d15
      replace k15 : val 15 = (.bool true) := k15
      rw [k15] at e15
      clear k15
      simp [Act.eval] at e15
      clear d15
      clear hdep hev hout hok hge9
      refine step_val (w'' := w9) ?_ (Ext.refl _)
      go_simp
    | i + 17, h => exact absurd h (by omega)
  case rest =>
    rintro done val w1 hall ⟨⟨hE1, G, H, hok, hge, hdis, _⟩, _⟩
    replace hall : ∀ i, i < 17 → done i = true := hall
    have e0 := hall 0 (by decide)
    have e1 := hall 1 (by decide)
    have e2 := hall 2 (by decide)
    have e3 := hall 3 (by decide)
    have e4 := hall 4 (by decide)
    have e5 := hall 5 (by decide)
    have e6 := hall 6 (by decide)
    have e7 := hall 7 (by decide)
    have e8 := hall 8 (by decide)
    have e9 := hall 9 (by decide)
    have e10 := hall 10 (by decide)
    have e11 := hall 11 (by decide)
    have e12 := hall 12 (by decide)
    have e13 := hall 13 (by decide)
    have e14 := hall 14 (by decide)
    have e15 := hall 15 (by decide)
    have e16 := hall 16 (by decide)
    have k0 := hok 0 (by decide) e0
    replace k0 : val 0 = (.agg #[.string ⟨p.name.toArray⟩, .slice aa p.terms.length ca, .bool p.els]) := k0
    have k1 := hok 1 (by decide) e1
    replace k1 : val 1 = (.agg #[.string ⟨q.name.toArray⟩, .slice bb q.terms.length cb, .bool q.els]) := k1
    have k2 := hok 2 (by decide) e2
    replace k2 : val 2 = (.bool sp) := k2
    have k3 := hok 3 (by decide) e3
    replace k3 : val 3 = (.agg #[.string ⟨p.name.toArray⟩, .slice aa p.terms.length ca, .bool p.els]) := k3
    have k4 := hok 4 (by decide) e4
    replace k4 : val 4 = (.agg #[.string ⟨q.name.toArray⟩, .slice bb q.terms.length cb, .bool q.els]) := k4
    have k5 := hok 5 (by decide) e5
    replace k5 : val 5 = (.bool sp) := k5
    have k6 := hok 6 (by decide) e6
    replace k6 : val 6 = (.bool true) := k6
    have k7 := hok 7 (by decide) e7
    replace k7 : val 7 = (.bool true) := k7
    have k8 := hok 8 (by decide) e8
    replace k8 : val 8 = (.agg #[.string ⟨p.name.toArray⟩, .slice aa p.terms.length ca, .bool p.els]) := k8
    have k9 := hok 9 (by decide) e9
    replace k9 : val 9 = (.agg #[.string ⟨p.name.toArray⟩, .slice aa p.terms.length ca, .bool p.els]) := k9
    have k10 := hok 10 (by decide) e10
    obtain ⟨pa, pc, k10, h10, n10⟩ := k10
    have G10 := hge 10 (by decide) e10 rfl
    have k11 := hok 11 (by decide) e11
    replace k11 : val 11 = (.bool true) := k11
    have k12 := hok 12 (by decide) e12
    replace k12 : val 12 = (.bool true) := k12
    have k13 := hok 13 (by decide) e13
    replace k13 : val 13 = (.bool true) := k13
    have k14 := hok 14 (by decide) e14
    replace k14 : val 14 = (.bool true) := k14
    have k15 := hok 15 (by decide) e15
    replace k15 : val 15 = (.bool true) := k15
    have k16 := hok 16 (by decide) e16
    replace k16 : val 16 = (.bool true) := k16
    clear hok hge hdis hall
    simp only [putD, e0, e1, e2, e3, e4, e5, e6, e7, e8, e9, e10, e11, e12, e13, e14, e15, e16, if_true, Nat.zero_add, Nat.reduceAdd, k0, k1, k2, k3, k4, k5, k6, k7, k8, k9, k10, k11, k12, k13, k14, k15, k16]
    clear e0 e1 e2 e3 e4 e5 e6 e7 e8 e9 e10 e11 e12 e13 e14 e15 e16 k0 k1 k2 k3 k4 k5 k6 k7 k8 k9 k10 k11 k12 k13 k14 k15 k16 
    have E1 := E.out.trans hE1
    clear x0 x1 x2 y0 y1 y2 q1 q2 q3 q4 qw E hE0 h10 n10 hE1
    replace E1 := hide E1
    go_wp2
    go_ret
    exact ⟨rfl, E1.out⟩
end Go.Proofs.YtljibkfbldjgdaaGreatDoor
