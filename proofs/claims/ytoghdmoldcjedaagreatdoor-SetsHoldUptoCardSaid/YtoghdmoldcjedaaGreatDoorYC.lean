/- The walk of SetsHold. -/
import Derived.Test.YtoghdmoldcjedaaGreatDoorYB
import Derived.Test.YtoghdmoldcjedaaGreatDoorPM
import Derived.Test.YtoghdmoldcjedaaGreatDoorVR
import Derived.Test.YtoghdmoldcjedaaGreatDoorVS
import Derived.Test.YtoghdmoldcjedaaGreatDoorV22
import Derived.StillTailTactics
namespace Go.Proofs.YtoghdmoldcjedaaGreatDoor
open Go.RowKit Go.Sort
set_option linter.unusedVariables false

def agCells : Value → Array Value
  | .agg xs => xs
  | _ => #[]
def CutR (x : StS) (lo hi : Nat) (v : Value) (w : World) : Prop :=
  ∃ b1 d1 b2 d2 b3 d3, v = .agg #[.string ⟨x.name.toArray⟩, .int .i64 x.kind, .slice b1 x.items.length d1, .slice b2 x.comms.length d2, .slice b3 x.paths.length d3] ∧ SetIn w (fun b => lo ≤ b ∧ b < hi) x b1 b2 b3
theorem CutR.stays {W : World} {x : StS} : Stays W (CutR x) := by
  rintro lo hi v w w' ⟨b1, d1, b2, d2, b3, d3, rfl, h⟩ hw _
  exact ⟨b1, d1, b2, d2, b3, d3, rfl, h.frame fun b hb => hw b (.inr hb)⟩
theorem step_goA {P : Program} {Q : Exit → Act → World → Prop} {o : Oper} {a : Act} {w : World} {R : Nat → Nat → Value → World → Prop} (f : FuncId) {fn : Func} (xs : Array Operand) (ts : Array TypeId)
    (hop : o.op = Op.call { callee := Callee.value (Operand.func f), args := xs, argTypes := ts }) (hf : P.funcs[f]? = some fn) (hname : (fn.name == "runtime.NumGoroutine") = false) (hb : fn.body.isNone = false) (vs : Array Value) (hx : xs.map a.eval = vs)
    (hc : Calls P f vs w fun e w' => ∃ v, e = .returned v ∧ Ext w w' ∧ R w.heap.size w'.heap.size v w') : Oper.wp P o a w (fun a' w'' => ∃ v, a' = a.put o.dst v ∧ Ext w w'' ∧ R w.heap.size w''.heap.size v w'') Q := by
  unfold Oper.wp
  have h1 : fn.name ≠ "runtime.NumGoroutine" := by simpa using hname
  have hev : a.eval (Operand.func f) = .func (.func f) #[] #[] := rfl
  have h2 : ¬ (fn.body = none) := by intro h; simp [h] at hb
  have hrun : (execOp a.eval o).run P w = .ok (.enter f vs) w := by
    simp [execOp, hop, resolve, hev, Deferred.ofValue, invoke, hx, callFunc, hf, h1, h2]
  rw [hrun, Oper.upon_enter]
  exact hc.mono fun e w' h => by obtain ⟨v, rfl, hE, hR⟩ := h; exact ⟨v, rfl, hE, hR⟩
def cutG (x : Seg) : Seg := ⟨x.kind, x.as.take 40⟩
section
variable {α : Type} (f : α → α) (l : List α) (k : Nat)
def mapK : List α := (l.take k).map f ++ l.drop k
theorem mapK_len : (mapK f l k).length = l.length := by simp [mapK]; omega
theorem mapK_zero : mapK f l 0 = l := by simp [mapK]
theorem mapK_all : mapK f l l.length = l.map f := by simp [mapK]
theorem mapK_drop (hk : k < l.length) : mapK f l k = (l.take k).map f ++ (l[k] :: l.drop (k + 1)) := by
  unfold mapK
  rw [List.drop_eq_getElem_cons hk]
theorem mapK_at (hk : k < l.length) (hk' : k < (mapK f l k).length) : (mapK f l k)[k] = l[k] := by
  have h := mapK_drop f l k hk
  have hl : ((l.take k).map f).length = k := by simp; omega
  have h2 : (mapK f l k)[k]? = some l[k] := by
    rw [h, List.getElem?_append_right (by omega), hl, Nat.sub_self]
    rfl
  rw [List.getElem?_eq_getElem hk'] at h2
  exact Option.some.inj h2
theorem mapK_step (hk : k < l.length) : (mapK f l k).set k (f l[k]) = mapK f l (k + 1) := by
  have hl : ((l.take k).map f).length = k := by simp; omega
  rw [mapK_drop f l k hk, List.set_append_right _ _ (by omega), hl, Nat.sub_self]
  unfold mapK
  rw [List.take_succ_eq_append_getElem hk, List.map_append, List.append_assoc]
  rfl
end
theorem Own.atG {e : TypeId} {w : World} {B g n c : Nat} {l : List Seg} (h : Own ESegC e w B (.slice (some ⟨g, 0, none⟩) n c) l) (k : Nat) (hk : k < l.length) :
    ∃ ak ck, w.cell? ⟨g, k * 2 + 1, none⟩ = some (.slice ak l[k].as.length ck) ∧ w.frozen? ⟨g, k * 2 + 1, none⟩ = false ∧ i64 l[k].kind ∧ l[k].as.length ≤ 16777216 ∧ l[k].as.length ≤ ck ∧ ck ≤ maxLen ∧ Sl EU32 w (fun b => B ≤ b ∧ b < w.heap.size ∧ b ≠ g) ak l[k].as := by
  obtain ⟨xs, ho, hr⟩ := h
  obtain ⟨cs, ⟨c0, d0, rfl, ⟨rfl, hkd⟩, ak, ck, rfl, hm, h1, h2, hs⟩, hc⟩ := hr k l[k] (List.getElem?_eq_getElem hk)
  have hn : n = l.length := by
    rcases ho.2 with ⟨h2, _⟩ | ⟨g', cap, cur, h2, _⟩
    · cases h2
    · injection h2
  subst hn
  have h0 := hc 1 _ rfl
  have h3 := ho.cells (g := g) rfl (k * 2 + 1) _ h0
  rw [add_lit, Nat.zero_add] at h3
  exact ⟨ak, ck, h3, ho.frozenAt (k * 2 + 1), hkd, hm, h1, h2, hs.mono fun b hb => ⟨hb.1, hb.2.1, fun e => hb.2.2 (by rw [e]; rfl)⟩⟩
theorem flat_len40 (l : List Seg) (n : Nat) (hl : l.length ≤ n) : (flatS (l.map cutG)).length ≤ n * 40 := by
  have : ∀ (l : List Seg), (flatS (l.map cutG)).length ≤ l.length * 40 := by
    intro l
    induction l with
    | nil => simp [flatS]
    | cons x t ih =>
      have : flatS ((x :: t).map cutG) = x.as.take 40 ++ flatS (t.map cutG) := by simp [flatS, cutG]
      rw [this, List.length_append, List.length_take, List.length_cons]
      omega
  have := this l
  omega
set_option maxRecDepth 20000 in
set_option maxHeartbeats 8000000 in
theorem SetsHold_walk (s : StS) (a1 a2 a3 : Option Addr) (c1 c2 c3 : Nat) (q : Pfx) (M : List UInt32) (a4 : Option Addr) (c4 : Nat) (Y : List Seg) (a5 : Option Addr) (c5 : Nat) (w : World) (hi : SetIn w (· < w.heap.size) s a1 a2 a3) (h1 : s.items.length ≤ c1) (m1 : c1 ≤ 9223372036854775807) (h2 : s.comms.length ≤ c2) (m2 : c2 ≤ 9223372036854775807) (h3 : s.paths.length ≤ c3) (m3 : c3 ≤ 9223372036854775807)
    (hq : q.addr.length ≤ 1048576) (hM : Sl EU32 w (· < w.heap.size) a4 M) (h4 : M.length ≤ c4) (m4 : c4 ≤ 9223372036854775807) (hY : Path w a5 Y) (h5 : Y.length ≤ c5) (m5 : c5 ≤ 9223372036854775807) (hT : Tab w) (hD : Deb w) (hV : Vars w) :
    Calls Tryz.prog 4 #[.agg #[.string ⟨s.name.toArray⟩, .int .i64 s.kind, .slice a1 s.items.length c1, .slice a2 s.comms.length c2, .slice a3 s.paths.length c3], .agg #[.int .i64 q.fam, .int .u64 (q.rd : Int), .string ⟨q.addr.toArray⟩, .int .i64 q.len, .slice a4 M.length c4, .slice a5 Y.length c5]] w fun e w' => e = .returned (.bool true) ∧ Ext w w' := by
  have mixed : Tryz.prog.follows Departure.mixedOrders = true := by kernel_rfl
  have qc0 : ∀ W, Ext w W → Calls Tryz.prog 8 #[.agg #[.string ⟨s.name.toArray⟩, .int .i64 s.kind, .slice a1 s.items.length c1, .slice a2 s.comms.length c2, .slice a3 s.paths.length c3]] W fun e w' => ∃ v, e = .returned v ∧ Ext W w' ∧ CutR (cutSt s) W.heap.size w'.heap.size v w' := fun W h =>
    (cut15_any s a1 a2 a3 c1 c2 c3 W (hi.ext h) h1 m1 h2 m2 h3 m3).mono fun e w' ⟨b1, d1, b2, d2, b3, d3, he, hE, hS⟩ => ⟨_, he, hE, b1, d1, b2, d2, b3, d3, rfl, hS⟩
  have qw := fun W (h : Ext w W) => LWorks_any W (hT.ext h) (hD.ext h) (hV.ext h)
  have n4 : min (M.length : Int) 40 = ((M.take 40).length : Int) := minTake M 40
  have n5 : min (Y.length : Int) 40 = ((Y.take 40).length : Int) := minTake Y 40
  have k4 := fun W => slice_headUz a4 M.length c4 (M.take 40).length (by rw [List.length_take]; omega) h4 m4 W
  have k5 := fun W => slice_headGz a5 Y.length c5 (Y.take 40).length (by rw [List.length_take]; omega) h5 m5 W
  have l4 : (M.take 40).length ≤ 40 := by rw [List.length_take]; omega
  have l5 : (Y.take 40).length ≤ 40 := by rw [List.length_take]; omega
  have hM' := fun W (h : Ext w W) => (hM.ext h).take 40
  have qo := fun W (h : Ext w W) => ROwnAllC_any a5 c5 (Y.take 40) W (by omega) ((Path.ext hY h).take 40)
  generalize M.take 40 = TM at *
  generalize Y.take 40 = TY at *
  generalize M.length = nM at *
  generalize Y.length = nY at *
  generalize hX : cutSt s = X at *
  obtain ⟨nm, kd, I, C, P⟩ := s
  obtain ⟨qf, qrd, qad, qln⟩ := q
  dsimp only at *
  generalize I.length = nI at *
  generalize C.length = nC at *
  generalize P.length = nP at *
  clear hi h1 h2 h3 h4 h5 m1 m2 m3 m4 m5 hT hD hV hM hY hX
  replace qc0 := hide qc0
  replace qw := hide qw
  replace hM' := hide hM'
  replace qo := hide qo
  replace hq := hide hq
  go_enter Tryz.func4, Tryz.ntmps4
  have S := (Blk.new w 27 #[.string ⟨nm.toArray⟩, .int .i64 kd, .slice a1 nI c1, .slice a2 nC c2, .slice a3 nP c3]).alloc (Obj.cells #[.int .i64 qf, .int .u64 (qrd : Int), .string ⟨qad.toArray⟩, .int .i64 qln, .slice a4 nM c4, .slice a5 nY c5] 45)
  have A := Blk.new (w.alloc (Obj.cells #[.string ⟨nm.toArray⟩, .int .i64 kd, .slice a1 nI c1, .slice a2 nC c2, .slice a3 nP c3] 27)) 45 #[.int .i64 qf, .int .u64 (qrd : Int), .string ⟨qad.toArray⟩, .int .i64 qln, .slice a4 nM c4, .slice a5 nY c5]
  have E := ((Ext.refl w).alloc (Obj.cells #[.string ⟨nm.toArray⟩, .int .i64 kd, .slice a1 nI c1, .slice a2 nC c2, .slice a3 nP c3] 27)).alloc (Obj.cells #[.int .i64 qf, .int .u64 (qrd : Int), .string ⟨qad.toArray⟩, .int .i64 qln, .slice a4 nM c4, .slice a5 nY c5] 45)
  rw [show (w.alloc (Obj.cells #[.string ⟨nm.toArray⟩, .int .i64 kd, .slice a1 nI c1, .slice a2 nC c2, .slice a3 nP c3] 27)).heap.size = w.heap.size + 1 by simp] at A
  generalize hW0 : (w.alloc (Obj.cells #[.string ⟨nm.toArray⟩, .int .i64 kd, .slice a1 nI c1, .slice a2 nC c2, .slice a3 nP c3] 27)).alloc (Obj.cells #[.int .i64 qf, .int .u64 (qrd : Int), .string ⟨qad.toArray⟩, .int .i64 qln, .slice a4 nM c4, .slice a5 nY c5] 45) = W0 at S A E
  generalize hg0 : w.heap.size = g0 at S A
  have qc := fun W (h : Ext W0 W) => qc0.out W (E.trans h)
  have s0 : W0.cell? ⟨g0, 0, none⟩ = some (.string ⟨nm.toArray⟩) := S.cell 0
  have s1 : W0.cell? ⟨g0, 1, none⟩ = some (.int .i64 kd) := S.cell 1
  have s2 : W0.cell? ⟨g0, 2, none⟩ = some (.slice a1 nI c1) := S.cell 2
  have s3 : W0.cell? ⟨g0, 3, none⟩ = some (.slice a2 nC c2) := S.cell 3
  have s4 : W0.cell? ⟨g0, 4, none⟩ = some (.slice a3 nP c3) := S.cell 4
  clear S qc0
  replace A := hide A
  replace E := hide E
  replace qc := hide qc
  go_upto_region 1 with fail
  clear hW0 hg0
  refine wp_region_JM (J := JV W0 _ (fun i => match i with | 0 => .val (.agg #[.string ⟨nm.toArray⟩, .int .i64 kd, .slice a1 nI c1, .slice a2 nC c2, .slice a3 nP c3]) | 1 => .any (CutR X) | 2 => .val (.agg #[.string ⟨nm.toArray⟩, .int .i64 kd, .slice a1 nI c1, .slice a2 nC c2, .slice a3 nP c3]) | 3 => .any (CutR X) | 4 => .box 6 27 #[.string ⟨#[]⟩, .int .i64 0, .slice none 0 0, .slice none 0 0, .slice none 0 0] (fun val => agCells (val 1)) | 5 => .box 7 27 #[.string ⟨#[]⟩, .int .i64 0, .slice none 0 0, .slice none 0 0, .slice none 0 0] (fun val => agCells (val 3)) | 6 => .fill 4 | 7 => .fill 5 | _ => .val undef)) mixed (by kernel_rfl) (by kernel_rfl) (fun _ => undef) (JV.start _ _ _ _) (JW.keeps (by kernel_rfl) ?anys ?fill ?box ?steps) ?rest
  case anys =>
    intro i R hi hR
    replace hi : i < 8 := hi
    match i, hi, hR with
    | 0, _, hR => cases hR
    | 1, _, hR => injection hR with hR; subst hR; exact CutR.stays
    | 2, _, hR => cases hR
    | 3, _, hR => injection hR with hR; subst hR; exact CutR.stays
    | 4, _, hR => cases hR
    | 5, _, hR => cases hR
    | 6, _, hR => cases hR
    | 7, _, hR => cases hR
    | i + 8, h, _ => exact absurd h (by omega)
  case fill =>
    intro i b hi hb
    replace hi : i < 8 := hi
    match i, hi, hb with
    | 0, _, hb => cases hb
    | 1, _, hb => cases hb
    | 2, _, hb => cases hb
    | 3, _, hb => cases hb
    | 4, _, hb => cases hb
    | 5, _, hb => cases hb
    | 6, _, hb => injection hb with hb; subst hb; exact ⟨(by decide : 4 < 8), ⟨_, _, _, rfl⟩, _, rfl, ⟨4, .data⟩, by simp, rfl, rfl⟩
    | 7, _, hb => injection hb with hb; subst hb; exact ⟨(by decide : 5 < 8), ⟨_, _, _, rfl⟩, _, rfl, ⟨5, .data⟩, by simp, rfl, rfl⟩
    | i + 8, h, _ => exact absurd h (by omega)
  case box =>
    intro b st t z cs hi hb
    replace hi : b < 8 := hi
    match b, hi, hb with
    | 0, _, hb => cases hb
    | 1, _, hb => cases hb
    | 2, _, hb => cases hb
    | 3, _, hb => cases hb
    | 4, _, hb => injection hb with h1 h2 h3 h4; subst h1 h2 h3 h4; exact ⟨(by decide : 6 < 8), rfl, fun i val v done hi hdn hdw hd => by
        have hne : (1 : Nat) ≠ i := fun e => by subst e; rw [hdw _ rfl hd ⟨1, .data⟩ (by simp) rfl] at hdn; cases hdn
        show _ = _
        simp only [updF_ne _ _ hne]⟩
    | 5, _, hb => injection hb with h1 h2 h3 h4; subst h1 h2 h3 h4; exact ⟨(by decide : 7 < 8), rfl, fun i val v done hi hdn hdw hd => by
        have hne : (3 : Nat) ≠ i := fun e => by subst e; rw [hdw _ rfl hd ⟨3, .data⟩ (by simp) rfl] at hdn; cases hdn
        show _ = _
        simp only [updF_ne _ _ hne]⟩
    | 6, _, hb => cases hb
    | 7, _, hb => cases hb
    | i + 8, h, _ => exact absurd h (by omega)
  case steps =>
    intro i hi
    replace hi : i < 8 := hi
    match i, hi with
    | 0, _ =>
      refine ⟨_, rfl, rfl, ?_⟩
      intro a w9 done val G H hdn hdep hev hout hE9 hok hge9
      refine ⟨(fun v b hb => by cases hb), ?_⟩
      have u2 : a.eval (.tmp 2) = .pointer (some ⟨g0, 0, none⟩) := (hout 2 (by kernel_rfl)).trans rfl
      simp [Act.eval] at u2
      clear hdep hev hout hok hge9
      have y0 := hE9.cell s0
      have y1 := hE9.cell s1
      have y2 := hE9.cell s2
      have y3 := hE9.cell s3
      have y4 := hE9.cell s4
      refine step_val (w'' := w9) ?_ (Ext.refl _)
      go_simp
    | 1, _ =>
      refine ⟨_, rfl, rfl, ?_⟩
      intro a w9 done val G H hdn hdep hev hout hE9 hok hge9
      refine ⟨(fun v b hb => by cases hb), ?_⟩
      have d0 : done 0 = true := by first | exact hdep ⟨0, .data⟩ (by simp) rfl | exact hdep ⟨0, .phase⟩ (by simp) rfl
      have e0 := hev 0 _ 10 rfl rfl (by simp) d0
      have k0 := hok 0 (by decide) d0
      replace k0 : val 0 = (.agg #[.string ⟨nm.toArray⟩, .int .i64 kd, .slice a1 nI c1, .slice a2 nC c2, .slice a3 nP c3]) := k0
      rw [k0] at e0
      clear k0
      simp [Act.eval] at e0
      clear d0
      clear hdep hev hout hok hge9
      exact step_goA 8 #[.tmp 10] #[27] rfl Tryz.func8 (by kernel_rfl) (by kernel_rfl) _ (by simp [Act.eval, e0]; try rfl) (qc.out w9 hE9)
    | 2, _ =>
      refine ⟨_, rfl, rfl, ?_⟩
      intro a w9 done val G H hdn hdep hev hout hE9 hok hge9
      refine ⟨(fun v b hb => by cases hb), ?_⟩
      have u2 : a.eval (.tmp 2) = .pointer (some ⟨g0, 0, none⟩) := (hout 2 (by kernel_rfl)).trans rfl
      simp [Act.eval] at u2
      clear hdep hev hout hok hge9
      have y0 := hE9.cell s0
      have y1 := hE9.cell s1
      have y2 := hE9.cell s2
      have y3 := hE9.cell s3
      have y4 := hE9.cell s4
      refine step_val (w'' := w9) ?_ (Ext.refl _)
      go_simp
    | 3, _ =>
      refine ⟨_, rfl, rfl, ?_⟩
      intro a w9 done val G H hdn hdep hev hout hE9 hok hge9
      refine ⟨(fun v b hb => by cases hb), ?_⟩
      have d2 : done 2 = true := by first | exact hdep ⟨2, .data⟩ (by simp) rfl | exact hdep ⟨2, .phase⟩ (by simp) rfl
      have e2 := hev 2 _ 12 rfl rfl (by simp) d2
      have k2 := hok 2 (by decide) d2
      replace k2 : val 2 = (.agg #[.string ⟨nm.toArray⟩, .int .i64 kd, .slice a1 nI c1, .slice a2 nC c2, .slice a3 nP c3]) := k2
      rw [k2] at e2
      clear k2
      simp [Act.eval] at e2
      clear d2
      clear hdep hev hout hok hge9
      exact step_goA 8 #[.tmp 12] #[27] rfl Tryz.func8 (by kernel_rfl) (by kernel_rfl) _ (by simp [Act.eval, e2]; try rfl) (qc.out w9 hE9)
    | 4, _ =>
      refine ⟨_, rfl, rfl, ?_⟩
      intro a w9 done val G H hdn hdep hev hout hE9 hok hge9
      refine ⟨(fun v b hb => by cases hb), ?_⟩
      clear hdep hev hout hok hge9
      unfold StepW
      refine step_mk (v := .pointer (some ⟨w9.heap.size, 0, none⟩)) ?_ (Nat.le_refl _) ((Ext.refl w9).alloc _) (Blk.new w9 _ _) (fun g => .pointer (some ⟨g, 0, none⟩)) rfl
      go_simp
    | 5, _ =>
      refine ⟨_, rfl, rfl, ?_⟩
      intro a w9 done val G H hdn hdep hev hout hE9 hok hge9
      refine ⟨(fun v b hb => by cases hb), ?_⟩
      clear hdep hev hout hok hge9
      unfold StepW
      refine step_mk (v := .pointer (some ⟨w9.heap.size, 0, none⟩)) ?_ (Nat.le_refl _) ((Ext.refl w9).alloc _) (Blk.new w9 _ _) (fun g => .pointer (some ⟨g, 0, none⟩)) rfl
      go_simp
    | 6, _ =>
      refine ⟨_, rfl, rfl, ?_⟩
      intro a w9 done val G H hdn hdep hev hout hE9 hok hge9
      refine ⟨fun v b hb t z cs hcs => by injection hb with hb; subst hb; injection hcs with _ _ _ hcs; subst hcs; rfl, ?_⟩
      have d1 : done 1 = true := by first | exact hdep ⟨1, .data⟩ (by simp) rfl | exact hdep ⟨1, .phase⟩ (by simp) rfl
      have e1 := hev 1 _ 11 rfl rfl (by simp) d1
      have k1 := hok 1 (by decide) d1
      obtain ⟨p1, q1, r1, f1, t1, u1, k1, h1⟩ := k1
      rw [k1] at e1
      simp [Act.eval] at e1
      clear d1
      have d4 : done 4 = true := by first | exact hdep ⟨4, .data⟩ (by simp) rfl | exact hdep ⟨4, .phase⟩ (by simp) rfl
      have e4 := hev 4 _ 5 rfl rfl (by simp) d4
      have k4 := hok 4 (by decide) d4
      obtain ⟨⟨k4, B4⟩, _⟩ := k4
      rw [k4] at e4
      clear k4
      have g4 := (hge9 4 (by decide) d4 rfl).1
      simp [Act.eval] at e4
      clear d4
      clear hdep hev hout hok hge9
      rw [if_neg (by rw [hdn]; decide)] at B4
      have z0 : w9.cell? ⟨G 4, 0, none⟩ = some (.string ⟨#[]⟩) := B4.cell 0
      have z1 : w9.cell? ⟨G 4, 1, none⟩ = some (.int .i64 0) := B4.cell 1
      have z2 : w9.cell? ⟨G 4, 2, none⟩ = some (.slice none 0 0) := B4.cell 2
      have z3 : w9.cell? ⟨G 4, 3, none⟩ = some (.slice none 0 0) := B4.cell 3
      have z4 : w9.cell? ⟨G 4, 4, none⟩ = some (.slice none 0 0) := B4.cell 4
      have zf := fun i => B4.frozen i
      have hfin := B4.set5w (.string ⟨X.name.toArray⟩) (.int .i64 X.kind) (.slice p1 X.items.length q1) (.slice r1 X.comms.length f1) (.slice t1 X.paths.length u1)
      clear B4 h1
      show Oper.wp _ _ _ _ (fun a' w'' => ∃ v, a' = a.put _ v ∧ OnlyAt (G 4) w9 w'' ∧ Blk w'' (G 4) 27 (agCells (val 1))) _
      rw [k1]
      clear k1
      refine step_fill ?_ rfl (OnlyAt.set5w (g := G 4) (w := w9) _ _ _ _ _) hfin
      clear hfin
      go_simp
    | 7, _ =>
      refine ⟨_, rfl, rfl, ?_⟩
      intro a w9 done val G H hdn hdep hev hout hE9 hok hge9
      refine ⟨fun v b hb t z cs hcs => by injection hb with hb; subst hb; injection hcs with _ _ _ hcs; subst hcs; rfl, ?_⟩
      have d3 : done 3 = true := by first | exact hdep ⟨3, .data⟩ (by simp) rfl | exact hdep ⟨3, .phase⟩ (by simp) rfl
      have e3 := hev 3 _ 13 rfl rfl (by simp) d3
      have k3 := hok 3 (by decide) d3
      obtain ⟨p3, q3, r3, f3, t3, u3, k3, h3⟩ := k3
      rw [k3] at e3
      simp [Act.eval] at e3
      clear d3
      have d5 : done 5 = true := by first | exact hdep ⟨5, .data⟩ (by simp) rfl | exact hdep ⟨5, .phase⟩ (by simp) rfl
      have e5 := hev 5 _ 6 rfl rfl (by simp) d5
      have k5 := hok 5 (by decide) d5
      obtain ⟨⟨k5, B5⟩, _⟩ := k5
      rw [k5] at e5
      clear k5
      have g5 := (hge9 5 (by decide) d5 rfl).1
      simp [Act.eval] at e5
      clear d5
      clear hdep hev hout hok hge9
      rw [if_neg (by rw [hdn]; decide)] at B5
      have z0 : w9.cell? ⟨G 5, 0, none⟩ = some (.string ⟨#[]⟩) := B5.cell 0
      have z1 : w9.cell? ⟨G 5, 1, none⟩ = some (.int .i64 0) := B5.cell 1
      have z2 : w9.cell? ⟨G 5, 2, none⟩ = some (.slice none 0 0) := B5.cell 2
      have z3 : w9.cell? ⟨G 5, 3, none⟩ = some (.slice none 0 0) := B5.cell 3
      have z4 : w9.cell? ⟨G 5, 4, none⟩ = some (.slice none 0 0) := B5.cell 4
      have zf := fun i => B5.frozen i
      have hfin := B5.set5w (.string ⟨X.name.toArray⟩) (.int .i64 X.kind) (.slice p3 X.items.length q3) (.slice r3 X.comms.length f3) (.slice t3 X.paths.length u3)
      clear B5 h3
      show Oper.wp _ _ _ _ (fun a' w'' => ∃ v, a' = a.put _ v ∧ OnlyAt (G 5) w9 w'' ∧ Blk w'' (G 5) 27 (agCells (val 3))) _
      rw [k3]
      clear k3
      refine step_fill ?_ rfl (OnlyAt.set5w (g := G 5) (w := w9) _ _ _ _ _) hfin
      clear hfin
      go_simp
    | i + 8, h => exact absurd h (by omega)
  case rest =>
    rintro done val w1 hall ⟨⟨hE1, G, H, hok, hge, hdis, _⟩, _⟩
    replace hall : ∀ i, i < 8 → done i = true := hall
    have e0 := hall 0 (by decide)
    have e1 := hall 1 (by decide)
    have e2 := hall 2 (by decide)
    have e3 := hall 3 (by decide)
    have e4 := hall 4 (by decide)
    have e5 := hall 5 (by decide)
    have e6 := hall 6 (by decide)
    have e7 := hall 7 (by decide)
    have k0 := hok 0 (by decide) e0
    replace k0 : val 0 = (.agg #[.string ⟨nm.toArray⟩, .int .i64 kd, .slice a1 nI c1, .slice a2 nC c2, .slice a3 nP c3]) := k0
    have k1 := hok 1 (by decide) e1
    obtain ⟨p1, q1, r1, f1, t1, u1, k1, h1⟩ := k1
    have G1 := hge 1 (by decide) e1 rfl
    have k2 := hok 2 (by decide) e2
    replace k2 : val 2 = (.agg #[.string ⟨nm.toArray⟩, .int .i64 kd, .slice a1 nI c1, .slice a2 nC c2, .slice a3 nP c3]) := k2
    have k3 := hok 3 (by decide) e3
    obtain ⟨p3, q3, r3, f3, t3, u3, k3, h3⟩ := k3
    have G3 := hge 3 (by decide) e3 rfl
    have k4 := hok 4 (by decide) e4
    obtain ⟨⟨k4, B4⟩, z4⟩ := k4
    have G4 := hge 4 (by decide) e4 rfl
    rw [z4] at G4
    rw [if_pos e6] at B4
    have k5 := hok 5 (by decide) e5
    obtain ⟨⟨k5, B5⟩, z5⟩ := k5
    have G5 := hge 5 (by decide) e5 rfl
    rw [z5] at G5
    rw [if_pos e7] at B5
    simp only [k1] at B4
    simp only [k3] at B5
    have N4_5 : G 4 ≠ G 5 := by have := hdis 4 5 (by decide) (by decide) (by decide) e4 e5 rfl rfl; omega
    clear hok hge hdis hall
    simp only [putD, e0, e1, e2, e3, e4, e5, e6, e7, if_true, Nat.zero_add, Nat.reduceAdd, k0, k1, k2, k3, k4, k5]
    clear e0 e1 e2 e3 e4 e5 e6 e7 k0 k1 k2 k3 k4 k5 z4 z5
    generalize G 4 = g_4 at *
    generalize G 5 = g_5 at *
    dsimp only [agCells] at B4 B5
    clear s0 s1 s2 s3 s4 qc
    have A1 := A.out.ext hE1
    have E1 := E.out.trans hE1
    have hg01 : W0.heap.size ≤ w1.heap.size := hE1.size
    have S1 := h1.mono (S' := (· < w1.heap.size)) fun b hb => by omega
    have S3 := h3.mono (S' := (· < w1.heap.size)) fun b hb => by omega
    clear h1 h3 A E hE1 N4_5 G1 G3 G4 G5
    have x4 : w1.cell? ⟨g0 + 1, 4, none⟩ = some (.slice a4 nM c4) := A1.cell 4
    have x5 : w1.cell? ⟨g0 + 1, 5, none⟩ = some (.slice a5 nY c5) := A1.cell 5
    replace A1 := hide A1
    replace E1 := hide E1
    replace S1 := hide S1
    replace S3 := hide S3
    replace B4 := hide B4
    replace B5 := hide B5
    go_wp2_with fail
    clear x4 x5 k4 k5 n4 n5
    refine (qo.out w1 E1.out).mono ?_
    rintro e w2 ⟨v8, rfl, he2, o8⟩
    clear qo
    have hw12 := he2.size
    replace he2 := hide he2
    obtain ⟨b8, d8, rfl⟩ := o8.form
    generalize hmY : TY.length = mY at *
    have h8 := o8.lt
    replace o8 := hide o8
    replace hmY := hide hmY
    replace h8 := hide h8
    go_wp2_with fail
    go_loopw [9] (fun i wr => ∃ k : Nat, k ≤ mY ∧ i = .int .i64 k ∧ Own ESegC 48 wr w1.heap.size (.slice b8 mY d8) (mapK cutG TY k) ∧ Below w1.heap.size w2 wr) (fun i _ => mY - (intOf i).toNat)
    case atStart => exact ⟨0, Nat.zero_le _, rfl, by rw [mapK_zero]; exact o8.out, Below.refl _ _⟩
    case round =>
      clear o8
      obtain ⟨k, hk, rfl, o8, hB⟩ := hrel
      by_cases hlt : k < mY
      · have hkP : k < TY.length := by rw [hmY.out]; exact hlt
        have hkC : k < (mapK cutG TY k).length := by rw [mapK_len]; exact hkP
        obtain ⟨g3, cc, hv3, hg3, hg3l⟩ := o8.formNe (by intro h; rw [h] at hkC; simp at hkC)
        injection hv3 with hb3 hn3 hd3
        clear hn3
        subst hb3 hd3
        obtain ⟨ak, ck, y0, yf, hkd, hm, hle, hcm, hsk⟩ := o8.atG k hkC
        have hat := mapK_at cutG TY k hkP hkC
        have hst := mapK_step cutG TY k hkP
        have hset := o8.setC k 1 hkC (by decide) (x := cutG TY[k]) (u := .slice ak (TY[k].as.take 40).length ck) (fun cs hcs => by
          obtain ⟨c', d', rfl, ⟨rfl, _⟩, a, c, rfl, _⟩ := hcs
          rw [hat] at hkd hm hle hsk ⊢
          exact ⟨[_], [_], rfl, ⟨rfl, hkd⟩, ak, ck, rfl, by show (TY[k].as.take 40).length ≤ 16777216; rw [List.length_take]; omega, by show (TY[k].as.take 40).length ≤ ck; rw [List.length_take]; omega, hcm, hsk.take 40⟩)
        rw [show k * ESegC.sz + 1 = k * 2 + 1 from rfl, hst] at hset
        rw [hat] at y0 hle
        have nA : min (TY[k].as.length : Int) 40 = ((TY[k].as.take 40).length : Int) := minTake TY[k].as 40
        have kA := fun W => slice_headUz ak TY[k].as.length ck (TY[k].as.take 40).length (by rw [List.length_take]; omega) hle (maxLen_le hcm) W
        have hB3 := hB.setCell (p := ⟨g3, k * 2 + 1, none⟩) hg3 (.slice ak (TY[k].as.take 40).length ck)
        clear hat hst hm hle hcm hsk o8 hB hkd
        generalize (TY[k].as.take 40).length = mk at *
        generalize TY[k].as.length = nk at *
        replace hB3 := hide hB3
        replace hset := hide hset
        go_wp2_with fail
        have i0 : (0 : Int) ≤ (k : Int) := by omega
        have i1 : (k : Int) < (mY : Int) := by omega
        go_still_tail 17, (by kernel_rfl)
        go_wp2
        go_roundw
        case rel => exact ⟨k + 1, by omega, by go_num, hset.out.draw, hB3.out.drew⟩
        case measure => simp [intOf]; omega
      · obtain rfl : k = mY := by omega
        have hK : mapK cutG TY k = TY.map cutG := by rw [← hmY.out]; exact mapK_all cutG TY
        rw [hK] at o8
        clear hK
        have hE : Ext w1 wr := Below.trans he2.out hB
        replace A1 := A1.out.ext hE
        replace E1 := E1.out.trans hE
        replace S1 := S1.out.ext hE
        replace S3 := S3.out.ext hE
        replace B4 := B4.out.ext hE
        replace B5 := B5.out.ext hE
        have hcm := hM'.out wr E1
        have o9 : Own ESeg 48 wr w1.heap.size (.slice b8 k d8) (TY.map cutG) := Own.ofE (E := ESegC) (F := ESeg) rfl (fun h => ESegC.weak h) o8
        have hRl : (TY.map cutG).length = k := by rw [List.length_map]; exact hmY.out
        have hfl := flat_len40 TY 40 (by rw [hmY.out]; exact l5)
        obtain ⟨b8', d8', hv8, hpath⟩ := Own.path (w' := wr) o9
        injection hv8 with hb8 hn8 hd8
        clear hn8
        subst hb8 hd8
        clear o8 o9 hB hE he2 hM' h8
        generalize TY.map cutG = R at *
        have qk1 := fun W (h : Ext wr W) => SCheck_any X p1 q1 r1 f1 t1 u1 W (S1.ext h)
        have qk2 := fun W (h : Ext wr W) => RSCheck15_any X p3 q3 r3 f3 t3 u3 W (S3.ext h)
        have qp1 := fun W (h : Ext wr W) => SPrefix_any X ⟨qf, qrd, qad, qln⟩ hq.out p1 q1 r1 f1 t1 u1 W (S1.ext h)
        have qp2 := fun W (h : Ext wr W) => RPrefix15_any X ⟨qf, qrd, qad, qln⟩ hq.out p3 q3 r3 f3 t3 u3 W (S3.ext h)
        have qm1 := fun W (h : Ext wr W) => SComm_any X a4 c4 TM p1 q1 r1 f1 t1 u1 W (S1.ext h) (by omega) (hcm.ext h)
        have qm2 := fun W (h : Ext wr W) => RComm15_any X a4 c4 TM p3 q3 r3 f3 t3 u3 W (S3.ext h) (by omega) (hcm.ext h)
        have qy1 := fun W (h : Ext wr W) => SPath_any X b8 d8 R p1 q1 r1 f1 t1 u1 W (S1.ext h) (by omega) (by omega) (Path.ext hpath h)
        have qy2 := fun W (h : Ext wr W) => RPath15_any X b8 d8 R p3 q3 r3 f3 t3 u3 W (S3.ext h) (by omega) (by omega) (Path.ext hpath h)
        rw [hRl] at qy1 qy2
        dsimp only at qp1 qp2
        generalize errOf (setOk X) = x1 at qk1 qk2
        generalize setPfx X ⟨qf, qrd, qad, qln⟩ = x2 at qp1 qp2
        generalize setCom X TM = x3 at qm1 qm2
        generalize setPath X (flatS R) = x4 at qy1 qy2
        have e1 : (x1 != x1) = false := by simp
        have e2 : (x2 != x2) = false := by simp
        have e3 : (x3 != x3) = false := by simp
        have e4 : (x4 != x4) = false := by simp
        have er := Ext.refl wr
        clear hRl hfl hpath hcm
        replace A1 := hide A1
        replace E1 := hide E1
        replace S1 := hide S1
        replace S3 := hide S3
        replace B4 := hide B4
        replace B5 := hide B5
        replace er := hide er
        replace qk1 := hide qk1
        replace qk2 := hide qk2
        replace qp1 := hide qp1
        replace qp2 := hide qp2
        replace qm1 := hide qm1
        replace qm2 := hide qm2
        replace qy1 := hide qy1
        replace qy2 := hide qy2
        go_upto_region 8 with fail
        have B4_0 : ∀ d os, (grow (redrawn wr d) os).cell? ⟨g_4, 0, none⟩ = some (.string ⟨X.name.toArray⟩) := cell_regrown (B4.out.cell 0)
        have B4_1 : ∀ d os, (grow (redrawn wr d) os).cell? ⟨g_4, 1, none⟩ = some (.int .i64 X.kind) := cell_regrown (B4.out.cell 1)
        have B4_2 : ∀ d os, (grow (redrawn wr d) os).cell? ⟨g_4, 2, none⟩ = some (.slice p1 X.items.length q1) := cell_regrown (B4.out.cell 2)
        have B4_3 : ∀ d os, (grow (redrawn wr d) os).cell? ⟨g_4, 3, none⟩ = some (.slice r1 X.comms.length f1) := cell_regrown (B4.out.cell 3)
        have B4_4 : ∀ d os, (grow (redrawn wr d) os).cell? ⟨g_4, 4, none⟩ = some (.slice t1 X.paths.length u1) := cell_regrown (B4.out.cell 4)
        have B5_0 : ∀ d os, (grow (redrawn wr d) os).cell? ⟨g_5, 0, none⟩ = some (.string ⟨X.name.toArray⟩) := cell_regrown (B5.out.cell 0)
        have B5_1 : ∀ d os, (grow (redrawn wr d) os).cell? ⟨g_5, 1, none⟩ = some (.int .i64 X.kind) := cell_regrown (B5.out.cell 1)
        have B5_2 : ∀ d os, (grow (redrawn wr d) os).cell? ⟨g_5, 2, none⟩ = some (.slice p3 X.items.length q3) := cell_regrown (B5.out.cell 2)
        have B5_3 : ∀ d os, (grow (redrawn wr d) os).cell? ⟨g_5, 3, none⟩ = some (.slice r3 X.comms.length f3) := cell_regrown (B5.out.cell 3)
        have B5_4 : ∀ d os, (grow (redrawn wr d) os).cell? ⟨g_5, 4, none⟩ = some (.slice t3 X.paths.length u3) := cell_regrown (B5.out.cell 4)
        have A1_0 : ∀ d os, (grow (redrawn wr d) os).cell? ⟨g0 + 1, 0, none⟩ = some (.int .i64 qf) := cell_regrown (A1.out.cell 0)
        have A1_1 : ∀ d os, (grow (redrawn wr d) os).cell? ⟨g0 + 1, 1, none⟩ = some (.int .u64 (qrd : Int)) := cell_regrown (A1.out.cell 1)
        have A1_2 : ∀ d os, (grow (redrawn wr d) os).cell? ⟨g0 + 1, 2, none⟩ = some (.string ⟨qad.toArray⟩) := cell_regrown (A1.out.cell 2)
        have A1_3 : ∀ d os, (grow (redrawn wr d) os).cell? ⟨g0 + 1, 3, none⟩ = some (.int .i64 qln) := cell_regrown (A1.out.cell 3)
        have A1_4 : ∀ d os, (grow (redrawn wr d) os).cell? ⟨g0 + 1, 4, none⟩ = some (.slice a4 nM c4) := cell_regrown (A1.out.cell 4)
        have A1_5 : ∀ d os, (grow (redrawn wr d) os).cell? ⟨g0 + 1, 5, none⟩ = some (.slice a5 nY c5) := cell_regrown (A1.out.cell 5)
        have cq0 := Calls.regrE qk1.out er.out
        have cq1 := Calls.regrE qk2.out er.out
        have cq2 := Calls.regrE qp1.out er.out
        have cq3 := Calls.regrE qp2.out er.out
        have cq4 := Calls.regrE qm1.out er.out
        have cq5 := Calls.regrE qm2.out er.out
        have cq6 := Calls.regrE qy1.out er.out
        have cq7 := Calls.regrE qy2.out er.out
        refine wp_region_quiet_below (by assumption) (by kernel_rfl) ?_
        repeat (go_big_quiet_step (first | (with_reducible exact cq0 _ _) | (with_reducible exact cq1 _ _) | (with_reducible exact cq2 _ _) | (with_reducible exact cq3 _ _) | (with_reducible exact cq4 _ _) | (with_reducible exact cq5 _ _) | (with_reducible exact cq6 _ _) | (with_reducible exact cq7 _ _)))
        refine wpQuiet_nil ?_
        intro _ hw_
        obtain ⟨⟨dq_, osq_⟩, hw_'⟩ := hw_
        subst hw_'
        replace E1 := hide (E1.out.trans (below_regrown _ dq_ osq_))
        replace S1 := hide (S1.out.ext (below_regrown _ dq_ osq_))
        replace S3 := hide (S3.out.ext (below_regrown _ dq_ osq_))
        replace B4 := hide (B4.out.ext (below_regrown _ dq_ osq_))
        replace B5 := hide (B5.out.ext (below_regrown _ dq_ osq_))
        replace A1 := hide (A1.out.ext (below_regrown _ dq_ osq_))
        clear B4_0 B4_1 B4_2 B4_3 B4_4 B5_0 B5_1 B5_2 B5_3 B5_4 A1_0 A1_1 A1_2 A1_3 A1_4 A1_5
        clear cq0 cq1 cq2 cq3 cq4 cq5 cq6 cq7
        generalize grow (redrawn wr dq_) osq_ = W6 at E1 S1 S3 B4 B5 A1 ⊢
        have B4_0 : W6.cell? ⟨g_4, 0, none⟩ = some (.string ⟨X.name.toArray⟩) := B4.out.cell 0
        have B4_1 : W6.cell? ⟨g_4, 1, none⟩ = some (.int .i64 X.kind) := B4.out.cell 1
        have B4_2 : W6.cell? ⟨g_4, 2, none⟩ = some (.slice p1 X.items.length q1) := B4.out.cell 2
        have B4_3 : W6.cell? ⟨g_4, 3, none⟩ = some (.slice r1 X.comms.length f1) := B4.out.cell 3
        have B4_4 : W6.cell? ⟨g_4, 4, none⟩ = some (.slice t1 X.paths.length u1) := B4.out.cell 4
        have B5_0 : W6.cell? ⟨g_5, 0, none⟩ = some (.string ⟨X.name.toArray⟩) := B5.out.cell 0
        have B5_1 : W6.cell? ⟨g_5, 1, none⟩ = some (.int .i64 X.kind) := B5.out.cell 1
        have B5_2 : W6.cell? ⟨g_5, 2, none⟩ = some (.slice p3 X.items.length q3) := B5.out.cell 2
        have B5_3 : W6.cell? ⟨g_5, 3, none⟩ = some (.slice r3 X.comms.length f3) := B5.out.cell 3
        have B5_4 : W6.cell? ⟨g_5, 4, none⟩ = some (.slice t3 X.paths.length u3) := B5.out.cell 4
        have A1_0 : W6.cell? ⟨g0 + 1, 0, none⟩ = some (.int .i64 qf) := A1.out.cell 0
        have A1_1 : W6.cell? ⟨g0 + 1, 1, none⟩ = some (.int .u64 (qrd : Int)) := A1.out.cell 1
        have A1_2 : W6.cell? ⟨g0 + 1, 2, none⟩ = some (.string ⟨qad.toArray⟩) := A1.out.cell 2
        have A1_3 : W6.cell? ⟨g0 + 1, 3, none⟩ = some (.int .i64 qln) := A1.out.cell 3
        have A1_4 : W6.cell? ⟨g0 + 1, 4, none⟩ = some (.slice a4 nM c4) := A1.out.cell 4
        have A1_5 : W6.cell? ⟨g0 + 1, 5, none⟩ = some (.slice a5 nY c5) := A1.out.cell 5
        clear qk1 qk2 qp1 qp2 qm1 qm2 qy1 qy2 er
        have qs := RSame15_eq X p1 q1 r1 f1 t1 u1 p3 q3 r3 f3 t3 u3 W6 S1.out S3.out
        replace qs := hide qs
        go_wp2_with fail
        refine qs.out.mono ?_
        rintro e W7 ⟨rfl, he⟩
        replace E1 := hide (E1.out.trans he)
        clear qs he
        go_wp2_with fail
        refine (qw.out _ E1.out).mono ?_
        rintro e W8 ⟨rfl, he⟩
        replace E1 := hide (E1.out.trans he)
        clear he
        go_wp2
        go_ret
        exact ⟨rfl, E1.out⟩
end Go.Proofs.YtoghdmoldcjedaaGreatDoor
