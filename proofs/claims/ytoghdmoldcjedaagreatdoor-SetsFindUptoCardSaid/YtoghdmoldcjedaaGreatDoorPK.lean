/- A region that draws its order and makes memory, met by one word for each of its operations. -/
import Derived.Test.YtoghdmoldcjedaaGreatDoorPI
namespace Go.Proofs.YtoghdmoldcjedaaGreatDoor
open Go.RowKit
set_option linter.unusedVariables false

def backM (md : Region.Mode) (ops : Array Oper) : Bool := (List.range ops.size).all fun i => match ops[i]? with | none => true | some o => o.after.all fun e => !Region.binds md e || decide (e.on < i)
theorem ready_nilM {md : Region.Mode} {ops : Array Oper} {listed : Array Bool} (hb : backM md ops = true) (hs : listed.size = ops.size) (h : Region.ready md ops listed = []) (i : Nat) : i < ops.size → listed.getD i false = true := by
  induction i using Nat.strongRecOn with
  | _ i ih =>
    intro hi
    cases hl : listed.getD i false with
    | true => rfl
    | false =>
      have hmem : i ∈ Region.ready md ops listed := mem_ready.2 ⟨by
        have : i < listed.size := by omega
        simp [this] at hl ⊢
        exact hl, ops[i], by simp [hi], fun e he hbd => by
        have hb' := List.all_eq_true.1 hb i (by simpa using hi)
        simp only [Array.getElem?_eq_getElem hi] at hb'
        have hlt : e.on < i := by
          rw [Array.all_eq_true] at hb'
          obtain ⟨k, hk, rfl⟩ := Array.mem_iff_getElem.1 he
          have h3 := hb' k hk
          rw [hbd] at h3
          simpa using h3
        exact ih e.on hlt (by omega)⟩
      rw [h] at hmem
      cases hmem
theorem wpAny_JM {P : Program} {md : Region.Mode} {ops : Array Oper} {Q : Exit → Act → World → Prop} {J : (Nat → Bool) → (Nat → Value) → World → Prop} {a0 : Act} (hB : distB ops.toList = true) (hb : backM md ops = true)
    (hend : ∀ done val w', (∀ i, i < ops.size → done i = true) → J done val w' → Q .normal (putD done val ops.toList 0 a0) w') (hstep : KeepsJ P md ops Q J a0) :
    ∀ (fuel : Nat) (listed : Array Bool) (val : Nat → Value) (w' : World), listed.size = ops.size → cntF (fun i => listed.getD i false) ops.size = fuel → J (fun i => listed.getD i false) val w' →
      wpAny P md ops Q fuel listed (putD (fun i => listed.getD i false) val ops.toList 0 a0) w' := by
  intro fuel
  induction fuel with
  | zero =>
    intro listed val w' hs hc hJ
    have hall := cntF_zero _ _ hc
    refine ⟨?_, hend _ _ _ hall hJ⟩
    cases hr : Region.ready md ops listed with
    | nil => rfl
    | cons j r =>
      have hm : j ∈ Region.ready md ops listed := by rw [hr]; simp
      obtain ⟨h1, o, ho, _⟩ := mem_ready.1 hm
      have hj : j < ops.size := by
        rcases Nat.lt_or_ge j ops.size with h | h
        · exact h
        · rw [Array.getElem?_eq_none h] at ho; cases ho
      have h2 := hall j hj
      have : j < listed.size := by omega
      simp [this] at h1 h2
      rw [h1] at h2
      cases h2
  | succ fuel ih =>
    intro listed val w' hs hc hJ
    refine ⟨fun hr => hend _ _ _ (fun i hi => ready_nilM hb hs hr i hi) hJ, fun i hi => ?_⟩
    obtain ⟨h1, o, ho, hdep⟩ := mem_ready.1 hi
    have hj : i < ops.size := by
      rcases Nat.lt_or_ge i ops.size with h | h
      · exact h
      · rw [Array.getElem?_eq_none h] at ho; cases ho
    have hjl : i < listed.size := by omega
    have hd : listed.getD i false = false := by simp [hjl] at h1 ⊢; exact h1
    obtain ⟨hw, hstp⟩ := hstep i o (fun i => listed.getD i false) val w' ho hd hdep hJ
    unfold wpOp
    simp only [ho]
    rw [if_pos hw]
    refine .inl (Oper.wp_mono ?_ hstp)
    rintro a' w'' ⟨v, rfl, hJ'⟩
    have he : (fun j => (listed.setIfInBounds i true).getD j false) = updF (fun j => listed.getD j false) i true := by
      funext j
      unfold updF
      by_cases h : j = i
      · subst h; simp [hjl]
      · rw [if_neg h]
        simp [Ne.symm h]
    have := ih (listed.setIfInBounds i true) (updF val i v) w'' (by simpa using hs) (by
      rw [he]
      have := cntF_upd (fun j => listed.getD j false) i hd ops.size
      rw [if_pos hj] at this
      omega) (by rw [he]; exact hJ')
    rw [he] at this
    have hp := putD_upd (done := fun j => listed.getD j false) (val := val) v ops.toList 0 i a0 o hB (by simpa using ho) (by rw [Nat.zero_add]; exact hd)
    rw [Nat.zero_add] at hp
    rw [hp] at this
    exact this
theorem wp_region_JM {P : Program} {id : Nat} {ops : Array Oper} {Q : Exit → Act → World → Prop} {J : (Nat → Bool) → (Nat → Value) → World → Prop} {a0 : Act} {w : World} (hm : P.follows .mixedOrders = true) (hB : distB ops.toList = true) (hb : backM .any ops = true) (val : Nat → Value)
    (h0 : J (fun _ => false) val w.drew) (hstep : KeepsJ P .any ops Q J a0)
    (hend : ∀ done val w', (∀ i, i < ops.size → done i = true) → J done val w' → Q .normal (putD done val ops.toList 0 a0) w') : (Code.region id ops true).wp P Q a0 w := by
  refine wp_region_any hm ?_
  have he : (fun i => (Array.replicate ops.size false).getD i false) = fun _ => false := by
    funext i
    by_cases h : i < ops.size <;> simp [h]
  have hn : ∀ (l : List Oper) (k : Nat) (a : Act), putD (fun _ => false) val l k a = a := by
    intro l
    induction l with
    | nil => intro k a; rfl
    | cons o l ih => intro k a; simp only [putD]; exact ih _ _
  have := wpAny_JM (P := P) (md := .any) (Q := Q) (J := J) (a0 := a0) hB hb hend hstep ops.size (Array.replicate ops.size false) val w.drew (by simp) (by rw [he]; exact cntF_none _) (by rw [he]; exact h0)
  rw [he, hn] at this
  exact this
/-- What an operation yields: a value; a block of its own; a block that is filled later; nothing: it fills what number b made. -/
inductive Spec where
  | val (v : Value)
  | mk (f : Nat → Value) (t : TypeId) (cs : Array Value)
  | box (st : Nat) (t : TypeId) (z cs : Array Value)
  | fill (b : Nat)
def Spec.mem : Spec → Bool
  | .mk _ _ _ => true
  | .box _ _ _ _ => true
  | _ => false
def Spec.Ok (done : Nat → Bool) (v : Value) (w : World) (g : Nat) : Spec → Prop
  | .val u => v = u
  | .mk f t cs => v = f g ∧ Blk w g t cs
  | .box st t z cs => v = .pointer (some ⟨g, 0, none⟩) ∧ Blk w g t (if done st = true then cs else z)
  | .fill _ => True
/-- Nothing but block g has turned. -/
structure OnlyAt (g : Nat) (w w' : World) : Prop where
  os : w'.os = w.os
  tape : w'.tape = w.tape
  output : w'.output = w.output
  size : w'.heap.size = w.heap.size
  block : ∀ b, b ≠ g → w'.heap[b]? = w.heap[b]?
theorem OnlyAt.refl (g : Nat) (w : World) : OnlyAt g w w := ⟨rfl, rfl, rfl, rfl, fun _ _ => rfl⟩
theorem OnlyAt.setCell {g : Nat} {a w : World} (h : OnlyAt g a w) (o : Nat) (u : Value) : OnlyAt g a (w.setCell ⟨g, o, none⟩ u) :=
  ⟨h.os, h.tape, h.output, by simpa [World.setCell] using h.size, fun b hb => (Below.heap_setCell _ _ _ _ (show b ≠ g from hb)).trans (h.block b hb)⟩
theorem OnlyAt.ext {g : Nat} {W w w' : World} (h : OnlyAt g w w') (hE : Ext W w) (hg : W.heap.size ≤ g) : Ext W w' :=
  ⟨h.os.trans hE.os, h.tape.trans hE.tape, h.output.trans hE.output, by rw [h.size]; exact hE.size, fun b hb => (h.block b (by omega)).trans (hE.block b hb)⟩
def JS (W : World) (n : Nat) (sp : Nat → Spec) (done : Nat → Bool) (val : Nat → Value) (w : World) : Prop :=
  Ext W w ∧ ∃ G : Nat → Nat, (∀ i, i < n → done i = true → (sp i).Ok done (val i) w (G i)) ∧ (∀ i, i < n → done i = true → (sp i).mem = true → W.heap.size ≤ G i ∧ G i < w.heap.size) ∧
    (∀ i j, i < n → j < n → done i = true → done j = true → (sp i).mem = true → (sp j).mem = true → G i = G j → i = j) ∧ (∀ i b, i < n → sp i = .fill b → done i = true → done b = true)
theorem JS.start (W : World) (n : Nat) (sp : Nat → Spec) (val : Nat → Value) : JS W n sp (fun _ => false) val W.drew :=
  ⟨(Ext.refl W).drew, fun _ => 0, fun _ _ h => Bool.noConfusion h, fun _ _ h => Bool.noConfusion h, fun _ _ _ _ h => Bool.noConfusion h, fun _ _ _ _ h => Bool.noConfusion h⟩
def StepOk (P : Program) (Q : Exit → Act → World → Prop) (sp : Nat → Spec) (o : Oper) (a : Act) (w : World) (G : Nat → Nat) : Spec → Prop
  | .val u => Oper.wp P o a w (fun a' w'' => a' = a.put o.dst u ∧ Ext w w'') Q
  | .mk f t cs => Oper.wp P o a w (fun a' w'' => ∃ g, a' = a.put o.dst (f g) ∧ w.heap.size ≤ g ∧ Ext w w'' ∧ Blk w'' g t cs) Q
  | .box _ t z _ => Oper.wp P o a w (fun a' w'' => ∃ g, a' = a.put o.dst (.pointer (some ⟨g, 0, none⟩)) ∧ w.heap.size ≤ g ∧ Ext w w'' ∧ Blk w'' g t z) Q
  | .fill b => match sp b with
    | .box _ t _ cs => Oper.wp P o a w (fun a' w'' => ∃ v, a' = a.put o.dst v ∧ OnlyAt (G b) w w'' ∧ Blk w'' (G b) t cs) Q
    | _ => False
def outB' (ops : Array Oper) (t : Tmp) : Bool := ops.toList.all fun o => o.dst != some t
theorem outB'_spec {ops : Array Oper} {t : Tmp} (h : outB' ops t = true) : ∀ o ∈ ops.toList, o.dst ≠ some t := fun o ho => by
  have := List.all_eq_true.1 h o ho
  simpa using this
theorem wanted_none' {o : Oper} {a : Nat → Option Bool} (h : o.guard = none) : Region.wanted o a = true := by
  unfold Region.wanted; rw [h]
theorem Spec.Ok.mono {sp : Spec} {done done' : Nat → Bool} {v : Value} {w w' : World} {g : Nat} (h : sp.Ok done v w g) (hd : ∀ st t z cs, sp = .box st t z cs → done' st = done st) (hw : sp.mem = true → w'.heap[g]? = w.heap[g]?) : sp.Ok done' v w' g := by
  cases sp with
  | val u => exact h
  | mk f t cs => exact ⟨h.1, (hw rfl).trans h.2⟩
  | box st t z cs =>
    refine ⟨h.1, ?_⟩
    rw [hd st t z cs rfl]
    exact (hw rfl).trans h.2
  | fill b => trivial
theorem Spec.Ok.lt {sp : Spec} {done : Nat → Bool} {v : Value} {w : World} {g : Nat} (h : sp.Ok done v w g) (hm : sp.mem = true) : g < w.heap.size := by
  cases sp with
  | val u => cases hm
  | mk f t cs => exact h.2.lt
  | box st t z cs => exact h.2.lt
  | fill b => cases hm

theorem JS.keeps {P : Program} {ops : Array Oper} {Q : Exit → Act → World → Prop} {a0 : Act} {W : World} {sp : Nat → Spec} (hB : distB ops.toList = true)
    (hfill : ∀ i b, i < ops.size → sp i = .fill b → b < ops.size ∧ (∃ t z cs, sp b = .box i t z cs) ∧ ∃ o, ops[i]? = some o ∧ ∃ e ∈ o.after, Region.binds .any e = true ∧ e.on = b)
    (hbox : ∀ b st t z cs, b < ops.size → sp b = .box st t z cs → st < ops.size ∧ sp st = .fill b)
    (hst : ∀ i, i < ops.size → ∃ o, ops[i]? = some o ∧ o.guard = none ∧ ∀ (a : Act) (w : World) (done : Nat → Bool) (val : Nat → Value) (G : Nat → Nat), done i = false →
      (∀ e ∈ o.after, Region.binds .any e = true → done e.on = true) → (∀ j oj d, ops[j]? = some oj → oj.dst = some d → d < a0.tmps.size → done j = true → a.eval (.tmp d) = val j) →
      (∀ t, outB' ops t = true → a.eval (.tmp t) = a0.eval (.tmp t)) → Ext W w → (∀ j, j < ops.size → done j = true → (sp j).Ok done (val j) w (G j)) → StepOk P Q sp o a w G (sp i)) :
    KeepsJ P .any ops Q (JS W ops.size sp) a0 := by
  intro i o done val w' ho hdn hdep hJ
  have hi : i < ops.size := by
    rcases Nat.lt_or_ge i ops.size with h | h
    · exact h
    · rw [Array.getElem?_eq_none h] at ho; cases ho
  obtain ⟨hE, G, hok, hge, hinj, hfd⟩ := hJ
  obtain ⟨o', ho', hg, hstep⟩ := hst i hi
  rw [ho] at ho'
  cases ho'
  refine ⟨wanted_none' hg, ?_⟩
  have hs := hstep (putD done val ops.toList 0 a0) w' done val G hdn hdep (fun j oj d h1 h2 h3 h4 => by
    have := eval_putD (done := done) (val := val) ops.toList 0 j a0 oj d hB (by simpa using h1) h2 (by rw [Nat.zero_add]; exact h4) h3
    rw [Nat.zero_add] at this
    exact this) (fun t ht => eval_putD_out _ _ _ _ (outB'_spec ht)) hE hok
  generalize putD done val ops.toList 0 a0 = a at hs ⊢
  have hnst : ∀ j st t z cs, j < ops.size → sp j = .box st t z cs → (∀ b, sp i = .fill b → b ≠ j) → updF done i true st = done st := fun j st t z cs hj hs hb => by
    refine updF_ne _ _ fun e => ?_
    obtain ⟨_, h2⟩ := hbox j st t z cs hj hs
    exact hb j (e ▸ h2) rfl
  have hpast : ∀ j, done j = true → j ≠ i := fun j h e => by subst e; rw [hdn] at h; cases h
  have hfd' : ∀ j b, j < ops.size → sp j = .fill b → updF done i true j = true → (i = j → done b = true) → updF done i true b = true := fun j b hj hs hd hq => by
    by_cases hb : b = i
    · subst hb; exact updF_same _ _ _
    · rw [updF_ne _ _ hb]
      by_cases e : j = i
      · exact hq e.symm
      · rw [updF_ne _ _ e] at hd
        exact hfd j b hj hs hd
  cases hsp : sp i with
  | val u =>
    rw [hsp] at hs
    refine Oper.wp_mono ?_ hs
    rintro a' w'' ⟨ha, he⟩
    refine ⟨u, ha, hE.trans he, G, fun j hj hd => ?_, fun j hj hd hm => ?_, fun j k hj hk hd hd' hm hm' h => ?_, fun j b hj hs hd => hfd' j b hj hs hd fun e => by subst e; rw [hsp] at hs; cases hs⟩
    · by_cases e : j = i
      · subst e
        rw [hsp, updF_same]
        exact rfl
      · rw [updF_ne _ _ e] at hd ⊢
        refine (hok j hj hd).mono (fun st t z cs h => hnst j st t z cs hj h fun b hb => by rw [hsp] at hb; cases hb) fun hm => he.block _ ((hge j hj hd hm).2)
    · have e : j ≠ i := fun e => by subst e; rw [hsp] at hm; cases hm
      rw [updF_ne _ _ e] at hd
      have := hge j hj hd hm
      exact ⟨this.1, Nat.lt_of_lt_of_le this.2 he.size⟩
    · have e : j ≠ i := fun e => by subst e; rw [hsp] at hm; cases hm
      have e' : k ≠ i := fun e => by subst e; rw [hsp] at hm'; cases hm'
      rw [updF_ne _ _ e] at hd
      rw [updF_ne _ _ e'] at hd'
      exact hinj j k hj hk hd hd' hm hm' h
  | mk f t cs =>
    rw [hsp] at hs
    refine Oper.wp_mono ?_ hs
    rintro a' w'' ⟨g, ha, hgs, he, hB⟩
    refine ⟨f g, ha, hE.trans he, updF G i g, fun j hj hd => ?_, fun j hj hd hm => ?_, fun j k hj hk hd hd' hm hm' h => ?_, fun j b hj hs hd => hfd' j b hj hs hd fun e => by subst e; rw [hsp] at hs; cases hs⟩
    · by_cases e : j = i
      · subst e
        rw [hsp, updF_same, updF_same]
        exact ⟨rfl, hB⟩
      · rw [updF_ne _ _ e] at hd ⊢
        rw [updF_ne _ _ e]
        refine (hok j hj hd).mono (fun st t z cs h => hnst j st t z cs hj h fun b hb => by rw [hsp] at hb; cases hb) fun hm => he.block _ ((hge j hj hd hm).2)
    · by_cases e : j = i
      · subst e
        rw [updF_same]
        exact ⟨Nat.le_trans hE.size hgs, hB.lt⟩
      · rw [updF_ne _ _ e] at hd ⊢
        have := hge j hj hd hm
        exact ⟨this.1, Nat.lt_of_lt_of_le this.2 he.size⟩
    · by_cases e : j = i <;> by_cases e' : k = i
      · rw [e, e']
      · exfalso
        subst e
        rw [updF_ne _ _ e'] at hd'
        rw [updF_same, updF_ne _ _ e'] at h
        have := (hge k hk hd' hm').2
        omega
      · exfalso
        subst e'
        rw [updF_ne _ _ e] at hd
        rw [updF_same, updF_ne _ _ e] at h
        have := (hge j hj hd hm).2
        omega
      · rw [updF_ne _ _ e] at hd
        rw [updF_ne _ _ e'] at hd'
        rw [updF_ne _ _ e, updF_ne _ _ e'] at h
        exact hinj j k hj hk hd hd' hm hm' h
  | box st t z cs =>
    rw [hsp] at hs
    refine Oper.wp_mono ?_ hs
    rintro a' w'' ⟨g, ha, hgs, he, hB⟩
    obtain ⟨hst1, hst2⟩ := hbox i st t z cs hi hsp
    refine ⟨_, ha, hE.trans he, updF G i g, fun j hj hd => ?_, fun j hj hd hm => ?_, fun j k hj hk hd hd' hm hm' h => ?_, fun j b hj hs hd => hfd' j b hj hs hd fun e => by subst e; rw [hsp] at hs; cases hs⟩
    · by_cases e : j = i
      · subst e
        rw [hsp, updF_same, updF_same]
        refine ⟨rfl, ?_⟩
        have hne : st ≠ j := fun e => by subst e; rw [hsp] at hst2; cases hst2
        rw [updF_ne _ _ hne]
        have hns : ¬ done st = true := fun h => by
          have := hfd st j hst1 hst2 h
          rw [hdn] at this
          cases this
        rw [if_neg hns]
        exact hB
      · rw [updF_ne _ _ e] at hd ⊢
        rw [updF_ne _ _ e]
        refine (hok j hj hd).mono (fun st t z cs h => hnst j st t z cs hj h fun b hb => by rw [hsp] at hb; cases hb) fun hm => he.block _ ((hge j hj hd hm).2)
    · by_cases e : j = i
      · subst e
        rw [updF_same]
        exact ⟨Nat.le_trans hE.size hgs, hB.lt⟩
      · rw [updF_ne _ _ e] at hd ⊢
        have := hge j hj hd hm
        exact ⟨this.1, Nat.lt_of_lt_of_le this.2 he.size⟩
    · by_cases e : j = i <;> by_cases e' : k = i
      · rw [e, e']
      · exfalso
        subst e
        rw [updF_ne _ _ e'] at hd'
        rw [updF_same, updF_ne _ _ e'] at h
        have := (hge k hk hd' hm').2
        omega
      · exfalso
        subst e'
        rw [updF_ne _ _ e] at hd
        rw [updF_same, updF_ne _ _ e] at h
        have := (hge j hj hd hm).2
        omega
      · rw [updF_ne _ _ e] at hd
        rw [updF_ne _ _ e'] at hd'
        rw [updF_ne _ _ e, updF_ne _ _ e'] at h
        exact hinj j k hj hk hd hd' hm hm' h
  | fill b =>
    obtain ⟨hb, ⟨t, z, cs, hbx⟩, oi, hoi, e, hea, hbi, hon⟩ := hfill i b hi hsp
    rw [ho] at hoi
    cases hoi
    have hdb : done b = true := hon ▸ hdep e hea hbi
    rw [hsp] at hs
    simp only [StepOk, hbx] at hs
    refine Oper.wp_mono ?_ hs
    rintro a' w'' ⟨v, ha, hon', hB⟩
    have hmb : (sp b).mem = true := by rw [hbx]; rfl
    have hgb := hge b hb hdb hmb
    refine ⟨v, ha, hon'.ext hE hgb.1, G, fun j hj hd => ?_, fun j hj hd hm => ?_, fun j k hj hk hd hd' hm hm' h => ?_, fun j b' hj hs hd => hfd' j b' hj hs hd fun e => by
      subst e
      rw [hsp] at hs
      injection hs with hs
      subst hs
      exact hdb⟩
    · by_cases e : j = i
      · subst e
        rw [hsp]
        trivial
      · rw [updF_ne _ _ e] at hd ⊢
        by_cases ejb : j = b
        · subst ejb
          have h1 := hok j hj hd
          rw [hbx] at h1 ⊢
          refine ⟨h1.1, ?_⟩
          rw [updF_same, if_pos rfl]
          exact hB
        · refine (hok j hj hd).mono (fun st t z cs h => hnst j st t z cs hj h fun b' hb' => by rw [hsp] at hb'; injection hb' with hb'; rw [← hb']; exact fun e => ejb e.symm) fun hm => hon'.block _ fun hG => ejb (hinj j b hj hb hd hdb hm hmb hG)
    · have e : j ≠ i := fun e => by subst e; rw [hsp] at hm; cases hm
      rw [updF_ne _ _ e] at hd
      have := hge j hj hd hm
      exact ⟨this.1, by rw [hon'.size]; exact this.2⟩
    · have e : j ≠ i := fun e => by subst e; rw [hsp] at hm; cases hm
      have e' : k ≠ i := fun e => by subst e; rw [hsp] at hm'; cases hm'
      rw [updF_ne _ _ e] at hd
      rw [updF_ne _ _ e'] at hd'
      exact hinj j k hj hk hd hd' hm hm' h
/-- Steps by their runs. -/
theorem step_val {P : Program} {Q : Exit → Act → World → Prop} {o : Oper} {a : Act} {w w'' : World} {u : Value} (h : (execOp a.eval o).run P w = .ok (.value u) w'') (he : Ext w w'') : Oper.wp P o a w (fun a' w'' => a' = a.put o.dst u ∧ Ext w w'') Q := by
  unfold Oper.wp
  rw [h]
  exact ⟨rfl, he⟩
theorem step_mk {P : Program} {Q : Exit → Act → World → Prop} {o : Oper} {a : Act} {w w'' : World} {g : Nat} {v : Value} {t : TypeId} {cs : Array Value} (h : (execOp a.eval o).run P w = .ok (.value v) w'') (hg : w.heap.size ≤ g) (he : Ext w w'') (hB : Blk w'' g t cs) (f : Nat → Value) (hv : v = f g) :
    Oper.wp P o a w (fun a' w'' => ∃ g, a' = a.put o.dst (f g) ∧ w.heap.size ≤ g ∧ Ext w w'' ∧ Blk w'' g t cs) Q := by
  unfold Oper.wp
  rw [h, hv]
  exact ⟨g, rfl, hg, he, hB⟩
theorem step_fill {P : Program} {Q : Exit → Act → World → Prop} {o : Oper} {a : Act} {w w'' : World} {g : Nat} {t : TypeId} {cs : Array Value} (h : (execOp a.eval o).run P w = .ok .skip w'') (hd : o.dst = none) (hn : OnlyAt g w w'') (hB : Blk w'' g t cs) :
    Oper.wp P o a w (fun a' w'' => ∃ v, a' = a.put o.dst v ∧ OnlyAt g w w'' ∧ Blk w'' g t cs) Q := by
  unfold Oper.wp
  rw [h]
  exact ⟨undef, by rw [hd], hn, hB⟩
theorem step_go {P : Program} {Q : Exit → Act → World → Prop} {o : Oper} {a : Act} {w : World} {u : Value} (f : FuncId) {fn : Func} (xs : Array Operand) (ts : Array TypeId)
    (hop : o.op = Op.call { callee := Callee.value (Operand.func f), args := xs, argTypes := ts }) (hf : P.funcs[f]? = some fn) (hname : (fn.name == "runtime.NumGoroutine") = false) (hb : fn.body.isNone = false) (vs : Array Value) (hx : xs.map a.eval = vs)
    (hc : Calls P f vs w fun e w' => e = .returned u ∧ Ext w w') : Oper.wp P o a w (fun a' w'' => a' = a.put o.dst u ∧ Ext w w'') Q := by
  unfold Oper.wp
  have h1 : fn.name ≠ "runtime.NumGoroutine" := by simpa using hname
  have hev : a.eval (Operand.func f) = .func (.func f) #[] #[] := rfl
  have h2 : ¬ (fn.body = none) := by intro h; simp [h] at hb
  have hrun : (execOp a.eval o).run P w = .ok (.enter f vs) w := by
    simp [execOp, hop, resolve, hev, Deferred.ofValue, invoke, hx, callFunc, hf, h1, h2]
  rw [hrun, Oper.upon_enter]
  exact hc.mono fun e w' h => by obtain ⟨rfl, hE⟩ := h; exact ⟨rfl, hE⟩
end Go.Proofs.YtoghdmoldcjedaaGreatDoor
