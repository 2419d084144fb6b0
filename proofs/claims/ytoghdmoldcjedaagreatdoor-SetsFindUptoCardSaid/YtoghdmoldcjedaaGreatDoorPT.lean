/- A region that draws its order, of which a tail comes in its own order: the head is met by words (PM), the tail is walked. -/
import Derived.Test.YtoghdmoldcjedaaGreatDoorPM
import Derived.StillTail
namespace Go.Proofs.YtoghdmoldcjedaaGreatDoor
open Go.RowKit
set_option linter.unusedVariables false

def KeepsN (P : Program) (md : Region.Mode) (ops : Array Oper) (n : Nat) (Q : Exit → Act → World → Prop) (J : (Nat → Bool) → (Nat → Value) → World → Prop) (a0 : Act) : Prop :=
  ∀ (i : Nat) (o : Oper) (done : Nat → Bool) (val : Nat → Value) (w' : World), i < n → ops[i]? = some o → done i = false → (∀ e ∈ o.after, Region.binds md e = true → done e.on = true) → J done val w' →
    Region.wanted o (yielded ops (putD done val ops.toList 0 a0).tmps) = true ∧ Oper.wp P o (putD done val ops.toList 0 a0) w' (fun a' w'' => ∃ v, a' = (putD done val ops.toList 0 a0).put o.dst v ∧ J (updF done i true) (updF val i v) w'') Q
theorem cntF_all (f : Nat → Bool) : ∀ n, (∀ i, i < n → f i = true) → cntF f n = 0
  | 0, _ => rfl
  | n + 1, h => by
    simp only [cntF]
    rw [cntF_all f n fun i hi => h i (by omega), if_pos (h n (by omega))]
def headA (n m : Nat) : Array Bool := Array.replicate n true ++ Array.replicate m false
theorem headA_eq {md : Region.Mode} {ops : Array Oper} {n : Nat} {listed : Array Bool} (hn : n ≤ ops.size) (inv : HeadInv md ops n listed) (h : ∀ i, i < n → listed.getD i false = true) : listed = headA n (ops.size - n) := by
  apply Array.ext
  · rw [inv.size]; simp [headA]; omega
  · intro i h1 h2
    by_cases hi : i < n
    · have := h i hi
      rw [Array.getD_eq_getD_getElem?, Array.getElem?_eq_getElem h1] at this
      rw [show listed[i] = true from this]
      simp [headA, hi]
    · have := inv.tail i (by omega) (by rw [inv.size] at h1; exact h1)
      rw [Array.getD_eq_getD_getElem?, Array.getElem?_eq_getElem h1] at this
      rw [show listed[i] = false from this]
      simp [headA, Array.getElem_append, hi]
theorem wpAny_JT {P : Program} {md : Region.Mode} {ops : Array Oper} {n : Nat} {Q : Exit → Act → World → Prop} {J : (Nat → Bool) → (Nat → Value) → World → Prop} {a0 : Act} (hB : distB ops.toList = true) (hb : backM md ops = true)
    (hn : n < ops.size) (hs : Region.sinkB md ops n = true) (hc : Region.chainB md ops n = true) (hseq : Region.seqB md ops (ops.size - n) n (headA n (ops.size - n)) = true)
    (hend : ∀ done val w', (∀ i, i < n → done i = true) → (∀ i, n ≤ i → done i = false) → J done val w' → wpList P ops Q (ops.toList.drop n) (putD done val ops.toList 0 a0) w') (hstep : KeepsN P md ops n Q J a0) :
    ∀ (fuel : Nat) (listed : Array Bool) (val : Nat → Value) (w' : World), HeadInv md ops n listed → cntF (fun i => listed.getD i false) n = fuel → J (fun i => listed.getD i false) val w' →
      wpAny P md ops Q (fuel + (ops.size - n)) listed (putD (fun i => listed.getD i false) val ops.toList 0 a0) w' := by
  intro fuel
  induction fuel with
  | zero =>
    intro listed val w' inv hcn hJ
    have hall := cntF_zero _ _ hcn
    have hdl : (ops.toList.drop n).length = ops.size - n := by simp
    rw [Nat.zero_add, ← hdl]
    refine wpAny_of_seq (ops.toList.drop n) n listed _ w' (fun j => by simp [List.getElem?_drop]) ?_ (hend _ _ _ hall (fun i hi => ?_) hJ)
    · rw [hdl, headA_eq (Nat.le_of_lt hn) inv hall]; exact hseq
    · rcases Nat.lt_or_ge i ops.size with h | h
      · exact getD_both (inv.tail i hi h)
      · show listed.getD i false = false
        rw [Array.getD_eq_getD_getElem?, Array.getElem?_eq_none (by rw [inv.size]; exact h)]
        rfl
  | succ fuel ih =>
    intro listed val w' inv hcn hJ
    obtain ⟨i0, hi0, hun0⟩ : ∃ i0, i0 < n ∧ listed.getD i0 false = false := by
      refine Classical.byContradiction fun hne => ?_
      have := cntF_all (fun i => listed.getD i false) n fun i hi => by
        cases h : listed.getD i false with
        | true => rfl
        | false => exact absurd ⟨i, hi, h⟩ hne
      omega
    rw [show fuel + 1 + (ops.size - n) = (fuel + (ops.size - n)) + 1 by omega]
    refine ⟨fun hr => ?_, fun i hi => ?_⟩
    · have h1 := ready_nilM hb inv.size hr n hn
      rw [getD_both (inv.tail n (Nat.le_refl _) hn)] at h1
      cases h1
    · have hin : i < n := by
        rcases Nat.lt_or_ge i n with h | h
        · exact h
        · exact absurd hi (tail_waits hs hc hn inv _ i0 rfl hi0 (getD_in (by rw [inv.size]; omega) hun0) i h)
      have hi' := hi
      obtain ⟨h1, o, ho, hdep⟩ := mem_ready.1 hi
      have hjl : i < listed.size := by rw [inv.size]; omega
      have hd : listed.getD i false = false := getD_both h1
      obtain ⟨hw, hstp⟩ := hstep i o (fun i => listed.getD i false) val w' hin ho hd hdep hJ
      unfold wpOp
      simp only [ho]
      rw [if_pos hw]
      refine .inl (Oper.wp_mono ?_ hstp)
      rintro a' w'' ⟨v, rfl, hJ'⟩
      have he : (fun j => (listed.setIfInBounds i true).getD j false) = updF (fun j => listed.getD j false) i true := by
        funext j
        unfold updF
        by_cases h : j = i
        · subst h; simp [hjl]
        · rw [if_neg h]
          simp [Ne.symm h]
      have := ih (listed.setIfInBounds i true) (updF val i v) w'' (inv.set hi' hin) (by
        rw [he]
        have := cntF_upd (fun j => listed.getD j false) i hd n
        rw [if_pos hin] at this
        omega) (by rw [he]; exact hJ')
      rw [he] at this
      have hp := putD_upd (done := fun j => listed.getD j false) (val := val) v ops.toList 0 i a0 o hB (by simpa using ho) (by rw [Nat.zero_add]; exact hd)
      rw [Nat.zero_add] at hp
      rw [hp] at this
      exact this
theorem wp_region_JT {P : Program} {id : Nat} {ops : Array Oper} (n : Nat) {Q : Exit → Act → World → Prop} {J : (Nat → Bool) → (Nat → Value) → World → Prop} {a0 : Act} {w : World} (hm : P.follows .mixedOrders = true) (hB : distB ops.toList = true) (hb : backM .any ops = true)
    (ht : (decide (n < ops.size) && Region.sinkB .any ops n && Region.chainB .any ops n && Region.seqB .any ops (ops.size - n) n (headA n (ops.size - n))) = true) (val : Nat → Value)
    (h0 : J (fun _ => false) val w.drew) (hstep : KeepsN P .any ops n Q J a0)
    (hend : ∀ done val w', (∀ i, i < n → done i = true) → (∀ i, n ≤ i → done i = false) → J done val w' → wpList P ops Q (ops.toList.drop n) (putD done val ops.toList 0 a0) w') : (Code.region id ops true).wp P Q a0 w := by
  simp only [Bool.and_eq_true, decide_eq_true_eq] at ht
  obtain ⟨⟨⟨hn, hs⟩, hc⟩, hseq⟩ := ht
  refine wp_region_any hm ?_
  have he : (fun i => (Array.replicate ops.size false).getD i false) = fun _ => false := by
    funext i
    by_cases h : i < ops.size <;> simp [h]
  have hnn : ∀ (l : List Oper) (k : Nat) (a : Act), putD (fun _ => false) val l k a = a := by
    intro l
    induction l with
    | nil => intro k a; rfl
    | cons o l ih => intro k a; simp only [putD]; exact ih _ _
  have inv0 : HeadInv .any ops n (Array.replicate ops.size false) :=
    ⟨by simp, fun j oj _ hl => (by rw [getD_replicate_false] at hl; cases hl), fun t _ ht => getD_in (by simpa using ht) (getD_replicate_false _ _)⟩
  have := wpAny_JT (P := P) (md := .any) (Q := Q) (J := J) (a0 := a0) hB hb hn hs hc hseq hend hstep n (Array.replicate ops.size false) val w.drew inv0 (by rw [he]; exact cntF_none _) (by rw [he]; exact h0)
  rw [he, hnn, show n + (ops.size - n) = ops.size by omega] at this
  exact this
/-- As JV, over the first n. -/
def JN (W : World) (n : Nat) (ops : Array Oper) (sp : Nat → Wd) (done : Nat → Bool) (val : Nat → Value) (w : World) : Prop :=
  JW W n sp done val w ∧ ∀ i o, ops[i]? = some o → done i = true → ∀ e ∈ o.after, Region.binds .any e = true → done e.on = true
theorem JN.start (W : World) (n : Nat) (ops : Array Oper) (sp : Nat → Wd) (val : Nat → Value) : JN W n ops sp (fun _ => false) val W.drew := ⟨JW.start _ _ _ _, fun _ _ _ h => Bool.noConfusion h⟩
theorem JN.keeps {P : Program} {n : Nat} {ops : Array Oper} {Q : Exit → Act → World → Prop} {a0 : Act} {W : World} {sp : Nat → Wd} (hB : distB ops.toList = true)
    (hany : ∀ i R, i < n → sp i = .any R → Stays W R)
    (hfill : ∀ i b, i < n → sp i = .fill b → b < n ∧ (∃ t z cs, sp b = .box i t z cs) ∧ ∃ o, ops[i]? = some o ∧ ∃ e ∈ o.after, Region.binds .any e = true ∧ e.on = b)
    (hbox : ∀ b st t z cs, b < n → sp b = .box st t z cs → st < n ∧ sp st = .fill b ∧ ∀ (i : Nat) (val : Nat → Value) (v : Value) (done : Nat → Bool), i < n → done i = false → (∀ o, ops[st]? = some o → done st = true → ∀ e ∈ o.after, Region.binds .any e = true → done e.on = true) → done st = true → cs (updF val i v) = cs val)
    (hst : ∀ i, i < n → ∃ o, ops[i]? = some o ∧ o.guard = none ∧ ∀ (a : Act) (w : World) (done : Nat → Bool) (val : Nat → Value) (G H : Nat → Nat), done i = false →
      (∀ e ∈ o.after, Region.binds .any e = true → done e.on = true) → (∀ j oj d, ops[j]? = some oj → oj.dst = some d → d < a0.tmps.size → done j = true → a.eval (.tmp d) = val j) →
      (∀ t, outB' ops t = true → a.eval (.tmp t) = a0.eval (.tmp t)) → Ext W w → (∀ j, j < n → done j = true → (sp j).Ok done val (val j) w (G j) (H j)) →
      (∀ j, j < n → done j = true → (sp j).mem = true → W.heap.size ≤ G j ∧ G j ≤ H j ∧ H j ≤ w.heap.size) →
      (∀ v b, sp i = .fill b → ∀ t z cs, sp b = .box i t z cs → cs (updF val i v) = cs val) ∧ StepW P Q sp o a w G val (sp i)) :
    KeepsN P .any ops n Q (JN W n ops sp) a0 := by
  intro i o done val w' hi ho hdn hdep ⟨hJ, hdw⟩
  obtain ⟨hE, G, H, hok, hge, hdis, hfd⟩ := hJ
  obtain ⟨o', ho', hg, hstep⟩ := hst i hi
  rw [ho] at ho'
  cases ho'
  refine ⟨wanted_none' hg, ?_⟩
  obtain ⟨hcs, hs⟩ := hstep (putD done val ops.toList 0 a0) w' done val G H hdn hdep (fun j oj d h1 h2 h3 h4 => by
    have := eval_putD (done := done) (val := val) ops.toList 0 j a0 oj d hB (by simpa using h1) h2 (by rw [Nat.zero_add]; exact h4) h3
    rw [Nat.zero_add] at this
    exact this) (fun t ht => eval_putD_out _ _ _ _ (outB'_spec ht)) hE hok hge
  generalize putD done val ops.toList 0 a0 = a at hs ⊢
  have hdw' : ∀ j oj, ops[j]? = some oj → updF done i true j = true → ∀ e ∈ oj.after, Region.binds .any e = true → updF done i true e.on = true := fun j oj hj hd e he hb => by
    by_cases hji : j = i
    · subst hji
      rw [ho] at hj
      cases hj
      have := hdep e he hb
      by_cases h : e.on = j
      · rw [h, updF_same]
      · rw [updF_ne _ _ h]; exact this
    · rw [updF_ne _ _ hji] at hd
      have := hdw j oj hj hd e he hb
      by_cases h : e.on = i
      · rw [h, updF_same]
      · rw [updF_ne _ _ h]; exact this
  have hnst : ∀ (v : Value) j st t z cs, j < n → sp j = .box st t z cs → (∀ b, sp i = .fill b → b ≠ j) → updF done i true st = done st ∧ (done st = true → cs (updF val i v) = cs val) := fun v j st t z cs hj hs hb => by
    obtain ⟨_, h2, h3⟩ := hbox j st t z cs hj hs
    exact ⟨updF_ne _ _ fun e => hb j (e ▸ h2) rfl, fun hd => h3 i val v done hi hdn (fun o ho hd => hdw st o ho hd) hd⟩
  have hpast : ∀ j, done j = true → j ≠ i := fun j h e => by subst e; rw [hdn] at h; cases h
  have hfd' : ∀ j b, j < n → sp j = .fill b → updF done i true j = true → (i = j → done b = true) → updF done i true b = true := fun j b hj hs hd hq => by
    by_cases hb : b = i
    · subst hb; exact updF_same _ _ _
    · rw [updF_ne _ _ hb]
      by_cases e : j = i
      · exact hq e.symm
      · rw [updF_ne _ _ e] at hd
        exact hfd j b hj hs hd
  -- one step that makes the blocks [g, h) and turns nothing old
  have made : ∀ (v : Value) (g h : Nat) (w'' : World), (∀ b, sp i ≠ .fill b) → Ext w' w'' → ((sp i).mem = true → w'.heap.size ≤ g ∧ g ≤ h ∧ h ≤ w''.heap.size) → (sp i).Ok (updF done i true) (updF val i v) v w'' g h → JW W n sp (updF done i true) (updF val i v) w'' := by
    intro v g h w'' hnf he hgh hnew
    refine ⟨hE.trans he, updF G i g, updF H i h, fun j hj hd => ?_, fun j hj hd hm => ?_, fun j k hj hk hne hd hd' hm hm' => ?_, fun j b hj hs hd => hfd' j b hj hs hd fun e => absurd (e ▸ hs) (hnf b)⟩
    · by_cases e : j = i
      · subst e
        rw [updF_same, updF_same, updF_same]
        exact hnew
      · rw [updF_ne _ _ e] at hd
        rw [updF_ne _ _ e, updF_ne _ _ e, updF_ne _ _ e]
        refine (hok j hj hd).mono (hany j · hj) (fun st t z cs h => hnst v j st t z cs hj h fun b hb => absurd hb (hnf b)) (fun hm b hb => ?_) he.size
        have := hge j hj hd hm
        have := hE.size
        exact he.block b (by omega)
    · by_cases e : j = i
      · subst e
        rw [updF_same, updF_same]
        have := hgh hm
        have := hE.size
        omega
      · rw [updF_ne _ _ e] at hd
        rw [updF_ne _ _ e, updF_ne _ _ e]
        have := hge j hj hd hm
        have := he.size
        omega
    · by_cases e : j = i
      · have e' : k ≠ i := fun x => hne (e.trans x.symm)
        rw [updF_ne _ _ e'] at hd'
        rw [e, updF_same, updF_same, updF_ne _ _ e', updF_ne _ _ e']
        have := hgh (e ▸ hm)
        have := hge k hk hd' hm'
        omega
      · rw [updF_ne _ _ e] at hd
        rw [updF_ne _ _ e, updF_ne _ _ e]
        by_cases e' : k = i
        · rw [e', updF_same, updF_same]
          have := hgh (e' ▸ hm')
          have := hge j hj hd hm
          omega
        · rw [updF_ne _ _ e'] at hd'
          rw [updF_ne _ _ e', updF_ne _ _ e']
          exact hdis j k hj hk hne hd hd' hm hm'
  cases hsp : sp i with
  | val u =>
    rw [hsp] at hs
    refine Oper.wp_mono ?_ hs
    rintro a' w'' ⟨ha, he⟩
    exact ⟨u, ha, made u 0 0 w'' (fun b h => by rw [hsp] at h; cases h) he (fun h => by rw [hsp] at h; cases h) (by rw [hsp]; exact rfl), hdw'⟩
  | mk f t cs =>
    rw [hsp] at hs
    refine Oper.wp_mono ?_ hs
    rintro a' w'' ⟨g, ha, hgs, he, hB⟩
    exact ⟨f g, ha, made (f g) g (g + 1) w'' (fun b h => by rw [hsp] at h; cases h) he (fun _ => ⟨hgs, by omega, hB.lt⟩) (by rw [hsp]; exact ⟨⟨rfl, hB⟩, rfl⟩), hdw'⟩
  | box st t z cs =>
    rw [hsp] at hs
    refine Oper.wp_mono ?_ hs
    rintro a' w'' ⟨g, ha, hgs, he, hB⟩
    obtain ⟨hst1, hst2, _⟩ := hbox i st t z cs hi hsp
    refine ⟨_, ha, made _ g (g + 1) w'' (fun b h => by rw [hsp] at h; cases h) he (fun _ => ⟨hgs, by omega, hB.lt⟩) ?_, hdw'⟩
    rw [hsp]
    refine ⟨⟨rfl, ?_⟩, rfl⟩
    have hne : st ≠ i := fun e => by subst e; rw [hsp] at hst2; cases hst2
    rw [updF_ne _ _ hne]
    have hns : ¬ done st = true := fun h => by
      have := hfd st i hst1 hst2 h
      rw [hdn] at this
      cases this
    rw [if_neg hns]
    exact hB
  | any R =>
    rw [hsp] at hs
    refine Oper.wp_mono ?_ hs
    rintro a' w'' ⟨v, ha, he, hR⟩
    exact ⟨v, ha, made v w'.heap.size w''.heap.size w'' (fun b h => by rw [hsp] at h; cases h) he (fun _ => ⟨Nat.le_refl _, he.size, Nat.le_refl _⟩) (by rw [hsp]; exact hR), hdw'⟩
  | fill b =>
    obtain ⟨hb, ⟨t, z, cs, hbx⟩, oi, hoi, e, hea, hbi, hon⟩ := hfill i b hi hsp
    rw [ho] at hoi
    cases hoi
    have hdb : done b = true := hon ▸ hdep e hea hbi
    rw [hsp] at hs
    simp only [StepW, hbx] at hs
    refine Oper.wp_mono ?_ hs
    rintro a' w'' ⟨v, ha, hon', hB⟩
    have hmb : (sp b).mem = true := by rw [hbx]; rfl
    have hgb := hge b hb hdb hmb
    have hgb1 : H b = G b + 1 := by have := hok b hb hdb; rw [hbx] at this; exact this.2
    refine ⟨v, ha, ⟨hon'.ext hE hgb.1, G, H, fun j hj hd => ?_, fun j hj hd hm => ?_, fun j k hj hk hne hd hd' hm hm' => ?_, fun j b' hj hs hd => hfd' j b' hj hs hd fun e => by
      subst e
      rw [hsp] at hs
      injection hs with hs
      subst hs
      exact hdb⟩, hdw'⟩
    · by_cases e : j = i
      · subst e
        rw [hsp]
        trivial
      · rw [updF_ne _ _ e] at hd ⊢
        by_cases ejb : j = b
        · subst ejb
          have h1 := hok j hj hd
          rw [hbx] at h1 ⊢
          refine ⟨⟨h1.1.1, ?_⟩, h1.2⟩
          rw [updF_same, if_pos rfl, hcs v j hsp t z cs hbx]
          exact hB
        · refine (hok j hj hd).mono (hany j · hj) (fun st t z cs h => hnst v j st t z cs hj h fun b' hb' => by rw [hsp] at hb'; injection hb' with hb'; rw [← hb']; exact fun e => ejb e.symm) (fun hm c hc => hon'.block _ ?_) (Nat.le_of_eq hon'.size.symm)
          have h1 := hdis j b hj hb ejb hd hdb hm hmb
          omega
    · have e : j ≠ i := fun e => by subst e; rw [hsp] at hm; cases hm
      rw [updF_ne _ _ e] at hd
      have := hge j hj hd hm
      rw [hon'.size]
      exact this
    · have e : j ≠ i := fun e => by subst e; rw [hsp] at hm; cases hm
      have e' : k ≠ i := fun e => by subst e; rw [hsp] at hm'; cases hm'
      rw [updF_ne _ _ e] at hd
      rw [updF_ne _ _ e'] at hd'
      exact hdis j k hj hk hne hd hd' hm hm'
end Go.Proofs.YtoghdmoldcjedaaGreatDoor
