/- Regions that draw their order, make memory and hold operations that their guard skips: one word for each operation; a skipped one keeps what its slot held. Printed by genrg.py. Chapter 35: outputs as lines: plain laws, data in memory; script.Output. A map that remembers answers: every entry holds what a function says at its key. Keys of two whole numbers. The keys of sets.Match's memory; the recursion of sets.Match, walked. The recursion of sets.Match, walked. The recursion of sets.Match, walked: every spot. Walks: may a pattern be (sets.atoms); does a pattern match (sets.Match). Walks: which prefix covers which. Walks: which prefix covers which: the document's. Walks: a number is put behind bytes: wire.Put. Walks: slices.Index, slices.Contains at uint32; aspath.Check and its answer by the document; lengths. Walks: aspath.Check, lengths. Walks: are two the same? slices.Equal, slices.Equa -/
import Derived.Lib.SplitLaws
import Derived.Lib.ParseIntB
import Derived.Lib.ParseIntBCases
import Derived.Lib.ItoaNum
import Derived.Lib.Join
import Derived.WalkKit
import Derived.Below
import Derived.Outline
import Derived.LoopTactic
import Derived.Laws.OwnMore
import Derived.Deep.AppendLies
import Derived.Deep.Draws
import Derived.Lib.Hide
import Derived.BigQuiet
import Derived.Deep.QuietTactic
import Derived.WalkSpells
import Derived.WalkLawsBesides
import Derived.Deep.RegionHeld3
import Derived.Deep.DrawnRows
import Derived.Deep.RegionLaw
import Derived.Lib.ConvBytes
import Derived.Lib.Bytealg
import Derived.Lib.Small
import Derived.Test.YtkinghadgmbhbaaGreatDoorRows
import Derived.ProofKit
import Derived.Deep.Slices
import Derived.Shelf.GgClosure.StringsRunes
import Derived.Test.YtkinghadgmbhbaaGreatDoorProg
import Derived.Test.YtkinghadgmbhbaaGreatDoorShelf
import Derived.Shelf.RegionOpenPlain
import Derived.Laws.StructEq
import Derived.Lib.QuietBelow
import Derived.Test.YtkinghadgmbhbaaGreatDoorShelf2
import Derived.Lib.UnsafeStr
import Derived.Lib.ItoaMem
import Derived.Lib.ItoaLen
import Derived.Shelf.Strings.Builder1
import Derived.Orders
import Derived.StillTail
import Derived.Defers
import Derived.Recover
import Derived.Laws.EntriesVeiled
import Derived.Deep.DeepCutAuto
import Derived.Deep.RegionWith
import Derived.OpenShut
import Derived.Maps.OwnSet
import Derived.Maps.Views
import Derived.Maps.Range
import Derived.DeepKeys5
import Derived.Deep.Cut
import Derived.Test.YtkinghadgmbhbaaGreatDoorPF01
import Derived.Test.YtkinghadgmbhbaaGreatDoorPF02
import Derived.Test.YtkinghadgmbhbaaGreatDoorPF03
namespace Go.Proofs.YtkinghadgmbhbaaGreatDoor
section
open Go.RowKit
set_option linter.unusedVariables false
def KeepsS (P : Program) (md : Region.Mode) (ops : Array Oper) (Q : Exit → Act → World → Prop) (J : (Nat → Bool) → (Nat → Value) → World → Prop) (a0 : Act) : Prop :=
  ∀ (i : Nat) (o : Oper) (done : Nat → Bool) (val : Nat → Value) (w' : World), ops[i]? = some o → done i = false → (∀ e ∈ o.after, Region.binds md e = true → done e.on = true) → J done val w' →
    (Region.wanted o (yielded ops (putD done val ops.toList 0 a0).tmps) = true ∧ Oper.wp P o (putD done val ops.toList 0 a0) w' (fun a' w'' => ∃ v, a' = (putD done val ops.toList 0 a0).put o.dst v ∧ J (updF done i true) (updF val i v) w'') Q) ∨
    (Region.wanted o (yielded ops (putD done val ops.toList 0 a0).tmps) = false ∧ J (updF done i true) (updF val i undef) w')
theorem wpAny_JS {P : Program} {md : Region.Mode} {ops : Array Oper} {Q : Exit → Act → World → Prop} {J : (Nat → Bool) → (Nat → Value) → World → Prop} {a0 : Act} (hB : distB ops.toList = true) (hb : backM md ops = true)
    (hend : ∀ done val w', (∀ i, i < ops.size → done i = true) → J done val w' → Q .normal (putD done val ops.toList 0 a0) w') (hstep : KeepsS P md ops Q J a0) :
    ∀ (fuel : Nat) (listed : Array Bool) (val : Nat → Value) (w' : World), listed.size = ops.size → cntF (fun i => listed.getD i false) ops.size = fuel → J (fun i => listed.getD i false) val w' →
      wpAny P md ops Q fuel listed (putD (fun i => listed.getD i false) val ops.toList 0 a0) w' := by
  intro fuel
  induction fuel with
  | zero =>
    intro listed val w' hs hc hJ
    have hall := cntF_zero _ _ hc
    refine ⟨?_, hend _ _ _ hall hJ⟩
    cases hr : Region.ready md ops listed with
    | nil => rfl
    | cons j r =>
      have hm : j ∈ Region.ready md ops listed := by rw [hr]; simp
      obtain ⟨h1, o, ho, _⟩ := mem_ready.1 hm
      have hj : j < ops.size := by
        rcases Nat.lt_or_ge j ops.size with h | h
        · exact h
        · rw [Array.getElem?_eq_none h] at ho; cases ho
      have h2 := hall j hj
      have : j < listed.size := by omega
      simp [this] at h1 h2
      rw [h1] at h2
      cases h2
  | succ fuel ih =>
    intro listed val w' hs hc hJ
    refine ⟨fun hr => hend _ _ _ (fun i hi => ready_nilM hb hs hr i hi) hJ, fun i hi => ?_⟩
    obtain ⟨h1, o, ho, hdep⟩ := mem_ready.1 hi
    have hj : i < ops.size := by
      rcases Nat.lt_or_ge i ops.size with h | h
      · exact h
      · rw [Array.getElem?_eq_none h] at ho; cases ho
    have hjl : i < listed.size := by omega
    have hd : listed.getD i false = false := by simp [hjl] at h1 ⊢; exact h1
    have he : (fun j => (listed.setIfInBounds i true).getD j false) = updF (fun j => listed.getD j false) i true := by
      funext j
      unfold updF
      by_cases h : j = i
      · subst h; simp [hjl]
      · rw [if_neg h]
        simp [Ne.symm h]
    unfold wpOp
    simp only [ho]
    rcases hstep i o (fun i => listed.getD i false) val w' ho hd hdep hJ with ⟨hw, hstp⟩ | ⟨hw, hJ'⟩
    · rw [if_pos hw]
      refine .inl (Oper.wp_mono ?_ hstp)
      rintro a' w'' ⟨v, rfl, hJ'⟩
      have := ih (listed.setIfInBounds i true) (updF val i v) w'' (by simpa using hs) (by
        rw [he]
        have := cntF_upd (fun j => listed.getD j false) i hd ops.size
        rw [if_pos hj] at this
        omega) (by rw [he]; exact hJ')
      rw [he] at this
      have hp := putD_upd (done := fun j => listed.getD j false) (val := val) v ops.toList 0 i a0 o hB (by simpa using ho) (by rw [Nat.zero_add]; exact hd)
      rw [Nat.zero_add] at hp
      rw [hp] at this
      exact this
    · rw [if_neg (by rw [hw]; decide)]
      have := ih (listed.setIfInBounds i true) (updF val i undef) w' (by simpa using hs) (by
        rw [he]
        have := cntF_upd (fun j => listed.getD j false) i hd ops.size
        rw [if_pos hj] at this
        omega) (by rw [he]; exact hJ')
      rw [he] at this
      have hp := putD_upd (done := fun j => listed.getD j false) (val := val) undef ops.toList 0 i a0 o hB (by simpa using ho) (by rw [Nat.zero_add]; exact hd)
      rw [Nat.zero_add] at hp
      rw [hp] at this
      exact this
theorem wp_region_JS {P : Program} {id : Nat} {ops : Array Oper} {Q : Exit → Act → World → Prop} {J : (Nat → Bool) → (Nat → Value) → World → Prop} {a0 : Act} {w : World} (hm : P.follows .mixedOrders = true) (hB : distB ops.toList = true) (hb : backM .any ops = true) (val : Nat → Value)
  (h0 : J (fun _ => false) val w.drew) (hstep : KeepsS P .any ops Q J a0)
  (hend : ∀ done val w', (∀ i, i < ops.size → done i = true) → J done val w' → Q .normal (putD done val ops.toList 0 a0) w') : (Code.region id ops true).wp P Q a0 w := by
 refine wp_region_any hm ?_
 have he : (fun i => (Array.replicate ops.size false).getD i false) = fun _ => false := by
  funext i
  by_cases h : i < ops.size <;> simp [h]
 have hn : ∀ (l : List Oper) (k : Nat) (a : Act), putD (fun _ => false) val l k a = a := by
  intro l
  induction l with
  | nil => intro k a; rfl
  | cons o l ih => intro k a; simp only [putD]; exact ih _ _
 have := wpAny_JS (P := P) (md := .any) (Q := Q) (J := J) (a0 := a0) hB hb hend hstep ops.size (Array.replicate ops.size false) val w.drew (by simp) (by rw [he]; exact cntF_none _) (by rw [he]; exact h0)
 rw [he, hn] at this
 exact this
/-- An operation that its guard skips: the guard's word is not what it wants. -/
def SkipOk (ops : Array Oper) (sp : Nat → Wd) (n m : Nat) (o : Oper) : Prop :=
 ∃ j want oj d, o.guard = some (j, want) ∧ ops[j]? = some oj ∧ oj.dst = some d ∧ d < m ∧ j < n ∧ (sp j = .val (.bool (!want)) ∨ sp j = .val undef) ∧ o.after.any (fun e => Region.binds .any e && e.on == j) = true
theorem SkipOk.unwanted {ops : Array Oper} {sp : Nat → Wd} {n : Nat} {a0 : Act} {o : Oper} {done : Nat → Bool} {val : Nat → Value} {w : World} {G H : Nat → Nat} (hB : distB ops.toList = true) (h : SkipOk ops sp n a0.tmps.size o)
  (hdep : ∀ e ∈ o.after, Region.binds .any e = true → done e.on = true) (hok : ∀ j, j < n → done j = true → (sp j).Ok done val (val j) w (G j) (H j)) :
  Region.wanted o (yielded ops (putD done val ops.toList 0 a0).tmps) = false := by
 obtain ⟨j, want, oj, d, h1, h2, h3, h4, h5, h6, h7⟩ := h
 obtain ⟨e, he, heb⟩ := Array.any_eq_true'.1 h7
 obtain ⟨hb1, hb2⟩ := (Bool.and_eq_true _ _).mp heb
 have hj : done j = true := by
  have := hdep e he hb1
  rwa [show e.on = j by simpa using hb2] at this
 have hv := hok j h5 hj
 have hev := eval_putD (done := done) (val := val) ops.toList 0 j a0 oj d hB (by simpa using h2) h3 (by rw [Nat.zero_add]; exact hj) h4
 have hsz : d < (putD done val ops.toList 0 a0).tmps.size := by rw [putD_size]; exact h4
 rw [Nat.zero_add] at hev
 generalize putD done val ops.toList 0 a0 = a at hev hsz ⊢
 rcases h6 with h6 | h6
 ·rw [h6] at hv
  replace hv : val j = .bool (!want) := hv
  rw [hv] at hev
  have hg : a.tmps[d]? = some (.bool (!want)) := by
   simp [Act.eval, hsz] at hev
   rw [Array.getElem?_eq_getElem hsz, hev]
  have hy : yielded ops a.tmps j = some (!want) := by simp [yielded, h2, h3, hg]
  cases want <;> simp [Region.wanted, h1, hy]
 ·rw [h6] at hv
  replace hv : val j = undef := hv
  rw [hv] at hev
  have hg : a.tmps[d]? = some undef := by
   simp [Act.eval, hsz] at hev
   rw [Array.getElem?_eq_getElem hsz, hev]
  have hy : yielded ops a.tmps j = none := by simp [yielded, h2, h3, hg, undef]
  simp [Region.wanted, h1, hy]
theorem JW.keepsS {P : Program} {ops : Array Oper} {Q : Exit → Act → World → Prop} {a0 : Act} {W : World} {sp : Nat → Wd} (hB : distB ops.toList = true)
    (hany : ∀ i R, i < ops.size → sp i = .any R → Stays W R)
    (hfill : ∀ i b, i < ops.size → sp i = .fill b → b < ops.size ∧ (∃ t z cs, sp b = .box i t z cs) ∧ ∃ o, ops[i]? = some o ∧ ∃ e ∈ o.after, Region.binds .any e = true ∧ e.on = b)
    (hbox : ∀ b st t z cs, b < ops.size → sp b = .box st t z cs → st < ops.size ∧ sp st = .fill b ∧ ∀ (i : Nat) (val : Nat → Value) (v : Value) (done : Nat → Bool), i < ops.size → done i = false → (∀ o, ops[st]? = some o → done st = true → ∀ e ∈ o.after, Region.binds .any e = true → done e.on = true) → done st = true → cs (updF val i v) = cs val)
    (hst : ∀ i, i < ops.size → (∃ o, ops[i]? = some o ∧ SkipOk ops sp ops.size a0.tmps.size o ∧ sp i = .val undef) ∨ ∃ o, ops[i]? = some o ∧ GuardOk ops sp ops.size a0.tmps.size o ∧ ∀ (a : Act) (w : World) (done : Nat → Bool) (val : Nat → Value) (G H : Nat → Nat), done i = false →
      (∀ e ∈ o.after, Region.binds .any e = true → done e.on = true) → (∀ j oj d, ops[j]? = some oj → oj.dst = some d → d < a0.tmps.size → done j = true → a.eval (.tmp d) = val j) →
      (∀ t, outB' ops t = true → a.eval (.tmp t) = a0.eval (.tmp t)) → Ext W w → (∀ j, j < ops.size → done j = true → (sp j).Ok done val (val j) w (G j) (H j)) →
      (∀ j, j < ops.size → done j = true → (sp j).mem = true → W.heap.size ≤ G j ∧ G j ≤ H j ∧ H j ≤ w.heap.size) →
      (∀ v b, sp i = .fill b → ∀ t z cs, sp b = .box i t z cs → cs (updF val i v) = cs val) ∧ StepW P Q sp o a w G val (sp i)) :
    KeepsS P .any ops Q (JV W ops sp) a0 := by
  intro i o done val w' ho hdn hdep ⟨hJ, hdw⟩
  have hi : i < ops.size := by
    rcases Nat.lt_or_ge i ops.size with h | h
    · exact h
    · rw [Array.getElem?_eq_none h] at ho; cases ho
  obtain ⟨hE, G, H, hok, hge, hdis, hfd⟩ := hJ
  have hdw' : ∀ j oj, ops[j]? = some oj → updF done i true j = true → ∀ e ∈ oj.after, Region.binds .any e = true → updF done i true e.on = true := fun j oj hj hd e he hb => by
    by_cases hji : j = i
    · subst hji
      rw [ho] at hj
      cases hj
      have := hdep e he hb
      by_cases h : e.on = j
      · rw [h, updF_same]
      · rw [updF_ne _ _ h]; exact this
    · rw [updF_ne _ _ hji] at hd
      have := hdw j oj hj hd e he hb
      by_cases h : e.on = i
      · rw [h, updF_same]
      · rw [updF_ne _ _ h]; exact this
  have hnst : ∀ (v : Value) j st t z cs, j < ops.size → sp j = .box st t z cs → (∀ b, sp i = .fill b → b ≠ j) → updF done i true st = done st ∧ (done st = true → cs (updF val i v) = cs val) := fun v j st t z cs hj hs hb => by
    obtain ⟨_, h2, h3⟩ := hbox j st t z cs hj hs
    exact ⟨updF_ne _ _ fun e => hb j (e ▸ h2) rfl, fun hd => h3 i val v done hi hdn (fun o ho hd => hdw st o ho hd) hd⟩
  have hpast : ∀ j, done j = true → j ≠ i := fun j h e => by subst e; rw [hdn] at h; cases h
  have hfd' : ∀ j b, j < ops.size → sp j = .fill b → updF done i true j = true → (i = j → done b = true) → updF done i true b = true := fun j b hj hs hd hq => by
    by_cases hb : b = i
    · subst hb; exact updF_same _ _ _
    · rw [updF_ne _ _ hb]
      by_cases e : j = i
      · exact hq e.symm
      · rw [updF_ne _ _ e] at hd
        exact hfd j b hj hs hd
  -- one step that makes the blocks [g, h) and turns nothing old
  have made : ∀ (v : Value) (g h : Nat) (w'' : World), (∀ b, sp i ≠ .fill b) → Ext w' w'' → ((sp i).mem = true → w'.heap.size ≤ g ∧ g ≤ h ∧ h ≤ w''.heap.size) → (sp i).Ok (updF done i true) (updF val i v) v w'' g h → JW W ops.size sp (updF done i true) (updF val i v) w'' := by
    intro v g h w'' hnf he hgh hnew
    refine ⟨hE.trans he, updF G i g, updF H i h, fun j hj hd => ?_, fun j hj hd hm => ?_, fun j k hj hk hne hd hd' hm hm' => ?_, fun j b hj hs hd => hfd' j b hj hs hd fun e => absurd (e ▸ hs) (hnf b)⟩
    · by_cases e : j = i
      · subst e
        rw [updF_same, updF_same, updF_same]
        exact hnew
      · rw [updF_ne _ _ e] at hd
        rw [updF_ne _ _ e, updF_ne _ _ e, updF_ne _ _ e]
        refine (hok j hj hd).mono (hany j · hj) (fun st t z cs h => hnst v j st t z cs hj h fun b hb => absurd hb (hnf b)) (fun hm b hb => ?_) he.size
        have := hge j hj hd hm
        have := hE.size
        exact he.block b (by omega)
    · by_cases e : j = i
      · subst e
        rw [updF_same, updF_same]
        have := hgh hm
        have := hE.size
        omega
      · rw [updF_ne _ _ e] at hd
        rw [updF_ne _ _ e, updF_ne _ _ e]
        have := hge j hj hd hm
        have := he.size
        omega
    · by_cases e : j = i
      · have e' : k ≠ i := fun x => hne (e.trans x.symm)
        rw [updF_ne _ _ e'] at hd'
        rw [e, updF_same, updF_same, updF_ne _ _ e', updF_ne _ _ e']
        have := hgh (e ▸ hm)
        have := hge k hk hd' hm'
        omega
      · rw [updF_ne _ _ e] at hd
        rw [updF_ne _ _ e, updF_ne _ _ e]
        by_cases e' : k = i
        · rw [e', updF_same, updF_same]
          have := hgh (e' ▸ hm')
          have := hge j hj hd hm
          omega
        · rw [updF_ne _ _ e'] at hd'
          rw [updF_ne _ _ e', updF_ne _ _ e']
          exact hdis j k hj hk hne hd hd' hm hm'
  rcases hst i hi with ⟨o', ho', hg, hsp⟩ | ⟨o', ho', hg, hstep⟩
  · rw [ho] at ho'
    cases ho'
    exact .inr ⟨hg.unwanted hB hdep hok, made undef 0 0 w' (fun b h => by rw [hsp] at h; cases h) (Ext.refl _) (fun h => by rw [hsp] at h; cases h) (by rw [hsp]; exact rfl), hdw'⟩
  rw [ho] at ho'
  cases ho'
  refine .inl ⟨hg.wanted hB hdep hok, ?_⟩
  obtain ⟨hcs, hs⟩ := hstep (putD done val ops.toList 0 a0) w' done val G H hdn hdep (fun j oj d h1 h2 h3 h4 => by
    have := eval_putD (done := done) (val := val) ops.toList 0 j a0 oj d hB (by simpa using h1) h2 (by rw [Nat.zero_add]; exact h4) h3
    rw [Nat.zero_add] at this
    exact this) (fun t ht => eval_putD_out _ _ _ _ (outB'_spec ht)) hE hok hge
  generalize putD done val ops.toList 0 a0 = a at hs ⊢
  cases hsp : sp i with
  | val u =>
    rw [hsp] at hs
    refine Oper.wp_mono ?_ hs
    rintro a' w'' ⟨ha, he⟩
    exact ⟨u, ha, made u 0 0 w'' (fun b h => by rw [hsp] at h; cases h) he (fun h => by rw [hsp] at h; cases h) (by rw [hsp]; exact rfl), hdw'⟩
  | mk f t cs =>
    rw [hsp] at hs
    refine Oper.wp_mono ?_ hs
    rintro a' w'' ⟨g, ha, hgs, he, hB⟩
    exact ⟨f g, ha, made (f g) g (g + 1) w'' (fun b h => by rw [hsp] at h; cases h) he (fun _ => ⟨hgs, by omega, hB.lt⟩) (by rw [hsp]; exact ⟨⟨rfl, hB⟩, rfl⟩), hdw'⟩
  | box st t z cs =>
    rw [hsp] at hs
    refine Oper.wp_mono ?_ hs
    rintro a' w'' ⟨g, ha, hgs, he, hB⟩
    obtain ⟨hst1, hst2, _⟩ := hbox i st t z cs hi hsp
    refine ⟨_, ha, made _ g (g + 1) w'' (fun b h => by rw [hsp] at h; cases h) he (fun _ => ⟨hgs, by omega, hB.lt⟩) ?_, hdw'⟩
    rw [hsp]
    refine ⟨⟨rfl, ?_⟩, rfl⟩
    have hne : st ≠ i := fun e => by subst e; rw [hsp] at hst2; cases hst2
    rw [updF_ne _ _ hne]
    have hns : ¬ done st = true := fun h => by
      have := hfd st i hst1 hst2 h
      rw [hdn] at this
      cases this
    rw [if_neg hns]
    exact hB
  | any R =>
    rw [hsp] at hs
    refine Oper.wp_mono ?_ hs
    rintro a' w'' ⟨v, ha, he, hR⟩
    exact ⟨v, ha, made v w'.heap.size w''.heap.size w'' (fun b h => by rw [hsp] at h; cases h) he (fun _ => ⟨Nat.le_refl _, he.size, Nat.le_refl _⟩) (by rw [hsp]; exact hR), hdw'⟩
  | fill b =>
    obtain ⟨hb, ⟨t, z, cs, hbx⟩, oi, hoi, e, hea, hbi, hon⟩ := hfill i b hi hsp
    rw [ho] at hoi
    cases hoi
    have hdb : done b = true := hon ▸ hdep e hea hbi
    rw [hsp] at hs
    simp only [StepW, hbx] at hs
    refine Oper.wp_mono ?_ hs
    rintro a' w'' ⟨v, ha, hon', hB⟩
    have hmb : (sp b).mem = true := by rw [hbx]; rfl
    have hgb := hge b hb hdb hmb
    have hgb1 : H b = G b + 1 := by have := hok b hb hdb; rw [hbx] at this; exact this.2
    refine ⟨v, ha, ⟨hon'.ext hE hgb.1, G, H, fun j hj hd => ?_, fun j hj hd hm => ?_, fun j k hj hk hne hd hd' hm hm' => ?_, fun j b' hj hs hd => hfd' j b' hj hs hd fun e => by
      subst e
      rw [hsp] at hs
      injection hs with hs
      subst hs
      exact hdb⟩, hdw'⟩
    · by_cases e : j = i
      · subst e
        rw [hsp]
        trivial
      · rw [updF_ne _ _ e] at hd ⊢
        by_cases ejb : j = b
        · subst ejb
          have h1 := hok j hj hd
          rw [hbx] at h1 ⊢
          refine ⟨⟨h1.1.1, ?_⟩, h1.2⟩
          rw [updF_same, if_pos rfl, hcs v j hsp t z cs hbx]
          exact hB
        · refine (hok j hj hd).mono (hany j · hj) (fun st t z cs h => hnst v j st t z cs hj h fun b' hb' => by rw [hsp] at hb'; injection hb' with hb'; rw [← hb']; exact fun e => ejb e.symm) (fun hm c hc => hon'.block _ ?_) (Nat.le_of_eq hon'.size.symm)
          have h1 := hdis j b hj hb ejb hd hdb hm hmb
          omega
    · have e : j ≠ i := fun e => by subst e; rw [hsp] at hm; cases hm
      rw [updF_ne _ _ e] at hd
      have := hge j hj hd hm
      rw [hon'.size]
      exact this
    · have e : j ≠ i := fun e => by subst e; rw [hsp] at hm; cases hm
      have e' : k ≠ i := fun e => by subst e; rw [hsp] at hm'; cases hm'
      rw [updF_ne _ _ e] at hd
      rw [updF_ne _ _ e'] at hd'
      exact hdis j k hj hk hne hd hd' hm hm'
end
section
open Go.RowKit Go.Sort
set_option linter.unusedVariables false
set_option linter.unusedSimpArgs false
def outCs (o : OutS) : List Value := [.int .i64 o.kind, .int .i64 o.conn, .string ⟨o.peer.toArray⟩, .string ⟨o.bytes.toArray⟩, .int .i64 o.err]
structure OutIn (o : OutS) : Prop where
  conn : i64 o.conn
  peer : o.peer.length ≤ 1048576
  bytes : o.bytes.length ≤ 1048576
  err : i64 o.err
theorem outT1 (cn : Int) (pr by_ : List UInt8) (er : Int) : outT ⟨1, cn, pr, by_, er⟩ = if (nameOk pr && decide ((⟨1, cn, pr, by_, er⟩ : OutS) = ⟨1, 0, pr, [], 0⟩)) = true then (Lib.join [[99, 111, 110, 110, 101, 99, 116], pr] [32], 0) else ([], 2) := by
 unfold outT; rw [if_pos rfl, Bool.and_comm]
theorem itoa_conn {n : Int} (h : connOk n = true) : Lib.itoa n = digS 10 n.toNat := by
 unfold connOk at h
 exact itoa_nn (by have := of_decide_eq_true h; omega)
theorem outT2 (cn : Int) (pr by_ : List UInt8) (er : Int) : outT ⟨2, cn, pr, by_, er⟩ = if ((connOk cn && decide (by_.length ≤ 4096)) && decide ((⟨2, cn, pr, by_, er⟩ : OutS) = ⟨2, cn, [], by_, 0⟩)) = true then (Lib.join [[100, 97, 116, 97], Lib.itoa cn, wordB by_] [32], 0) else ([], 2) := by
 unfold outT; rw [if_neg (show ¬ ((2 : Int) = 1) by decide), if_pos rfl, Bool.and_comm]
 cases h : connOk cn with
 | false => simp
 | true => rw [itoa_conn h]
theorem outT3 (cn : Int) (pr by_ : List UInt8) (er : Int) : outT ⟨3, cn, pr, by_, er⟩ = if (connOk cn && decide ((⟨3, cn, pr, by_, er⟩ : OutS) = ⟨3, cn, [], [], 0⟩)) = true then (Lib.join [[99, 108, 111, 115, 101], Lib.itoa cn] [32], 0) else ([], 2) := by
 unfold outT; rw [if_neg (show ¬ ((3 : Int) = 1) by decide), if_neg (show ¬ ((3 : Int) = 2) by decide), if_pos rfl, Bool.and_comm]
 cases h : connOk cn with
 | false => simp
 | true => rw [itoa_conn h]
theorem outT4 (cn : Int) (pr by_ : List UInt8) (er : Int) : outT ⟨4, cn, pr, by_, er⟩ = if (true && decide ((⟨4, cn, pr, by_, er⟩ : OutS) = ⟨4, 0, [], by_, 0⟩)) = true then (Lib.join [[114, 101, 112, 108, 121], wordB by_] [32], 0) else ([], 2) := by
 unfold outT; rw [if_neg (show ¬ ((4 : Int) = 1) by decide), if_neg (show ¬ ((4 : Int) = 2) by decide), if_neg (show ¬ ((4 : Int) = 3) by decide), if_pos rfl, Bool.true_and]
theorem outT5 (cn : Int) (pr by_ : List UInt8) (er : Int) : outT ⟨5, cn, pr, by_, er⟩ = if (decide (0 ≤ er ∧ er ≤ 11) && decide ((⟨5, cn, pr, by_, er⟩ : OutS) = ⟨5, 0, [], [], er⟩)) = true then (Lib.join [[108, 111, 97, 100], Lib.itoa er] [32], 0) else ([], 2) := by
 unfold outT; rw [if_neg (show ¬ ((5 : Int) = 1) by decide), if_neg (show ¬ ((5 : Int) = 2) by decide), if_neg (show ¬ ((5 : Int) = 3) by decide), if_neg (show ¬ ((5 : Int) = 4) by decide), if_pos rfl, Bool.and_comm]
 by_cases h : 0 ≤ er ∧ er ≤ 11
 ·rw [itoa_nn h.1]
 ·rw [decide_eq_false h]; simp
theorem outT0 {kd : Int} (h1 : kd ≠ 1) (h2 : kd ≠ 2) (h3 : kd ≠ 3) (h4 : kd ≠ 4) (h5 : kd ≠ 5) (cn : Int) (pr by_ : List UInt8) (er : Int) : outT ⟨kd, cn, pr, by_, er⟩ = ([], 2) := by
 unfold outT; rw [if_neg h1, if_neg h2, if_neg h3, if_neg h4, if_neg h5]
theorem run_eqOut (W : World) (x y : OutS) :
  (binOp .eql 58 (.agg #[.int .i64 x.kind, .int .i64 x.conn, .string ⟨x.peer.toArray⟩, .string ⟨x.bytes.toArray⟩, .int .i64 x.err]) (.agg #[.int .i64 y.kind, .int .i64 y.conn, .string ⟨y.peer.toArray⟩, .string ⟨y.bytes.toArray⟩, .int .i64 y.err])).run Tryz.prog W = .ok (.bool (decide (x = y))) W := by
 obtain ⟨a1, a2, a3, a4, a5⟩ := x
 obtain ⟨b1, b2, b3, b4, b5⟩ := y
 have hS : Tryz.prog.underlying 58 = some (.struct (Tryz.prog.fieldsOf 58)) := by kernel_rfl
 rw [run_eql_struct, run_equalIn_agg W 9999 _ _ _ hS Tryz.stoodInHeld58]
 simp only [Program.fieldsOf, Tryz.underlying58]
 have e1 : ∀ (a b : Int) (w : World), (Op.equalIn 9999 3 (.int .i64 a) (.int .i64 b)).run Tryz.prog w = .ok (a == b) w := fun a b w => run_equalIn_int w 9998 _ .i64 .i64 a b Tryz.underlying3
 have e2 : ∀ (a b : Int) (w : World), (Op.equalIn 9999 23 (.int .i64 a) (.int .i64 b)).run Tryz.prog w = .ok (a == b) w := fun a b w => run_equalIn_int w 9998 _ .i64 .i64 a b Tryz.underlying23
 have e3 : ∀ (a b : List UInt8) (w : World), (Op.equalIn 9999 9 (.string ⟨a.toArray⟩) (.string ⟨b.toArray⟩)).run Tryz.prog w = .ok (a == b) w := fun a b w => by
  rw [run_equalIn_string w 9998 _ _ _ Tryz.underlying9, ByteArray.toList_eq, ByteArray.toList_eq]
 by_cases h1 : a1 = b1
 ·subst h1
  by_cases h2 : a2 = b2
  ·subst h2
   by_cases h3 : a3 = b3
   ·subst h3
    by_cases h4 : a4 = b4
    ·subst h4
     by_cases h5 : a5 = b5
     ·subst h5
      simp [Op.eqFields, part, e1, e2, e3]
     ·simp [Op.eqFields, part, e1, e2, e3, h5]
    ·simp [Op.eqFields, part, e1, e2, e3, h4]
   ·simp [Op.eqFields, part, e1, e2, e3, h3]
  ·simp [Op.eqFields, part, e1, e2, e3, h2]
 ·simp [Op.eqFields, part, e1, e2, e3, h1]
/-- The line of words in one new row. -/
theorem SLineB_any (g : Nat) (W : World) (l : List (List UInt8)) (n c : Nat) (hn : l.length = n) (hn16 : n ≤ 16) (hc : n ≤ c) (hl : (Lib.join l [32]).length ≤ 140737488355328) (cs : Array Value) (hcs : cs = (l.map fun s => Value.string ⟨s.toArray⟩).toArray) (J : List UInt8) (hJ : Lib.join l [32] = J) (hb : Blk W g 9 cs) :
  Calls Tryz.prog 48 #[.slice (some ⟨g, 0, none⟩) n c] W fun e w' => e = .returned (.string ⟨J.toArray⟩) ∧ Ext W w' := by
 subst hn hcs hJ
 exact SLine_any g c l _ hn16 hc hl hb
/-- The output and the one that is wanted, in memory. -/
structure GdO (w : World) (p : Nat) (x y : OutS) (W : World) : Prop where
  a : Blk W p 58 (outCs x).toArray
  b : Blk W (p + 1) 58 (outCs y).toArray
  e : Ext w W
theorem GdO.ext {w W W' : World} {p : Nat} {x y : OutS} (h : GdO w p x y W) (he : Ext W W') : GdO w p x y W' := ⟨h.a.ext he, h.b.ext he, h.e.trans he⟩
theorem GdO.alloc {w W : World} {p : Nat} {x y : OutS} (h : GdO w p x y W) (o : Obj) : GdO w p x y (W.alloc o) := ⟨h.a.alloc o, h.b.alloc o, h.e.alloc o⟩
theorem GdO.drew {w W : World} {p : Nat} {x y : OutS} (h : GdO w p x y W) : GdO w p x y W.drew := ⟨h.a, h.b, h.e.drew⟩
theorem GdO.drewN {w W : World} {p : Nat} {x y : OutS} (h : GdO w p x y W) (n : Nat) : GdO w p x y (W.drewN n) := ⟨h.a.drewN n, h.b.drewN n, h.e.drewN n⟩
set_option maxRecDepth 20000 in
set_option maxHeartbeats 4000000 in
theorem SOutput_any (o : OutS) (hin : OutIn o) (w : World) (hT : Tab w) : Calls Tryz.prog 22 #[.agg (outCs o).toArray] w fun e w' => e = .returned (.tuple #[.string ⟨(outT o).1.toArray⟩, .int .i64 (outT o).2]) ∧ Ext w w' := by
  have mixed : Tryz.prog.follows Departure.mixedOrders = true := by kernel_rfl
  obtain ⟨kd, cn, pr, by_, er⟩ := o
  obtain ⟨h1, h2, h3, h4⟩ := hin
  dsimp only at h1 h2 h3 h4
  have hPost : ∀ (s : List UInt8) (x : Int) W, outT ⟨kd, cn, pr, by_, er⟩ = (s, x) → Ext w W → (Ending.returned (.tuple #[.string ⟨s.toArray⟩, .int .i64 x]) = Ending.returned (.tuple #[.string ⟨(outT ⟨kd, cn, pr, by_, er⟩).1.toArray⟩, .int .i64 (outT ⟨kd, cn, pr, by_, er⟩).2]) ∧ Ext w W) := fun s x W h he => ⟨by rw [h], he⟩
  generalize hQ : (fun e w' => e = Ending.returned (.tuple #[.string ⟨(outT ⟨kd, cn, pr, by_, er⟩).1.toArray⟩, .int .i64 (outT ⟨kd, cn, pr, by_, er⟩).2]) ∧ Ext w w') = Post
  replace hPost : ∀ (s : List UInt8) (x : Int) W, outT ⟨kd, cn, pr, by_, er⟩ = (s, x) → Ext w W → Post (.returned (.tuple #[.string ⟨s.toArray⟩, .int .i64 x])) W := by rw [← hQ]; exact hPost
  clear hQ
  have A := Blk.new w 58 #[.int .i64 kd, .int .i64 cn, .string ⟨pr.toArray⟩, .string ⟨by_.toArray⟩, .int .i64 er]
  have E1 := (Ext.refl w).alloc (Obj.cells #[.int .i64 kd, .int .i64 cn, .string ⟨pr.toArray⟩, .string ⟨by_.toArray⟩, .int .i64 er] 58)
  have hz : (w.alloc (Obj.cells #[.int .i64 kd, .int .i64 cn, .string ⟨pr.toArray⟩, .string ⟨by_.toArray⟩, .int .i64 er] 58)).heap.size = w.heap.size + 1 := by simp
  generalize hV1 : w.alloc (Obj.cells #[.int .i64 kd, .int .i64 cn, .string ⟨pr.toArray⟩, .string ⟨by_.toArray⟩, .int .i64 er] 58) = V1 at A E1 hz
  have B := Blk.new V1 58 #[.int .i64 kd, .int .i64 0, .string ⟨#[]⟩, .string ⟨#[]⟩, .int .i64 0]
  have E2 := E1.alloc (Obj.cells #[.int .i64 kd, .int .i64 0, .string ⟨#[]⟩, .string ⟨#[]⟩, .int .i64 0] 58)
  replace A := A.alloc (Obj.cells #[.int .i64 kd, .int .i64 0, .string ⟨#[]⟩, .string ⟨#[]⟩, .int .i64 0] 58)
  rw [hz] at B
  generalize hV2 : V1.alloc (Obj.cells #[.int .i64 kd, .int .i64 0, .string ⟨#[]⟩, .string ⟨#[]⟩, .int .i64 0] 58) = V2 at A B E2
  generalize hp : w.heap.size = p at A B
  clear E1 hz
  simp only [outCs]
  replace hV1 := hide hV1
  replace hV2 := hide hV2
  replace hp := hide hp
  replace h1 := hide h1
  replace h4 := hide h4
  replace A := hide A
  replace B := hide B
  replace E2 := hide E2
  replace hPost := hide hPost
  replace h2 := hide h2
  replace h3 := hide h3
  go_enter Tryz.func22, Tryz.ntmps22
  go_upto_region 2 with fail
  try rw [hV1.out]
  try rw [hV2.out]
  try simp only [hp.out]
  have hpw : w.heap.size ≤ p + 1 := by have := hp.out; omega
  have c0 : V2.cell? ⟨p, 0, none⟩ = some (.int .i64 kd) := A.out.cell 0
  have c1 : V2.cell? ⟨p, 1, none⟩ = some (.int .i64 cn) := A.out.cell 1
  clear hV1 hV2
  have hcn0 : connOk cn = (decide (1 ≤ cn) && decide (cn ≤ 64)) := by unfold connOk; by_cases a : 1 ≤ cn <;> by_cases b : cn ≤ 64 <;> simp [a, b]
  replace hcn0 := hide hcn0
  go_cut [5] (fun s5 wx => s5 = .bool (connOk cn) ∧ V2 = wx)
  case first =>
    by_cases a : 1 ≤ cn
    · have b1 : decide (1 ≤ cn) = true := decide_eq_true a
      by_cases b : cn ≤ 64
      · have b2 : decide (cn ≤ 64) = true := decide_eq_true b
        have hf := hcn0.out
        rw [b1, b2] at hf
        clear a b hcn0
        replace hf := hide hf
        go_wp2_with fail
        go_meet
        case rel => exact ⟨by rw [hf.out]; rfl, rfl⟩
      · have b2 : decide (cn ≤ 64) = false := decide_eq_false b
        have hf := hcn0.out
        rw [b1, b2] at hf
        clear a b hcn0
        replace hf := hide hf
        go_wp2_with fail
        go_meet
        case rel => exact ⟨by rw [hf.out]; rfl, rfl⟩
    · have b1 : decide (1 ≤ cn) = false := decide_eq_false a
      have hf := hcn0.out
      rw [b1, Bool.false_and] at hf
      clear a hcn0
      replace hf := hide hf
      go_wp2_with fail
      go_meet
      case rel => exact ⟨by rw [hf.out], rfl⟩
  obtain ⟨rfl, rfl⟩ := hcut
  clear c1 hcn0
  go_upto_block 0 with fail
  go_cut [6, 7] (fun s6 s7 wx => ∃ (s : List UInt8) (b : Bool) (o2 : OutS), s6 = .string ⟨s.toArray⟩ ∧ s7 = .bool b ∧ GdO w p ⟨kd, cn, pr, by_, er⟩ o2 wx ∧ outT ⟨kd, cn, pr, by_, er⟩ = if (b && decide ((⟨kd, cn, pr, by_, er⟩ : OutS) = o2)) = true then (s, 0) else ([], 2))
  case first =>
    have c1 : V2.cell? ⟨p, 1, none⟩ = some (.int .i64 cn) := A.out.cell 1
    have c2 : V2.cell? ⟨p, 2, none⟩ = some (.string ⟨pr.toArray⟩) := A.out.cell 2
    have c3 : V2.cell? ⟨p, 3, none⟩ = some (.string ⟨by_.toArray⟩) := A.out.cell 3
    have c4 : V2.cell? ⟨p, 4, none⟩ = some (.int .i64 er) := A.out.cell 4
    have d1 : V2.cell? ⟨p + 1, 1, none⟩ = some (.int .i64 0) := B.out.cell 1
    have d2 : V2.cell? ⟨p + 1, 2, none⟩ = some (.string ⟨#[]⟩) := B.out.cell 2
    have d3 : V2.cell? ⟨p + 1, 3, none⟩ = some (.string ⟨#[]⟩) := B.out.cell 3
    have d4 : V2.cell? ⟨p + 1, 4, none⟩ = some (.int .i64 0) := B.out.cell 4
    have fd := fun i => B.out.frozen i
    by_cases hk1 : kd = 1
    · subst hk1
      have gd : GdO w p ⟨1, cn, pr, by_, er⟩ ⟨1, 0, pr, [], 0⟩ (V2.setCell ⟨p + 1, 2, none⟩ (.string ⟨pr.toArray⟩)) := ⟨(A.out.far (p := ⟨p + 1, 2, none⟩) (show p ≠ p + 1 by omega) (.string ⟨pr.toArray⟩)), (B.out.set_ 2 (.string ⟨pr.toArray⟩)), (E2.out.setCell (p := ⟨p + 1, 2, none⟩) hpw (.string ⟨pr.toArray⟩))⟩
      have hok := outT1 cn pr by_ er
      obtain ⟨V3, hV3⟩ : ∃ V3, (V2.setCell ⟨p + 1, 2, none⟩ (.string ⟨pr.toArray⟩)) = V3 := ⟨_, rfl⟩
      rw [hV3] at gd
      replace gd := hide gd
      replace hok := hide hok
      replace hV3 := hide hV3
      replace hok := hok.out
      have qN := fun W => Named_any pr (by have := h2.out; omega) W
      obtain ⟨J, hJ⟩ : ∃ J, Lib.join [[99, 111, 110, 110, 101, 99, 116], pr] [32] = J := ⟨_, rfl⟩
      have qL := fun g W (hb : Blk W g 9 #[.string ⟨#[99, 111, 110, 110, 101, 99, 116]⟩, .string ⟨pr.toArray⟩]) => SLineB_any g W [[99, 111, 110, 110, 101, 99, 116], pr] 2 2 rfl (by decide) (by decide) (by rw [join2_len]; have := h2.out; simp only [List.length_cons, List.length_nil]; omega) #[.string ⟨#[99, 111, 110, 110, 101, 99, 116]⟩, .string ⟨pr.toArray⟩] rfl J hJ hb
      rw [hJ] at hok
      clear hJ
      replace qL := hide qL
      replace qN := hide qN
      replace hok := hide hok
      go_upto_region 8 with fail
      rw [hV3.out]
      have x2 : V3.cell? ⟨p, 2, none⟩ = some (.string ⟨pr.toArray⟩) := gd.out.a.cell 2
      clear hV3 c0 c1 c2 c3 c4 d1 d2 d3 d4
      refine wp_region_JS (J := JV V3 _ (fun i => match i with | 0 => .val (.pointer (some ⟨p, 2, none⟩)) | 1 => .val (.string ⟨pr.toArray⟩) | 2 => .mk (fun g => .slice (some ⟨g, 0, none⟩) 2 2) 9 #[.string ⟨#[99, 111, 110, 110, 101, 99, 116]⟩, .string ⟨pr.toArray⟩] | 3 => .val (.string ⟨J.toArray⟩) | 4 => .val (.pointer (some ⟨p, 2, none⟩)) | 5 => .val (.string ⟨pr.toArray⟩) | 6 => .val (.bool (nameOk pr)) | 7 => .val (.string ⟨J.toArray⟩) | 8 => .val (.bool (nameOk pr)) | _ => .val undef)) mixed (by kernel_rfl) (by kernel_rfl) (fun _ => undef) (JV.start _ _ _ _) (JW.keepsS (by kernel_rfl) ?anysA ?fillA ?boxA ?stepsA) ?restA
      case anysA =>
        intro i R hi hR
        replace hi : i < 9 := hi
        match i, hi, hR with
        | 0, _, hR => cases hR
        | 1, _, hR => cases hR
        | 2, _, hR => cases hR
        | 3, _, hR => cases hR
        | 4, _, hR => cases hR
        | 5, _, hR => cases hR
        | 6, _, hR => cases hR
        | 7, _, hR => cases hR
        | 8, _, hR => cases hR
        | i + 9, h, _ => exact absurd h (by omega)
      case fillA =>
        intro i b hi hb
        replace hi : i < 9 := hi
        match i, hi, hb with
        | 0, _, hb => cases hb
        | 1, _, hb => cases hb
        | 2, _, hb => cases hb
        | 3, _, hb => cases hb
        | 4, _, hb => cases hb
        | 5, _, hb => cases hb
        | 6, _, hb => cases hb
        | 7, _, hb => cases hb
        | 8, _, hb => cases hb
        | i + 9, h, _ => exact absurd h (by omega)
      case boxA =>
        intro b st t z cs hi hb
        replace hi : b < 9 := hi
        match b, hi, hb with
        | 0, _, hb => cases hb
        | 1, _, hb => cases hb
        | 2, _, hb => cases hb
        | 3, _, hb => cases hb
        | 4, _, hb => cases hb
        | 5, _, hb => cases hb
        | 6, _, hb => cases hb
        | 7, _, hb => cases hb
        | 8, _, hb => cases hb
        | i + 9, h, _ => exact absurd h (by omega)
      case stepsA =>
        intro i hi
        replace hi : i < 9 := hi
        match i, hi with
        | 0, _ =>
          refine .inr ⟨_, rfl, .inl rfl, ?_⟩
          intro a w9 done val G H hdn hdep hev hout hE9 hok hge9
          refine ⟨(fun v b hb => by cases hb), ?_⟩
          have u1 : a.eval (.tmp 1) = .pointer (some ⟨p, 0, none⟩) := (hout 1 (by kernel_rfl)).trans rfl
          simp [Act.eval] at u1
          clear hdep hev hout hok hge9
          refine step_val (w'' := w9) ?_ (Ext.refl _)
          go_simp
        | 1, _ =>
          refine .inr ⟨_, rfl, .inl rfl, ?_⟩
          intro a w9 done val G H hdn hdep hev hout hE9 hok hge9
          refine ⟨(fun v b hb => by cases hb), ?_⟩
          have d0 : done 0 = true := by first | exact hdep ⟨0, .data⟩ (by simp) rfl | exact hdep ⟨0, .phase⟩ (by simp) rfl
          have e0 := hev 0 _ 26 rfl rfl (by simp) d0
          have k0 := hok 0 (by decide) d0
          replace k0 : val 0 = (.pointer (some ⟨p, 2, none⟩)) := k0
          rw [k0] at e0
          clear k0
          simp [Act.eval] at e0
          clear d0
          clear hdep hev hout hok hge9
          have z0 := hE9.cell x2
          refine step_val (w'' := w9) ?_ (Ext.refl _)
          go_simp
        | 2, _ =>
          refine .inr ⟨_, rfl, .inl rfl, ?_⟩
          intro a w9 done val G H hdn hdep hev hout hE9 hok hge9
          refine ⟨(fun v b hb => by cases hb), ?_⟩
          have d1 : done 1 = true := by first | exact hdep ⟨1, .data⟩ (by simp) rfl | exact hdep ⟨1, .phase⟩ (by simp) rfl
          have e1 := hev 1 _ 27 rfl rfl (by simp) d1
          have k1 := hok 1 (by decide) d1
          replace k1 : val 1 = (.string ⟨pr.toArray⟩) := k1
          rw [k1] at e1
          clear k1
          simp [Act.eval] at e1
          clear d1
          clear hdep hev hout hok hge9
          unfold StepW
          refine step_mk (v := .slice (some ⟨w9.heap.size, 0, none⟩) 2 2) ?_ (Nat.le_refl _) ((Ext.refl w9).alloc _) (Blk.new w9 _ _) (fun g => .slice (some ⟨g, 0, none⟩) 2 2) rfl
          go_simp
        | 3, _ =>
          refine .inr ⟨_, rfl, .inl rfl, ?_⟩
          intro a w9 done val G H hdn hdep hev hout hE9 hok hge9
          refine ⟨(fun v b hb => by cases hb), ?_⟩
          have d2 : done 2 = true := by first | exact hdep ⟨2, .data⟩ (by simp) rfl | exact hdep ⟨2, .phase⟩ (by simp) rfl
          have e2 := hev 2 _ 28 rfl rfl (by simp) d2
          have k2 := hok 2 (by decide) d2
          obtain ⟨⟨k2, B2⟩, _⟩ := k2
          rw [k2] at e2
          clear k2
          have g2 := (hge9 2 (by decide) d2 rfl).1
          simp [Act.eval] at e2
          clear d2
          clear hdep hev hout hok hge9
          exact step_go 48 #[.tmp 28] #[63] rfl Tryz.func48 (by kernel_rfl) (by kernel_rfl) _ (by simp [Act.eval, e2]; try rfl) (qL.out _ w9 B2)
        | 4, _ =>
          refine .inr ⟨_, rfl, .inl rfl, ?_⟩
          intro a w9 done val G H hdn hdep hev hout hE9 hok hge9
          refine ⟨(fun v b hb => by cases hb), ?_⟩
          have u1 : a.eval (.tmp 1) = .pointer (some ⟨p, 0, none⟩) := (hout 1 (by kernel_rfl)).trans rfl
          simp [Act.eval] at u1
          clear hdep hev hout hok hge9
          refine step_val (w'' := w9) ?_ (Ext.refl _)
          go_simp
        | 5, _ =>
          refine .inr ⟨_, rfl, .inl rfl, ?_⟩
          intro a w9 done val G H hdn hdep hev hout hE9 hok hge9
          refine ⟨(fun v b hb => by cases hb), ?_⟩
          have d4 : done 4 = true := by first | exact hdep ⟨4, .data⟩ (by simp) rfl | exact hdep ⟨4, .phase⟩ (by simp) rfl
          have e4 := hev 4 _ 30 rfl rfl (by simp) d4
          have k4 := hok 4 (by decide) d4
          replace k4 : val 4 = (.pointer (some ⟨p, 2, none⟩)) := k4
          rw [k4] at e4
          clear k4
          simp [Act.eval] at e4
          clear d4
          clear hdep hev hout hok hge9
          have z0 := hE9.cell x2
          refine step_val (w'' := w9) ?_ (Ext.refl _)
          go_simp
        | 6, _ =>
          refine .inr ⟨_, rfl, .inl rfl, ?_⟩
          intro a w9 done val G H hdn hdep hev hout hE9 hok hge9
          refine ⟨(fun v b hb => by cases hb), ?_⟩
          have d5 : done 5 = true := by first | exact hdep ⟨5, .data⟩ (by simp) rfl | exact hdep ⟨5, .phase⟩ (by simp) rfl
          have e5 := hev 5 _ 31 rfl rfl (by simp) d5
          have k5 := hok 5 (by decide) d5
          replace k5 : val 5 = (.string ⟨pr.toArray⟩) := k5
          rw [k5] at e5
          clear k5
          simp [Act.eval] at e5
          clear d5
          clear hdep hev hout hok hge9
          exact step_go 49 #[.tmp 31] #[9] rfl Tryz.func49 (by kernel_rfl) (by kernel_rfl) _ (by simp [Act.eval, e5]; try rfl) (qN.out w9)
        | 7, _ =>
          refine .inr ⟨_, rfl, .inl rfl, ?_⟩
          intro a w9 done val G H hdn hdep hev hout hE9 hok hge9
          refine ⟨(fun v b hb => by cases hb), ?_⟩
          have d3 : done 3 = true := by first | exact hdep ⟨3, .data⟩ (by simp) rfl | exact hdep ⟨3, .phase⟩ (by simp) rfl
          have e3 := hev 3 _ 29 rfl rfl (by simp) d3
          have k3 := hok 3 (by decide) d3
          replace k3 : val 3 = (.string ⟨J.toArray⟩) := k3
          rw [k3] at e3
          clear k3
          simp [Act.eval] at e3
          clear d3
          clear hdep hev hout hok hge9
          refine step_val (w'' := w9) ?_ (Ext.refl _)
          go_simp
        | 8, _ =>
          refine .inr ⟨_, rfl, .inl rfl, ?_⟩
          intro a w9 done val G H hdn hdep hev hout hE9 hok hge9
          refine ⟨(fun v b hb => by cases hb), ?_⟩
          have d6 : done 6 = true := by first | exact hdep ⟨6, .data⟩ (by simp) rfl | exact hdep ⟨6, .phase⟩ (by simp) rfl
          have e6 := hev 6 _ 32 rfl rfl (by simp) d6
          have k6 := hok 6 (by decide) d6
          replace k6 : val 6 = (.bool (nameOk pr)) := k6
          rw [k6] at e6
          clear k6
          simp [Act.eval] at e6
          clear d6
          clear hdep hev hout hok hge9
          refine step_val (w'' := w9) ?_ (Ext.refl _)
          go_simp
        | i + 9, h => exact absurd h (by omega)
      case restA =>
        rintro done val W9 hall ⟨⟨hE9, G, H, hok, hge, hdis, _⟩, _⟩
        replace hall : ∀ i, i < 9 → done i = true := hall
        have e0 := hall 0 (by decide)
        have e1 := hall 1 (by decide)
        have e2 := hall 2 (by decide)
        have e3 := hall 3 (by decide)
        have e4 := hall 4 (by decide)
        have e5 := hall 5 (by decide)
        have e6 := hall 6 (by decide)
        have e7 := hall 7 (by decide)
        have e8 := hall 8 (by decide)
        have k0 := hok 0 (by decide) e0
        replace k0 : val 0 = (.pointer (some ⟨p, 2, none⟩)) := k0
        have k1 := hok 1 (by decide) e1
        replace k1 : val 1 = (.string ⟨pr.toArray⟩) := k1
        have k2 := hok 2 (by decide) e2
        obtain ⟨⟨k2, B2⟩, z2⟩ := k2
        have G2 := hge 2 (by decide) e2 rfl
        rw [z2] at G2
        have k3 := hok 3 (by decide) e3
        replace k3 : val 3 = (.string ⟨J.toArray⟩) := k3
        have k4 := hok 4 (by decide) e4
        replace k4 : val 4 = (.pointer (some ⟨p, 2, none⟩)) := k4
        have k5 := hok 5 (by decide) e5
        replace k5 : val 5 = (.string ⟨pr.toArray⟩) := k5
        have k6 := hok 6 (by decide) e6
        replace k6 : val 6 = (.bool (nameOk pr)) := k6
        have k7 := hok 7 (by decide) e7
        replace k7 : val 7 = (.string ⟨J.toArray⟩) := k7
        have k8 := hok 8 (by decide) e8
        replace k8 : val 8 = (.bool (nameOk pr)) := k8
        clear hok hge hdis hall
        simp only [putD, e0, e1, e2, e3, e4, e5, e6, e7, e8, if_true, Nat.zero_add, Nat.reduceAdd, k0, k1, k2, k3, k4, k5, k6, k7, k8]
        clear e0 e1 e2 e3 e4 e5 e6 e7 e8 k0 k1 k2 k3 k4 k5 k6 k7 k8 z2
        generalize G 2 = g_2 at *
        have gd9 := hide (gd.out.ext hE9)
        clear hE9
        go_wp2_with fail
        go_meet
        case rel => exact ⟨J, nameOk pr, ⟨1, 0, pr, [], 0⟩, by first | rfl | simp, by first | rfl | simp, gd9.out, hok.out⟩
    have g1 : (kd == 1) = false := beq_eq_false_iff_ne.2 hk1
    have g1b : decide (kd = 1) = false := decide_eq_false hk1
    by_cases hk2 : kd = 2
    · subst hk2
      have gd : GdO w p ⟨2, cn, pr, by_, er⟩ ⟨2, cn, [], by_, 0⟩ ((V2.setCell ⟨p + 1, 1, none⟩ (.int .i64 cn)).setCell ⟨p + 1, 3, none⟩ (.string ⟨by_.toArray⟩)) := ⟨((A.out.far (p := ⟨p + 1, 1, none⟩) (show p ≠ p + 1 by omega) (.int .i64 cn)).far (p := ⟨p + 1, 3, none⟩) (show p ≠ p + 1 by omega) (.string ⟨by_.toArray⟩)), ((B.out.set_ 1 (.int .i64 cn)).set_ 3 (.string ⟨by_.toArray⟩)), ((E2.out.setCell (p := ⟨p + 1, 1, none⟩) hpw (.int .i64 cn)).setCell (p := ⟨p + 1, 3, none⟩) hpw (.string ⟨by_.toArray⟩))⟩
      have hok := outT2 cn pr by_ er
      have gdx : GdO w p ⟨2, cn, pr, by_, er⟩ ⟨2, cn, [], by_, 0⟩ ((V2.setCell ⟨p + 1, 3, none⟩ (.string ⟨by_.toArray⟩)).setCell ⟨p + 1, 1, none⟩ (.int .i64 cn)) := ⟨(A.out.far (p := ⟨p + 1, 3, none⟩) (show p ≠ p + 1 by omega) (.string ⟨by_.toArray⟩)).far (p := ⟨p + 1, 1, none⟩) (show p ≠ p + 1 by omega) (.int .i64 cn), (B.out.set_ 3 (.string ⟨by_.toArray⟩)).set_ 1 (.int .i64 cn), (E2.out.setCell (p := ⟨p + 1, 3, none⟩) hpw (.string ⟨by_.toArray⟩)).setCell (p := ⟨p + 1, 1, none⟩) hpw (.int .i64 cn)⟩
      replace gd := hide gd
      replace gdx := hide gdx
      replace hok := hide hok
      go_upto_region 10 with fail
      go_cut [36] (fun s36 wx => GdO w p ⟨2, cn, pr, by_, er⟩ ⟨2, cn, [], by_, 0⟩ wx)
      case first =>
        rename_i J9 K9 hJ9 hK9
        go_region
        all_goals refine hK9 _ _ (Met.intro (hJ9 _ _ ?_))
        all_goals ((repeat apply Exists.intro); refine ⟨?rel9, rfl⟩; (first | exact gd.out.drew | exact gdx.out.drew))
      clear gd gdx c0 c1 c2 c3 c4 d1 d2 d3 d4
      have gd := hide hcut
      clear hcut
      rename World => V3
      replace hok := hok.out
      have qI := fun W (h : GdO w p ⟨2, cn, pr, by_, er⟩ ⟨2, cn, [], by_, 0⟩ W) => ItoaI_any cn h1.out W (hT.ext h.e)
      have hil := itoa_len cn h1.out
      obtain ⟨it, hit⟩ : ∃ it, Lib.itoa cn = it := ⟨_, rfl⟩
      rw [hit] at qI hil hok
      clear hit
      have qW := fun W => SWord_any by_ h3.out W
      have hwl := wordB_len by_
      obtain ⟨wd, hwd⟩ : ∃ wd, wordB by_ = wd := ⟨_, rfl⟩
      rw [hwd] at qW hwl hok
      clear hwd
      obtain ⟨J, hJ⟩ : ∃ J, Lib.join [[100, 97, 116, 97], it, wd] [32] = J := ⟨_, rfl⟩
      have qL := fun g W (hb : Blk W g 9 #[.string ⟨#[100, 97, 116, 97]⟩, .string ⟨it.toArray⟩, .string ⟨wd.toArray⟩]) => SLineB_any g W [[100, 97, 116, 97], it, wd] 3 3 rfl (by decide) (by decide) (by rw [join3_len]; have := h3.out; simp only [List.length_cons, List.length_nil]; omega) #[.string ⟨#[100, 97, 116, 97]⟩, .string ⟨it.toArray⟩, .string ⟨wd.toArray⟩] rfl J hJ hb
      rw [hJ] at hok
      clear hJ
      replace qL := hide qL
      replace qI := hide qI
      replace qW := hide qW
      replace hok := hide hok
      clear hil hwl
      generalize connOk cn = bc at *
      go_upto_region 11 with fail
      have x1 : V3.cell? ⟨p, 1, none⟩ = some (.int .i64 cn) := gd.out.a.cell 1
      have x3 : V3.cell? ⟨p, 3, none⟩ = some (.string ⟨by_.toArray⟩) := gd.out.a.cell 3
      cases bc with
      | true =>
        obtain ⟨lb, hlb⟩ : ∃ lb, decide ((by_.length : Int) ≤ 4096) = lb := ⟨_, rfl⟩
        have hok2 := hok.out
        rw [Bool.true_and, show decide (by_.length ≤ 4096) = lb from by rw [← hlb]; exact decide_eq_decide.2 (by omega)] at hok2
        clear hok
        replace hok := hide hok2
        clear hok2
        refine wp_region_JS (J := JV V3 _ (fun i => match i with | 0 => .val (.pointer (some ⟨p, 1, none⟩)) | 1 => .val (.int .i64 cn) | 2 => .val (.string ⟨it.toArray⟩) | 3 => .val (.pointer (some ⟨p, 3, none⟩)) | 4 => .val (.string ⟨by_.toArray⟩) | 5 => .val (.string ⟨wd.toArray⟩) | 6 => .mk (fun g => .slice (some ⟨g, 0, none⟩) 3 3) 9 #[.string ⟨#[100, 97, 116, 97]⟩, .string ⟨it.toArray⟩, .string ⟨wd.toArray⟩] | 7 => .val (.string ⟨J.toArray⟩) | 8 => .val (.bool true) | 9 => .val (.bool true) | 10 => .val (.pointer (some ⟨p, 3, none⟩)) | 11 => .val (.string ⟨by_.toArray⟩) | 12 => .val (.int .i64 (by_.length : Int)) | 13 => .val (.bool lb) | 14 => .val (.bool lb) | 15 => .val (.string ⟨J.toArray⟩) | 16 => .val (.bool lb) | _ => .val undef)) mixed (by kernel_rfl) (by kernel_rfl) (fun _ => undef) (JV.start _ _ _ _) (JW.keepsS (by kernel_rfl) ?anysBt ?fillBt ?boxBt ?stepsBt) ?restBt
        case anysBt =>
          intro i R hi hR
          replace hi : i < 17 := hi
          match i, hi, hR with
          | 0, _, hR => cases hR
          | 1, _, hR => cases hR
          | 2, _, hR => cases hR
          | 3, _, hR => cases hR
          | 4, _, hR => cases hR
          | 5, _, hR => cases hR
          | 6, _, hR => cases hR
          | 7, _, hR => cases hR
          | 8, _, hR => cases hR
          | 9, _, hR => cases hR
          | 10, _, hR => cases hR
          | 11, _, hR => cases hR
          | 12, _, hR => cases hR
          | 13, _, hR => cases hR
          | 14, _, hR => cases hR
          | 15, _, hR => cases hR
          | 16, _, hR => cases hR
          | i + 17, h, _ => exact absurd h (by omega)
        case fillBt =>
          intro i b hi hb
          replace hi : i < 17 := hi
          match i, hi, hb with
          | 0, _, hb => cases hb
          | 1, _, hb => cases hb
          | 2, _, hb => cases hb
          | 3, _, hb => cases hb
          | 4, _, hb => cases hb
          | 5, _, hb => cases hb
          | 6, _, hb => cases hb
          | 7, _, hb => cases hb
          | 8, _, hb => cases hb
          | 9, _, hb => cases hb
          | 10, _, hb => cases hb
          | 11, _, hb => cases hb
          | 12, _, hb => cases hb
          | 13, _, hb => cases hb
          | 14, _, hb => cases hb
          | 15, _, hb => cases hb
          | 16, _, hb => cases hb
          | i + 17, h, _ => exact absurd h (by omega)
        case boxBt =>
          intro b st t z cs hi hb
          replace hi : b < 17 := hi
          match b, hi, hb with
          | 0, _, hb => cases hb
          | 1, _, hb => cases hb
          | 2, _, hb => cases hb
          | 3, _, hb => cases hb
          | 4, _, hb => cases hb
          | 5, _, hb => cases hb
          | 6, _, hb => cases hb
          | 7, _, hb => cases hb
          | 8, _, hb => cases hb
          | 9, _, hb => cases hb
          | 10, _, hb => cases hb
          | 11, _, hb => cases hb
          | 12, _, hb => cases hb
          | 13, _, hb => cases hb
          | 14, _, hb => cases hb
          | 15, _, hb => cases hb
          | 16, _, hb => cases hb
          | i + 17, h, _ => exact absurd h (by omega)
        case stepsBt =>
          intro i hi
          replace hi : i < 17 := hi
          match i, hi with
          | 0, _ =>
            refine .inr ⟨_, rfl, .inl rfl, ?_⟩
            intro a w9 done val G H hdn hdep hev hout hE9 hok hge9
            refine ⟨(fun v b hb => by cases hb), ?_⟩
            have u1 : a.eval (.tmp 1) = .pointer (some ⟨p, 0, none⟩) := (hout 1 (by kernel_rfl)).trans rfl
            simp [Act.eval] at u1
            clear hdep hev hout hok hge9
            refine step_val (w'' := w9) ?_ (Ext.refl _)
            go_simp
          | 1, _ =>
            refine .inr ⟨_, rfl, .inl rfl, ?_⟩
            intro a w9 done val G H hdn hdep hev hout hE9 hok hge9
            refine ⟨(fun v b hb => by cases hb), ?_⟩
            have d0 : done 0 = true := by first | exact hdep ⟨0, .data⟩ (by simp) rfl | exact hdep ⟨0, .phase⟩ (by simp) rfl
            have e0 := hev 0 _ 41 rfl rfl (by simp) d0
            have k0 := hok 0 (by decide) d0
            replace k0 : val 0 = (.pointer (some ⟨p, 1, none⟩)) := k0
            rw [k0] at e0
            clear k0
            simp [Act.eval] at e0
            clear d0
            clear hdep hev hout hok hge9
            have z0 := hE9.cell x1
            refine step_val (w'' := w9) ?_ (Ext.refl _)
            go_simp
          | 2, _ =>
            refine .inr ⟨_, rfl, .inl rfl, ?_⟩
            intro a w9 done val G H hdn hdep hev hout hE9 hok hge9
            refine ⟨(fun v b hb => by cases hb), ?_⟩
            have d1 : done 1 = true := by first | exact hdep ⟨1, .data⟩ (by simp) rfl | exact hdep ⟨1, .phase⟩ (by simp) rfl
            have e1 := hev 1 _ 42 rfl rfl (by simp) d1
            have k1 := hok 1 (by decide) d1
            replace k1 : val 1 = (.int .i64 cn) := k1
            rw [k1] at e1
            clear k1
            simp [Act.eval] at e1
            clear d1
            clear hdep hev hout hok hge9
            exact step_go 50 #[.tmp 42] #[3] rfl Tryz.func50 (by kernel_rfl) (by kernel_rfl) _ (by simp [Act.eval, e1]; try rfl) (qI.out w9 (gd.out.ext hE9))
          | 3, _ =>
            refine .inr ⟨_, rfl, .inl rfl, ?_⟩
            intro a w9 done val G H hdn hdep hev hout hE9 hok hge9
            refine ⟨(fun v b hb => by cases hb), ?_⟩
            have u1 : a.eval (.tmp 1) = .pointer (some ⟨p, 0, none⟩) := (hout 1 (by kernel_rfl)).trans rfl
            simp [Act.eval] at u1
            clear hdep hev hout hok hge9
            refine step_val (w'' := w9) ?_ (Ext.refl _)
            go_simp
          | 4, _ =>
            refine .inr ⟨_, rfl, .inl rfl, ?_⟩
            intro a w9 done val G H hdn hdep hev hout hE9 hok hge9
            refine ⟨(fun v b hb => by cases hb), ?_⟩
            have d3 : done 3 = true := by first | exact hdep ⟨3, .data⟩ (by simp) rfl | exact hdep ⟨3, .phase⟩ (by simp) rfl
            have e3 := hev 3 _ 44 rfl rfl (by simp) d3
            have k3 := hok 3 (by decide) d3
            replace k3 : val 3 = (.pointer (some ⟨p, 3, none⟩)) := k3
            rw [k3] at e3
            clear k3
            simp [Act.eval] at e3
            clear d3
            clear hdep hev hout hok hge9
            have z0 := hE9.cell x3
            refine step_val (w'' := w9) ?_ (Ext.refl _)
            go_simp
          | 5, _ =>
            refine .inr ⟨_, rfl, .inl rfl, ?_⟩
            intro a w9 done val G H hdn hdep hev hout hE9 hok hge9
            refine ⟨(fun v b hb => by cases hb), ?_⟩
            have d4 : done 4 = true := by first | exact hdep ⟨4, .data⟩ (by simp) rfl | exact hdep ⟨4, .phase⟩ (by simp) rfl
            have e4 := hev 4 _ 45 rfl rfl (by simp) d4
            have k4 := hok 4 (by decide) d4
            replace k4 : val 4 = (.string ⟨by_.toArray⟩) := k4
            rw [k4] at e4
            clear k4
            simp [Act.eval] at e4
            clear d4
            clear hdep hev hout hok hge9
            exact step_go 51 #[.tmp 45] #[9] rfl Tryz.func51 (by kernel_rfl) (by kernel_rfl) _ (by simp [Act.eval, e4]; try rfl) (qW.out w9)
          | 6, _ =>
            refine .inr ⟨_, rfl, .inl rfl, ?_⟩
            intro a w9 done val G H hdn hdep hev hout hE9 hok hge9
            refine ⟨(fun v b hb => by cases hb), ?_⟩
            have d2 : done 2 = true := by first | exact hdep ⟨2, .data⟩ (by simp) rfl | exact hdep ⟨2, .phase⟩ (by simp) rfl
            have e2 := hev 2 _ 43 rfl rfl (by simp) d2
            have k2 := hok 2 (by decide) d2
            replace k2 : val 2 = (.string ⟨it.toArray⟩) := k2
            rw [k2] at e2
            clear k2
            simp [Act.eval] at e2
            clear d2
            have d5 : done 5 = true := by first | exact hdep ⟨5, .data⟩ (by simp) rfl | exact hdep ⟨5, .phase⟩ (by simp) rfl
            have e5 := hev 5 _ 46 rfl rfl (by simp) d5
            have k5 := hok 5 (by decide) d5
            replace k5 : val 5 = (.string ⟨wd.toArray⟩) := k5
            rw [k5] at e5
            clear k5
            simp [Act.eval] at e5
            clear d5
            clear hdep hev hout hok hge9
            unfold StepW
            refine step_mk (v := .slice (some ⟨w9.heap.size, 0, none⟩) 3 3) ?_ (Nat.le_refl _) ((Ext.refl w9).alloc _) (Blk.new w9 _ _) (fun g => .slice (some ⟨g, 0, none⟩) 3 3) rfl
            go_simp
          | 7, _ =>
            refine .inr ⟨_, rfl, .inl rfl, ?_⟩
            intro a w9 done val G H hdn hdep hev hout hE9 hok hge9
            refine ⟨(fun v b hb => by cases hb), ?_⟩
            have d6 : done 6 = true := by first | exact hdep ⟨6, .data⟩ (by simp) rfl | exact hdep ⟨6, .phase⟩ (by simp) rfl
            have e6 := hev 6 _ 47 rfl rfl (by simp) d6
            have k6 := hok 6 (by decide) d6
            obtain ⟨⟨k6, B6⟩, _⟩ := k6
            rw [k6] at e6
            clear k6
            have g6 := (hge9 6 (by decide) d6 rfl).1
            simp [Act.eval] at e6
            clear d6
            clear hdep hev hout hok hge9
            exact step_go 48 #[.tmp 47] #[63] rfl Tryz.func48 (by kernel_rfl) (by kernel_rfl) _ (by simp [Act.eval, e6]; try rfl) (qL.out _ w9 B6)
          | 8, _ =>
            refine .inr ⟨_, rfl, .inl rfl, ?_⟩
            intro a w9 done val G H hdn hdep hev hout hE9 hok hge9
            refine ⟨(fun v b hb => by cases hb), ?_⟩
            have u5 : a.eval (.tmp 5) = .bool true := (hout 5 (by kernel_rfl)).trans rfl
            simp [Act.eval] at u5
            clear hdep hev hout hok hge9
            refine step_val (w'' := w9) ?_ (Ext.refl _)
            go_simp
          | 9, _ =>
            refine .inr ⟨_, rfl, .inl rfl, ?_⟩
            intro a w9 done val G H hdn hdep hev hout hE9 hok hge9
            refine ⟨(fun v b hb => by cases hb), ?_⟩
            have d8 : done 8 = true := by first | exact hdep ⟨8, .data⟩ (by simp) rfl | exact hdep ⟨8, .phase⟩ (by simp) rfl
            have e8 := hev 8 _ 49 rfl rfl (by simp) d8
            have k8 := hok 8 (by decide) d8
            replace k8 : val 8 = (.bool true) := k8
            rw [k8] at e8
            clear k8
            simp [Act.eval] at e8
            clear d8
            clear hdep hev hout hok hge9
            refine step_val (w'' := w9) ?_ (Ext.refl _)
            go_simp
          | 10, _ =>
            refine .inr ⟨_, rfl, .inr ⟨9, true, _, 50, rfl, rfl, rfl, (by simp), (by decide), rfl, (by simp [Region.binds])⟩, ?_⟩
            intro a w9 done val G H hdn hdep hev hout hE9 hok hge9
            refine ⟨(fun v b hb => by cases hb), ?_⟩
            have u1 : a.eval (.tmp 1) = .pointer (some ⟨p, 0, none⟩) := (hout 1 (by kernel_rfl)).trans rfl
            simp [Act.eval] at u1
            clear hdep hev hout hok hge9
            refine step_val (w'' := w9) ?_ (Ext.refl _)
            go_simp
          | 11, _ =>
            refine .inr ⟨_, rfl, .inr ⟨9, true, _, 50, rfl, rfl, rfl, (by simp), (by decide), rfl, (by simp [Region.binds])⟩, ?_⟩
            intro a w9 done val G H hdn hdep hev hout hE9 hok hge9
            refine ⟨(fun v b hb => by cases hb), ?_⟩
            have d10 : done 10 = true := by first | exact hdep ⟨10, .data⟩ (by simp) rfl | exact hdep ⟨10, .phase⟩ (by simp) rfl
            have e10 := hev 10 _ 51 rfl rfl (by simp) d10
            have k10 := hok 10 (by decide) d10
            replace k10 : val 10 = (.pointer (some ⟨p, 3, none⟩)) := k10
            rw [k10] at e10
            clear k10
            simp [Act.eval] at e10
            clear d10
            clear hdep hev hout hok hge9
            have z0 := hE9.cell x3
            refine step_val (w'' := w9) ?_ (Ext.refl _)
            go_simp
          | 12, _ =>
            refine .inr ⟨_, rfl, .inr ⟨9, true, _, 50, rfl, rfl, rfl, (by simp), (by decide), rfl, (by simp [Region.binds])⟩, ?_⟩
            intro a w9 done val G H hdn hdep hev hout hE9 hok hge9
            refine ⟨(fun v b hb => by cases hb), ?_⟩
            have d11 : done 11 = true := by first | exact hdep ⟨11, .data⟩ (by simp) rfl | exact hdep ⟨11, .phase⟩ (by simp) rfl
            have e11 := hev 11 _ 52 rfl rfl (by simp) d11
            have k11 := hok 11 (by decide) d11
            replace k11 : val 11 = (.string ⟨by_.toArray⟩) := k11
            rw [k11] at e11
            clear k11
            simp [Act.eval] at e11
            clear d11
            clear hdep hev hout hok hge9
            refine step_val (w'' := w9) ?_ (Ext.refl _)
            go_simp
          | 13, _ =>
            refine .inr ⟨_, rfl, .inr ⟨9, true, _, 50, rfl, rfl, rfl, (by simp), (by decide), rfl, (by simp [Region.binds])⟩, ?_⟩
            intro a w9 done val G H hdn hdep hev hout hE9 hok hge9
            refine ⟨(fun v b hb => by cases hb), ?_⟩
            have d12 : done 12 = true := by first | exact hdep ⟨12, .data⟩ (by simp) rfl | exact hdep ⟨12, .phase⟩ (by simp) rfl
            have e12 := hev 12 _ 53 rfl rfl (by simp) d12
            have k12 := hok 12 (by decide) d12
            replace k12 : val 12 = (.int .i64 (by_.length : Int)) := k12
            rw [k12] at e12
            clear k12
            simp [Act.eval] at e12
            clear d12
            clear hdep hev hout hok hge9
            refine step_val (w'' := w9) ?_ (Ext.refl _)
            go_simp
          | 14, _ =>
            refine .inr ⟨_, rfl, .inl rfl, ?_⟩
            intro a w9 done val G H hdn hdep hev hout hE9 hok hge9
            refine ⟨(fun v b hb => by cases hb), ?_⟩
            have d9 : done 9 = true := by first | exact hdep ⟨9, .data⟩ (by simp) rfl | exact hdep ⟨9, .phase⟩ (by simp) rfl
            have e9 := hev 9 _ 50 rfl rfl (by simp) d9
            have k9 := hok 9 (by decide) d9
            replace k9 : val 9 = (.bool true) := k9
            rw [k9] at e9
            clear k9
            simp [Act.eval] at e9
            clear d9
            have d13 : done 13 = true := by first | exact hdep ⟨13, .data⟩ (by simp) rfl | exact hdep ⟨13, .phase⟩ (by simp) rfl
            have e13 := hev 13 _ 54 rfl rfl (by simp) d13
            have k13 := hok 13 (by decide) d13
            replace k13 : val 13 = (.bool lb) := k13
            rw [k13] at e13
            clear k13
            simp [Act.eval] at e13
            clear d13
            clear hdep hev hout hok hge9
            refine step_val (w'' := w9) ?_ (Ext.refl _)
            go_simp
          | 15, _ =>
            refine .inr ⟨_, rfl, .inl rfl, ?_⟩
            intro a w9 done val G H hdn hdep hev hout hE9 hok hge9
            refine ⟨(fun v b hb => by cases hb), ?_⟩
            have d7 : done 7 = true := by first | exact hdep ⟨7, .data⟩ (by simp) rfl | exact hdep ⟨7, .phase⟩ (by simp) rfl
            have e7 := hev 7 _ 48 rfl rfl (by simp) d7
            have k7 := hok 7 (by decide) d7
            replace k7 : val 7 = (.string ⟨J.toArray⟩) := k7
            rw [k7] at e7
            clear k7
            simp [Act.eval] at e7
            clear d7
            clear hdep hev hout hok hge9
            refine step_val (w'' := w9) ?_ (Ext.refl _)
            go_simp
          | 16, _ =>
            refine .inr ⟨_, rfl, .inl rfl, ?_⟩
            intro a w9 done val G H hdn hdep hev hout hE9 hok hge9
            refine ⟨(fun v b hb => by cases hb), ?_⟩
            have d14 : done 14 = true := by first | exact hdep ⟨14, .data⟩ (by simp) rfl | exact hdep ⟨14, .phase⟩ (by simp) rfl
            have e14 := hev 14 _ 55 rfl rfl (by simp) d14
            have k14 := hok 14 (by decide) d14
            replace k14 : val 14 = (.bool lb) := k14
            rw [k14] at e14
            clear k14
            simp [Act.eval] at e14
            clear d14
            clear hdep hev hout hok hge9
            refine step_val (w'' := w9) ?_ (Ext.refl _)
            go_simp
          | i + 17, h => exact absurd h (by omega)
        case restBt =>
          rintro done val W9 hall ⟨⟨hE9, G, H, hok, hge, hdis, _⟩, _⟩
          replace hall : ∀ i, i < 17 → done i = true := hall
          have e0 := hall 0 (by decide)
          have e1 := hall 1 (by decide)
          have e2 := hall 2 (by decide)
          have e3 := hall 3 (by decide)
          have e4 := hall 4 (by decide)
          have e5 := hall 5 (by decide)
          have e6 := hall 6 (by decide)
          have e7 := hall 7 (by decide)
          have e8 := hall 8 (by decide)
          have e9 := hall 9 (by decide)
          have e10 := hall 10 (by decide)
          have e11 := hall 11 (by decide)
          have e12 := hall 12 (by decide)
          have e13 := hall 13 (by decide)
          have e14 := hall 14 (by decide)
          have e15 := hall 15 (by decide)
          have e16 := hall 16 (by decide)
          have k0 := hok 0 (by decide) e0
          replace k0 : val 0 = (.pointer (some ⟨p, 1, none⟩)) := k0
          have k1 := hok 1 (by decide) e1
          replace k1 : val 1 = (.int .i64 cn) := k1
          have k2 := hok 2 (by decide) e2
          replace k2 : val 2 = (.string ⟨it.toArray⟩) := k2
          have k3 := hok 3 (by decide) e3
          replace k3 : val 3 = (.pointer (some ⟨p, 3, none⟩)) := k3
          have k4 := hok 4 (by decide) e4
          replace k4 : val 4 = (.string ⟨by_.toArray⟩) := k4
          have k5 := hok 5 (by decide) e5
          replace k5 : val 5 = (.string ⟨wd.toArray⟩) := k5
          have k6 := hok 6 (by decide) e6
          obtain ⟨⟨k6, B6⟩, z6⟩ := k6
          have G6 := hge 6 (by decide) e6 rfl
          rw [z6] at G6
          have k7 := hok 7 (by decide) e7
          replace k7 : val 7 = (.string ⟨J.toArray⟩) := k7
          have k8 := hok 8 (by decide) e8
          replace k8 : val 8 = (.bool true) := k8
          have k9 := hok 9 (by decide) e9
          replace k9 : val 9 = (.bool true) := k9
          have k10 := hok 10 (by decide) e10
          replace k10 : val 10 = (.pointer (some ⟨p, 3, none⟩)) := k10
          have k11 := hok 11 (by decide) e11
          replace k11 : val 11 = (.string ⟨by_.toArray⟩) := k11
          have k12 := hok 12 (by decide) e12
          replace k12 : val 12 = (.int .i64 (by_.length : Int)) := k12
          have k13 := hok 13 (by decide) e13
          replace k13 : val 13 = (.bool lb) := k13
          have k14 := hok 14 (by decide) e14
          replace k14 : val 14 = (.bool lb) := k14
          have k15 := hok 15 (by decide) e15
          replace k15 : val 15 = (.string ⟨J.toArray⟩) := k15
          have k16 := hok 16 (by decide) e16
          replace k16 : val 16 = (.bool lb) := k16
          clear hok hge hdis hall
          simp only [putD, e0, e1, e2, e3, e4, e5, e6, e7, e8, e9, e10, e11, e12, e13, e14, e15, e16, if_true, Nat.zero_add, Nat.reduceAdd, k0, k1, k2, k3, k4, k5, k6, k7, k8, k9, k10, k11, k12, k13, k14, k15, k16]
          clear e0 e1 e2 e3 e4 e5 e6 e7 e8 e9 e10 e11 e12 e13 e14 e15 e16 k0 k1 k2 k3 k4 k5 k6 k7 k8 k9 k10 k11 k12 k13 k14 k15 k16 z6
          generalize G 6 = g_6 at *
          have gd9 := hide (gd.out.ext hE9)
          clear hE9
          go_wp2_with fail
          go_meet
          case rel => exact ⟨J, lb, ⟨2, cn, [], by_, 0⟩, by first | rfl | simp, by first | rfl | simp, gd9.out, hok.out⟩
      | false =>
        have hok2 := hok.out
        rw [Bool.false_and] at hok2
        clear hok
        replace hok := hide hok2
        clear hok2
        refine wp_region_JS (J := JV V3 _ (fun i => match i with | 0 => .val (.pointer (some ⟨p, 1, none⟩)) | 1 => .val (.int .i64 cn) | 2 => .val (.string ⟨it.toArray⟩) | 3 => .val (.pointer (some ⟨p, 3, none⟩)) | 4 => .val (.string ⟨by_.toArray⟩) | 5 => .val (.string ⟨wd.toArray⟩) | 6 => .mk (fun g => .slice (some ⟨g, 0, none⟩) 3 3) 9 #[.string ⟨#[100, 97, 116, 97]⟩, .string ⟨it.toArray⟩, .string ⟨wd.toArray⟩] | 7 => .val (.string ⟨J.toArray⟩) | 8 => .val (.bool false) | 9 => .val (.bool false) | 10 => .val undef | 11 => .val undef | 12 => .val undef | 13 => .val undef | 14 => .val (.bool false) | 15 => .val (.string ⟨J.toArray⟩) | 16 => .val (.bool false) | _ => .val undef)) mixed (by kernel_rfl) (by kernel_rfl) (fun _ => undef) (JV.start _ _ _ _) (JW.keepsS (by kernel_rfl) ?anysBf ?fillBf ?boxBf ?stepsBf) ?restBf
        case anysBf =>
          intro i R hi hR
          replace hi : i < 17 := hi
          match i, hi, hR with
          | 0, _, hR => cases hR
          | 1, _, hR => cases hR
          | 2, _, hR => cases hR
          | 3, _, hR => cases hR
          | 4, _, hR => cases hR
          | 5, _, hR => cases hR
          | 6, _, hR => cases hR
          | 7, _, hR => cases hR
          | 8, _, hR => cases hR
          | 9, _, hR => cases hR
          | 10, _, hR => cases hR
          | 11, _, hR => cases hR
          | 12, _, hR => cases hR
          | 13, _, hR => cases hR
          | 14, _, hR => cases hR
          | 15, _, hR => cases hR
          | 16, _, hR => cases hR
          | i + 17, h, _ => exact absurd h (by omega)
        case fillBf =>
          intro i b hi hb
          replace hi : i < 17 := hi
          match i, hi, hb with
          | 0, _, hb => cases hb
          | 1, _, hb => cases hb
          | 2, _, hb => cases hb
          | 3, _, hb => cases hb
          | 4, _, hb => cases hb
          | 5, _, hb => cases hb
          | 6, _, hb => cases hb
          | 7, _, hb => cases hb
          | 8, _, hb => cases hb
          | 9, _, hb => cases hb
          | 10, _, hb => cases hb
          | 11, _, hb => cases hb
          | 12, _, hb => cases hb
          | 13, _, hb => cases hb
          | 14, _, hb => cases hb
          | 15, _, hb => cases hb
          | 16, _, hb => cases hb
          | i + 17, h, _ => exact absurd h (by omega)
        case boxBf =>
          intro b st t z cs hi hb
          replace hi : b < 17 := hi
          match b, hi, hb with
          | 0, _, hb => cases hb
          | 1, _, hb => cases hb
          | 2, _, hb => cases hb
          | 3, _, hb => cases hb
          | 4, _, hb => cases hb
          | 5, _, hb => cases hb
          | 6, _, hb => cases hb
          | 7, _, hb => cases hb
          | 8, _, hb => cases hb
          | 9, _, hb => cases hb
          | 10, _, hb => cases hb
          | 11, _, hb => cases hb
          | 12, _, hb => cases hb
          | 13, _, hb => cases hb
          | 14, _, hb => cases hb
          | 15, _, hb => cases hb
          | 16, _, hb => cases hb
          | i + 17, h, _ => exact absurd h (by omega)
        case stepsBf =>
          intro i hi
          replace hi : i < 17 := hi
          match i, hi with
          | 0, _ =>
            refine .inr ⟨_, rfl, .inl rfl, ?_⟩
            intro a w9 done val G H hdn hdep hev hout hE9 hok hge9
            refine ⟨(fun v b hb => by cases hb), ?_⟩
            have u1 : a.eval (.tmp 1) = .pointer (some ⟨p, 0, none⟩) := (hout 1 (by kernel_rfl)).trans rfl
            simp [Act.eval] at u1
            clear hdep hev hout hok hge9
            refine step_val (w'' := w9) ?_ (Ext.refl _)
            go_simp
          | 1, _ =>
            refine .inr ⟨_, rfl, .inl rfl, ?_⟩
            intro a w9 done val G H hdn hdep hev hout hE9 hok hge9
            refine ⟨(fun v b hb => by cases hb), ?_⟩
            have d0 : done 0 = true := by first | exact hdep ⟨0, .data⟩ (by simp) rfl | exact hdep ⟨0, .phase⟩ (by simp) rfl
            have e0 := hev 0 _ 41 rfl rfl (by simp) d0
            have k0 := hok 0 (by decide) d0
            replace k0 : val 0 = (.pointer (some ⟨p, 1, none⟩)) := k0
            rw [k0] at e0
            clear k0
            simp [Act.eval] at e0
            clear d0
            clear hdep hev hout hok hge9
            have z0 := hE9.cell x1
            refine step_val (w'' := w9) ?_ (Ext.refl _)
            go_simp
          | 2, _ =>
            refine .inr ⟨_, rfl, .inl rfl, ?_⟩
            intro a w9 done val G H hdn hdep hev hout hE9 hok hge9
            refine ⟨(fun v b hb => by cases hb), ?_⟩
            have d1 : done 1 = true := by first | exact hdep ⟨1, .data⟩ (by simp) rfl | exact hdep ⟨1, .phase⟩ (by simp) rfl
            have e1 := hev 1 _ 42 rfl rfl (by simp) d1
            have k1 := hok 1 (by decide) d1
            replace k1 : val 1 = (.int .i64 cn) := k1
            rw [k1] at e1
            clear k1
            simp [Act.eval] at e1
            clear d1
            clear hdep hev hout hok hge9
            exact step_go 50 #[.tmp 42] #[3] rfl Tryz.func50 (by kernel_rfl) (by kernel_rfl) _ (by simp [Act.eval, e1]; try rfl) (qI.out w9 (gd.out.ext hE9))
          | 3, _ =>
            refine .inr ⟨_, rfl, .inl rfl, ?_⟩
            intro a w9 done val G H hdn hdep hev hout hE9 hok hge9
            refine ⟨(fun v b hb => by cases hb), ?_⟩
            have u1 : a.eval (.tmp 1) = .pointer (some ⟨p, 0, none⟩) := (hout 1 (by kernel_rfl)).trans rfl
            simp [Act.eval] at u1
            clear hdep hev hout hok hge9
            refine step_val (w'' := w9) ?_ (Ext.refl _)
            go_simp
          | 4, _ =>
            refine .inr ⟨_, rfl, .inl rfl, ?_⟩
            intro a w9 done val G H hdn hdep hev hout hE9 hok hge9
            refine ⟨(fun v b hb => by cases hb), ?_⟩
            have d3 : done 3 = true := by first | exact hdep ⟨3, .data⟩ (by simp) rfl | exact hdep ⟨3, .phase⟩ (by simp) rfl
            have e3 := hev 3 _ 44 rfl rfl (by simp) d3
            have k3 := hok 3 (by decide) d3
            replace k3 : val 3 = (.pointer (some ⟨p, 3, none⟩)) := k3
            rw [k3] at e3
            clear k3
            simp [Act.eval] at e3
            clear d3
            clear hdep hev hout hok hge9
            have z0 := hE9.cell x3
            refine step_val (w'' := w9) ?_ (Ext.refl _)
            go_simp
          | 5, _ =>
            refine .inr ⟨_, rfl, .inl rfl, ?_⟩
            intro a w9 done val G H hdn hdep hev hout hE9 hok hge9
            refine ⟨(fun v b hb => by cases hb), ?_⟩
            have d4 : done 4 = true := by first | exact hdep ⟨4, .data⟩ (by simp) rfl | exact hdep ⟨4, .phase⟩ (by simp) rfl
            have e4 := hev 4 _ 45 rfl rfl (by simp) d4
            have k4 := hok 4 (by decide) d4
            replace k4 : val 4 = (.string ⟨by_.toArray⟩) := k4
            rw [k4] at e4
            clear k4
            simp [Act.eval] at e4
            clear d4
            clear hdep hev hout hok hge9
            exact step_go 51 #[.tmp 45] #[9] rfl Tryz.func51 (by kernel_rfl) (by kernel_rfl) _ (by simp [Act.eval, e4]; try rfl) (qW.out w9)
          | 6, _ =>
            refine .inr ⟨_, rfl, .inl rfl, ?_⟩
            intro a w9 done val G H hdn hdep hev hout hE9 hok hge9
            refine ⟨(fun v b hb => by cases hb), ?_⟩
            have d2 : done 2 = true := by first | exact hdep ⟨2, .data⟩ (by simp) rfl | exact hdep ⟨2, .phase⟩ (by simp) rfl
            have e2 := hev 2 _ 43 rfl rfl (by simp) d2
            have k2 := hok 2 (by decide) d2
            replace k2 : val 2 = (.string ⟨it.toArray⟩) := k2
            rw [k2] at e2
            clear k2
            simp [Act.eval] at e2
            clear d2
            have d5 : done 5 = true := by first | exact hdep ⟨5, .data⟩ (by simp) rfl | exact hdep ⟨5, .phase⟩ (by simp) rfl
            have e5 := hev 5 _ 46 rfl rfl (by simp) d5
            have k5 := hok 5 (by decide) d5
            replace k5 : val 5 = (.string ⟨wd.toArray⟩) := k5
            rw [k5] at e5
            clear k5
            simp [Act.eval] at e5
            clear d5
            clear hdep hev hout hok hge9
            unfold StepW
            refine step_mk (v := .slice (some ⟨w9.heap.size, 0, none⟩) 3 3) ?_ (Nat.le_refl _) ((Ext.refl w9).alloc _) (Blk.new w9 _ _) (fun g => .slice (some ⟨g, 0, none⟩) 3 3) rfl
            go_simp
          | 7, _ =>
            refine .inr ⟨_, rfl, .inl rfl, ?_⟩
            intro a w9 done val G H hdn hdep hev hout hE9 hok hge9
            refine ⟨(fun v b hb => by cases hb), ?_⟩
            have d6 : done 6 = true := by first | exact hdep ⟨6, .data⟩ (by simp) rfl | exact hdep ⟨6, .phase⟩ (by simp) rfl
            have e6 := hev 6 _ 47 rfl rfl (by simp) d6
            have k6 := hok 6 (by decide) d6
            obtain ⟨⟨k6, B6⟩, _⟩ := k6
            rw [k6] at e6
            clear k6
            have g6 := (hge9 6 (by decide) d6 rfl).1
            simp [Act.eval] at e6
            clear d6
            clear hdep hev hout hok hge9
            exact step_go 48 #[.tmp 47] #[63] rfl Tryz.func48 (by kernel_rfl) (by kernel_rfl) _ (by simp [Act.eval, e6]; try rfl) (qL.out _ w9 B6)
          | 8, _ =>
            refine .inr ⟨_, rfl, .inl rfl, ?_⟩
            intro a w9 done val G H hdn hdep hev hout hE9 hok hge9
            refine ⟨(fun v b hb => by cases hb), ?_⟩
            have u5 : a.eval (.tmp 5) = .bool false := (hout 5 (by kernel_rfl)).trans rfl
            simp [Act.eval] at u5
            clear hdep hev hout hok hge9
            refine step_val (w'' := w9) ?_ (Ext.refl _)
            go_simp
          | 9, _ =>
            refine .inr ⟨_, rfl, .inl rfl, ?_⟩
            intro a w9 done val G H hdn hdep hev hout hE9 hok hge9
            refine ⟨(fun v b hb => by cases hb), ?_⟩
            have d8 : done 8 = true := by first | exact hdep ⟨8, .data⟩ (by simp) rfl | exact hdep ⟨8, .phase⟩ (by simp) rfl
            have e8 := hev 8 _ 49 rfl rfl (by simp) d8
            have k8 := hok 8 (by decide) d8
            replace k8 : val 8 = (.bool false) := k8
            rw [k8] at e8
            clear k8
            simp [Act.eval] at e8
            clear d8
            clear hdep hev hout hok hge9
            refine step_val (w'' := w9) ?_ (Ext.refl _)
            go_simp
          | 10, _ =>
            exact .inl ⟨_, rfl, ⟨9, true, _, 50, rfl, rfl, rfl, (by simp), (by decide), .inl rfl, (by simp [Region.binds])⟩, rfl⟩
          | 11, _ =>
            exact .inl ⟨_, rfl, ⟨9, true, _, 50, rfl, rfl, rfl, (by simp), (by decide), .inl rfl, (by simp [Region.binds])⟩, rfl⟩
          | 12, _ =>
            exact .inl ⟨_, rfl, ⟨9, true, _, 50, rfl, rfl, rfl, (by simp), (by decide), .inl rfl, (by simp [Region.binds])⟩, rfl⟩
          | 13, _ =>
            exact .inl ⟨_, rfl, ⟨9, true, _, 50, rfl, rfl, rfl, (by simp), (by decide), .inl rfl, (by simp [Region.binds])⟩, rfl⟩
          | 14, _ =>
            refine .inr ⟨_, rfl, .inl rfl, ?_⟩
            intro a w9 done val G H hdn hdep hev hout hE9 hok hge9
            refine ⟨(fun v b hb => by cases hb), ?_⟩
            have d9 : done 9 = true := by first | exact hdep ⟨9, .data⟩ (by simp) rfl | exact hdep ⟨9, .phase⟩ (by simp) rfl
            have e9 := hev 9 _ 50 rfl rfl (by simp) d9
            have k9 := hok 9 (by decide) d9
            replace k9 : val 9 = (.bool false) := k9
            rw [k9] at e9
            clear k9
            simp [Act.eval] at e9
            clear d9
            have d13 : done 13 = true := by first | exact hdep ⟨13, .data⟩ (by simp) rfl | exact hdep ⟨13, .phase⟩ (by simp) rfl
            have e13 := hev 13 _ 54 rfl rfl (by simp) d13
            have k13 := hok 13 (by decide) d13
            replace k13 : val 13 = undef := k13
            rw [k13] at e13
            clear k13
            simp [Act.eval] at e13
            clear d13
            clear hdep hev hout hok hge9
            refine step_val (w'' := w9) ?_ (Ext.refl _)
            go_simp
          | 15, _ =>
            refine .inr ⟨_, rfl, .inl rfl, ?_⟩
            intro a w9 done val G H hdn hdep hev hout hE9 hok hge9
            refine ⟨(fun v b hb => by cases hb), ?_⟩
            have d7 : done 7 = true := by first | exact hdep ⟨7, .data⟩ (by simp) rfl | exact hdep ⟨7, .phase⟩ (by simp) rfl
            have e7 := hev 7 _ 48 rfl rfl (by simp) d7
            have k7 := hok 7 (by decide) d7
            replace k7 : val 7 = (.string ⟨J.toArray⟩) := k7
            rw [k7] at e7
            clear k7
            simp [Act.eval] at e7
            clear d7
            clear hdep hev hout hok hge9
            refine step_val (w'' := w9) ?_ (Ext.refl _)
            go_simp
          | 16, _ =>
            refine .inr ⟨_, rfl, .inl rfl, ?_⟩
            intro a w9 done val G H hdn hdep hev hout hE9 hok hge9
            refine ⟨(fun v b hb => by cases hb), ?_⟩
            have d14 : done 14 = true := by first | exact hdep ⟨14, .data⟩ (by simp) rfl | exact hdep ⟨14, .phase⟩ (by simp) rfl
            have e14 := hev 14 _ 55 rfl rfl (by simp) d14
            have k14 := hok 14 (by decide) d14
            replace k14 : val 14 = (.bool false) := k14
            rw [k14] at e14
            clear k14
            simp [Act.eval] at e14
            clear d14
            clear hdep hev hout hok hge9
            refine step_val (w'' := w9) ?_ (Ext.refl _)
            go_simp
          | i + 17, h => exact absurd h (by omega)
        case restBf =>
          rintro done val W9 hall ⟨⟨hE9, G, H, hok, hge, hdis, _⟩, _⟩
          replace hall : ∀ i, i < 17 → done i = true := hall
          have e0 := hall 0 (by decide)
          have e1 := hall 1 (by decide)
          have e2 := hall 2 (by decide)
          have e3 := hall 3 (by decide)
          have e4 := hall 4 (by decide)
          have e5 := hall 5 (by decide)
          have e6 := hall 6 (by decide)
          have e7 := hall 7 (by decide)
          have e8 := hall 8 (by decide)
          have e9 := hall 9 (by decide)
          have e10 := hall 10 (by decide)
          have e11 := hall 11 (by decide)
          have e12 := hall 12 (by decide)
          have e13 := hall 13 (by decide)
          have e14 := hall 14 (by decide)
          have e15 := hall 15 (by decide)
          have e16 := hall 16 (by decide)
          have k0 := hok 0 (by decide) e0
          replace k0 : val 0 = (.pointer (some ⟨p, 1, none⟩)) := k0
          have k1 := hok 1 (by decide) e1
          replace k1 : val 1 = (.int .i64 cn) := k1
          have k2 := hok 2 (by decide) e2
          replace k2 : val 2 = (.string ⟨it.toArray⟩) := k2
          have k3 := hok 3 (by decide) e3
          replace k3 : val 3 = (.pointer (some ⟨p, 3, none⟩)) := k3
          have k4 := hok 4 (by decide) e4
          replace k4 : val 4 = (.string ⟨by_.toArray⟩) := k4
          have k5 := hok 5 (by decide) e5
          replace k5 : val 5 = (.string ⟨wd.toArray⟩) := k5
          have k6 := hok 6 (by decide) e6
          obtain ⟨⟨k6, B6⟩, z6⟩ := k6
          have G6 := hge 6 (by decide) e6 rfl
          rw [z6] at G6
          have k7 := hok 7 (by decide) e7
          replace k7 : val 7 = (.string ⟨J.toArray⟩) := k7
          have k8 := hok 8 (by decide) e8
          replace k8 : val 8 = (.bool false) := k8
          have k9 := hok 9 (by decide) e9
          replace k9 : val 9 = (.bool false) := k9
          have k10 := hok 10 (by decide) e10
          replace k10 : val 10 = undef := k10
          have k11 := hok 11 (by decide) e11
          replace k11 : val 11 = undef := k11
          have k12 := hok 12 (by decide) e12
          replace k12 : val 12 = undef := k12
          have k13 := hok 13 (by decide) e13
          replace k13 : val 13 = undef := k13
          have k14 := hok 14 (by decide) e14
          replace k14 : val 14 = (.bool false) := k14
          have k15 := hok 15 (by decide) e15
          replace k15 : val 15 = (.string ⟨J.toArray⟩) := k15
          have k16 := hok 16 (by decide) e16
          replace k16 : val 16 = (.bool false) := k16
          clear hok hge hdis hall
          simp only [putD, e0, e1, e2, e3, e4, e5, e6, e7, e8, e9, e10, e11, e12, e13, e14, e15, e16, if_true, Nat.zero_add, Nat.reduceAdd, k0, k1, k2, k3, k4, k5, k6, k7, k8, k9, k10, k11, k12, k13, k14, k15, k16]
          clear e0 e1 e2 e3 e4 e5 e6 e7 e8 e9 e10 e11 e12 e13 e14 e15 e16 k0 k1 k2 k3 k4 k5 k6 k7 k8 k9 k10 k11 k12 k13 k14 k15 k16 z6
          generalize G 6 = g_6 at *
          have gd9 := hide (gd.out.ext hE9)
          clear hE9
          go_wp2_with fail
          go_meet
          case rel => exact ⟨J, false, ⟨2, cn, [], by_, 0⟩, by first | rfl | simp, by first | rfl | simp, gd9.out, hok.out⟩
    have g2 : (kd == 2) = false := beq_eq_false_iff_ne.2 hk2
    have g2b : decide (kd = 2) = false := decide_eq_false hk2
    by_cases hk3 : kd = 3
    · subst hk3
      have gd : GdO w p ⟨3, cn, pr, by_, er⟩ ⟨3, cn, [], [], 0⟩ (V2.setCell ⟨p + 1, 1, none⟩ (.int .i64 cn)) := ⟨(A.out.far (p := ⟨p + 1, 1, none⟩) (show p ≠ p + 1 by omega) (.int .i64 cn)), (B.out.set_ 1 (.int .i64 cn)), (E2.out.setCell (p := ⟨p + 1, 1, none⟩) hpw (.int .i64 cn))⟩
      have hok := outT3 cn pr by_ er
      obtain ⟨V3, hV3⟩ : ∃ V3, (V2.setCell ⟨p + 1, 1, none⟩ (.int .i64 cn)) = V3 := ⟨_, rfl⟩
      rw [hV3] at gd
      replace gd := hide gd
      replace hok := hide hok
      replace hV3 := hide hV3
      replace hok := hok.out
      have qI := fun W (h : GdO w p ⟨3, cn, pr, by_, er⟩ ⟨3, cn, [], [], 0⟩ W) => ItoaI_any cn h1.out W (hT.ext h.e)
      have hil := itoa_len cn h1.out
      obtain ⟨it, hit⟩ : ∃ it, Lib.itoa cn = it := ⟨_, rfl⟩
      rw [hit] at qI hil hok
      clear hit
      obtain ⟨J, hJ⟩ : ∃ J, Lib.join [[99, 108, 111, 115, 101], it] [32] = J := ⟨_, rfl⟩
      have qL := fun g W (hb : Blk W g 9 #[.string ⟨#[99, 108, 111, 115, 101]⟩, .string ⟨it.toArray⟩]) => SLineB_any g W [[99, 108, 111, 115, 101], it] 2 2 rfl (by decide) (by decide) (by rw [join2_len]; skip; simp only [List.length_cons, List.length_nil]; omega) #[.string ⟨#[99, 108, 111, 115, 101]⟩, .string ⟨it.toArray⟩] rfl J hJ hb
      rw [hJ] at hok
      clear hJ
      replace qL := hide qL
      replace qI := hide qI
      replace hok := hide hok
      clear hil
      go_upto_region 14 with fail
      rw [hV3.out]
      have x1 : V3.cell? ⟨p, 1, none⟩ = some (.int .i64 cn) := gd.out.a.cell 1
      clear hV3 c0 c1 c2 c3 c4 d1 d2 d3 d4
      go_wp2_with (first | (go_at_call 48; refine (qL.out _ _ (by first | exact Blk.new _ _ _ | exact (Blk.new _ _ _).drew | exact (Blk.new _ _ _).drewN _ | exact (Blk.new _ _ _).ext he4.out | exact ((Blk.new _ _ _).drew).ext he4.out)).mono ?_; rintro e3 W3 ⟨rfl, he3⟩; have gd3 := hide (GdO.ext (by repeat (first | exact gd7.out | exact gd6.out | exact gd5.out | exact gd4.out | exact gd3.out | exact gd.out | apply GdO.alloc | apply GdO.drew | apply GdO.drewN)) he3);  replace he3 := hide he3) | (go_at_call 50; refine (qI.out _ (by repeat (first | exact gd7.out | exact gd6.out | exact gd5.out | exact gd4.out | exact gd3.out | exact gd.out | apply GdO.alloc | apply GdO.drew | apply GdO.drewN))).mono ?_; rintro e5 W5 ⟨rfl, he5⟩; have gd5 := hide (GdO.ext (by repeat (first | exact gd7.out | exact gd6.out | exact gd5.out | exact gd4.out | exact gd3.out | exact gd.out | apply GdO.alloc | apply GdO.drew | apply GdO.drewN)) he5);  replace he5 := hide he5))
      all_goals try go_meet
      all_goals (first | exact ⟨J, connOk cn, ⟨3, cn, [], [], 0⟩, by first | rfl | simp, by first | rfl | simp, gd3.out, hok.out⟩ | exact ⟨J, connOk cn, ⟨3, cn, [], [], 0⟩, by first | rfl | simp, by first | rfl | simp, gd4.out, hok.out⟩ | exact ⟨J, connOk cn, ⟨3, cn, [], [], 0⟩, by first | rfl | simp, by first | rfl | simp, gd5.out, hok.out⟩ | exact ⟨J, connOk cn, ⟨3, cn, [], [], 0⟩, by first | rfl | simp, by first | rfl | simp, gd6.out, hok.out⟩ | exact ⟨J, connOk cn, ⟨3, cn, [], [], 0⟩, by first | rfl | simp, by first | rfl | simp, gd.out, hok.out⟩)
    have g3 : (kd == 3) = false := beq_eq_false_iff_ne.2 hk3
    have g3b : decide (kd = 3) = false := decide_eq_false hk3
    by_cases hk4 : kd = 4
    · subst hk4
      have gd : GdO w p ⟨4, cn, pr, by_, er⟩ ⟨4, 0, [], by_, 0⟩ (V2.setCell ⟨p + 1, 3, none⟩ (.string ⟨by_.toArray⟩)) := ⟨(A.out.far (p := ⟨p + 1, 3, none⟩) (show p ≠ p + 1 by omega) (.string ⟨by_.toArray⟩)), (B.out.set_ 3 (.string ⟨by_.toArray⟩)), (E2.out.setCell (p := ⟨p + 1, 3, none⟩) hpw (.string ⟨by_.toArray⟩))⟩
      have hok := outT4 cn pr by_ er
      obtain ⟨V3, hV3⟩ : ∃ V3, (V2.setCell ⟨p + 1, 3, none⟩ (.string ⟨by_.toArray⟩)) = V3 := ⟨_, rfl⟩
      rw [hV3] at gd
      replace gd := hide gd
      replace hok := hide hok
      replace hV3 := hide hV3
      replace hok := hok.out
      have qW := fun W => SWord_any by_ h3.out W
      have hwl := wordB_len by_
      obtain ⟨wd, hwd⟩ : ∃ wd, wordB by_ = wd := ⟨_, rfl⟩
      rw [hwd] at qW hwl hok
      clear hwd
      obtain ⟨J, hJ⟩ : ∃ J, Lib.join [[114, 101, 112, 108, 121], wd] [32] = J := ⟨_, rfl⟩
      have qL := fun g W (hb : Blk W g 9 #[.string ⟨#[114, 101, 112, 108, 121]⟩, .string ⟨wd.toArray⟩]) => SLineB_any g W [[114, 101, 112, 108, 121], wd] 2 2 rfl (by decide) (by decide) (by rw [join2_len]; have := h3.out; simp only [List.length_cons, List.length_nil]; omega) #[.string ⟨#[114, 101, 112, 108, 121]⟩, .string ⟨wd.toArray⟩] rfl J hJ hb
      rw [hJ] at hok
      clear hJ
      replace qL := hide qL
      replace qW := hide qW
      replace hok := hide hok
      clear hwl
      go_upto_region 17 with fail
      rw [hV3.out]
      have x3 : V3.cell? ⟨p, 3, none⟩ = some (.string ⟨by_.toArray⟩) := gd.out.a.cell 3
      clear hV3 c0 c1 c2 c3 c4 d1 d2 d3 d4
      go_wp2_with (first | (go_at_call 48; refine (qL.out _ _ (by first | exact Blk.new _ _ _ | exact (Blk.new _ _ _).drew | exact (Blk.new _ _ _).drewN _ | exact (Blk.new _ _ _).ext he4.out | exact ((Blk.new _ _ _).drew).ext he4.out)).mono ?_; rintro e3 W3 ⟨rfl, he3⟩; have gd3 := hide (GdO.ext (by repeat (first | exact gd7.out | exact gd6.out | exact gd5.out | exact gd4.out | exact gd3.out | exact gd.out | apply GdO.alloc | apply GdO.drew | apply GdO.drewN)) he3);  replace he3 := hide he3) | (go_at_call 51; refine (qW.out _).mono ?_; rintro e6 W6 ⟨rfl, he6⟩; have gd6 := hide (GdO.ext (by repeat (first | exact gd7.out | exact gd6.out | exact gd5.out | exact gd4.out | exact gd3.out | exact gd.out | apply GdO.alloc | apply GdO.drew | apply GdO.drewN)) he6);  replace he6 := hide he6))
      all_goals try go_meet
      all_goals (first | exact ⟨J, true, ⟨4, 0, [], by_, 0⟩, by first | rfl | simp, by first | rfl | simp, gd3.out, hok.out⟩ | exact ⟨J, true, ⟨4, 0, [], by_, 0⟩, by first | rfl | simp, by first | rfl | simp, gd4.out, hok.out⟩ | exact ⟨J, true, ⟨4, 0, [], by_, 0⟩, by first | rfl | simp, by first | rfl | simp, gd5.out, hok.out⟩ | exact ⟨J, true, ⟨4, 0, [], by_, 0⟩, by first | rfl | simp, by first | rfl | simp, gd6.out, hok.out⟩ | exact ⟨J, true, ⟨4, 0, [], by_, 0⟩, by first | rfl | simp, by first | rfl | simp, gd.out, hok.out⟩)
    have g4 : (kd == 4) = false := beq_eq_false_iff_ne.2 hk4
    have g4b : decide (kd = 4) = false := decide_eq_false hk4
    by_cases hk5 : kd = 5
    · subst hk5
      have gd : GdO w p ⟨5, cn, pr, by_, er⟩ ⟨5, 0, [], [], er⟩ (V2.setCell ⟨p + 1, 4, none⟩ (.int .i64 er)) := ⟨(A.out.far (p := ⟨p + 1, 4, none⟩) (show p ≠ p + 1 by omega) (.int .i64 er)), (B.out.set_ 4 (.int .i64 er)), (E2.out.setCell (p := ⟨p + 1, 4, none⟩) hpw (.int .i64 er))⟩
      have hok := outT5 cn pr by_ er
      obtain ⟨V3, hV3⟩ : ∃ V3, (V2.setCell ⟨p + 1, 4, none⟩ (.int .i64 er)) = V3 := ⟨_, rfl⟩
      rw [hV3] at gd
      replace gd := hide gd
      replace hok := hide hok
      replace hV3 := hide hV3
      replace hok := hok.out
      have qI := fun W (h : GdO w p ⟨5, cn, pr, by_, er⟩ ⟨5, 0, [], [], er⟩ W) => ItoaI_any er h4.out W (hT.ext h.e)
      have hil := itoa_len er h4.out
      obtain ⟨it, hit⟩ : ∃ it, Lib.itoa er = it := ⟨_, rfl⟩
      rw [hit] at qI hil hok
      clear hit
      obtain ⟨J, hJ⟩ : ∃ J, Lib.join [[108, 111, 97, 100], it] [32] = J := ⟨_, rfl⟩
      have qL := fun g W (hb : Blk W g 9 #[.string ⟨#[108, 111, 97, 100]⟩, .string ⟨it.toArray⟩]) => SLineB_any g W [[108, 111, 97, 100], it] 2 2 rfl (by decide) (by decide) (by rw [join2_len]; skip; simp only [List.length_cons, List.length_nil]; omega) #[.string ⟨#[108, 111, 97, 100]⟩, .string ⟨it.toArray⟩] rfl J hJ hb
      rw [hJ] at hok
      clear hJ
      replace qL := hide qL
      replace qI := hide qI
      replace hok := hide hok
      clear hil
      go_upto_region 20 with fail
      rw [hV3.out]
      have x4 : V3.cell? ⟨p, 4, none⟩ = some (.int .i64 er) := gd.out.a.cell 4
      clear hV3 c0 c1 c2 c3 c4 d1 d2 d3 d4
      by_cases h0 : 0 ≤ er
      · have b1 : decide (0 ≤ er) = true := decide_eq_true h0
        obtain ⟨lb, hlb⟩ : ∃ lb, decide (er ≤ 11) = lb := ⟨_, rfl⟩
        have hok2 := hok.out
        rw [show decide (0 ≤ er ∧ er ≤ 11) = lb from by rw [← hlb]; exact decide_eq_decide.2 ⟨fun h => h.2, fun h => ⟨h0, h⟩⟩] at hok2
        clear hok h0
        replace hok := hide hok2
        clear hok2
        refine wp_region_JS (J := JV V3 _ (fun i => match i with | 0 => .val (.pointer (some ⟨p, 4, none⟩)) | 1 => .val (.int .i64 er) | 2 => .val (.string ⟨it.toArray⟩) | 3 => .mk (fun g => .slice (some ⟨g, 0, none⟩) 2 2) 9 #[.string ⟨#[108, 111, 97, 100]⟩, .string ⟨it.toArray⟩] | 4 => .val (.string ⟨J.toArray⟩) | 5 => .val (.pointer (some ⟨p, 4, none⟩)) | 6 => .val (.int .i64 er) | 7 => .val (.bool true) | 8 => .val (.bool true) | 9 => .val (.pointer (some ⟨p, 4, none⟩)) | 10 => .val (.int .i64 er) | 11 => .val (.bool lb) | 12 => .val (.bool lb) | 13 => .val (.string ⟨J.toArray⟩) | 14 => .val (.bool lb) | _ => .val undef)) mixed (by kernel_rfl) (by kernel_rfl) (fun _ => undef) (JV.start _ _ _ _) (JW.keepsS (by kernel_rfl) ?anysCT ?fillCT ?boxCT ?stepsCT) ?restCT
        case anysCT =>
          intro i R hi hR
          replace hi : i < 15 := hi
          match i, hi, hR with
          | 0, _, hR => cases hR
          | 1, _, hR => cases hR
          | 2, _, hR => cases hR
          | 3, _, hR => cases hR
          | 4, _, hR => cases hR
          | 5, _, hR => cases hR
          | 6, _, hR => cases hR
          | 7, _, hR => cases hR
          | 8, _, hR => cases hR
          | 9, _, hR => cases hR
          | 10, _, hR => cases hR
          | 11, _, hR => cases hR
          | 12, _, hR => cases hR
          | 13, _, hR => cases hR
          | 14, _, hR => cases hR
          | i + 15, h, _ => exact absurd h (by omega)
        case fillCT =>
          intro i b hi hb
          replace hi : i < 15 := hi
          match i, hi, hb with
          | 0, _, hb => cases hb
          | 1, _, hb => cases hb
          | 2, _, hb => cases hb
          | 3, _, hb => cases hb
          | 4, _, hb => cases hb
          | 5, _, hb => cases hb
          | 6, _, hb => cases hb
          | 7, _, hb => cases hb
          | 8, _, hb => cases hb
          | 9, _, hb => cases hb
          | 10, _, hb => cases hb
          | 11, _, hb => cases hb
          | 12, _, hb => cases hb
          | 13, _, hb => cases hb
          | 14, _, hb => cases hb
          | i + 15, h, _ => exact absurd h (by omega)
        case boxCT =>
          intro b st t z cs hi hb
          replace hi : b < 15 := hi
          match b, hi, hb with
          | 0, _, hb => cases hb
          | 1, _, hb => cases hb
          | 2, _, hb => cases hb
          | 3, _, hb => cases hb
          | 4, _, hb => cases hb
          | 5, _, hb => cases hb
          | 6, _, hb => cases hb
          | 7, _, hb => cases hb
          | 8, _, hb => cases hb
          | 9, _, hb => cases hb
          | 10, _, hb => cases hb
          | 11, _, hb => cases hb
          | 12, _, hb => cases hb
          | 13, _, hb => cases hb
          | 14, _, hb => cases hb
          | i + 15, h, _ => exact absurd h (by omega)
        case stepsCT =>
          intro i hi
          replace hi : i < 15 := hi
          match i, hi with
          | 0, _ =>
            refine .inr ⟨_, rfl, .inl rfl, ?_⟩
            intro a w9 done val G H hdn hdep hev hout hE9 hok hge9
            refine ⟨(fun v b hb => by cases hb), ?_⟩
            have u1 : a.eval (.tmp 1) = .pointer (some ⟨p, 0, none⟩) := (hout 1 (by kernel_rfl)).trans rfl
            simp [Act.eval] at u1
            clear hdep hev hout hok hge9
            refine step_val (w'' := w9) ?_ (Ext.refl _)
            go_simp
          | 1, _ =>
            refine .inr ⟨_, rfl, .inl rfl, ?_⟩
            intro a w9 done val G H hdn hdep hev hout hE9 hok hge9
            refine ⟨(fun v b hb => by cases hb), ?_⟩
            have d0 : done 0 = true := by first | exact hdep ⟨0, .data⟩ (by simp) rfl | exact hdep ⟨0, .phase⟩ (by simp) rfl
            have e0 := hev 0 _ 82 rfl rfl (by simp) d0
            have k0 := hok 0 (by decide) d0
            replace k0 : val 0 = (.pointer (some ⟨p, 4, none⟩)) := k0
            rw [k0] at e0
            clear k0
            simp [Act.eval] at e0
            clear d0
            clear hdep hev hout hok hge9
            have z0 := hE9.cell x4
            refine step_val (w'' := w9) ?_ (Ext.refl _)
            go_simp
          | 2, _ =>
            refine .inr ⟨_, rfl, .inl rfl, ?_⟩
            intro a w9 done val G H hdn hdep hev hout hE9 hok hge9
            refine ⟨(fun v b hb => by cases hb), ?_⟩
            have d1 : done 1 = true := by first | exact hdep ⟨1, .data⟩ (by simp) rfl | exact hdep ⟨1, .phase⟩ (by simp) rfl
            have e1 := hev 1 _ 83 rfl rfl (by simp) d1
            have k1 := hok 1 (by decide) d1
            replace k1 : val 1 = (.int .i64 er) := k1
            rw [k1] at e1
            clear k1
            simp [Act.eval] at e1
            clear d1
            clear hdep hev hout hok hge9
            exact step_go 50 #[.tmp 83] #[3] rfl Tryz.func50 (by kernel_rfl) (by kernel_rfl) _ (by simp [Act.eval, e1]; try rfl) (qI.out w9 (gd.out.ext hE9))
          | 3, _ =>
            refine .inr ⟨_, rfl, .inl rfl, ?_⟩
            intro a w9 done val G H hdn hdep hev hout hE9 hok hge9
            refine ⟨(fun v b hb => by cases hb), ?_⟩
            have d2 : done 2 = true := by first | exact hdep ⟨2, .data⟩ (by simp) rfl | exact hdep ⟨2, .phase⟩ (by simp) rfl
            have e2 := hev 2 _ 84 rfl rfl (by simp) d2
            have k2 := hok 2 (by decide) d2
            replace k2 : val 2 = (.string ⟨it.toArray⟩) := k2
            rw [k2] at e2
            clear k2
            simp [Act.eval] at e2
            clear d2
            clear hdep hev hout hok hge9
            unfold StepW
            refine step_mk (v := .slice (some ⟨w9.heap.size, 0, none⟩) 2 2) ?_ (Nat.le_refl _) ((Ext.refl w9).alloc _) (Blk.new w9 _ _) (fun g => .slice (some ⟨g, 0, none⟩) 2 2) rfl
            go_simp
          | 4, _ =>
            refine .inr ⟨_, rfl, .inl rfl, ?_⟩
            intro a w9 done val G H hdn hdep hev hout hE9 hok hge9
            refine ⟨(fun v b hb => by cases hb), ?_⟩
            have d3 : done 3 = true := by first | exact hdep ⟨3, .data⟩ (by simp) rfl | exact hdep ⟨3, .phase⟩ (by simp) rfl
            have e3 := hev 3 _ 85 rfl rfl (by simp) d3
            have k3 := hok 3 (by decide) d3
            obtain ⟨⟨k3, B3⟩, _⟩ := k3
            rw [k3] at e3
            clear k3
            have g3 := (hge9 3 (by decide) d3 rfl).1
            simp [Act.eval] at e3
            clear d3
            clear hdep hev hout hok hge9
            exact step_go 48 #[.tmp 85] #[63] rfl Tryz.func48 (by kernel_rfl) (by kernel_rfl) _ (by simp [Act.eval, e3]; try rfl) (qL.out _ w9 B3)
          | 5, _ =>
            refine .inr ⟨_, rfl, .inl rfl, ?_⟩
            intro a w9 done val G H hdn hdep hev hout hE9 hok hge9
            refine ⟨(fun v b hb => by cases hb), ?_⟩
            have u1 : a.eval (.tmp 1) = .pointer (some ⟨p, 0, none⟩) := (hout 1 (by kernel_rfl)).trans rfl
            simp [Act.eval] at u1
            clear hdep hev hout hok hge9
            refine step_val (w'' := w9) ?_ (Ext.refl _)
            go_simp
          | 6, _ =>
            refine .inr ⟨_, rfl, .inl rfl, ?_⟩
            intro a w9 done val G H hdn hdep hev hout hE9 hok hge9
            refine ⟨(fun v b hb => by cases hb), ?_⟩
            have d5 : done 5 = true := by first | exact hdep ⟨5, .data⟩ (by simp) rfl | exact hdep ⟨5, .phase⟩ (by simp) rfl
            have e5 := hev 5 _ 87 rfl rfl (by simp) d5
            have k5 := hok 5 (by decide) d5
            replace k5 : val 5 = (.pointer (some ⟨p, 4, none⟩)) := k5
            rw [k5] at e5
            clear k5
            simp [Act.eval] at e5
            clear d5
            clear hdep hev hout hok hge9
            have z0 := hE9.cell x4
            refine step_val (w'' := w9) ?_ (Ext.refl _)
            go_simp
          | 7, _ =>
            refine .inr ⟨_, rfl, .inl rfl, ?_⟩
            intro a w9 done val G H hdn hdep hev hout hE9 hok hge9
            refine ⟨(fun v b hb => by cases hb), ?_⟩
            have d6 : done 6 = true := by first | exact hdep ⟨6, .data⟩ (by simp) rfl | exact hdep ⟨6, .phase⟩ (by simp) rfl
            have e6 := hev 6 _ 88 rfl rfl (by simp) d6
            have k6 := hok 6 (by decide) d6
            replace k6 : val 6 = (.int .i64 er) := k6
            rw [k6] at e6
            clear k6
            simp [Act.eval] at e6
            clear d6
            clear hdep hev hout hok hge9
            refine step_val (w'' := w9) ?_ (Ext.refl _)
            go_simp
          | 8, _ =>
            refine .inr ⟨_, rfl, .inl rfl, ?_⟩
            intro a w9 done val G H hdn hdep hev hout hE9 hok hge9
            refine ⟨(fun v b hb => by cases hb), ?_⟩
            have d7 : done 7 = true := by first | exact hdep ⟨7, .data⟩ (by simp) rfl | exact hdep ⟨7, .phase⟩ (by simp) rfl
            have e7 := hev 7 _ 89 rfl rfl (by simp) d7
            have k7 := hok 7 (by decide) d7
            replace k7 : val 7 = (.bool true) := k7
            rw [k7] at e7
            clear k7
            simp [Act.eval] at e7
            clear d7
            clear hdep hev hout hok hge9
            refine step_val (w'' := w9) ?_ (Ext.refl _)
            go_simp
          | 9, _ =>
            refine .inr ⟨_, rfl, .inr ⟨8, true, _, 90, rfl, rfl, rfl, (by simp), (by decide), rfl, (by simp [Region.binds])⟩, ?_⟩
            intro a w9 done val G H hdn hdep hev hout hE9 hok hge9
            refine ⟨(fun v b hb => by cases hb), ?_⟩
            have u1 : a.eval (.tmp 1) = .pointer (some ⟨p, 0, none⟩) := (hout 1 (by kernel_rfl)).trans rfl
            simp [Act.eval] at u1
            clear hdep hev hout hok hge9
            refine step_val (w'' := w9) ?_ (Ext.refl _)
            go_simp
          | 10, _ =>
            refine .inr ⟨_, rfl, .inr ⟨8, true, _, 90, rfl, rfl, rfl, (by simp), (by decide), rfl, (by simp [Region.binds])⟩, ?_⟩
            intro a w9 done val G H hdn hdep hev hout hE9 hok hge9
            refine ⟨(fun v b hb => by cases hb), ?_⟩
            have d9 : done 9 = true := by first | exact hdep ⟨9, .data⟩ (by simp) rfl | exact hdep ⟨9, .phase⟩ (by simp) rfl
            have e9 := hev 9 _ 91 rfl rfl (by simp) d9
            have k9 := hok 9 (by decide) d9
            replace k9 : val 9 = (.pointer (some ⟨p, 4, none⟩)) := k9
            rw [k9] at e9
            clear k9
            simp [Act.eval] at e9
            clear d9
            clear hdep hev hout hok hge9
            have z0 := hE9.cell x4
            refine step_val (w'' := w9) ?_ (Ext.refl _)
            go_simp
          | 11, _ =>
            refine .inr ⟨_, rfl, .inr ⟨8, true, _, 90, rfl, rfl, rfl, (by simp), (by decide), rfl, (by simp [Region.binds])⟩, ?_⟩
            intro a w9 done val G H hdn hdep hev hout hE9 hok hge9
            refine ⟨(fun v b hb => by cases hb), ?_⟩
            have d10 : done 10 = true := by first | exact hdep ⟨10, .data⟩ (by simp) rfl | exact hdep ⟨10, .phase⟩ (by simp) rfl
            have e10 := hev 10 _ 92 rfl rfl (by simp) d10
            have k10 := hok 10 (by decide) d10
            replace k10 : val 10 = (.int .i64 er) := k10
            rw [k10] at e10
            clear k10
            simp [Act.eval] at e10
            clear d10
            clear hdep hev hout hok hge9
            refine step_val (w'' := w9) ?_ (Ext.refl _)
            go_simp
          | 12, _ =>
            refine .inr ⟨_, rfl, .inl rfl, ?_⟩
            intro a w9 done val G H hdn hdep hev hout hE9 hok hge9
            refine ⟨(fun v b hb => by cases hb), ?_⟩
            have d8 : done 8 = true := by first | exact hdep ⟨8, .data⟩ (by simp) rfl | exact hdep ⟨8, .phase⟩ (by simp) rfl
            have e8 := hev 8 _ 90 rfl rfl (by simp) d8
            have k8 := hok 8 (by decide) d8
            replace k8 : val 8 = (.bool true) := k8
            rw [k8] at e8
            clear k8
            simp [Act.eval] at e8
            clear d8
            have d11 : done 11 = true := by first | exact hdep ⟨11, .data⟩ (by simp) rfl | exact hdep ⟨11, .phase⟩ (by simp) rfl
            have e11 := hev 11 _ 93 rfl rfl (by simp) d11
            have k11 := hok 11 (by decide) d11
            replace k11 : val 11 = (.bool lb) := k11
            rw [k11] at e11
            clear k11
            simp [Act.eval] at e11
            clear d11
            clear hdep hev hout hok hge9
            refine step_val (w'' := w9) ?_ (Ext.refl _)
            go_simp
          | 13, _ =>
            refine .inr ⟨_, rfl, .inl rfl, ?_⟩
            intro a w9 done val G H hdn hdep hev hout hE9 hok hge9
            refine ⟨(fun v b hb => by cases hb), ?_⟩
            have d4 : done 4 = true := by first | exact hdep ⟨4, .data⟩ (by simp) rfl | exact hdep ⟨4, .phase⟩ (by simp) rfl
            have e4 := hev 4 _ 86 rfl rfl (by simp) d4
            have k4 := hok 4 (by decide) d4
            replace k4 : val 4 = (.string ⟨J.toArray⟩) := k4
            rw [k4] at e4
            clear k4
            simp [Act.eval] at e4
            clear d4
            clear hdep hev hout hok hge9
            refine step_val (w'' := w9) ?_ (Ext.refl _)
            go_simp
          | 14, _ =>
            refine .inr ⟨_, rfl, .inl rfl, ?_⟩
            intro a w9 done val G H hdn hdep hev hout hE9 hok hge9
            refine ⟨(fun v b hb => by cases hb), ?_⟩
            have d12 : done 12 = true := by first | exact hdep ⟨12, .data⟩ (by simp) rfl | exact hdep ⟨12, .phase⟩ (by simp) rfl
            have e12 := hev 12 _ 94 rfl rfl (by simp) d12
            have k12 := hok 12 (by decide) d12
            replace k12 : val 12 = (.bool lb) := k12
            rw [k12] at e12
            clear k12
            simp [Act.eval] at e12
            clear d12
            clear hdep hev hout hok hge9
            refine step_val (w'' := w9) ?_ (Ext.refl _)
            go_simp
          | i + 15, h => exact absurd h (by omega)
        case restCT =>
          rintro done val W9 hall ⟨⟨hE9, G, H, hok, hge, hdis, _⟩, _⟩
          replace hall : ∀ i, i < 15 → done i = true := hall
          have e0 := hall 0 (by decide)
          have e1 := hall 1 (by decide)
          have e2 := hall 2 (by decide)
          have e3 := hall 3 (by decide)
          have e4 := hall 4 (by decide)
          have e5 := hall 5 (by decide)
          have e6 := hall 6 (by decide)
          have e7 := hall 7 (by decide)
          have e8 := hall 8 (by decide)
          have e9 := hall 9 (by decide)
          have e10 := hall 10 (by decide)
          have e11 := hall 11 (by decide)
          have e12 := hall 12 (by decide)
          have e13 := hall 13 (by decide)
          have e14 := hall 14 (by decide)
          have k0 := hok 0 (by decide) e0
          replace k0 : val 0 = (.pointer (some ⟨p, 4, none⟩)) := k0
          have k1 := hok 1 (by decide) e1
          replace k1 : val 1 = (.int .i64 er) := k1
          have k2 := hok 2 (by decide) e2
          replace k2 : val 2 = (.string ⟨it.toArray⟩) := k2
          have k3 := hok 3 (by decide) e3
          obtain ⟨⟨k3, B3⟩, z3⟩ := k3
          have G3 := hge 3 (by decide) e3 rfl
          rw [z3] at G3
          have k4 := hok 4 (by decide) e4
          replace k4 : val 4 = (.string ⟨J.toArray⟩) := k4
          have k5 := hok 5 (by decide) e5
          replace k5 : val 5 = (.pointer (some ⟨p, 4, none⟩)) := k5
          have k6 := hok 6 (by decide) e6
          replace k6 : val 6 = (.int .i64 er) := k6
          have k7 := hok 7 (by decide) e7
          replace k7 : val 7 = (.bool true) := k7
          have k8 := hok 8 (by decide) e8
          replace k8 : val 8 = (.bool true) := k8
          have k9 := hok 9 (by decide) e9
          replace k9 : val 9 = (.pointer (some ⟨p, 4, none⟩)) := k9
          have k10 := hok 10 (by decide) e10
          replace k10 : val 10 = (.int .i64 er) := k10
          have k11 := hok 11 (by decide) e11
          replace k11 : val 11 = (.bool lb) := k11
          have k12 := hok 12 (by decide) e12
          replace k12 : val 12 = (.bool lb) := k12
          have k13 := hok 13 (by decide) e13
          replace k13 : val 13 = (.string ⟨J.toArray⟩) := k13
          have k14 := hok 14 (by decide) e14
          replace k14 : val 14 = (.bool lb) := k14
          clear hok hge hdis hall
          simp only [putD, e0, e1, e2, e3, e4, e5, e6, e7, e8, e9, e10, e11, e12, e13, e14, if_true, Nat.zero_add, Nat.reduceAdd, k0, k1, k2, k3, k4, k5, k6, k7, k8, k9, k10, k11, k12, k13, k14]
          clear e0 e1 e2 e3 e4 e5 e6 e7 e8 e9 e10 e11 e12 e13 e14 k0 k1 k2 k3 k4 k5 k6 k7 k8 k9 k10 k11 k12 k13 k14 z3
          generalize G 3 = g_3 at *
          have gd9 := hide (gd.out.ext hE9)
          clear hE9
          go_wp2_with fail
          go_meet
          case rel => exact ⟨J, lb, ⟨5, 0, [], [], er⟩, by first | rfl | simp, by first | rfl | simp, gd9.out, hok.out⟩
      · have b1 : decide (0 ≤ er) = false := decide_eq_false h0
        have hok2 := hok.out
        rw [show decide (0 ≤ er ∧ er ≤ 11) = false from decide_eq_false fun h => h0 h.1] at hok2
        clear hok h0
        replace hok := hide hok2
        clear hok2
        refine wp_region_JS (J := JV V3 _ (fun i => match i with | 0 => .val (.pointer (some ⟨p, 4, none⟩)) | 1 => .val (.int .i64 er) | 2 => .val (.string ⟨it.toArray⟩) | 3 => .mk (fun g => .slice (some ⟨g, 0, none⟩) 2 2) 9 #[.string ⟨#[108, 111, 97, 100]⟩, .string ⟨it.toArray⟩] | 4 => .val (.string ⟨J.toArray⟩) | 5 => .val (.pointer (some ⟨p, 4, none⟩)) | 6 => .val (.int .i64 er) | 7 => .val (.bool false) | 8 => .val (.bool false) | 9 => .val undef | 10 => .val undef | 11 => .val undef | 12 => .val (.bool false) | 13 => .val (.string ⟨J.toArray⟩) | 14 => .val (.bool false) | _ => .val undef)) mixed (by kernel_rfl) (by kernel_rfl) (fun _ => undef) (JV.start _ _ _ _) (JW.keepsS (by kernel_rfl) ?anysCF ?fillCF ?boxCF ?stepsCF) ?restCF
        case anysCF =>
          intro i R hi hR
          replace hi : i < 15 := hi
          match i, hi, hR with
          | 0, _, hR => cases hR
          | 1, _, hR => cases hR
          | 2, _, hR => cases hR
          | 3, _, hR => cases hR
          | 4, _, hR => cases hR
          | 5, _, hR => cases hR
          | 6, _, hR => cases hR
          | 7, _, hR => cases hR
          | 8, _, hR => cases hR
          | 9, _, hR => cases hR
          | 10, _, hR => cases hR
          | 11, _, hR => cases hR
          | 12, _, hR => cases hR
          | 13, _, hR => cases hR
          | 14, _, hR => cases hR
          | i + 15, h, _ => exact absurd h (by omega)
        case fillCF =>
          intro i b hi hb
          replace hi : i < 15 := hi
          match i, hi, hb with
          | 0, _, hb => cases hb
          | 1, _, hb => cases hb
          | 2, _, hb => cases hb
          | 3, _, hb => cases hb
          | 4, _, hb => cases hb
          | 5, _, hb => cases hb
          | 6, _, hb => cases hb
          | 7, _, hb => cases hb
          | 8, _, hb => cases hb
          | 9, _, hb => cases hb
          | 10, _, hb => cases hb
          | 11, _, hb => cases hb
          | 12, _, hb => cases hb
          | 13, _, hb => cases hb
          | 14, _, hb => cases hb
          | i + 15, h, _ => exact absurd h (by omega)
        case boxCF =>
          intro b st t z cs hi hb
          replace hi : b < 15 := hi
          match b, hi, hb with
          | 0, _, hb => cases hb
          | 1, _, hb => cases hb
          | 2, _, hb => cases hb
          | 3, _, hb => cases hb
          | 4, _, hb => cases hb
          | 5, _, hb => cases hb
          | 6, _, hb => cases hb
          | 7, _, hb => cases hb
          | 8, _, hb => cases hb
          | 9, _, hb => cases hb
          | 10, _, hb => cases hb
          | 11, _, hb => cases hb
          | 12, _, hb => cases hb
          | 13, _, hb => cases hb
          | 14, _, hb => cases hb
          | i + 15, h, _ => exact absurd h (by omega)
        case stepsCF =>
          intro i hi
          replace hi : i < 15 := hi
          match i, hi with
          | 0, _ =>
            refine .inr ⟨_, rfl, .inl rfl, ?_⟩
            intro a w9 done val G H hdn hdep hev hout hE9 hok hge9
            refine ⟨(fun v b hb => by cases hb), ?_⟩
            have u1 : a.eval (.tmp 1) = .pointer (some ⟨p, 0, none⟩) := (hout 1 (by kernel_rfl)).trans rfl
            simp [Act.eval] at u1
            clear hdep hev hout hok hge9
            refine step_val (w'' := w9) ?_ (Ext.refl _)
            go_simp
          | 1, _ =>
            refine .inr ⟨_, rfl, .inl rfl, ?_⟩
            intro a w9 done val G H hdn hdep hev hout hE9 hok hge9
            refine ⟨(fun v b hb => by cases hb), ?_⟩
            have d0 : done 0 = true := by first | exact hdep ⟨0, .data⟩ (by simp) rfl | exact hdep ⟨0, .phase⟩ (by simp) rfl
            have e0 := hev 0 _ 82 rfl rfl (by simp) d0
            have k0 := hok 0 (by decide) d0
            replace k0 : val 0 = (.pointer (some ⟨p, 4, none⟩)) := k0
            rw [k0] at e0
            clear k0
            simp [Act.eval] at e0
            clear d0
            clear hdep hev hout hok hge9
            have z0 := hE9.cell x4
            refine step_val (w'' := w9) ?_ (Ext.refl _)
            go_simp
          | 2, _ =>
            refine .inr ⟨_, rfl, .inl rfl, ?_⟩
            intro a w9 done val G H hdn hdep hev hout hE9 hok hge9
            refine ⟨(fun v b hb => by cases hb), ?_⟩
            have d1 : done 1 = true := by first | exact hdep ⟨1, .data⟩ (by simp) rfl | exact hdep ⟨1, .phase⟩ (by simp) rfl
            have e1 := hev 1 _ 83 rfl rfl (by simp) d1
            have k1 := hok 1 (by decide) d1
            replace k1 : val 1 = (.int .i64 er) := k1
            rw [k1] at e1
            clear k1
            simp [Act.eval] at e1
            clear d1
            clear hdep hev hout hok hge9
            exact step_go 50 #[.tmp 83] #[3] rfl Tryz.func50 (by kernel_rfl) (by kernel_rfl) _ (by simp [Act.eval, e1]; try rfl) (qI.out w9 (gd.out.ext hE9))
          | 3, _ =>
            refine .inr ⟨_, rfl, .inl rfl, ?_⟩
            intro a w9 done val G H hdn hdep hev hout hE9 hok hge9
            refine ⟨(fun v b hb => by cases hb), ?_⟩
            have d2 : done 2 = true := by first | exact hdep ⟨2, .data⟩ (by simp) rfl | exact hdep ⟨2, .phase⟩ (by simp) rfl
            have e2 := hev 2 _ 84 rfl rfl (by simp) d2
            have k2 := hok 2 (by decide) d2
            replace k2 : val 2 = (.string ⟨it.toArray⟩) := k2
            rw [k2] at e2
            clear k2
            simp [Act.eval] at e2
            clear d2
            clear hdep hev hout hok hge9
            unfold StepW
            refine step_mk (v := .slice (some ⟨w9.heap.size, 0, none⟩) 2 2) ?_ (Nat.le_refl _) ((Ext.refl w9).alloc _) (Blk.new w9 _ _) (fun g => .slice (some ⟨g, 0, none⟩) 2 2) rfl
            go_simp
          | 4, _ =>
            refine .inr ⟨_, rfl, .inl rfl, ?_⟩
            intro a w9 done val G H hdn hdep hev hout hE9 hok hge9
            refine ⟨(fun v b hb => by cases hb), ?_⟩
            have d3 : done 3 = true := by first | exact hdep ⟨3, .data⟩ (by simp) rfl | exact hdep ⟨3, .phase⟩ (by simp) rfl
            have e3 := hev 3 _ 85 rfl rfl (by simp) d3
            have k3 := hok 3 (by decide) d3
            obtain ⟨⟨k3, B3⟩, _⟩ := k3
            rw [k3] at e3
            clear k3
            have g3 := (hge9 3 (by decide) d3 rfl).1
            simp [Act.eval] at e3
            clear d3
            clear hdep hev hout hok hge9
            exact step_go 48 #[.tmp 85] #[63] rfl Tryz.func48 (by kernel_rfl) (by kernel_rfl) _ (by simp [Act.eval, e3]; try rfl) (qL.out _ w9 B3)
          | 5, _ =>
            refine .inr ⟨_, rfl, .inl rfl, ?_⟩
            intro a w9 done val G H hdn hdep hev hout hE9 hok hge9
            refine ⟨(fun v b hb => by cases hb), ?_⟩
            have u1 : a.eval (.tmp 1) = .pointer (some ⟨p, 0, none⟩) := (hout 1 (by kernel_rfl)).trans rfl
            simp [Act.eval] at u1
            clear hdep hev hout hok hge9
            refine step_val (w'' := w9) ?_ (Ext.refl _)
            go_simp
          | 6, _ =>
            refine .inr ⟨_, rfl, .inl rfl, ?_⟩
            intro a w9 done val G H hdn hdep hev hout hE9 hok hge9
            refine ⟨(fun v b hb => by cases hb), ?_⟩
            have d5 : done 5 = true := by first | exact hdep ⟨5, .data⟩ (by simp) rfl | exact hdep ⟨5, .phase⟩ (by simp) rfl
            have e5 := hev 5 _ 87 rfl rfl (by simp) d5
            have k5 := hok 5 (by decide) d5
            replace k5 : val 5 = (.pointer (some ⟨p, 4, none⟩)) := k5
            rw [k5] at e5
            clear k5
            simp [Act.eval] at e5
            clear d5
            clear hdep hev hout hok hge9
            have z0 := hE9.cell x4
            refine step_val (w'' := w9) ?_ (Ext.refl _)
            go_simp
          | 7, _ =>
            refine .inr ⟨_, rfl, .inl rfl, ?_⟩
            intro a w9 done val G H hdn hdep hev hout hE9 hok hge9
            refine ⟨(fun v b hb => by cases hb), ?_⟩
            have d6 : done 6 = true := by first | exact hdep ⟨6, .data⟩ (by simp) rfl | exact hdep ⟨6, .phase⟩ (by simp) rfl
            have e6 := hev 6 _ 88 rfl rfl (by simp) d6
            have k6 := hok 6 (by decide) d6
            replace k6 : val 6 = (.int .i64 er) := k6
            rw [k6] at e6
            clear k6
            simp [Act.eval] at e6
            clear d6
            clear hdep hev hout hok hge9
            refine step_val (w'' := w9) ?_ (Ext.refl _)
            go_simp
          | 8, _ =>
            refine .inr ⟨_, rfl, .inl rfl, ?_⟩
            intro a w9 done val G H hdn hdep hev hout hE9 hok hge9
            refine ⟨(fun v b hb => by cases hb), ?_⟩
            have d7 : done 7 = true := by first | exact hdep ⟨7, .data⟩ (by simp) rfl | exact hdep ⟨7, .phase⟩ (by simp) rfl
            have e7 := hev 7 _ 89 rfl rfl (by simp) d7
            have k7 := hok 7 (by decide) d7
            replace k7 : val 7 = (.bool false) := k7
            rw [k7] at e7
            clear k7
            simp [Act.eval] at e7
            clear d7
            clear hdep hev hout hok hge9
            refine step_val (w'' := w9) ?_ (Ext.refl _)
            go_simp
          | 9, _ =>
            exact .inl ⟨_, rfl, ⟨8, true, _, 90, rfl, rfl, rfl, (by simp), (by decide), .inl rfl, (by simp [Region.binds])⟩, rfl⟩
          | 10, _ =>
            exact .inl ⟨_, rfl, ⟨8, true, _, 90, rfl, rfl, rfl, (by simp), (by decide), .inl rfl, (by simp [Region.binds])⟩, rfl⟩
          | 11, _ =>
            exact .inl ⟨_, rfl, ⟨8, true, _, 90, rfl, rfl, rfl, (by simp), (by decide), .inl rfl, (by simp [Region.binds])⟩, rfl⟩
          | 12, _ =>
            refine .inr ⟨_, rfl, .inl rfl, ?_⟩
            intro a w9 done val G H hdn hdep hev hout hE9 hok hge9
            refine ⟨(fun v b hb => by cases hb), ?_⟩
            have d8 : done 8 = true := by first | exact hdep ⟨8, .data⟩ (by simp) rfl | exact hdep ⟨8, .phase⟩ (by simp) rfl
            have e8 := hev 8 _ 90 rfl rfl (by simp) d8
            have k8 := hok 8 (by decide) d8
            replace k8 : val 8 = (.bool false) := k8
            rw [k8] at e8
            clear k8
            simp [Act.eval] at e8
            clear d8
            have d11 : done 11 = true := by first | exact hdep ⟨11, .data⟩ (by simp) rfl | exact hdep ⟨11, .phase⟩ (by simp) rfl
            have e11 := hev 11 _ 93 rfl rfl (by simp) d11
            have k11 := hok 11 (by decide) d11
            replace k11 : val 11 = undef := k11
            rw [k11] at e11
            clear k11
            simp [Act.eval] at e11
            clear d11
            clear hdep hev hout hok hge9
            refine step_val (w'' := w9) ?_ (Ext.refl _)
            go_simp
          | 13, _ =>
            refine .inr ⟨_, rfl, .inl rfl, ?_⟩
            intro a w9 done val G H hdn hdep hev hout hE9 hok hge9
            refine ⟨(fun v b hb => by cases hb), ?_⟩
            have d4 : done 4 = true := by first | exact hdep ⟨4, .data⟩ (by simp) rfl | exact hdep ⟨4, .phase⟩ (by simp) rfl
            have e4 := hev 4 _ 86 rfl rfl (by simp) d4
            have k4 := hok 4 (by decide) d4
            replace k4 : val 4 = (.string ⟨J.toArray⟩) := k4
            rw [k4] at e4
            clear k4
            simp [Act.eval] at e4
            clear d4
            clear hdep hev hout hok hge9
            refine step_val (w'' := w9) ?_ (Ext.refl _)
            go_simp
          | 14, _ =>
            refine .inr ⟨_, rfl, .inl rfl, ?_⟩
            intro a w9 done val G H hdn hdep hev hout hE9 hok hge9
            refine ⟨(fun v b hb => by cases hb), ?_⟩
            have d12 : done 12 = true := by first | exact hdep ⟨12, .data⟩ (by simp) rfl | exact hdep ⟨12, .phase⟩ (by simp) rfl
            have e12 := hev 12 _ 94 rfl rfl (by simp) d12
            have k12 := hok 12 (by decide) d12
            replace k12 : val 12 = (.bool false) := k12
            rw [k12] at e12
            clear k12
            simp [Act.eval] at e12
            clear d12
            clear hdep hev hout hok hge9
            refine step_val (w'' := w9) ?_ (Ext.refl _)
            go_simp
          | i + 15, h => exact absurd h (by omega)
        case restCF =>
          rintro done val W9 hall ⟨⟨hE9, G, H, hok, hge, hdis, _⟩, _⟩
          replace hall : ∀ i, i < 15 → done i = true := hall
          have e0 := hall 0 (by decide)
          have e1 := hall 1 (by decide)
          have e2 := hall 2 (by decide)
          have e3 := hall 3 (by decide)
          have e4 := hall 4 (by decide)
          have e5 := hall 5 (by decide)
          have e6 := hall 6 (by decide)
          have e7 := hall 7 (by decide)
          have e8 := hall 8 (by decide)
          have e9 := hall 9 (by decide)
          have e10 := hall 10 (by decide)
          have e11 := hall 11 (by decide)
          have e12 := hall 12 (by decide)
          have e13 := hall 13 (by decide)
          have e14 := hall 14 (by decide)
          have k0 := hok 0 (by decide) e0
          replace k0 : val 0 = (.pointer (some ⟨p, 4, none⟩)) := k0
          have k1 := hok 1 (by decide) e1
          replace k1 : val 1 = (.int .i64 er) := k1
          have k2 := hok 2 (by decide) e2
          replace k2 : val 2 = (.string ⟨it.toArray⟩) := k2
          have k3 := hok 3 (by decide) e3
          obtain ⟨⟨k3, B3⟩, z3⟩ := k3
          have G3 := hge 3 (by decide) e3 rfl
          rw [z3] at G3
          have k4 := hok 4 (by decide) e4
          replace k4 : val 4 = (.string ⟨J.toArray⟩) := k4
          have k5 := hok 5 (by decide) e5
          replace k5 : val 5 = (.pointer (some ⟨p, 4, none⟩)) := k5
          have k6 := hok 6 (by decide) e6
          replace k6 : val 6 = (.int .i64 er) := k6
          have k7 := hok 7 (by decide) e7
          replace k7 : val 7 = (.bool false) := k7
          have k8 := hok 8 (by decide) e8
          replace k8 : val 8 = (.bool false) := k8
          have k9 := hok 9 (by decide) e9
          replace k9 : val 9 = undef := k9
          have k10 := hok 10 (by decide) e10
          replace k10 : val 10 = undef := k10
          have k11 := hok 11 (by decide) e11
          replace k11 : val 11 = undef := k11
          have k12 := hok 12 (by decide) e12
          replace k12 : val 12 = (.bool false) := k12
          have k13 := hok 13 (by decide) e13
          replace k13 : val 13 = (.string ⟨J.toArray⟩) := k13
          have k14 := hok 14 (by decide) e14
          replace k14 : val 14 = (.bool false) := k14
          clear hok hge hdis hall
          simp only [putD, e0, e1, e2, e3, e4, e5, e6, e7, e8, e9, e10, e11, e12, e13, e14, if_true, Nat.zero_add, Nat.reduceAdd, k0, k1, k2, k3, k4, k5, k6, k7, k8, k9, k10, k11, k12, k13, k14]
          clear e0 e1 e2 e3 e4 e5 e6 e7 e8 e9 e10 e11 e12 e13 e14 k0 k1 k2 k3 k4 k5 k6 k7 k8 k9 k10 k11 k12 k13 k14 z3
          generalize G 3 = g_3 at *
          have gd9 := hide (gd.out.ext hE9)
          clear hE9
          go_wp2_with fail
          go_meet
          case rel => exact ⟨J, false, ⟨5, 0, [], [], er⟩, by first | rfl | simp, by first | rfl | simp, gd9.out, hok.out⟩
    have g5 : (kd == 5) = false := beq_eq_false_iff_ne.2 hk5
    have g5b : decide (kd = 5) = false := decide_eq_false hk5
    have gd : GdO w p ⟨kd, cn, pr, by_, er⟩ ⟨kd, 0, [], [], 0⟩ V2 := ⟨A.out, B.out, E2.out⟩
    have hr := outT0 hk1 hk2 hk3 hk4 hk5 cn pr by_ er
    clear hk1 hk2 hk3 hk4 hk5
    replace gd := hide gd
    replace hr := hide hr
    go_wp2_with fail
    go_meet
    case rel => exact ⟨[], false, ⟨kd, 0, [], [], 0⟩, by first | rfl | simp, by first | rfl | simp, gd.out, by rw [hr.out]; rfl⟩
  case rest =>
    obtain ⟨s, b, o2, rfl, rfl, gd, hr⟩ := hcut
    have hq := fun W => run_neq_ofB (run_eqOut W ⟨kd, cn, pr, by_, er⟩ o2)
    generalize decide ((⟨kd, cn, pr, by_, er⟩ : OutS) = o2) = t at *
    obtain ⟨kd2, cn2, pr2, by2, er2⟩ := o2
    dsimp only at hq
    have x0 : wc.cell? ⟨p, 0, none⟩ = some (.int .i64 kd) := gd.a.cell 0
    have x1 : wc.cell? ⟨p, 1, none⟩ = some (.int .i64 cn) := gd.a.cell 1
    have x2 : wc.cell? ⟨p, 2, none⟩ = some (.string ⟨pr.toArray⟩) := gd.a.cell 2
    have x3 : wc.cell? ⟨p, 3, none⟩ = some (.string ⟨by_.toArray⟩) := gd.a.cell 3
    have x4 : wc.cell? ⟨p, 4, none⟩ = some (.int .i64 er) := gd.a.cell 4
    have y0 : wc.cell? ⟨p + 1, 0, none⟩ = some (.int .i64 kd2) := gd.b.cell 0
    have y1 : wc.cell? ⟨p + 1, 1, none⟩ = some (.int .i64 cn2) := gd.b.cell 1
    have y2 : wc.cell? ⟨p + 1, 2, none⟩ = some (.string ⟨pr2.toArray⟩) := gd.b.cell 2
    have y3 : wc.cell? ⟨p + 1, 3, none⟩ = some (.string ⟨by2.toArray⟩) := gd.b.cell 3
    have y4 : wc.cell? ⟨p + 1, 4, none⟩ = some (.int .i64 er2) := gd.b.cell 4
    have E9 := gd.e
    clear gd
    try clear c0
    replace E9 := hide E9
    replace hr := hide hr
    cases b
    · have hf := hr.out
      rw [Bool.false_and, if_neg (by decide)] at hf
      clear hr
      replace hf := hide hf
      go_wp2_with fail
      try go_ret2
      exact hPost.out _ _ _ hf.out E9.out
    · cases t
      · have hf := hr.out
        rw [Bool.and_false, if_neg (by decide)] at hf
        clear hr
        replace hf := hide hf
        go_wp2_with fail
        try go_ret2
        exact hPost.out _ _ _ hf.out E9.out
      · have hf := hr.out
        rw [Bool.and_true, if_pos rfl] at hf
        clear hr
        replace hf := hide hf
        go_wp2_with fail
        try go_ret2
        exact hPost.out _ _ _ hf.out E9.out
end
section
open Go.RowKit Go.Maps
set_option linter.unusedVariables false
open Classical in
theorem nodup_le {α : Type} : ∀ {a b : List α}, a.Pairwise (· ≠ ·) → (∀ x ∈ a, x ∈ b) → a.length ≤ b.length
  | [], b, _, _ => Nat.zero_le _
  | x :: a, b, hp, hs => by
    have hp' := List.pairwise_cons.1 hp
    have h1 : a.length ≤ (b.erase x).length := nodup_le hp'.2 fun y hy => by
      have hne : y ≠ x := fun e => hp'.1 y hy e.symm
      exact (List.mem_erase_of_ne hne).2 (hs y (List.mem_cons_of_mem _ hy))
    rw [List.length_erase_of_mem (hs x (List.mem_cons_self ..))] at h1
    have h2 := List.length_pos_of_mem (hs x (List.mem_cons_self ..))
    simp only [List.length_cons]
    omega
section
variable {P : Program} {k e t : TypeId} {w w' : World} {b : Nat}
/-- Every entry of the map at block b: its key is that of an x of the list G, its element what f says at x. -/
def Memo {α : Type} (P : Program) (k e : TypeId) (key : α → Value) (G : List α) (f : α → Bool) (w : World) (b : Nat) : Prop :=
 ∃ D : DataW Unit, w.ownsMap P k (plainElem P e) b (Maps.size D) D ∧ ∀ l, Maps.has D l = true → ∃ x ∈ G, keyOf P k (key x) = some l ∧ ∀ z, D.atKey l z = .lit (.bool (f x))
variable {α : Type} {key : α → Value} {G : List α} {f : α → Bool}
theorem Memo.lt (h : Memo P k e key G f w b) : b < w.heap.size := by
 obtain ⟨D, h, _⟩ := h
 exact h.lt
theorem Memo.kept {row : Option Nat} (h : Memo P k e key G f w b) (hg : w.grownBy w' row) (hne : some b ≠ row) : Memo P k e key G f w' b := by
 obtain ⟨D, h, hh⟩ := h
 exact ⟨D, h.kept hg hne, hh⟩
theorem Memo.frame (h : Memo P k e key G f w b) (hb : w'.heap[b]? = w.heap[b]?) : Memo P k e key G f w' b := by
 obtain ⟨D, ⟨es, clock, h1, F, hs, hD⟩, hh⟩ := h
 exact ⟨D, ⟨es, clock, hb.trans h1, F, hs, hD⟩, hh⟩
theorem Memo.size (K : Keyed P k) {D : DataW Unit} (h : w.ownsMap P k (plainElem P e) b (Maps.size D) D) (hh : ∀ l, Maps.has D l = true → ∃ x ∈ G, keyOf P k (key x) = some l) : Maps.size D ≤ G.length := by
 obtain ⟨es, rfl, hp, hk⟩ := h.entries K
 have h1 : (es.map (·.1)).Pairwise (· ≠ ·) := by rw [List.pairwise_map]; exact hp
 have h2 : ∀ l ∈ es.map (·.1), l ∈ G.filterMap fun x => keyOf P k (key x) := fun l hl => by
  obtain ⟨p, hp', rfl⟩ := List.mem_map.1 hl
  have hs : p.1.sameKey p.1 = true := by
   have := hk p hp'
   cases h : p.1 <;> simp [h, WideAt.IsKeyLit, Lit.sameKey] at this ⊢
  obtain ⟨x, hx, hkx⟩ := hh p.1 (by rw [has_eq]; exact List.any_eq_true.2 ⟨p, hp', hs⟩)
  exact List.mem_filterMap.2 ⟨x, hx, hkx⟩
 have h3 := nodup_le h1 h2
 rw [List.length_map] at h3
 have h4 := List.length_filterMap_le (fun x => keyOf P k (key x)) G
 rw [size_eq]
 omega
end
open Go.RowKit Go.Maps
open Go.RowKit Go.Maps
theorem Sl.grown {α : Type} {E : Enc α} {w w' : World} {b : Nat} {a : Option Addr} {l : List α} (h : Sl E w (fun x => x < w.heap.size ∧ x ≠ b) a l) (hg : w.grownBy w' (some b)) : Sl E w' (fun x => x < w'.heap.size ∧ x ≠ b) a l :=
 (h.frame fun x hx => hg.block x hx.1 (fun e => hx.2 (Option.some.inj e))).mono fun x hx => ⟨Nat.lt_of_lt_of_le hx.1 hg.size, hx.2⟩
section
variable {p : List Atm} {l : List UInt32} {gp gl gk gf b : Nat} {ap al : Option Addr} {cp cl : Nat} {w w' : World}
end
open Go.RowKit Go.Maps
open Go.RowKit Go.Maps
end
section
open Go.RowKit Go.Sort
set_option linter.unusedVariables false
noncomputable instance (a b : Pfx) : Decidable (Cov a b) := Classical.propDecidable _
open Go.RowKit Go.Sort
end
section
open Go.RowKit
set_option linter.unusedVariables false
theorem okU8 : ElemOk Tryz.prog 65 5 1 1 := elemOk (z := .int .u8 0) Tryz.underlying65 (by kernel_rfl) rfl
theorem okU8z : Tryz.prog.info? 5 = none ∨ ∀ i, Tryz.prog.info? 5 = some i → i.zero = some (.int .u8 0) := by
 right; intro i hi
 have h : (Tryz.prog.info? 5).map (fun i => i.zero) = some (some (.int .u8 0)) := by kernel_rfl
 rw [hi] at h; simpa using h
end
section
open Go.RowKit
/-- A path at an address in a world, all below its heap's end. -/
def Path (w : World) (a : Option Addr) (l : List Seg) : Prop := Sl ESeg w (· < w.heap.size) a l
theorem Path.ext {w w' : World} {a : Option Addr} {l : List Seg} (h : Path w a l) (he : Ext w w') : Path w' a l := Sl.ext h he
theorem Path.take {w : World} {a : Option Addr} {l : List Seg} (h : Path w a l) (n : Nat) : Path w a (l.take n) := Sl.take h n
set_option linter.unusedVariables false
end
section
open Go.RowKit Go.Sort
set_option linter.unusedVariables false
/-! ### functions over lists of numbers -/
end
end Go.Proofs.YtkinghadgmbhbaaGreatDoor
