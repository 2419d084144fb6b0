/- A law of regions that draw their order: a fact that every operation keeps holds at the end; the frame is the one of the text's order. A region that draws its order and makes memory, met by one word for each of its operations. A region that draws its order and makes memory, met by one word for each of its operations; a word for answers that are not one value. A region that draws its order, of which a tail comes in its own order: the head is met by words (PM), the tail is walked. Chapter 16, walks: the closure that recovers. Chapter 16, plain: reading a term word by word, without fuel. A region that draws its order: x.f = append(x.f, f(y)): one call, which may panic and may write, beside the load of the slice. A map that remembers answers: every entry holds what a function says at its key. Keys of two whole numbers. The keys of sets.Match's memory; the recursion of sets.Match, walked. The  -/
import Derived.Lib.SplitLaws
import Derived.Lib.ParseIntB
import Derived.Lib.ParseIntBCases
import Derived.Lib.ItoaNum
import Derived.Lib.Join
import Derived.WalkKit
import Derived.Below
import Derived.Outline
import Derived.LoopTactic
import Derived.Laws.OwnMore
import Derived.Deep.AppendLies
import Derived.Deep.Draws
import Derived.Lib.Hide
import Derived.BigQuiet
import Derived.Deep.QuietTactic
import Derived.WalkSpells
import Derived.WalkLawsBesides
import Derived.Deep.RegionHeld3
import Derived.Deep.DrawnRows
import Derived.Deep.RegionLaw
import Derived.Lib.ConvBytes
import Derived.Lib.Bytealg
import Derived.Lib.Small
import Derived.Test.YtljibkfbldjgdaaGreatDoorRows
import Derived.ProofKit
import Derived.Deep.Slices
import Derived.Shelf.GgClosure.StringsRunes
import Derived.Test.YtljibkfbldjgdaaGreatDoorProg
import Derived.Test.YtljibkfbldjgdaaGreatDoorShelf
import Derived.Test.YtljibkfbldjgdaaGreatDoorShelf2
import Derived.Lib.UnsafeStr
import Derived.Shelf.RegionOpenPlain
import Derived.Laws.StructEq
import Derived.Lib.QuietBelow
import Derived.Lib.ItoaMem
import Derived.Lib.ItoaLen
import Derived.Deep.DeepCutAuto
import Derived.Orders
import Derived.StillTail
import Derived.Defers
import Derived.Recover
import Derived.Maps.OwnSet
import Derived.Maps.Views
import Derived.Maps.Range
import Derived.DeepKeys5
import Derived.Deep.Cut
import Derived.Test.YtljibkfbldjgdaaGreatDoorPY01
import Derived.Test.YtljibkfbldjgdaaGreatDoorPY02
import Derived.Test.YtljibkfbldjgdaaGreatDoorPY03
import Derived.Test.YtljibkfbldjgdaaGreatDoorPY04
namespace Go.Proofs.YtljibkfbldjgdaaGreatDoor
section
set_option linter.unusedVariables false
def updF {α : Type} (f : Nat → α) (i : Nat) (x : α) : Nat → α := fun j => if j = i then x else f j
theorem updF_same {α : Type} (f : Nat → α) (i : Nat) (x : α) : updF f i x i = x := if_pos rfl
theorem updF_ne {α : Type} (f : Nat → α) {i j : Nat} (x : α) (h : j ≠ i) : updF f i x j = f j := if_neg h
def putD (done : Nat → Bool) (val : Nat → Value) : List Oper → Nat → Act → Act
 | [], _, a => a
 | o :: l, k, a => putD done val l (k + 1) (if done k = true then a.put o.dst (val k) else a)
def distB : List Oper → Bool
 | [] => true
 | o :: l => (match o.dst with | none => true | some d => l.all fun p => p.dst != some d) && distB l
theorem putD_put {done : Nat → Bool} {val : Nat → Value} (d : Option Tmp) (v : Value) : ∀ (l : List Oper) (k : Nat) (a : Act), (∀ o ∈ l, ∀ x, d = some x → o.dst ≠ some x) → putD done val l k (a.put d v) = (putD done val l k a).put d v
  | [], _, _, _ => rfl
  | o :: l, k, a, h => by
    simp only [putD]
    rw [← putD_put d v l (k + 1) _ fun p hp => h p (by simp [hp])]
    congr 1
    split
    · exact Act.put_comm a v _ fun x hx => h o (by simp) x hx
    · rfl
theorem putD_congr {done done' : Nat → Bool} {val val' : Nat → Value} : ∀ (l : List Oper) (k : Nat) (a : Act), (∀ j, k ≤ j → done j = done' j ∧ val j = val' j) → putD done val l k a = putD done' val' l k a
  | [], _, _, _ => rfl
  | o :: l, k, a, h => by
    simp only [putD]
    rw [(h k (Nat.le_refl _)).1, (h k (Nat.le_refl _)).2]
    exact putD_congr l (k + 1) _ fun j hj => h j (by omega)
theorem dist_tail {o : Oper} {l : List Oper} (h : distB (o :: l) = true) : distB l = true ∧ ∀ p ∈ l, ∀ x, o.dst = some x → p.dst ≠ some x := by
 simp only [distB, Bool.and_eq_true] at h
 refine ⟨h.2, fun p hp x hx => ?_⟩
 rw [hx] at h
 have := List.all_eq_true.1 h.1 p hp
 simpa using this
theorem putD_upd {done : Nat → Bool} {val : Nat → Value} (v : Value) : ∀ (l : List Oper) (k i : Nat) (a : Act) (o : Oper), distB l = true → l[i]? = some o → done (k + i) = false →
    putD (updF done (k + i) true) (updF val (k + i) v) l k a = (putD done val l k a).put o.dst v
  | [], _, _, _, _, _, h, _ => by simp at h
  | p :: l, k, 0, a, o, hB, ho, hd => by
    obtain rfl : p = o := by simpa using ho
    obtain ⟨_, hne⟩ := dist_tail hB
    simp only [putD, Nat.add_zero, updF_same, if_true]
    simp only [Nat.add_zero] at hd
    rw [hd, if_neg (by decide), putD_congr (done' := done) (val' := val) l (k + 1) _ fun j hj => ⟨updF_ne _ _ (by omega), updF_ne _ _ (by omega)⟩]
    exact putD_put _ _ l _ _ hne
  | p :: l, k, i + 1, a, o, hB, ho, hd => by
    have ho' : l[i]? = some o := by simpa using ho
    simp only [putD]
    rw [updF_ne _ _ (show k ≠ k + (i + 1) by omega), updF_ne _ _ (show k ≠ k + (i + 1) by omega)]
    have := putD_upd (val := val) v l (k + 1) i (if done k = true then a.put p.dst (val k) else a) o (dist_tail hB).1 ho' (by rw [show k + 1 + i = k + (i + 1) by omega]; exact hd)
    rw [show k + 1 + i = k + (i + 1) by omega] at this
    exact this
theorem putD_size {done : Nat → Bool} {val : Nat → Value} : ∀ (l : List Oper) (k : Nat) (a : Act), (putD done val l k a).tmps.size = a.tmps.size
  | [], _, _ => rfl
  | o :: l, k, a => by
    simp only [putD]
    rw [putD_size l]
    split
    · cases o.dst <;> simp [Act.put]
    · rfl
theorem eval_put_same {a : Act} {d : Tmp} {v : Value} (h : d < a.tmps.size) : (a.put (some d) v).eval (.tmp d) = v := by
 simp [Act.put, Act.eval, h]
theorem eval_putD {done : Nat → Bool} {val : Nat → Value} : ∀ (l : List Oper) (k i : Nat) (a : Act) (o : Oper) (d : Tmp), distB l = true → l[i]? = some o → o.dst = some d → done (k + i) = true → d < a.tmps.size → (putD done val l k a).eval (.tmp d) = val (k + i)
  | [], _, _, _, _, _, _, h, _, _, _ => by simp at h
  | p :: l, k, 0, a, o, d, hB, ho, hd, hk, hs => by
    obtain rfl : p = o := by simpa using ho
    simp only [Nat.add_zero] at hk ⊢
    simp only [putD]
    rw [hk, if_pos rfl, hd, putD_put (some d) _ l _ _ fun q hq x hx => (dist_tail hB).2 q hq x (by rw [hd]; exact hx)]
    exact eval_put_same (by rw [putD_size]; exact hs)
  | p :: l, k, i + 1, a, o, d, hB, ho, hd, hk, hs => by
    simp only [putD]
    have := eval_putD (done := done) (val := val) l (k + 1) i (if done k = true then a.put p.dst (val k) else a) o d (dist_tail hB).1 (by simpa using ho) hd (by rw [show k + 1 + i = k + (i + 1) by omega]; exact hk) (by split <;> (try cases p.dst) <;> simpa [Act.put] using hs)
    rw [show k + 1 + i = k + (i + 1) by omega] at this
    exact this
theorem eval_putD_out {done : Nat → Bool} {val : Nat → Value} (t : Tmp) : ∀ (l : List Oper) (k : Nat) (a : Act), (∀ o ∈ l, o.dst ≠ some t) → (putD done val l k a).eval (.tmp t) = a.eval (.tmp t)
  | [], _, _, _ => rfl
  | o :: l, k, a, h => by
    simp only [putD]
    rw [eval_putD_out t l (k + 1) _ fun p hp => h p (by simp [hp])]
    split
    · exact Act.eval_put fun d hd he => h o (by simp) (by rw [hd]; injection he with he; rw [he])
    · rfl
/-- How many are left. -/
def cntF (f : Nat → Bool) : Nat → Nat
 | 0 => 0
 | n + 1 => cntF f n + if f n = true then 0 else 1
theorem cntF_upd (f : Nat → Bool) (i : Nat) (hi : f i = false) : ∀ n, cntF (updF f i true) n + (if i < n then 1 else 0) = cntF f n
  | 0 => by simp [cntF]
  | n + 1 => by
    have ih := cntF_upd f i hi n
    simp only [cntF]
    by_cases h : n = i
    · subst h
      rw [if_neg (Nat.lt_irrefl n)] at ih
      have h1 : (if n < n + 1 then 1 else 0) = 1 := if_pos (Nat.lt_succ_self n)
      rw [updF_same, hi, h1]
      simp only [if_true, Bool.false_eq_true, if_false]
      omega
    · rw [updF_ne _ _ h]
      by_cases h2 : i < n
      · rw [if_pos h2] at ih
        have h1 : (if i < n + 1 then 1 else 0) = 1 := if_pos (by omega)
        rw [h1]
        omega
      · rw [if_neg h2] at ih
        have h1 : (if i < n + 1 then 1 else 0) = 0 := if_neg (by omega)
        rw [h1]
        omega
theorem cntF_zero (f : Nat → Bool) : ∀ n, cntF f n = 0 → ∀ i, i < n → f i = true
  | 0, _, i, hi => by omega
  | n + 1, h, i, hi => by
    simp only [cntF] at h
    by_cases hn : f n = true
    · rw [if_pos hn] at h
      rcases Nat.lt_or_ge i n with h2 | h2
      · exact cntF_zero f n h i h2
      · obtain rfl : i = n := by omega
        exact hn
    · rw [if_neg hn] at h; omega
/-- What is asked of one operation: J is kept. -/
def KeepsJ (P : Program) (md : Region.Mode) (ops : Array Oper) (Q : Exit → Act → World → Prop) (J : (Nat → Bool) → (Nat → Value) → World → Prop) (a0 : Act) : Prop :=
  ∀ (i : Nat) (o : Oper) (done : Nat → Bool) (val : Nat → Value) (w' : World), ops[i]? = some o → done i = false → (∀ e ∈ o.after, Region.binds md e = true → done e.on = true) → J done val w' →
    Region.wanted o (yielded ops (putD done val ops.toList 0 a0).tmps) = true ∧ Oper.wp P o (putD done val ops.toList 0 a0) w' (fun a' w'' => ∃ v, a' = (putD done val ops.toList 0 a0).put o.dst v ∧ J (updF done i true) (updF val i v) w'') Q
theorem cntF_none (n : Nat) : cntF (fun _ => false) n = n := by
 induction n with
 | zero => rfl
 | succ n ih => simp [cntF, ih]
open Go.RowKit
def backM (md : Region.Mode) (ops : Array Oper) : Bool := (List.range ops.size).all fun i => match ops[i]? with | none => true | some o => o.after.all fun e => !Region.binds md e || decide (e.on < i)
theorem ready_nilM {md : Region.Mode} {ops : Array Oper} {listed : Array Bool} (hb : backM md ops = true) (hs : listed.size = ops.size) (h : Region.ready md ops listed = []) (i : Nat) : i < ops.size → listed.getD i false = true := by
  induction i using Nat.strongRecOn with
  | _ i ih =>
    intro hi
    cases hl : listed.getD i false with
    | true => rfl
    | false =>
      have hmem : i ∈ Region.ready md ops listed := mem_ready.2 ⟨by
        have : i < listed.size := by omega
        simp [this] at hl ⊢
        exact hl, ops[i], by simp [hi], fun e he hbd => by
        have hb' := List.all_eq_true.1 hb i (by simpa using hi)
        simp only [Array.getElem?_eq_getElem hi] at hb'
        have hlt : e.on < i := by
          rw [Array.all_eq_true] at hb'
          obtain ⟨k, hk, rfl⟩ := Array.mem_iff_getElem.1 he
          have h3 := hb' k hk
          rw [hbd] at h3
          simpa using h3
        exact ih e.on hlt (by omega)⟩
      rw [h] at hmem
      cases hmem
/-- What an operation yields: a value; a block of its own; a block that is filled later; nothing: it fills what number b made. -/
inductive Spec where
  | val (v : Value)
  | mk (f : Nat → Value) (t : TypeId) (cs : Array Value)
  | box (st : Nat) (t : TypeId) (z cs : Array Value)
  | fill (b : Nat)
def Spec.mem : Spec → Bool
 | .mk _ _ _ => true
 | .box _ _ _ _ => true
 | _ => false
def Spec.Ok (done : Nat → Bool) (v : Value) (w : World) (g : Nat) : Spec → Prop
 | .val u => v = u
 | .mk f t cs => v = f g ∧ Blk w g t cs
 | .box st t z cs => v = .pointer (some ⟨g, 0, none⟩) ∧ Blk w g t (if done st = true then cs else z)
 | .fill _ => True
/-- Nothing but block g has turned. -/
structure OnlyAt (g : Nat) (w w' : World) : Prop where
  os : w'.os = w.os
  tape : w'.tape = w.tape
  output : w'.output = w.output
  size : w'.heap.size = w.heap.size
  block : ∀ b, b ≠ g → w'.heap[b]? = w.heap[b]?
theorem OnlyAt.refl (g : Nat) (w : World) : OnlyAt g w w := ⟨rfl, rfl, rfl, rfl, fun _ _ => rfl⟩
theorem OnlyAt.setCell {g : Nat} {a w : World} (h : OnlyAt g a w) (o : Nat) (u : Value) : OnlyAt g a (w.setCell ⟨g, o, none⟩ u) :=
 ⟨h.os, h.tape, h.output, by simpa [World.setCell] using h.size, fun b hb => (Below.heap_setCell _ _ _ _ (show b ≠ g from hb)).trans (h.block b hb)⟩
theorem OnlyAt.ext {g : Nat} {W w w' : World} (h : OnlyAt g w w') (hE : Ext W w) (hg : W.heap.size ≤ g) : Ext W w' :=
 ⟨h.os.trans hE.os, h.tape.trans hE.tape, h.output.trans hE.output, by rw [h.size]; exact hE.size, fun b hb => (h.block b (by omega)).trans (hE.block b hb)⟩
def JS (W : World) (n : Nat) (sp : Nat → Spec) (done : Nat → Bool) (val : Nat → Value) (w : World) : Prop :=
 Ext W w ∧ ∃ G : Nat → Nat, (∀ i, i < n → done i = true → (sp i).Ok done (val i) w (G i)) ∧ (∀ i, i < n → done i = true → (sp i).mem = true → W.heap.size ≤ G i ∧ G i < w.heap.size) ∧
  (∀ i j, i < n → j < n → done i = true → done j = true → (sp i).mem = true → (sp j).mem = true → G i = G j → i = j) ∧ (∀ i b, i < n → sp i = .fill b → done i = true → done b = true)
theorem JS.start (W : World) (n : Nat) (sp : Nat → Spec) (val : Nat → Value) : JS W n sp (fun _ => false) val W.drew :=
 ⟨(Ext.refl W).drew, fun _ => 0, fun _ _ h => Bool.noConfusion h, fun _ _ h => Bool.noConfusion h, fun _ _ _ _ h => Bool.noConfusion h, fun _ _ _ _ h => Bool.noConfusion h⟩
def StepOk (P : Program) (Q : Exit → Act → World → Prop) (sp : Nat → Spec) (o : Oper) (a : Act) (w : World) (G : Nat → Nat) : Spec → Prop
  | .val u => Oper.wp P o a w (fun a' w'' => a' = a.put o.dst u ∧ Ext w w'') Q
  | .mk f t cs => Oper.wp P o a w (fun a' w'' => ∃ g, a' = a.put o.dst (f g) ∧ w.heap.size ≤ g ∧ Ext w w'' ∧ Blk w'' g t cs) Q
  | .box _ t z _ => Oper.wp P o a w (fun a' w'' => ∃ g, a' = a.put o.dst (.pointer (some ⟨g, 0, none⟩)) ∧ w.heap.size ≤ g ∧ Ext w w'' ∧ Blk w'' g t z) Q
  | .fill b => match sp b with
    | .box _ t _ cs => Oper.wp P o a w (fun a' w'' => ∃ v, a' = a.put o.dst v ∧ OnlyAt (G b) w w'' ∧ Blk w'' (G b) t cs) Q
    | _ => False
def outB' (ops : Array Oper) (t : Tmp) : Bool := ops.toList.all fun o => o.dst != some t
theorem outB'_spec {ops : Array Oper} {t : Tmp} (h : outB' ops t = true) : ∀ o ∈ ops.toList, o.dst ≠ some t := fun o ho => by
 have := List.all_eq_true.1 h o ho
 simpa using this
theorem wanted_none' {o : Oper} {a : Nat → Option Bool} (h : o.guard = none) : Region.wanted o a = true := by
 unfold Region.wanted; rw [h]
theorem Spec.Ok.mono {sp : Spec} {done done' : Nat → Bool} {v : Value} {w w' : World} {g : Nat} (h : sp.Ok done v w g) (hd : ∀ st t z cs, sp = .box st t z cs → done' st = done st) (hw : sp.mem = true → w'.heap[g]? = w.heap[g]?) : sp.Ok done' v w' g := by
  cases sp with
  | val u => exact h
  | mk f t cs => exact ⟨h.1, (hw rfl).trans h.2⟩
  | box st t z cs =>
    refine ⟨h.1, ?_⟩
    rw [hd st t z cs rfl]
    exact (hw rfl).trans h.2
  | fill b => trivial
theorem Spec.Ok.lt {sp : Spec} {done : Nat → Bool} {v : Value} {w : World} {g : Nat} (h : sp.Ok done v w g) (hm : sp.mem = true) : g < w.heap.size := by
 cases sp with
 | val u => cases hm
 | mk f t cs => exact h.2.lt
 | box st t z cs => exact h.2.lt
 | fill b => cases hm
theorem JS.keeps {P : Program} {ops : Array Oper} {Q : Exit → Act → World → Prop} {a0 : Act} {W : World} {sp : Nat → Spec} (hB : distB ops.toList = true)
    (hfill : ∀ i b, i < ops.size → sp i = .fill b → b < ops.size ∧ (∃ t z cs, sp b = .box i t z cs) ∧ ∃ o, ops[i]? = some o ∧ ∃ e ∈ o.after, Region.binds .any e = true ∧ e.on = b)
    (hbox : ∀ b st t z cs, b < ops.size → sp b = .box st t z cs → st < ops.size ∧ sp st = .fill b)
    (hst : ∀ i, i < ops.size → ∃ o, ops[i]? = some o ∧ o.guard = none ∧ ∀ (a : Act) (w : World) (done : Nat → Bool) (val : Nat → Value) (G : Nat → Nat), done i = false →
      (∀ e ∈ o.after, Region.binds .any e = true → done e.on = true) → (∀ j oj d, ops[j]? = some oj → oj.dst = some d → d < a0.tmps.size → done j = true → a.eval (.tmp d) = val j) →
      (∀ t, outB' ops t = true → a.eval (.tmp t) = a0.eval (.tmp t)) → Ext W w → (∀ j, j < ops.size → done j = true → (sp j).Ok done (val j) w (G j)) → StepOk P Q sp o a w G (sp i)) :
    KeepsJ P .any ops Q (JS W ops.size sp) a0 := by
  intro i o done val w' ho hdn hdep hJ
  have hi : i < ops.size := by
    rcases Nat.lt_or_ge i ops.size with h | h
    · exact h
    · rw [Array.getElem?_eq_none h] at ho; cases ho
  obtain ⟨hE, G, hok, hge, hinj, hfd⟩ := hJ
  obtain ⟨o', ho', hg, hstep⟩ := hst i hi
  rw [ho] at ho'
  cases ho'
  refine ⟨wanted_none' hg, ?_⟩
  have hs := hstep (putD done val ops.toList 0 a0) w' done val G hdn hdep (fun j oj d h1 h2 h3 h4 => by
    have := eval_putD (done := done) (val := val) ops.toList 0 j a0 oj d hB (by simpa using h1) h2 (by rw [Nat.zero_add]; exact h4) h3
    rw [Nat.zero_add] at this
    exact this) (fun t ht => eval_putD_out _ _ _ _ (outB'_spec ht)) hE hok
  generalize putD done val ops.toList 0 a0 = a at hs ⊢
  have hnst : ∀ j st t z cs, j < ops.size → sp j = .box st t z cs → (∀ b, sp i = .fill b → b ≠ j) → updF done i true st = done st := fun j st t z cs hj hs hb => by
    refine updF_ne _ _ fun e => ?_
    obtain ⟨_, h2⟩ := hbox j st t z cs hj hs
    exact hb j (e ▸ h2) rfl
  have hpast : ∀ j, done j = true → j ≠ i := fun j h e => by subst e; rw [hdn] at h; cases h
  have hfd' : ∀ j b, j < ops.size → sp j = .fill b → updF done i true j = true → (i = j → done b = true) → updF done i true b = true := fun j b hj hs hd hq => by
    by_cases hb : b = i
    · subst hb; exact updF_same _ _ _
    · rw [updF_ne _ _ hb]
      by_cases e : j = i
      · exact hq e.symm
      · rw [updF_ne _ _ e] at hd
        exact hfd j b hj hs hd
  cases hsp : sp i with
  | val u =>
    rw [hsp] at hs
    refine Oper.wp_mono ?_ hs
    rintro a' w'' ⟨ha, he⟩
    refine ⟨u, ha, hE.trans he, G, fun j hj hd => ?_, fun j hj hd hm => ?_, fun j k hj hk hd hd' hm hm' h => ?_, fun j b hj hs hd => hfd' j b hj hs hd fun e => by subst e; rw [hsp] at hs; cases hs⟩
    · by_cases e : j = i
      · subst e
        rw [hsp, updF_same]
        exact rfl
      · rw [updF_ne _ _ e] at hd ⊢
        refine (hok j hj hd).mono (fun st t z cs h => hnst j st t z cs hj h fun b hb => by rw [hsp] at hb; cases hb) fun hm => he.block _ ((hge j hj hd hm).2)
    · have e : j ≠ i := fun e => by subst e; rw [hsp] at hm; cases hm
      rw [updF_ne _ _ e] at hd
      have := hge j hj hd hm
      exact ⟨this.1, Nat.lt_of_lt_of_le this.2 he.size⟩
    · have e : j ≠ i := fun e => by subst e; rw [hsp] at hm; cases hm
      have e' : k ≠ i := fun e => by subst e; rw [hsp] at hm'; cases hm'
      rw [updF_ne _ _ e] at hd
      rw [updF_ne _ _ e'] at hd'
      exact hinj j k hj hk hd hd' hm hm' h
  | mk f t cs =>
    rw [hsp] at hs
    refine Oper.wp_mono ?_ hs
    rintro a' w'' ⟨g, ha, hgs, he, hB⟩
    refine ⟨f g, ha, hE.trans he, updF G i g, fun j hj hd => ?_, fun j hj hd hm => ?_, fun j k hj hk hd hd' hm hm' h => ?_, fun j b hj hs hd => hfd' j b hj hs hd fun e => by subst e; rw [hsp] at hs; cases hs⟩
    · by_cases e : j = i
      · subst e
        rw [hsp, updF_same, updF_same]
        exact ⟨rfl, hB⟩
      · rw [updF_ne _ _ e] at hd ⊢
        rw [updF_ne _ _ e]
        refine (hok j hj hd).mono (fun st t z cs h => hnst j st t z cs hj h fun b hb => by rw [hsp] at hb; cases hb) fun hm => he.block _ ((hge j hj hd hm).2)
    · by_cases e : j = i
      · subst e
        rw [updF_same]
        exact ⟨Nat.le_trans hE.size hgs, hB.lt⟩
      · rw [updF_ne _ _ e] at hd ⊢
        have := hge j hj hd hm
        exact ⟨this.1, Nat.lt_of_lt_of_le this.2 he.size⟩
    · by_cases e : j = i <;> by_cases e' : k = i
      · rw [e, e']
      · exfalso
        subst e
        rw [updF_ne _ _ e'] at hd'
        rw [updF_same, updF_ne _ _ e'] at h
        have := (hge k hk hd' hm').2
        omega
      · exfalso
        subst e'
        rw [updF_ne _ _ e] at hd
        rw [updF_same, updF_ne _ _ e] at h
        have := (hge j hj hd hm).2
        omega
      · rw [updF_ne _ _ e] at hd
        rw [updF_ne _ _ e'] at hd'
        rw [updF_ne _ _ e, updF_ne _ _ e'] at h
        exact hinj j k hj hk hd hd' hm hm' h
  | box st t z cs =>
    rw [hsp] at hs
    refine Oper.wp_mono ?_ hs
    rintro a' w'' ⟨g, ha, hgs, he, hB⟩
    obtain ⟨hst1, hst2⟩ := hbox i st t z cs hi hsp
    refine ⟨_, ha, hE.trans he, updF G i g, fun j hj hd => ?_, fun j hj hd hm => ?_, fun j k hj hk hd hd' hm hm' h => ?_, fun j b hj hs hd => hfd' j b hj hs hd fun e => by subst e; rw [hsp] at hs; cases hs⟩
    · by_cases e : j = i
      · subst e
        rw [hsp, updF_same, updF_same]
        refine ⟨rfl, ?_⟩
        have hne : st ≠ j := fun e => by subst e; rw [hsp] at hst2; cases hst2
        rw [updF_ne _ _ hne]
        have hns : ¬ done st = true := fun h => by
          have := hfd st j hst1 hst2 h
          rw [hdn] at this
          cases this
        rw [if_neg hns]
        exact hB
      · rw [updF_ne _ _ e] at hd ⊢
        rw [updF_ne _ _ e]
        refine (hok j hj hd).mono (fun st t z cs h => hnst j st t z cs hj h fun b hb => by rw [hsp] at hb; cases hb) fun hm => he.block _ ((hge j hj hd hm).2)
    · by_cases e : j = i
      · subst e
        rw [updF_same]
        exact ⟨Nat.le_trans hE.size hgs, hB.lt⟩
      · rw [updF_ne _ _ e] at hd ⊢
        have := hge j hj hd hm
        exact ⟨this.1, Nat.lt_of_lt_of_le this.2 he.size⟩
    · by_cases e : j = i <;> by_cases e' : k = i
      · rw [e, e']
      · exfalso
        subst e
        rw [updF_ne _ _ e'] at hd'
        rw [updF_same, updF_ne _ _ e'] at h
        have := (hge k hk hd' hm').2
        omega
      · exfalso
        subst e'
        rw [updF_ne _ _ e] at hd
        rw [updF_same, updF_ne _ _ e] at h
        have := (hge j hj hd hm).2
        omega
      · rw [updF_ne _ _ e] at hd
        rw [updF_ne _ _ e'] at hd'
        rw [updF_ne _ _ e, updF_ne _ _ e'] at h
        exact hinj j k hj hk hd hd' hm hm' h
  | fill b =>
    obtain ⟨hb, ⟨t, z, cs, hbx⟩, oi, hoi, e, hea, hbi, hon⟩ := hfill i b hi hsp
    rw [ho] at hoi
    cases hoi
    have hdb : done b = true := hon ▸ hdep e hea hbi
    rw [hsp] at hs
    simp only [StepOk, hbx] at hs
    refine Oper.wp_mono ?_ hs
    rintro a' w'' ⟨v, ha, hon', hB⟩
    have hmb : (sp b).mem = true := by rw [hbx]; rfl
    have hgb := hge b hb hdb hmb
    refine ⟨v, ha, hon'.ext hE hgb.1, G, fun j hj hd => ?_, fun j hj hd hm => ?_, fun j k hj hk hd hd' hm hm' h => ?_, fun j b' hj hs hd => hfd' j b' hj hs hd fun e => by
      subst e
      rw [hsp] at hs
      injection hs with hs
      subst hs
      exact hdb⟩
    · by_cases e : j = i
      · subst e
        rw [hsp]
        trivial
      · rw [updF_ne _ _ e] at hd ⊢
        by_cases ejb : j = b
        · subst ejb
          have h1 := hok j hj hd
          rw [hbx] at h1 ⊢
          refine ⟨h1.1, ?_⟩
          rw [updF_same, if_pos rfl]
          exact hB
        · refine (hok j hj hd).mono (fun st t z cs h => hnst j st t z cs hj h fun b' hb' => by rw [hsp] at hb'; injection hb' with hb'; rw [← hb']; exact fun e => ejb e.symm) fun hm => hon'.block _ fun hG => ejb (hinj j b hj hb hd hdb hm hmb hG)
    · have e : j ≠ i := fun e => by subst e; rw [hsp] at hm; cases hm
      rw [updF_ne _ _ e] at hd
      have := hge j hj hd hm
      exact ⟨this.1, by rw [hon'.size]; exact this.2⟩
    · have e : j ≠ i := fun e => by subst e; rw [hsp] at hm; cases hm
      have e' : k ≠ i := fun e => by subst e; rw [hsp] at hm'; cases hm'
      rw [updF_ne _ _ e] at hd
      rw [updF_ne _ _ e'] at hd'
      exact hinj j k hj hk hd hd' hm hm' h
/-- Steps by their runs. -/
theorem step_val {P : Program} {Q : Exit → Act → World → Prop} {o : Oper} {a : Act} {w w'' : World} {u : Value} (h : (execOp a.eval o).run P w = .ok (.value u) w'') (he : Ext w w'') : Oper.wp P o a w (fun a' w'' => a' = a.put o.dst u ∧ Ext w w'') Q := by
 unfold Oper.wp
 rw [h]
 exact ⟨rfl, he⟩
/-- What an operation yields: a value; a block of its own; a block that is filled later; nothing: it fills what number b made; something of which R holds, in blocks of its own from lo up to hi. -/
inductive Wd where
  | val (v : Value)
  | mk (f : Nat → Value) (t : TypeId) (cs : Array Value)
  | box (st : Nat) (t : TypeId) (z : Array Value) (cs : (Nat → Value) → Array Value)
  | fill (b : Nat)
  | any (R : Nat → Nat → Value → World → Prop)
def Wd.mem : Wd → Bool
 | .mk _ _ _ => true
 | .box _ _ _ _ => true
 | .any _ => true
 | _ => false
def Wd.Ok (done : Nat → Bool) (val : Nat → Value) (v : Value) (w : World) (g h : Nat) : Wd → Prop
 | .val u => v = u
 | .mk f t cs => (v = f g ∧ Blk w g t cs) ∧ h = g + 1
 | .box st t z cs => (v = .pointer (some ⟨g, 0, none⟩) ∧ Blk w g t (if done st = true then cs val else z)) ∧ h = g + 1
 | .fill _ => True
 | .any R => R g h v w
/-- What stays while nothing but other blocks turns. -/
def Stays (W : World) (R : Nat → Nat → Value → World → Prop) : Prop :=
 ∀ lo hi v w w', R lo hi v w → (∀ b, b < W.heap.size ∨ (lo ≤ b ∧ b < hi) → w'.heap[b]? = w.heap[b]?) → w.heap.size ≤ w'.heap.size → R lo hi v w'
def JW (W : World) (n : Nat) (sp : Nat → Wd) (done : Nat → Bool) (val : Nat → Value) (w : World) : Prop :=
 Ext W w ∧ ∃ G H : Nat → Nat, (∀ i, i < n → done i = true → (sp i).Ok done val (val i) w (G i) (H i)) ∧ (∀ i, i < n → done i = true → (sp i).mem = true → W.heap.size ≤ G i ∧ G i ≤ H i ∧ H i ≤ w.heap.size) ∧
  (∀ i j, i < n → j < n → i ≠ j → done i = true → done j = true → (sp i).mem = true → (sp j).mem = true → H i ≤ G j ∨ H j ≤ G i) ∧ (∀ i b, i < n → sp i = .fill b → done i = true → done b = true)
theorem JW.start (W : World) (n : Nat) (sp : Nat → Wd) (val : Nat → Value) : JW W n sp (fun _ => false) val W.drew :=
 ⟨(Ext.refl W).drew, fun _ => 0, fun _ => 0, fun _ _ h => Bool.noConfusion h, fun _ _ h => Bool.noConfusion h, fun _ _ _ _ _ h => Bool.noConfusion h, fun _ _ _ _ h => Bool.noConfusion h⟩
def StepW (P : Program) (Q : Exit → Act → World → Prop) (sp : Nat → Wd) (o : Oper) (a : Act) (w : World) (G : Nat → Nat) (val : Nat → Value) : Wd → Prop
  | .val u => Oper.wp P o a w (fun a' w'' => a' = a.put o.dst u ∧ Ext w w'') Q
  | .mk f t cs => Oper.wp P o a w (fun a' w'' => ∃ g, a' = a.put o.dst (f g) ∧ w.heap.size ≤ g ∧ Ext w w'' ∧ Blk w'' g t cs) Q
  | .box _ t z _ => Oper.wp P o a w (fun a' w'' => ∃ g, a' = a.put o.dst (.pointer (some ⟨g, 0, none⟩)) ∧ w.heap.size ≤ g ∧ Ext w w'' ∧ Blk w'' g t z) Q
  | .fill b => match sp b with
    | .box _ t _ cs => Oper.wp P o a w (fun a' w'' => ∃ v, a' = a.put o.dst v ∧ OnlyAt (G b) w w'' ∧ Blk w'' (G b) t (cs val)) Q
    | _ => False
  | .any R => Oper.wp P o a w (fun a' w'' => ∃ v, a' = a.put o.dst v ∧ Ext w w'' ∧ R w.heap.size w''.heap.size v w'') Q
theorem Wd.Ok.mono {W : World} {sp : Wd} (hR : ∀ R, sp = .any R → Stays W R) {done done' : Nat → Bool} {val val' : Nat → Value} {v : Value} {w w' : World} {g h : Nat} (hk : sp.Ok done val v w g h) (hd : ∀ st t z cs, sp = .box st t z cs → done' st = done st ∧ (done st = true → cs val' = cs val))
    (hw : sp.mem = true → ∀ b, b < W.heap.size ∨ (g ≤ b ∧ b < h) → w'.heap[b]? = w.heap[b]?) (hs : w.heap.size ≤ w'.heap.size) : sp.Ok done' val' v w' g h := by
  cases sp with
  | val u => exact hk
  | mk f t cs => exact ⟨⟨hk.1.1, (hw rfl g (.inr ⟨Nat.le_refl _, by have := hk.2; omega⟩)).trans hk.1.2⟩, hk.2⟩
  | box st t z cs =>
    refine ⟨⟨hk.1.1, ?_⟩, hk.2⟩
    obtain ⟨h1, h2⟩ := hd st t z cs rfl
    rw [h1]
    have := hk.1.2
    have hb : Blk w' g t (if done st = true then cs val else z) := (hw rfl g (.inr ⟨Nat.le_refl _, by have := hk.2; omega⟩)).trans this
    by_cases e : done st = true
    · rw [if_pos e] at hb ⊢
      rw [h2 e]
      exact hb
    · rw [if_neg e] at hb ⊢
      exact hb
  | fill b => trivial
  | any R => exact hR R rfl g h v w w' hk (hw rfl) hs
/-- The same, and that what is done has all done that it waits for. -/
def JV (W : World) (ops : Array Oper) (sp : Nat → Wd) (done : Nat → Bool) (val : Nat → Value) (w : World) : Prop :=
 JW W ops.size sp done val w ∧ ∀ i o, ops[i]? = some o → done i = true → ∀ e ∈ o.after, Region.binds .any e = true → done e.on = true
theorem JV.start (W : World) (ops : Array Oper) (sp : Nat → Wd) (val : Nat → Value) : JV W ops sp (fun _ => false) val W.drew := ⟨JW.start _ _ _ _, fun _ _ _ h => Bool.noConfusion h⟩
/-- An operation that is not skipped: it bears no guard, or its guard's word is what it wants. -/
def GuardOk (ops : Array Oper) (sp : Nat → Wd) (n m : Nat) (o : Oper) : Prop :=
 o.guard = none ∨ ∃ j want oj d, o.guard = some (j, want) ∧ ops[j]? = some oj ∧ oj.dst = some d ∧ d < m ∧ j < n ∧ sp j = .val (.bool want) ∧ o.after.any (fun e => Region.binds .any e && e.on == j) = true
theorem GuardOk.wanted {ops : Array Oper} {sp : Nat → Wd} {n : Nat} {a0 : Act} {o : Oper} {done : Nat → Bool} {val : Nat → Value} {w : World} {G H : Nat → Nat} (hB : distB ops.toList = true) (h : GuardOk ops sp n a0.tmps.size o)
  (hdep : ∀ e ∈ o.after, Region.binds .any e = true → done e.on = true) (hok : ∀ j, j < n → done j = true → (sp j).Ok done val (val j) w (G j) (H j)) :
  Region.wanted o (yielded ops (putD done val ops.toList 0 a0).tmps) = true := by
 rcases h with h | ⟨j, want, oj, d, h1, h2, h3, h4, h5, h6, h7⟩
 ·exact wanted_none' h
 ·obtain ⟨e, he, heb⟩ := Array.any_eq_true'.1 h7
  obtain ⟨hb1, hb2⟩ := (Bool.and_eq_true _ _).mp heb
  have hj : done j = true := by
   have := hdep e he hb1
   rwa [show e.on = j by simpa using hb2] at this
  have hv := hok j h5 hj
  rw [h6] at hv
  replace hv : val j = .bool want := hv
  have hev := eval_putD (done := done) (val := val) ops.toList 0 j a0 oj d hB (by simpa using h2) h3 (by rw [Nat.zero_add]; exact hj) h4
  rw [Nat.zero_add, hv] at hev
  have hsz : d < (putD done val ops.toList 0 a0).tmps.size := by rw [putD_size]; exact h4
  have hy : yielded ops (putD done val ops.toList 0 a0).tmps j = some want := by
   generalize putD done val ops.toList 0 a0 = a at hev hsz ⊢
   have hg : a.tmps[d]? = some (.bool want) := by
    simp [Act.eval, hsz] at hev
    rw [Array.getElem?_eq_getElem hsz, hev]
   simp [yielded, h2, h3, hg]
  simp [Region.wanted, h1, hy]
theorem JW.keepsG {P : Program} {ops : Array Oper} {Q : Exit → Act → World → Prop} {a0 : Act} {W : World} {sp : Nat → Wd} (hB : distB ops.toList = true)
    (hany : ∀ i R, i < ops.size → sp i = .any R → Stays W R)
    (hfill : ∀ i b, i < ops.size → sp i = .fill b → b < ops.size ∧ (∃ t z cs, sp b = .box i t z cs) ∧ ∃ o, ops[i]? = some o ∧ ∃ e ∈ o.after, Region.binds .any e = true ∧ e.on = b)
    (hbox : ∀ b st t z cs, b < ops.size → sp b = .box st t z cs → st < ops.size ∧ sp st = .fill b ∧ ∀ (i : Nat) (val : Nat → Value) (v : Value) (done : Nat → Bool), i < ops.size → done i = false → (∀ o, ops[st]? = some o → done st = true → ∀ e ∈ o.after, Region.binds .any e = true → done e.on = true) → done st = true → cs (updF val i v) = cs val)
    (hst : ∀ i, i < ops.size → ∃ o, ops[i]? = some o ∧ GuardOk ops sp ops.size a0.tmps.size o ∧ ∀ (a : Act) (w : World) (done : Nat → Bool) (val : Nat → Value) (G H : Nat → Nat), done i = false →
      (∀ e ∈ o.after, Region.binds .any e = true → done e.on = true) → (∀ j oj d, ops[j]? = some oj → oj.dst = some d → d < a0.tmps.size → done j = true → a.eval (.tmp d) = val j) →
      (∀ t, outB' ops t = true → a.eval (.tmp t) = a0.eval (.tmp t)) → Ext W w → (∀ j, j < ops.size → done j = true → (sp j).Ok done val (val j) w (G j) (H j)) →
      (∀ j, j < ops.size → done j = true → (sp j).mem = true → W.heap.size ≤ G j ∧ G j ≤ H j ∧ H j ≤ w.heap.size) →
      (∀ v b, sp i = .fill b → ∀ t z cs, sp b = .box i t z cs → cs (updF val i v) = cs val) ∧ StepW P Q sp o a w G val (sp i)) :
    KeepsJ P .any ops Q (JV W ops sp) a0 := by
  intro i o done val w' ho hdn hdep ⟨hJ, hdw⟩
  have hi : i < ops.size := by
    rcases Nat.lt_or_ge i ops.size with h | h
    · exact h
    · rw [Array.getElem?_eq_none h] at ho; cases ho
  obtain ⟨hE, G, H, hok, hge, hdis, hfd⟩ := hJ
  obtain ⟨o', ho', hg, hstep⟩ := hst i hi
  rw [ho] at ho'
  cases ho'
  refine ⟨hg.wanted hB hdep hok, ?_⟩
  obtain ⟨hcs, hs⟩ := hstep (putD done val ops.toList 0 a0) w' done val G H hdn hdep (fun j oj d h1 h2 h3 h4 => by
    have := eval_putD (done := done) (val := val) ops.toList 0 j a0 oj d hB (by simpa using h1) h2 (by rw [Nat.zero_add]; exact h4) h3
    rw [Nat.zero_add] at this
    exact this) (fun t ht => eval_putD_out _ _ _ _ (outB'_spec ht)) hE hok hge
  generalize putD done val ops.toList 0 a0 = a at hs ⊢
  have hdw' : ∀ j oj, ops[j]? = some oj → updF done i true j = true → ∀ e ∈ oj.after, Region.binds .any e = true → updF done i true e.on = true := fun j oj hj hd e he hb => by
    by_cases hji : j = i
    · subst hji
      rw [ho] at hj
      cases hj
      have := hdep e he hb
      by_cases h : e.on = j
      · rw [h, updF_same]
      · rw [updF_ne _ _ h]; exact this
    · rw [updF_ne _ _ hji] at hd
      have := hdw j oj hj hd e he hb
      by_cases h : e.on = i
      · rw [h, updF_same]
      · rw [updF_ne _ _ h]; exact this
  have hnst : ∀ (v : Value) j st t z cs, j < ops.size → sp j = .box st t z cs → (∀ b, sp i = .fill b → b ≠ j) → updF done i true st = done st ∧ (done st = true → cs (updF val i v) = cs val) := fun v j st t z cs hj hs hb => by
    obtain ⟨_, h2, h3⟩ := hbox j st t z cs hj hs
    exact ⟨updF_ne _ _ fun e => hb j (e ▸ h2) rfl, fun hd => h3 i val v done hi hdn (fun o ho hd => hdw st o ho hd) hd⟩
  have hpast : ∀ j, done j = true → j ≠ i := fun j h e => by subst e; rw [hdn] at h; cases h
  have hfd' : ∀ j b, j < ops.size → sp j = .fill b → updF done i true j = true → (i = j → done b = true) → updF done i true b = true := fun j b hj hs hd hq => by
    by_cases hb : b = i
    · subst hb; exact updF_same _ _ _
    · rw [updF_ne _ _ hb]
      by_cases e : j = i
      · exact hq e.symm
      · rw [updF_ne _ _ e] at hd
        exact hfd j b hj hs hd
  -- one step that makes the blocks [g, h) and turns nothing old
  have made : ∀ (v : Value) (g h : Nat) (w'' : World), (∀ b, sp i ≠ .fill b) → Ext w' w'' → ((sp i).mem = true → w'.heap.size ≤ g ∧ g ≤ h ∧ h ≤ w''.heap.size) → (sp i).Ok (updF done i true) (updF val i v) v w'' g h → JW W ops.size sp (updF done i true) (updF val i v) w'' := by
    intro v g h w'' hnf he hgh hnew
    refine ⟨hE.trans he, updF G i g, updF H i h, fun j hj hd => ?_, fun j hj hd hm => ?_, fun j k hj hk hne hd hd' hm hm' => ?_, fun j b hj hs hd => hfd' j b hj hs hd fun e => absurd (e ▸ hs) (hnf b)⟩
    · by_cases e : j = i
      · subst e
        rw [updF_same, updF_same, updF_same]
        exact hnew
      · rw [updF_ne _ _ e] at hd
        rw [updF_ne _ _ e, updF_ne _ _ e, updF_ne _ _ e]
        refine (hok j hj hd).mono (hany j · hj) (fun st t z cs h => hnst v j st t z cs hj h fun b hb => absurd hb (hnf b)) (fun hm b hb => ?_) he.size
        have := hge j hj hd hm
        have := hE.size
        exact he.block b (by omega)
    · by_cases e : j = i
      · subst e
        rw [updF_same, updF_same]
        have := hgh hm
        have := hE.size
        omega
      · rw [updF_ne _ _ e] at hd
        rw [updF_ne _ _ e, updF_ne _ _ e]
        have := hge j hj hd hm
        have := he.size
        omega
    · by_cases e : j = i
      · have e' : k ≠ i := fun x => hne (e.trans x.symm)
        rw [updF_ne _ _ e'] at hd'
        rw [e, updF_same, updF_same, updF_ne _ _ e', updF_ne _ _ e']
        have := hgh (e ▸ hm)
        have := hge k hk hd' hm'
        omega
      · rw [updF_ne _ _ e] at hd
        rw [updF_ne _ _ e, updF_ne _ _ e]
        by_cases e' : k = i
        · rw [e', updF_same, updF_same]
          have := hgh (e' ▸ hm')
          have := hge j hj hd hm
          omega
        · rw [updF_ne _ _ e'] at hd'
          rw [updF_ne _ _ e', updF_ne _ _ e']
          exact hdis j k hj hk hne hd hd' hm hm'
  cases hsp : sp i with
  | val u =>
    rw [hsp] at hs
    refine Oper.wp_mono ?_ hs
    rintro a' w'' ⟨ha, he⟩
    exact ⟨u, ha, made u 0 0 w'' (fun b h => by rw [hsp] at h; cases h) he (fun h => by rw [hsp] at h; cases h) (by rw [hsp]; exact rfl), hdw'⟩
  | mk f t cs =>
    rw [hsp] at hs
    refine Oper.wp_mono ?_ hs
    rintro a' w'' ⟨g, ha, hgs, he, hB⟩
    exact ⟨f g, ha, made (f g) g (g + 1) w'' (fun b h => by rw [hsp] at h; cases h) he (fun _ => ⟨hgs, by omega, hB.lt⟩) (by rw [hsp]; exact ⟨⟨rfl, hB⟩, rfl⟩), hdw'⟩
  | box st t z cs =>
    rw [hsp] at hs
    refine Oper.wp_mono ?_ hs
    rintro a' w'' ⟨g, ha, hgs, he, hB⟩
    obtain ⟨hst1, hst2, _⟩ := hbox i st t z cs hi hsp
    refine ⟨_, ha, made _ g (g + 1) w'' (fun b h => by rw [hsp] at h; cases h) he (fun _ => ⟨hgs, by omega, hB.lt⟩) ?_, hdw'⟩
    rw [hsp]
    refine ⟨⟨rfl, ?_⟩, rfl⟩
    have hne : st ≠ i := fun e => by subst e; rw [hsp] at hst2; cases hst2
    rw [updF_ne _ _ hne]
    have hns : ¬ done st = true := fun h => by
      have := hfd st i hst1 hst2 h
      rw [hdn] at this
      cases this
    rw [if_neg hns]
    exact hB
  | any R =>
    rw [hsp] at hs
    refine Oper.wp_mono ?_ hs
    rintro a' w'' ⟨v, ha, he, hR⟩
    exact ⟨v, ha, made v w'.heap.size w''.heap.size w'' (fun b h => by rw [hsp] at h; cases h) he (fun _ => ⟨Nat.le_refl _, he.size, Nat.le_refl _⟩) (by rw [hsp]; exact hR), hdw'⟩
  | fill b =>
    obtain ⟨hb, ⟨t, z, cs, hbx⟩, oi, hoi, e, hea, hbi, hon⟩ := hfill i b hi hsp
    rw [ho] at hoi
    cases hoi
    have hdb : done b = true := hon ▸ hdep e hea hbi
    rw [hsp] at hs
    simp only [StepW, hbx] at hs
    refine Oper.wp_mono ?_ hs
    rintro a' w'' ⟨v, ha, hon', hB⟩
    have hmb : (sp b).mem = true := by rw [hbx]; rfl
    have hgb := hge b hb hdb hmb
    have hgb1 : H b = G b + 1 := by have := hok b hb hdb; rw [hbx] at this; exact this.2
    refine ⟨v, ha, ⟨hon'.ext hE hgb.1, G, H, fun j hj hd => ?_, fun j hj hd hm => ?_, fun j k hj hk hne hd hd' hm hm' => ?_, fun j b' hj hs hd => hfd' j b' hj hs hd fun e => by
      subst e
      rw [hsp] at hs
      injection hs with hs
      subst hs
      exact hdb⟩, hdw'⟩
    · by_cases e : j = i
      · subst e
        rw [hsp]
        trivial
      · rw [updF_ne _ _ e] at hd ⊢
        by_cases ejb : j = b
        · subst ejb
          have h1 := hok j hj hd
          rw [hbx] at h1 ⊢
          refine ⟨⟨h1.1.1, ?_⟩, h1.2⟩
          rw [updF_same, if_pos rfl, hcs v j hsp t z cs hbx]
          exact hB
        · refine (hok j hj hd).mono (hany j · hj) (fun st t z cs h => hnst v j st t z cs hj h fun b' hb' => by rw [hsp] at hb'; injection hb' with hb'; rw [← hb']; exact fun e => ejb e.symm) (fun hm c hc => hon'.block _ ?_) (Nat.le_of_eq hon'.size.symm)
          have h1 := hdis j b hj hb ejb hd hdb hm hmb
          omega
    · have e : j ≠ i := fun e => by subst e; rw [hsp] at hm; cases hm
      rw [updF_ne _ _ e] at hd
      have := hge j hj hd hm
      rw [hon'.size]
      exact this
    · have e : j ≠ i := fun e => by subst e; rw [hsp] at hm; cases hm
      have e' : k ≠ i := fun e => by subst e; rw [hsp] at hm'; cases hm'
      rw [updF_ne _ _ e] at hd
      rw [updF_ne _ _ e'] at hd'
      exact hdis j k hj hk hne hd hd' hm hm'
theorem JW.keeps {P : Program} {ops : Array Oper} {Q : Exit → Act → World → Prop} {a0 : Act} {W : World} {sp : Nat → Wd} (hB : distB ops.toList = true)
  (hany : ∀ i R, i < ops.size → sp i = .any R → Stays W R)
  (hfill : ∀ i b, i < ops.size → sp i = .fill b → b < ops.size ∧ (∃ t z cs, sp b = .box i t z cs) ∧ ∃ o, ops[i]? = some o ∧ ∃ e ∈ o.after, Region.binds .any e = true ∧ e.on = b)
  (hbox : ∀ b st t z cs, b < ops.size → sp b = .box st t z cs → st < ops.size ∧ sp st = .fill b ∧ ∀ (i : Nat) (val : Nat → Value) (v : Value) (done : Nat → Bool), i < ops.size → done i = false → (∀ o, ops[st]? = some o → done st = true → ∀ e ∈ o.after, Region.binds .any e = true → done e.on = true) → done st = true → cs (updF val i v) = cs val)
  (hst : ∀ i, i < ops.size → ∃ o, ops[i]? = some o ∧ o.guard = none ∧ ∀ (a : Act) (w : World) (done : Nat → Bool) (val : Nat → Value) (G H : Nat → Nat), done i = false →
   (∀ e ∈ o.after, Region.binds .any e = true → done e.on = true) → (∀ j oj d, ops[j]? = some oj → oj.dst = some d → d < a0.tmps.size → done j = true → a.eval (.tmp d) = val j) →
   (∀ t, outB' ops t = true → a.eval (.tmp t) = a0.eval (.tmp t)) → Ext W w → (∀ j, j < ops.size → done j = true → (sp j).Ok done val (val j) w (G j) (H j)) →
   (∀ j, j < ops.size → done j = true → (sp j).mem = true → W.heap.size ≤ G j ∧ G j ≤ H j ∧ H j ≤ w.heap.size) →
   (∀ v b, sp i = .fill b → ∀ t z cs, sp b = .box i t z cs → cs (updF val i v) = cs val) ∧ StepW P Q sp o a w G val (sp i)) :
  KeepsJ P .any ops Q (JV W ops sp) a0 :=
 JW.keepsG hB hany hfill hbox fun i hi => let ⟨o, h1, h2, h3⟩ := hst i hi; ⟨o, h1, .inl h2, h3⟩
def KeepsN (P : Program) (md : Region.Mode) (ops : Array Oper) (n : Nat) (Q : Exit → Act → World → Prop) (J : (Nat → Bool) → (Nat → Value) → World → Prop) (a0 : Act) : Prop :=
  ∀ (i : Nat) (o : Oper) (done : Nat → Bool) (val : Nat → Value) (w' : World), i < n → ops[i]? = some o → done i = false → (∀ e ∈ o.after, Region.binds md e = true → done e.on = true) → J done val w' →
    Region.wanted o (yielded ops (putD done val ops.toList 0 a0).tmps) = true ∧ Oper.wp P o (putD done val ops.toList 0 a0) w' (fun a' w'' => ∃ v, a' = (putD done val ops.toList 0 a0).put o.dst v ∧ J (updF done i true) (updF val i v) w'') Q
theorem cntF_all (f : Nat → Bool) : ∀ n, (∀ i, i < n → f i = true) → cntF f n = 0
  | 0, _ => rfl
  | n + 1, h => by
    simp only [cntF]
    rw [cntF_all f n fun i hi => h i (by omega), if_pos (h n (by omega))]
def headA (n m : Nat) : Array Bool := Array.replicate n true ++ Array.replicate m false
theorem headA_eq {md : Region.Mode} {ops : Array Oper} {n : Nat} {listed : Array Bool} (hn : n ≤ ops.size) (inv : HeadInv md ops n listed) (h : ∀ i, i < n → listed.getD i false = true) : listed = headA n (ops.size - n) := by
 apply Array.ext
 ·rw [inv.size]; simp [headA]; omega
 ·intro i h1 h2
  by_cases hi : i < n
  ·have := h i hi
   rw [Array.getD_eq_getD_getElem?, Array.getElem?_eq_getElem h1] at this
   rw [show listed[i] = true from this]
   simp [headA, hi]
  ·have := inv.tail i (by omega) (by rw [inv.size] at h1; exact h1)
   rw [Array.getD_eq_getD_getElem?, Array.getElem?_eq_getElem h1] at this
   rw [show listed[i] = false from this]
   simp [headA, Array.getElem_append, hi]
theorem wpAny_JT {P : Program} {md : Region.Mode} {ops : Array Oper} {n : Nat} {Q : Exit → Act → World → Prop} {J : (Nat → Bool) → (Nat → Value) → World → Prop} {a0 : Act} (hB : distB ops.toList = true) (hb : backM md ops = true)
    (hn : n < ops.size) (hs : Region.sinkB md ops n = true) (hc : Region.chainB md ops n = true) (hseq : Region.seqB md ops (ops.size - n) n (headA n (ops.size - n)) = true)
    (hend : ∀ done val w', (∀ i, i < n → done i = true) → (∀ i, n ≤ i → done i = false) → J done val w' → wpList P ops Q (ops.toList.drop n) (putD done val ops.toList 0 a0) w') (hstep : KeepsN P md ops n Q J a0) :
    ∀ (fuel : Nat) (listed : Array Bool) (val : Nat → Value) (w' : World), HeadInv md ops n listed → cntF (fun i => listed.getD i false) n = fuel → J (fun i => listed.getD i false) val w' →
      wpAny P md ops Q (fuel + (ops.size - n)) listed (putD (fun i => listed.getD i false) val ops.toList 0 a0) w' := by
  intro fuel
  induction fuel with
  | zero =>
    intro listed val w' inv hcn hJ
    have hall := cntF_zero _ _ hcn
    have hdl : (ops.toList.drop n).length = ops.size - n := by simp
    rw [Nat.zero_add, ← hdl]
    refine wpAny_of_seq (ops.toList.drop n) n listed _ w' (fun j => by simp [List.getElem?_drop]) ?_ (hend _ _ _ hall (fun i hi => ?_) hJ)
    · rw [hdl, headA_eq (Nat.le_of_lt hn) inv hall]; exact hseq
    · rcases Nat.lt_or_ge i ops.size with h | h
      · exact getD_both (inv.tail i hi h)
      · show listed.getD i false = false
        rw [Array.getD_eq_getD_getElem?, Array.getElem?_eq_none (by rw [inv.size]; exact h)]
        rfl
  | succ fuel ih =>
    intro listed val w' inv hcn hJ
    obtain ⟨i0, hi0, hun0⟩ : ∃ i0, i0 < n ∧ listed.getD i0 false = false := by
      refine Classical.byContradiction fun hne => ?_
      have := cntF_all (fun i => listed.getD i false) n fun i hi => by
        cases h : listed.getD i false with
        | true => rfl
        | false => exact absurd ⟨i, hi, h⟩ hne
      omega
    rw [show fuel + 1 + (ops.size - n) = (fuel + (ops.size - n)) + 1 by omega]
    refine ⟨fun hr => ?_, fun i hi => ?_⟩
    · have h1 := ready_nilM hb inv.size hr n hn
      rw [getD_both (inv.tail n (Nat.le_refl _) hn)] at h1
      cases h1
    · have hin : i < n := by
        rcases Nat.lt_or_ge i n with h | h
        · exact h
        · exact absurd hi (tail_waits hs hc hn inv _ i0 rfl hi0 (getD_in (by rw [inv.size]; omega) hun0) i h)
      have hi' := hi
      obtain ⟨h1, o, ho, hdep⟩ := mem_ready.1 hi
      have hjl : i < listed.size := by rw [inv.size]; omega
      have hd : listed.getD i false = false := getD_both h1
      obtain ⟨hw, hstp⟩ := hstep i o (fun i => listed.getD i false) val w' hin ho hd hdep hJ
      unfold wpOp
      simp only [ho]
      rw [if_pos hw]
      refine .inl (Oper.wp_mono ?_ hstp)
      rintro a' w'' ⟨v, rfl, hJ'⟩
      have he : (fun j => (listed.setIfInBounds i true).getD j false) = updF (fun j => listed.getD j false) i true := by
        funext j
        unfold updF
        by_cases h : j = i
        · subst h; simp [hjl]
        · rw [if_neg h]
          simp [Ne.symm h]
      have := ih (listed.setIfInBounds i true) (updF val i v) w'' (inv.set hi' hin) (by
        rw [he]
        have := cntF_upd (fun j => listed.getD j false) i hd n
        rw [if_pos hin] at this
        omega) (by rw [he]; exact hJ')
      rw [he] at this
      have hp := putD_upd (done := fun j => listed.getD j false) (val := val) v ops.toList 0 i a0 o hB (by simpa using ho) (by rw [Nat.zero_add]; exact hd)
      rw [Nat.zero_add] at hp
      rw [hp] at this
      exact this
theorem wp_region_JT {P : Program} {id : Nat} {ops : Array Oper} (n : Nat) {Q : Exit → Act → World → Prop} {J : (Nat → Bool) → (Nat → Value) → World → Prop} {a0 : Act} {w : World} (hm : P.follows .mixedOrders = true) (hB : distB ops.toList = true) (hb : backM .any ops = true)
  (ht : (decide (n < ops.size) && Region.sinkB .any ops n && Region.chainB .any ops n && Region.seqB .any ops (ops.size - n) n (headA n (ops.size - n))) = true) (val : Nat → Value)
  (h0 : J (fun _ => false) val w.drew) (hstep : KeepsN P .any ops n Q J a0)
  (hend : ∀ done val w', (∀ i, i < n → done i = true) → (∀ i, n ≤ i → done i = false) → J done val w' → wpList P ops Q (ops.toList.drop n) (putD done val ops.toList 0 a0) w') : (Code.region id ops true).wp P Q a0 w := by
 simp only [Bool.and_eq_true, decide_eq_true_eq] at ht
 obtain ⟨⟨⟨hn, hs⟩, hc⟩, hseq⟩ := ht
 refine wp_region_any hm ?_
 have he : (fun i => (Array.replicate ops.size false).getD i false) = fun _ => false := by
  funext i
  by_cases h : i < ops.size <;> simp [h]
 have hnn : ∀ (l : List Oper) (k : Nat) (a : Act), putD (fun _ => false) val l k a = a := by
  intro l
  induction l with
  | nil => intro k a; rfl
  | cons o l ih => intro k a; simp only [putD]; exact ih _ _
 have inv0 : HeadInv .any ops n (Array.replicate ops.size false) :=
  ⟨by simp, fun j oj _ hl => (by rw [getD_replicate_false] at hl; cases hl), fun t _ ht => getD_in (by simpa using ht) (getD_replicate_false _ _)⟩
 have := wpAny_JT (P := P) (md := .any) (Q := Q) (J := J) (a0 := a0) hB hb hn hs hc hseq hend hstep n (Array.replicate ops.size false) val w.drew inv0 (by rw [he]; exact cntF_none _) (by rw [he]; exact h0)
 rw [he, hnn, show n + (ops.size - n) = ops.size by omega] at this
 exact this
/-- As JV, over the first n. -/
def JN (W : World) (n : Nat) (ops : Array Oper) (sp : Nat → Wd) (done : Nat → Bool) (val : Nat → Value) (w : World) : Prop :=
 JW W n sp done val w ∧ ∀ i o, ops[i]? = some o → done i = true → ∀ e ∈ o.after, Region.binds .any e = true → done e.on = true
theorem JN.start (W : World) (n : Nat) (ops : Array Oper) (sp : Nat → Wd) (val : Nat → Value) : JN W n ops sp (fun _ => false) val W.drew := ⟨JW.start _ _ _ _, fun _ _ _ h => Bool.noConfusion h⟩
theorem JN.keepsG {P : Program} {n : Nat} {ops : Array Oper} {Q : Exit → Act → World → Prop} {a0 : Act} {W : World} {sp : Nat → Wd} (hB : distB ops.toList = true)
    (hany : ∀ i R, i < n → sp i = .any R → Stays W R)
    (hfill : ∀ i b, i < n → sp i = .fill b → b < n ∧ (∃ t z cs, sp b = .box i t z cs) ∧ ∃ o, ops[i]? = some o ∧ ∃ e ∈ o.after, Region.binds .any e = true ∧ e.on = b)
    (hbox : ∀ b st t z cs, b < n → sp b = .box st t z cs → st < n ∧ sp st = .fill b ∧ ∀ (i : Nat) (val : Nat → Value) (v : Value) (done : Nat → Bool), i < n → done i = false → (∀ o, ops[st]? = some o → done st = true → ∀ e ∈ o.after, Region.binds .any e = true → done e.on = true) → done st = true → cs (updF val i v) = cs val)
    (hst : ∀ i, i < n → ∃ o, ops[i]? = some o ∧ GuardOk ops sp n a0.tmps.size o ∧ ∀ (a : Act) (w : World) (done : Nat → Bool) (val : Nat → Value) (G H : Nat → Nat), done i = false →
      (∀ e ∈ o.after, Region.binds .any e = true → done e.on = true) → (∀ j oj d, ops[j]? = some oj → oj.dst = some d → d < a0.tmps.size → done j = true → a.eval (.tmp d) = val j) →
      (∀ t, outB' ops t = true → a.eval (.tmp t) = a0.eval (.tmp t)) → Ext W w → (∀ j, j < n → done j = true → (sp j).Ok done val (val j) w (G j) (H j)) →
      (∀ j, j < n → done j = true → (sp j).mem = true → W.heap.size ≤ G j ∧ G j ≤ H j ∧ H j ≤ w.heap.size) →
      (∀ v b, sp i = .fill b → ∀ t z cs, sp b = .box i t z cs → cs (updF val i v) = cs val) ∧ StepW P Q sp o a w G val (sp i)) :
    KeepsN P .any ops n Q (JN W n ops sp) a0 := by
  intro i o done val w' hi ho hdn hdep ⟨hJ, hdw⟩
  obtain ⟨hE, G, H, hok, hge, hdis, hfd⟩ := hJ
  obtain ⟨o', ho', hg, hstep⟩ := hst i hi
  rw [ho] at ho'
  cases ho'
  refine ⟨hg.wanted hB hdep hok, ?_⟩
  obtain ⟨hcs, hs⟩ := hstep (putD done val ops.toList 0 a0) w' done val G H hdn hdep (fun j oj d h1 h2 h3 h4 => by
    have := eval_putD (done := done) (val := val) ops.toList 0 j a0 oj d hB (by simpa using h1) h2 (by rw [Nat.zero_add]; exact h4) h3
    rw [Nat.zero_add] at this
    exact this) (fun t ht => eval_putD_out _ _ _ _ (outB'_spec ht)) hE hok hge
  generalize putD done val ops.toList 0 a0 = a at hs ⊢
  have hdw' : ∀ j oj, ops[j]? = some oj → updF done i true j = true → ∀ e ∈ oj.after, Region.binds .any e = true → updF done i true e.on = true := fun j oj hj hd e he hb => by
    by_cases hji : j = i
    · subst hji
      rw [ho] at hj
      cases hj
      have := hdep e he hb
      by_cases h : e.on = j
      · rw [h, updF_same]
      · rw [updF_ne _ _ h]; exact this
    · rw [updF_ne _ _ hji] at hd
      have := hdw j oj hj hd e he hb
      by_cases h : e.on = i
      · rw [h, updF_same]
      · rw [updF_ne _ _ h]; exact this
  have hnst : ∀ (v : Value) j st t z cs, j < n → sp j = .box st t z cs → (∀ b, sp i = .fill b → b ≠ j) → updF done i true st = done st ∧ (done st = true → cs (updF val i v) = cs val) := fun v j st t z cs hj hs hb => by
    obtain ⟨_, h2, h3⟩ := hbox j st t z cs hj hs
    exact ⟨updF_ne _ _ fun e => hb j (e ▸ h2) rfl, fun hd => h3 i val v done hi hdn (fun o ho hd => hdw st o ho hd) hd⟩
  have hpast : ∀ j, done j = true → j ≠ i := fun j h e => by subst e; rw [hdn] at h; cases h
  have hfd' : ∀ j b, j < n → sp j = .fill b → updF done i true j = true → (i = j → done b = true) → updF done i true b = true := fun j b hj hs hd hq => by
    by_cases hb : b = i
    · subst hb; exact updF_same _ _ _
    · rw [updF_ne _ _ hb]
      by_cases e : j = i
      · exact hq e.symm
      · rw [updF_ne _ _ e] at hd
        exact hfd j b hj hs hd
  -- one step that makes the blocks [g, h) and turns nothing old
  have made : ∀ (v : Value) (g h : Nat) (w'' : World), (∀ b, sp i ≠ .fill b) → Ext w' w'' → ((sp i).mem = true → w'.heap.size ≤ g ∧ g ≤ h ∧ h ≤ w''.heap.size) → (sp i).Ok (updF done i true) (updF val i v) v w'' g h → JW W n sp (updF done i true) (updF val i v) w'' := by
    intro v g h w'' hnf he hgh hnew
    refine ⟨hE.trans he, updF G i g, updF H i h, fun j hj hd => ?_, fun j hj hd hm => ?_, fun j k hj hk hne hd hd' hm hm' => ?_, fun j b hj hs hd => hfd' j b hj hs hd fun e => absurd (e ▸ hs) (hnf b)⟩
    · by_cases e : j = i
      · subst e
        rw [updF_same, updF_same, updF_same]
        exact hnew
      · rw [updF_ne _ _ e] at hd
        rw [updF_ne _ _ e, updF_ne _ _ e, updF_ne _ _ e]
        refine (hok j hj hd).mono (hany j · hj) (fun st t z cs h => hnst v j st t z cs hj h fun b hb => absurd hb (hnf b)) (fun hm b hb => ?_) he.size
        have := hge j hj hd hm
        have := hE.size
        exact he.block b (by omega)
    · by_cases e : j = i
      · subst e
        rw [updF_same, updF_same]
        have := hgh hm
        have := hE.size
        omega
      · rw [updF_ne _ _ e] at hd
        rw [updF_ne _ _ e, updF_ne _ _ e]
        have := hge j hj hd hm
        have := he.size
        omega
    · by_cases e : j = i
      · have e' : k ≠ i := fun x => hne (e.trans x.symm)
        rw [updF_ne _ _ e'] at hd'
        rw [e, updF_same, updF_same, updF_ne _ _ e', updF_ne _ _ e']
        have := hgh (e ▸ hm)
        have := hge k hk hd' hm'
        omega
      · rw [updF_ne _ _ e] at hd
        rw [updF_ne _ _ e, updF_ne _ _ e]
        by_cases e' : k = i
        · rw [e', updF_same, updF_same]
          have := hgh (e' ▸ hm')
          have := hge j hj hd hm
          omega
        · rw [updF_ne _ _ e'] at hd'
          rw [updF_ne _ _ e', updF_ne _ _ e']
          exact hdis j k hj hk hne hd hd' hm hm'
  cases hsp : sp i with
  | val u =>
    rw [hsp] at hs
    refine Oper.wp_mono ?_ hs
    rintro a' w'' ⟨ha, he⟩
    exact ⟨u, ha, made u 0 0 w'' (fun b h => by rw [hsp] at h; cases h) he (fun h => by rw [hsp] at h; cases h) (by rw [hsp]; exact rfl), hdw'⟩
  | mk f t cs =>
    rw [hsp] at hs
    refine Oper.wp_mono ?_ hs
    rintro a' w'' ⟨g, ha, hgs, he, hB⟩
    exact ⟨f g, ha, made (f g) g (g + 1) w'' (fun b h => by rw [hsp] at h; cases h) he (fun _ => ⟨hgs, by omega, hB.lt⟩) (by rw [hsp]; exact ⟨⟨rfl, hB⟩, rfl⟩), hdw'⟩
  | box st t z cs =>
    rw [hsp] at hs
    refine Oper.wp_mono ?_ hs
    rintro a' w'' ⟨g, ha, hgs, he, hB⟩
    obtain ⟨hst1, hst2, _⟩ := hbox i st t z cs hi hsp
    refine ⟨_, ha, made _ g (g + 1) w'' (fun b h => by rw [hsp] at h; cases h) he (fun _ => ⟨hgs, by omega, hB.lt⟩) ?_, hdw'⟩
    rw [hsp]
    refine ⟨⟨rfl, ?_⟩, rfl⟩
    have hne : st ≠ i := fun e => by subst e; rw [hsp] at hst2; cases hst2
    rw [updF_ne _ _ hne]
    have hns : ¬ done st = true := fun h => by
      have := hfd st i hst1 hst2 h
      rw [hdn] at this
      cases this
    rw [if_neg hns]
    exact hB
  | any R =>
    rw [hsp] at hs
    refine Oper.wp_mono ?_ hs
    rintro a' w'' ⟨v, ha, he, hR⟩
    exact ⟨v, ha, made v w'.heap.size w''.heap.size w'' (fun b h => by rw [hsp] at h; cases h) he (fun _ => ⟨Nat.le_refl _, he.size, Nat.le_refl _⟩) (by rw [hsp]; exact hR), hdw'⟩
  | fill b =>
    obtain ⟨hb, ⟨t, z, cs, hbx⟩, oi, hoi, e, hea, hbi, hon⟩ := hfill i b hi hsp
    rw [ho] at hoi
    cases hoi
    have hdb : done b = true := hon ▸ hdep e hea hbi
    rw [hsp] at hs
    simp only [StepW, hbx] at hs
    refine Oper.wp_mono ?_ hs
    rintro a' w'' ⟨v, ha, hon', hB⟩
    have hmb : (sp b).mem = true := by rw [hbx]; rfl
    have hgb := hge b hb hdb hmb
    have hgb1 : H b = G b + 1 := by have := hok b hb hdb; rw [hbx] at this; exact this.2
    refine ⟨v, ha, ⟨hon'.ext hE hgb.1, G, H, fun j hj hd => ?_, fun j hj hd hm => ?_, fun j k hj hk hne hd hd' hm hm' => ?_, fun j b' hj hs hd => hfd' j b' hj hs hd fun e => by
      subst e
      rw [hsp] at hs
      injection hs with hs
      subst hs
      exact hdb⟩, hdw'⟩
    · by_cases e : j = i
      · subst e
        rw [hsp]
        trivial
      · rw [updF_ne _ _ e] at hd ⊢
        by_cases ejb : j = b
        · subst ejb
          have h1 := hok j hj hd
          rw [hbx] at h1 ⊢
          refine ⟨⟨h1.1.1, ?_⟩, h1.2⟩
          rw [updF_same, if_pos rfl, hcs v j hsp t z cs hbx]
          exact hB
        · refine (hok j hj hd).mono (hany j · hj) (fun st t z cs h => hnst v j st t z cs hj h fun b' hb' => by rw [hsp] at hb'; injection hb' with hb'; rw [← hb']; exact fun e => ejb e.symm) (fun hm c hc => hon'.block _ ?_) (Nat.le_of_eq hon'.size.symm)
          have h1 := hdis j b hj hb ejb hd hdb hm hmb
          omega
    · have e : j ≠ i := fun e => by subst e; rw [hsp] at hm; cases hm
      rw [updF_ne _ _ e] at hd
      have := hge j hj hd hm
      rw [hon'.size]
      exact this
    · have e : j ≠ i := fun e => by subst e; rw [hsp] at hm; cases hm
      have e' : k ≠ i := fun e => by subst e; rw [hsp] at hm'; cases hm'
      rw [updF_ne _ _ e] at hd
      rw [updF_ne _ _ e'] at hd'
      exact hdis j k hj hk hne hd hd' hm hm'
theorem JN.keeps {P : Program} {n : Nat} {ops : Array Oper} {Q : Exit → Act → World → Prop} {a0 : Act} {W : World} {sp : Nat → Wd} (hB : distB ops.toList = true)
  (hany : ∀ i R, i < n → sp i = .any R → Stays W R)
  (hfill : ∀ i b, i < n → sp i = .fill b → b < n ∧ (∃ t z cs, sp b = .box i t z cs) ∧ ∃ o, ops[i]? = some o ∧ ∃ e ∈ o.after, Region.binds .any e = true ∧ e.on = b)
  (hbox : ∀ b st t z cs, b < n → sp b = .box st t z cs → st < n ∧ sp st = .fill b ∧ ∀ (i : Nat) (val : Nat → Value) (v : Value) (done : Nat → Bool), i < n → done i = false → (∀ o, ops[st]? = some o → done st = true → ∀ e ∈ o.after, Region.binds .any e = true → done e.on = true) → done st = true → cs (updF val i v) = cs val)
  (hst : ∀ i, i < n → ∃ o, ops[i]? = some o ∧ o.guard = none ∧ ∀ (a : Act) (w : World) (done : Nat → Bool) (val : Nat → Value) (G H : Nat → Nat), done i = false →
   (∀ e ∈ o.after, Region.binds .any e = true → done e.on = true) → (∀ j oj d, ops[j]? = some oj → oj.dst = some d → d < a0.tmps.size → done j = true → a.eval (.tmp d) = val j) →
   (∀ t, outB' ops t = true → a.eval (.tmp t) = a0.eval (.tmp t)) → Ext W w → (∀ j, j < n → done j = true → (sp j).Ok done val (val j) w (G j) (H j)) →
   (∀ j, j < n → done j = true → (sp j).mem = true → W.heap.size ≤ G j ∧ G j ≤ H j ∧ H j ≤ w.heap.size) →
   (∀ v b, sp i = .fill b → ∀ t z cs, sp b = .box i t z cs → cs (updF val i v) = cs val) ∧ StepW P Q sp o a w G val (sp i)) :
  KeepsN P .any ops n Q (JN W n ops sp) a0 :=
 JN.keepsG hB hany hfill hbox fun i hi => let ⟨o, h1, h2, h3⟩ := hst i hi; ⟨o, h1, .inl h2, h3⟩
end
section
section
open Go.RowKit
set_option linter.unusedVariables false
def noneR : List PanicEntry := [{ v := .iface 93 (.agg #[]), recovered := true }]
set_option maxRecDepth 20000 in
set_option maxHeartbeats 2000000 in
theorem catch_panicking (p q : Nat) (x0 x1 y : Value) (w : World) (hP : Blk w p 25 #[x0, x1]) (hQ : Blk w q 39 #[y]) (hpq : p ≠ q) :
  CallsD Tryz.prog 44 #[.pointer (some ⟨p, 0, none⟩), .pointer (some ⟨q, 0, none⟩)] (.panicking noneP) w fun e u' w' =>
   e = .returned (.tuple #[]) ∧ u' = .panicking noneR ∧ w' = ((((w.alloc (.cells #[] 93)).alloc (.cells #[.int .i64 9, .int .i64 0] 84)).setCell ⟨p, 0, none⟩ (.slice none 0 0)).setCell ⟨p, 1, none⟩ (.slice none 0 0)).setCell ⟨q, 0, none⟩ (.iface 80 (.pointer (some ⟨w.heap.size + 1, 0, none⟩))) := by
 have hta : ∀ W, (Instr.typeAssert (.iface 93 (.agg #[])) 20 93 true).run Tryz.prog W = .ok (.tuple #[.agg #[], .bool true]) W := fun W => by kernel_rfl
 refine callsD_of_wpS Tryz.func44 rfl fun c₀ cs hu => ?_
 unfold noneP at hu
 have P2 := (hP.alloc (Obj.cells #[] 93)).alloc (Obj.cells #[.int .i64 9, .int .i64 0] 84)
 have Q2 := (hQ.alloc (Obj.cells #[] 93)).alloc (Obj.cells #[.int .i64 9, .int .i64 0] 84)
 generalize hW : (w.alloc (Obj.cells #[] 93)).alloc (Obj.cells #[.int .i64 9, .int .i64 0] 84) = W2 at P2 Q2 ⊢
 have c0 : W2.cell? ⟨p, 0, none⟩ = some x0 := P2.cell 0
 have c1 : W2.cell? ⟨p, 1, none⟩ = some x1 := P2.cell 1
 have c2 : W2.cell? ⟨q, 0, none⟩ = some y := Q2.cell 0
 have f0 := fun i => P2.frozen i
 have f1 := fun i => Q2.frozen i
 have hqp : q ≠ p := Ne.symm hpq
 clear hP hQ P2 Q2
 simp only [Tryz.ntmps44, List.size_toArray, List.length_cons, List.length_nil, Nat.reduceAdd, Nat.reduceSub, Array.replicate_succ, Array.replicate_zero, List.push_toArray, List.append_toArray, List.nil_append, List.cons_append]
 apply wpS_seq
 apply wpS_region
 simp [wpOpsS, go_sem, recoverD, hu, Exit.thenS]
 refine wpS_of_wp ?_
 go_wp2
 simp [bodyPostS, results, Tryz.results44, noneR]
 done
theorem catch_idle (p q : Nat) (w : World) :
  CallsD Tryz.prog 44 #[.pointer (some ⟨p, 0, none⟩), .pointer (some ⟨q, 0, none⟩)] .returning w fun e u' w' => e = .returned (.tuple #[]) ∧ u' = .returning ∧ w' = w := by
 refine callsD_of_wpS Tryz.func44 rfl fun c₀ cs hu => ?_
 simp only [Tryz.ntmps44, List.size_toArray, List.length_cons, List.length_nil, Nat.reduceAdd, Nat.reduceSub, Array.replicate_succ, Array.replicate_zero, List.push_toArray, List.append_toArray, List.nil_append, List.cons_append]
 apply wpS_seq
 apply wpS_region
 simp [wpOpsS, go_sem, recoverD, hu, Exit.thenS]
 refine wpS_of_wp ?_
 go_wp2
 cases c₀
 simp_all [bodyPostS, results, Tryz.results44]
end
section
open Go.RowKit
set_option linter.unusedVariables false
theorem readV_len {neg : Bool} {l q : List (List UInt8)} {c : CondS} (h : readV neg l = some (c, q)) : q.length + 2 = l.length := by
  match l, h with
  | [], h => cases h
  | [k], h => cases h
  | k :: x :: r, h =>
    simp only [readV] at h
    generalize numO x 4294967296 = z at h
    have e : q = r := by
      split at h
      · injection h with h; injection h with _ h; exact h.symm
      split at h
      · injection h with h; injection h with _ h; exact h.symm
      split at h
      · injection h with h; injection h with _ h; exact h.symm
      split at h
      · injection h with h; injection h with _ h; exact h.symm
      split at h
      · obtain ⟨n, _, h⟩ := Option.map_eq_some_iff.1 h; injection h with _ h; exact h.symm
      split at h
      · cases z with
        | none => cases h
        | some n => injection h with h; injection h with _ h; exact h.symm
      split at h
      · split at h
        · cases h
        · injection h with h; injection h with _ h; exact h.symm
      cases h
    rw [e]; rfl
theorem readC_len {l q : List (List UInt8)} {c : CondS} (h : readC l = some (c, q)) : q.length + 2 ≤ l.length := by
  match l, h with
  | [], h => cases h
  | w :: r, h =>
    simp only [readC] at h
    split at h
    · have := readV_len h; simp; omega
    · have := readV_len h; omega
theorem readA_len {l q : List (List UInt8)} {a : ActS} (h : readA l = some (a, q)) : q.length + 1 ≤ l.length := by
  match l, h with
  | [], h => cases h
  | w :: r, h =>
    simp only [readA] at h
    split at h
    · cases h
    split at h
    · injection h with h; injection h with _ h; rw [← h]; simp
    match r, h with
    | [], h => cases h
    | x :: s, h =>
      obtain ⟨b, _, h⟩ := Option.map_eq_some_iff.1 h
      injection h with _ h
      rw [← h]; simp
theorem readCs_fuel : ∀ (n m : Nat) (w : List UInt8) (r : List (List UInt8)), r.length < n → r.length < m → readCs n w r = readCs m w r
  | 0, _, _, _, h, _ => by omega
  | _ + 1, 0, _, _, _, h => by omega
  | n + 1, m + 1, w, r, hn, hm => by
    simp only [readCs]
    split
    · rfl
    split
    · cases hc : readC r with
      | none => rfl
      | some p =>
        obtain ⟨c, q⟩ := p
        cases q with
        | nil => rfl
        | cons v q =>
          have := readC_len hc
          simp at this
          simp only []
          rw [readCs_fuel n m v q (by omega) (by omega)]
    · rfl
theorem readAs_fuel : ∀ (n m : Nat) (r : List (List UInt8)), r.length < n → r.length < m → readAs n r = readAs m r
  | 0, _, _, h, _ => by omega
  | _ + 1, 0, _, _, h => by omega
  | n + 1, m + 1, r, hn, hm => by
    simp only [readAs]
    cases hc : readA r with
    | none => rfl
    | some p =>
      obtain ⟨a, q⟩ := p
      cases q with
      | nil => rfl
      | cons v q =>
        have := readA_len hc
        simp at this
        simp only []
        rw [readAs_fuel n m q (by omega) (by omega)]
noncomputable def rCs (w : List UInt8) (r : List (List UInt8)) : Option (List CondS × List (List UInt8)) := readCs (r.length + 1) w r
noncomputable def rAs (r : List (List UInt8)) : Option (List ActS) := readAs (r.length + 1) r
theorem readV_mem {neg : Bool} {l q : List (List UInt8)} {c : CondS} (h : readV neg l = some (c, q)) : ∃ k x, l = k :: x :: q := by
  have hl := readV_len h
  match l, h with
  | [], h => cases h
  | [k], h => cases h
  | k :: x :: r, h =>
    refine ⟨k, x, ?_⟩
    simp only [readV] at h
    generalize numO x 4294967296 = z at h
    have e : q = r := by
      split at h
      · injection h with h; injection h with _ h; exact h.symm
      split at h
      · injection h with h; injection h with _ h; exact h.symm
      split at h
      · injection h with h; injection h with _ h; exact h.symm
      split at h
      · injection h with h; injection h with _ h; exact h.symm
      split at h
      · obtain ⟨n, _, h⟩ := Option.map_eq_some_iff.1 h; injection h with _ h; exact h.symm
      split at h
      · cases z with
        | none => cases h
        | some n => injection h with h; injection h with _ h; exact h.symm
      split at h
      · split at h
        · cases h
        · injection h with h; injection h with _ h; exact h.symm
      cases h
    rw [e]
theorem readC_mem {l q : List (List UInt8)} {c : CondS} (h : readC l = some (c, q)) : ∀ y ∈ q, y ∈ l := by
  match l, h with
  | [], h => cases h
  | w :: r, h =>
    simp only [readC] at h
    split at h
    · obtain ⟨k, x, e⟩ := readV_mem h
      rw [e]; intro y hy; simp [hy]
    · obtain ⟨k, x, e⟩ := readV_mem h
      rw [e]; intro y hy; simp [hy]
theorem readA_mem {l q : List (List UInt8)} {a : ActS} (h : readA l = some (a, q)) : ∀ y ∈ q, y ∈ l := by
  match l, h with
  | [], h => cases h
  | w :: r, h =>
    simp only [readA] at h
    split at h
    · cases h
    split at h
    · injection h with h; injection h with _ h; rw [← h]; intro y hy; simp [hy]
    match r, h with
    | [], h => cases h
    | x :: s, h =>
      obtain ⟨b, _, h⟩ := Option.map_eq_some_iff.1 h
      injection h with _ h
      rw [← h]; intro y hy; simp [hy]
theorem condIn_mk {k n : Int} {neg : Bool} {name : List UInt8} (hk : 0 ≤ k ∧ k ≤ 10) (hn : name.length ≤ 1048576) (h : 0 ≤ n ∧ n ≤ 4294967296) : CondIn ⟨k, neg, name, n⟩ :=
 ⟨show i64 k by unfold i64; omega, hn, show i64 n by unfold i64; omega⟩
theorem readV_in {neg : Bool} {l q : List (List UInt8)} {c : CondS} (h : readV neg l = some (c, q)) (hl : ∀ y ∈ l, y.length ≤ 1048576) : CondIn c := by
  match l, h, hl with
  | [], h, _ => cases h
  | [k], h, _ => cases h
  | k :: x :: r, h, hl =>
    simp only [readV] at h
    have hx := hl x (by simp)
    have hz : ∀ n, numO x 4294967296 = some n → n < 4294967296 := fun n hn => (numO_some hn).1
    generalize numO x 4294967296 = z at h hz
    split at h
    · injection h with h; injection h with h _; rw [← h]; exact condIn_mk (by decide) hx (by decide)
    split at h
    · injection h with h; injection h with h _; rw [← h]; exact condIn_mk (by decide) hx (by decide)
    split at h
    · injection h with h; injection h with h _; rw [← h]; exact condIn_mk (by decide) hx (by decide)
    split at h
    · injection h with h; injection h with h _; rw [← h]; exact condIn_mk (by decide) hx (by decide)
    split at h
    · obtain ⟨n, hn, h⟩ := Option.map_eq_some_iff.1 h
      injection h with h _
      rw [← h]
      refine condIn_mk (by decide) (by simp) ?_
      unfold originN at hn
      split at hn
      · injection hn with hn; subst hn; decide
      split at hn
      · injection hn with hn; subst hn; decide
      split at hn
      · injection hn with hn; subst hn; decide
      cases hn
    split at h
    · cases z with
      | none => cases h
      | some n =>
        have hb := hz n rfl
        injection h with h; injection h with h _; rw [← h]
        exact condIn_mk (by decide) (by simp) (by omega)
    split at h
    · split at h
      · cases h
      · injection h with h; injection h with h _; rw [← h]
        have := famN_bd x
        exact condIn_mk (by decide) (by simp) (by omega)
    cases h
theorem readC_in {l q : List (List UInt8)} {c : CondS} (h : readC l = some (c, q)) (hl : ∀ y ∈ l, y.length ≤ 1048576) : CondIn c := by
  match l, h, hl with
  | [], h, _ => cases h
  | w :: r, h, hl =>
    simp only [readC] at h
    split at h
    · exact readV_in h fun y hy => hl y (by simp [hy])
    · exact readV_in h hl
theorem actIn_mk {k : Int} {name addr : List UInt8} {n : UInt32} (hk : 0 ≤ k ∧ k ≤ 10) (hn : name.length ≤ 1048576) (ha : addr.length ≤ 1048576) : ActIn ⟨k, name, n, addr⟩ :=
 ⟨show i64 k by unfold i64; omega, hn, ha⟩
theorem addrC_len (x : List UInt8) : (addrC x).1.length ≤ 16 := by
 rcases addrC_err x with h | h
 ·have := (addr_text h).2.1
  omega
 ·rw [h]; simp
theorem actK_bd (w : List UInt8) : 0 ≤ actK w ∧ actK w ≤ 10 := by
 unfold actK
 repeat' split <;> try omega
theorem readX_in {k : Int} {x : List UInt8} {a : ActS} (hk : 0 ≤ k ∧ k ≤ 10) (h : readX k x = some a) (hx : x.length ≤ 1048576) : ActIn a := by
 unfold readX at h
 generalize numO x 4294967296 = z at h
 split at h
 ·obtain ⟨n, _, rfl⟩ := Option.map_eq_some_iff.1 h; exact actIn_mk hk (by simp) (by simp)
 split at h
 ·obtain ⟨n, _, rfl⟩ := Option.map_eq_some_iff.1 h; exact actIn_mk (by decide) (by simp) (by simp)
 split at h
 ·injection h with h; subst h; exact actIn_mk (by decide) hx (by simp)
 split at h
 ·split at h
  ·injection h with h; subst h; exact actIn_mk (by decide) (by simp) (by have := addrC_len x; omega)
  ·cases h
 ·obtain ⟨n, _, rfl⟩ := Option.map_eq_some_iff.1 h; exact actIn_mk (by decide) (by simp) (by simp)
theorem readA_in {l q : List (List UInt8)} {a : ActS} (h : readA l = some (a, q)) (hl : ∀ y ∈ l, y.length ≤ 1048576) : ActIn a := by
  match l, h, hl with
  | [], h, _ => cases h
  | w :: r, h, hl =>
    have hb := actK_bd w
    simp only [readA] at h
    split at h
    · cases h
    split at h
    · injection h with h; injection h with h _; rw [← h]; exact actIn_mk hb (by simp) (by simp)
    match r, h, hl with
    | [], h, _ => cases h
    | x :: s, h, hl =>
      obtain ⟨b, hb2, h⟩ := Option.map_eq_some_iff.1 h
      injection h with h _
      rw [← h]
      exact readX_in hb hb2 (hl x (by simp))
/-- What follows an action. -/
noncomputable def tailA : List (List UInt8) → Option (List ActS)
 | [] => some []
 | w :: q => if w = [97, 110, 100] then rAs q else none
theorem rCs_then (r : List (List UInt8)) : rCs [116, 104, 101, 110] r = some ([], r) := by
 unfold rCs
 simp only [readCs]
 rfl
theorem rCs_bad {w : List UInt8} (r : List (List UInt8)) (h1 : w ≠ [116, 104, 101, 110]) (h2 : w ≠ [105, 102]) (h3 : w ≠ [97, 110, 100]) : rCs w r = none := by
 unfold rCs
 simp only [readCs]
 rw [if_neg h1, if_neg (fun h => h.elim h2 h3)]
theorem rCs_none {w : List UInt8} {r : List (List UInt8)} (h1 : w ≠ [116, 104, 101, 110]) (h : readC r = none ∨ ∃ c, readC r = some (c, [])) : rCs w r = none := by
 unfold rCs
 simp only [readCs]
 rw [if_neg h1]
 split
 ·rcases h with h | ⟨c, h⟩ <;> rw [h]
 ·rfl
theorem rCs_some {w v : List UInt8} {r q : List (List UInt8)} {c : CondS} (h1 : w ≠ [116, 104, 101, 110]) (h2 : w = [105, 102] ∨ w = [97, 110, 100]) (h : readC r = some (c, v :: q)) : rCs w r = (rCs v q).map fun p => (c :: p.1, p.2) := by
 have := readC_len h
 simp at this
 show readCs (r.length + 1) w r = (readCs (q.length + 1) v q).map _
 rw [readCs, if_neg h1, if_pos h2, h]
 simp only []
 rw [readCs_fuel r.length (q.length + 1) v q (by omega) (by omega)]
theorem rAs_none {r : List (List UInt8)} (h : readA r = none) : rAs r = none := by
 unfold rAs
 simp only [readAs, h]
theorem rAs_some {r q : List (List UInt8)} {a : ActS} (h : readA r = some (a, q)) : rAs r = (tailA q).map (a :: ·) := by
  unfold rAs
  simp only [readAs, h]
  cases q with
  | nil => rfl
  | cons w q =>
    have := readA_len h
    simp at this
    simp only [tailA]
    split
    · unfold rAs
      rw [readAs_fuel r.length (q.length + 1) q (by omega) (by omega)]
    · rfl
theorem readCs_len : ∀ (n : Nat) (w : List UInt8) (r : List (List UInt8)) (p : List CondS × List (List UInt8)), readCs n w r = some p → p.2.length ≤ r.length
  | 0, _, _, _, h => by cases h
  | n + 1, w, r, p, h => by
    simp only [readCs] at h
    split at h
    · injection h with h; rw [← h]; exact Nat.le_refl _
    split at h
    · split at h
      · rename_i c v q hc
        obtain ⟨p', hp, rfl⟩ := Option.map_eq_some_iff.1 h
        have h1 := readCs_len n v q p' hp
        have h2 := readC_len hc
        simp at h2
        show p'.2.length ≤ _
        omega
      · cases h
    · cases h
theorem readT_if (r : List (List UInt8)) : readT ([105, 102] :: r) = (rCs [105, 102] r).bind fun p => (rAs p.2).map fun l => ⟨[] ++ p.1, l⟩ := by
  simp only [readT]
  rw [if_pos trivial]
  show (rCs [105, 102] r).bind _ = _
  cases hc : rCs [105, 102] r with
  | none => rfl
  | some p =>
    have := readCs_len _ _ _ _ hc
    show Option.map _ (readAs (r.length + 1) p.2) = Option.map _ (readAs (p.2.length + 1) p.2)
    rw [readAs_fuel (r.length + 1) (p.2.length + 1) p.2 (by omega) (by omega)]
    rfl
theorem readT_then (r : List (List UInt8)) : readT ([116, 104, 101, 110] :: r) = (rAs r).map fun l => ⟨[], l⟩ := by
 simp only [readT]
 rw [if_neg (by decide), if_pos trivial]
 rfl
theorem readT_bad {w : List UInt8} (r : List (List UInt8)) (h1 : w ≠ [116, 104, 101, 110]) (h2 : w ≠ [105, 102]) : readT (w :: r) = none := by
 simp only [readT]
 rw [if_neg h2, if_neg h1]
theorem termO_none {s : List UInt8} (h : readT (spl 32 s) = none) : termO s = none := by
 unfold termO
 rw [h]
 rfl
theorem termO_one {s : List UInt8} {t : TermS} (h : readT (spl 32 s) = some t) : termO s = if termT t = (s, 0) then some t else none := by
 unfold termO
 rw [h]
 rfl
end
section
open Go.RowKit
set_option linter.unusedVariables false
theorem wp_value {P : Program} {o : Oper} {a : Act} {w w' : World} {u : Value} {K : Act → World → Prop} {Q : Exit → Act → World → Prop} (h : (execOp a.eval o).run P w = .ok (.value u) w') (hk : K (a.put o.dst u) w') : Oper.wp P o a w K Q := by
 unfold Oper.wp
 rw [h]
 exact hk
theorem putD_defers {done : Nat → Bool} {val : Nat → Value} : ∀ (l : List Oper) (k : Nat) (a : Act), (putD done val l k a).defers = a.defers
  | [], _, _ => rfl
  | o :: l, k, a => by
    simp only [putD]
    rw [putD_defers l]
    split
    · cases o.dst <;> rfl
    · rfl
/-- A frame that agrees with a0 beside what the region writes. -/
structure Agr (ops : Array Oper) (a0 a : Act) : Prop where
  out : ∀ t, outB' ops t = true → a.eval (.tmp t) = a0.eval (.tmp t)
  defers : a.defers = a0.defers
  size : a.tmps.size = a0.tmps.size
def depB (ops : Array Oper) (i j : Nat) : Bool := match ops[i]? with | some o => o.after.any fun e => Region.binds .any e && e.on == j | none => false
theorem depB_spec {ops : Array Oper} {i j : Nat} (h : depB ops i j = true) {o : Oper} (ho : ops[i]? = some o) {done : Nat → Bool} (hd : ∀ e ∈ o.after, Region.binds .any e = true → done e.on = true) : done j = true := by
 unfold depB at h
 rw [ho] at h
 obtain ⟨k, hk, he⟩ := Array.any_eq_true.1 h
 simp only [Bool.and_eq_true, beq_iff_eq] at he
 rw [← he.2]
 exact hd _ (Array.getElem_mem hk) he.1
structure ApJ (w : World) (v0 v1 v2 : Value) (RV : Value → World → Prop) (cv : Value → Array Value) (t4 : TypeId) (done : Nat → Bool) (val : Nat → Value) (W' : World) : Prop where
  c0 : done 0 = true → val 0 = v0
  c1 : done 1 = true → val 1 = v1
  c2 : done 2 = true → val 2 = v2
  d4 : done 4 = true → done 3 = true
  s0 : done 3 = false → W' = w.drew
  s1 : done 3 = true → ∃ W, RV (val 3) W ∧ ((done 4 = false ∧ W' = W) ∨ (done 4 = true ∧ W' = W.alloc (.cells (cv (val 3)) t4) ∧ val 4 = .slice (some ⟨W.heap.size, 0, none⟩) 1 1))
theorem wp_region_apd {P : Program} {id : Nat} {ops : Array Oper} {Q : Exit → Act → World → Prop} {a0 : Act} {w : World} (hm : P.follows .mixedOrders = true) (hB : distB ops.toList = true) (hb : backM .any ops = true)
    (ht : (decide (5 < ops.size) && Region.sinkB .any ops 5 && Region.chainB .any ops 5 && Region.seqB .any ops (ops.size - 5) 5 (headA 5 (ops.size - 5))) = true)
    (o0 o1 o2 o3 o4 : Oper) (l : List Oper) (hl : ops.toList = o0 :: o1 :: o2 :: o3 :: o4 :: l) (hg : ops.toList.all (fun o => o.guard.isNone) = true)
    (d0 d1 d2 d3 d4 : Tmp) (hd : (o0.dst, o1.dst, o2.dst, o3.dst, o4.dst) = (some d0, some d1, some d2, some d3, some d4)) (hs : d0 < a0.tmps.size ∧ d1 < a0.tmps.size ∧ d2 < a0.tmps.size ∧ d3 < a0.tmps.size ∧ d4 < a0.tmps.size)
    (hdep : (depB ops 1 0 && (depB ops 3 2 && depB ops 4 3)) = true)
    (v0 v1 v2 : Value) (RV : Value → World → Prop) (cv : Value → Array Value) (t4 : TypeId) (Old : World → Prop)
    (x0 : ∀ (a : Act) (W : World), Agr ops a0 a → (execOp a.eval o0).run P W = .ok (.value v0) W)
    (x1 : ∀ (a : Act) (W : World), a.eval (.tmp d0) = v0 → Old W → (execOp a.eval o1).run P W = .ok (.value v1) W)
    (x2 : ∀ (a : Act) (W : World), Agr ops a0 a → (execOp a.eval o2).run P W = .ok (.value v2) W)
    (x3 : ∀ (a : Act), Agr ops a0 a → a.eval (.tmp d2) = v2 → o3.wp P a w.drew (fun a' w' => ∃ v, a' = a.put o3.dst v ∧ RV v w') Q)
    (x4 : ∀ (a : Act) (W : World) (v : Value), a.eval (.tmp d3) = v → RV v W → (execOp a.eval o4).run P W = .ok (.value (.slice (some ⟨W.heap.size, 0, none⟩) 1 1)) (W.alloc (.cells (cv v) t4)))
    (hO0 : Old w.drew) (hO1 : ∀ v W, RV v W → Old W) (hO2 : ∀ v W, RV v W → Old (W.alloc (.cells (cv v) t4)))
    (hend : ∀ v W, RV v W → wpList P ops Q l (((((a0.put (some d0) v0).put (some d1) v1).put (some d2) v2).put (some d3) v).put (some d4) (.slice (some ⟨W.heap.size, 0, none⟩) 1 1)) (W.alloc (.cells (cv v) t4))) :
    (Code.region id ops true).wp P Q a0 w := by
  simp only [Prod.mk.injEq] at hd
  obtain ⟨e0, e1, e2, e3, e4⟩ := hd
  obtain ⟨s0, s1, s2, s3, s4⟩ := hs
  simp only [Bool.and_eq_true] at hdep
  obtain ⟨p10, p32, p43⟩ := hdep
  have hat : ∀ (i : Nat) (o : Oper), (o0 :: o1 :: o2 :: o3 :: o4 :: l)[i]? = some o → ops[i]? = some o := fun i o h => by
    rw [← Array.getElem?_toList, hl]; exact h
  have g : ∀ {i : Nat} {o : Oper}, ops[i]? = some o → o.guard = none := fun {i o} ho => by
    have hmem : o ∈ ops.toList := by rw [← Array.getElem?_toList] at ho; exact List.mem_of_getElem? ho
    have := List.all_eq_true.1 hg o hmem
    simpa using this
  have agr : ∀ done val, Agr ops a0 (putD done val ops.toList 0 a0) := fun done val =>
    ⟨fun t h => eval_putD_out t _ _ _ (outB'_spec h), putD_defers _ _ _, putD_size _ _ _⟩
  have ev : ∀ {i : Nat} {o : Oper} {d : Tmp} {done : Nat → Bool} {val : Nat → Value}, (o0 :: o1 :: o2 :: o3 :: o4 :: l)[i]? = some o → o.dst = some d → done i = true → d < a0.tmps.size → (putD done val ops.toList 0 a0).eval (.tmp d) = val i := fun {i o d done val} ho hd hdn hs => by
    have := eval_putD (done := done) (val := val) ops.toList 0 i a0 o d hB (by rw [hl]; exact ho) hd (by rw [Nat.zero_add]; exact hdn) hs
    rwa [Nat.zero_add] at this
  refine wp_region_JT (J := ApJ w v0 v1 v2 RV cv t4) 5 hm hB hb ht (fun _ => undef) ⟨fun h => Bool.noConfusion h, fun h => Bool.noConfusion h, fun h => Bool.noConfusion h, fun h => Bool.noConfusion h, fun _ => rfl, fun h => Bool.noConfusion h⟩ ?_ ?_
  · intro i o done val w' hi ho hdn hdeps J
    refine ⟨wanted_none' (g ho), ?_⟩
    have A := agr done val
    rcases (show i = 0 ∨ i = 1 ∨ i = 2 ∨ i = 3 ∨ i = 4 by omega) with rfl | rfl | rfl | rfl | rfl
    · obtain rfl : o0 = o := Option.some.inj ((hat 0 o0 rfl).symm.trans ho)
      refine wp_value (x0 _ w' A) ⟨v0, rfl, fun _ => updF_same _ _ _, fun h => ?_, fun h => ?_, fun h => ?_, fun h => ?_, fun h => ?_⟩
      · rw [updF_ne _ _ (by decide)] at h ⊢; exact J.c1 h
      · rw [updF_ne _ _ (by decide)] at h ⊢; exact J.c2 h
      · rw [updF_ne _ _ (by decide)] at h ⊢; exact J.d4 h
      · rw [updF_ne _ _ (by decide)] at h; exact J.s0 h
      · rw [updF_ne _ _ (by decide)] at h; rw [updF_ne _ _ (by decide), updF_ne _ _ (by decide), updF_ne _ _ (by decide)]; exact J.s1 h
    · obtain rfl : o1 = o := Option.some.inj ((hat 1 o1 rfl).symm.trans ho)
      have h0 := depB_spec p10 ho hdeps
      have hold : Old w' := by
        cases h3 : done 3 with
        | false => rw [J.s0 h3]; exact hO0
        | true =>
          obtain ⟨W, hR, ⟨_, rfl⟩ | ⟨_, rfl, _⟩⟩ := J.s1 h3
          · exact hO1 _ _ hR
          · exact hO2 _ _ hR
      refine wp_value (x1 _ w' (by rw [ev (i := 0) rfl e0 h0 s0]; exact J.c0 h0) hold) ⟨v1, rfl, fun h => ?_, fun _ => updF_same _ _ _, fun h => ?_, fun h => ?_, fun h => ?_, fun h => ?_⟩
      · rw [updF_ne _ _ (by decide)] at h ⊢; exact J.c0 h
      · rw [updF_ne _ _ (by decide)] at h ⊢; exact J.c2 h
      · rw [updF_ne _ _ (by decide)] at h ⊢; exact J.d4 h
      · rw [updF_ne _ _ (by decide)] at h; exact J.s0 h
      · rw [updF_ne _ _ (by decide)] at h; rw [updF_ne _ _ (by decide), updF_ne _ _ (by decide), updF_ne _ _ (by decide)]; exact J.s1 h
    · obtain rfl : o2 = o := Option.some.inj ((hat 2 o2 rfl).symm.trans ho)
      refine wp_value (x2 _ w' A) ⟨v2, rfl, fun h => ?_, fun h => ?_, fun _ => updF_same _ _ _, fun h => ?_, fun h => ?_, fun h => ?_⟩
      · rw [updF_ne _ _ (by decide)] at h ⊢; exact J.c0 h
      · rw [updF_ne _ _ (by decide)] at h ⊢; exact J.c1 h
      · rw [updF_ne _ _ (by decide)] at h ⊢; exact J.d4 h
      · rw [updF_ne _ _ (by decide)] at h; exact J.s0 h
      · rw [updF_ne _ _ (by decide)] at h; rw [updF_ne _ _ (by decide), updF_ne _ _ (by decide), updF_ne _ _ (by decide)]; exact J.s1 h
    · obtain rfl : o3 = o := Option.some.inj ((hat 3 o3 rfl).symm.trans ho)
      have h2 := depB_spec p32 ho hdeps
      have h4 : done 4 = false := by
        cases h : done 4 with
        | false => rfl
        | true => rw [J.d4 h] at hdn; cases hdn
      obtain rfl := J.s0 hdn
      refine Oper.wp_mono ?_ (x3 _ A (by rw [ev (i := 2) rfl e2 h2 s2]; exact J.c2 h2))
      rintro a' w'' ⟨v, rfl, hR⟩
      refine ⟨v, rfl, fun h => ?_, fun h => ?_, fun h => ?_, fun h => updF_same _ _ _, fun h => ?_, fun h => ?_⟩
      · rw [updF_ne _ _ (by decide)] at h ⊢; exact J.c0 h
      · rw [updF_ne _ _ (by decide)] at h ⊢; exact J.c1 h
      · rw [updF_ne _ _ (by decide)] at h ⊢; exact J.c2 h
      · rw [updF_same] at h; cases h
      · rw [updF_same, updF_ne _ _ (by decide)]
        exact ⟨w'', hR, .inl ⟨h4, rfl⟩⟩
    · obtain rfl : o4 = o := Option.some.inj ((hat 4 o4 rfl).symm.trans ho)
      have h3 := depB_spec p43 ho hdeps
      obtain ⟨W, hR, ⟨_, rfl⟩ | ⟨h4, _, _⟩⟩ := J.s1 h3
      · refine wp_value (x4 _ w' (val 3) (ev (i := 3) rfl e3 h3 s3) hR) ⟨_, rfl, fun h => ?_, fun h => ?_, fun h => ?_, fun h => ?_, fun h => ?_, fun h => ?_⟩
        · rw [updF_ne _ _ (by decide)] at h ⊢; exact J.c0 h
        · rw [updF_ne _ _ (by decide)] at h ⊢; exact J.c1 h
        · rw [updF_ne _ _ (by decide)] at h ⊢; exact J.c2 h
        · rw [updF_ne _ _ (by decide)]; exact h3
        · rw [updF_ne _ _ (by decide), h3] at h; cases h
        · rw [updF_ne _ _ (by decide)]
          exact ⟨w', hR, .inr ⟨updF_same _ _ _, rfl, updF_same _ _ _⟩⟩
      · rw [hdn] at h4; cases h4
  · intro done val w' hall hnone J
    obtain ⟨W, hR, ⟨h4, _⟩ | ⟨_, rfl, h4⟩⟩ := J.s1 (hall 3 (by decide))
    · rw [hall 4 (by decide)] at h4; cases h4
    have := hend (val 3) W hR
    have hrest : ∀ (l : List Oper) (k : Nat) (a : Act), 5 ≤ k → putD done val l k a = a := by
      intro l
      induction l with
      | nil => intro k a _; rfl
      | cons o l ih => intro k a hk; simp only [putD]; rw [hnone k hk, if_neg (by decide)]; exact ih _ _ (by omega)
    rw [hl]
    simp only [putD, hall 0 (by decide), hall 1 (by decide), hall 2 (by decide), hall 3 (by decide), hall 4 (by decide), if_true]
    rw [hrest _ _ _ (by decide), e0, e1, e2, e3, e4, J.c0 (hall 0 (by decide)), J.c1 (hall 1 (by decide)), J.c2 (hall 2 (by decide)), h4]
    exact this
/-- The call of such a region: it returns, or it panics. -/
theorem wp_called {P : Program} {Q : Exit → Act → World → Prop} {K : Act → World → Prop} {o : Oper} {a : Act} {w : World} (f : FuncId) {fn : Func} (xs : Array Operand) (ts : Array TypeId)
  (hop : o.op = Op.call { callee := Callee.value (Operand.func f), args := xs, argTypes := ts }) (hf : P.funcs[f]? = some fn) (hname : (fn.name == "runtime.NumGoroutine") = false) (hb : fn.body.isNone = false) (vs : Array Value) (hx : xs.map a.eval = vs)
  {R : Ending → World → Prop} (hc : Calls P f vs w R) (hk : ∀ v w', R (.returned v) w' → K (a.put o.dst v) w') (hp : ∀ ch w', R (.panicked ch) w' → Q (.panic ch) a w') (ho : ∀ w', ¬ R .outgrown w') : Oper.wp P o a w K Q := by
 unfold Oper.wp
 have h1 : fn.name ≠ "runtime.NumGoroutine" := by simpa using hname
 have hev : a.eval (Operand.func f) = .func (.func f) #[] #[] := rfl
 have h2 : ¬ (fn.body = none) := by intro h; simp [h] at hb
 have hrun : (execOp a.eval o).run P w = .ok (.enter f vs) w := by
  simp [execOp, hop, resolve, hev, Deferred.ofValue, invoke, hx, callFunc, hf, h1, h2]
 rw [hrun, Oper.upon_enter]
 refine hc.mono fun e w' h => ?_
 cases e with
 | returned v => exact hk v w' h
 | panicked ch => exact hp ch w' h
 | outgrown => exact absurd h (ho w')
end
end
section
open Go.RowKit Go.Maps
set_option linter.unusedVariables false
open Classical in
theorem nodup_le {α : Type} : ∀ {a b : List α}, a.Pairwise (· ≠ ·) → (∀ x ∈ a, x ∈ b) → a.length ≤ b.length
  | [], b, _, _ => Nat.zero_le _
  | x :: a, b, hp, hs => by
    have hp' := List.pairwise_cons.1 hp
    have h1 : a.length ≤ (b.erase x).length := nodup_le hp'.2 fun y hy => by
      have hne : y ≠ x := fun e => hp'.1 y hy e.symm
      exact (List.mem_erase_of_ne hne).2 (hs y (List.mem_cons_of_mem _ hy))
    rw [List.length_erase_of_mem (hs x (List.mem_cons_self ..))] at h1
    have h2 := List.length_pos_of_mem (hs x (List.mem_cons_self ..))
    simp only [List.length_cons]
    omega
section
variable {P : Program} {k e t : TypeId} {w w' : World} {b : Nat}
/-- Every entry of the map at block b: its key is that of an x of the list G, its element what f says at x. -/
def Memo {α : Type} (P : Program) (k e : TypeId) (key : α → Value) (G : List α) (f : α → Bool) (w : World) (b : Nat) : Prop :=
 ∃ D : DataW Unit, w.ownsMap P k (plainElem P e) b (Maps.size D) D ∧ ∀ l, Maps.has D l = true → ∃ x ∈ G, keyOf P k (key x) = some l ∧ ∀ z, D.atKey l z = .lit (.bool (f x))
variable {α : Type} {key : α → Value} {G : List α} {f : α → Bool}
theorem Memo.made : Memo P k e key G f (w.alloc (.map #[] 0)) w.heap.size :=
 ⟨.map [], World.ownsMap_made w P k _, fun l h => by simp [Maps.has] at h⟩
theorem Memo.lt (h : Memo P k e key G f w b) : b < w.heap.size := by
 obtain ⟨D, h, _⟩ := h
 exact h.lt
theorem Memo.kept {row : Option Nat} (h : Memo P k e key G f w b) (hg : w.grownBy w' row) (hne : some b ≠ row) : Memo P k e key G f w' b := by
 obtain ⟨D, h, hh⟩ := h
 exact ⟨D, h.kept hg hne, hh⟩
theorem Memo.frame (h : Memo P k e key G f w b) (hb : w'.heap[b]? = w.heap[b]?) : Memo P k e key G f w' b := by
 obtain ⟨D, ⟨es, clock, h1, F, hs, hD⟩, hh⟩ := h
 exact ⟨D, ⟨es, clock, hb.trans h1, F, hs, hD⟩, hh⟩
/-- 'v, ok := m[x]'. -/
theorem Memo.look (h : Memo P k e key G f w b) (K : Keyed P k) (ht : P.underlying t = some (.map k e)) (he : P.underlying e = some .bool) (hz : (zeroValue e).run P w = .ok (.bool false) w) {x : α} {kl : Lit} (hkey : keyOf P k (key x) = some kl) (hinj : ∀ y ∈ G, key y = key x → f y = f x) :
  ∃ v ok, (Instr.lookup t (.map (some b)) (key x) true).run P w = .ok (.tuple #[.bool v, .bool ok]) w ∧ (ok = true → v = f x) := by
 obtain ⟨D, h, hh⟩ := h
 obtain ⟨v, ps, hrun, hv⟩ := h.look_ok K ht hz (plainElem_bool he false) hkey
 have hvb : ∃ c, v = .bool c ∧ D.atKey kl (.lit (.bool false)) = .lit (.bool c) := by
  unfold plainElem at hv
  rw [he] at hv
  cases v <;> simp at hv
  exact ⟨_, rfl, hv.1.symm⟩
 obtain ⟨c, rfl, hc⟩ := hvb
 refine ⟨c, _, hrun, fun hok => ?_⟩
 obtain ⟨y, hy, hky, hat⟩ := hh kl hok
 have e1 : key y = key x := K.inj hky hkey
 rw [hat] at hc
 injection hc with hc
 injection hc with hc
 rw [← hc, hinj y hy e1]
theorem Memo.size (K : Keyed P k) {D : DataW Unit} (h : w.ownsMap P k (plainElem P e) b (Maps.size D) D) (hh : ∀ l, Maps.has D l = true → ∃ x ∈ G, keyOf P k (key x) = some l) : Maps.size D ≤ G.length := by
 obtain ⟨es, rfl, hp, hk⟩ := h.entries K
 have h1 : (es.map (·.1)).Pairwise (· ≠ ·) := by rw [List.pairwise_map]; exact hp
 have h2 : ∀ l ∈ es.map (·.1), l ∈ G.filterMap fun x => keyOf P k (key x) := fun l hl => by
  obtain ⟨p, hp', rfl⟩ := List.mem_map.1 hl
  have hs : p.1.sameKey p.1 = true := by
   have := hk p hp'
   cases h : p.1 <;> simp [h, WideAt.IsKeyLit, Lit.sameKey] at this ⊢
  obtain ⟨x, hx, hkx⟩ := hh p.1 (by rw [has_eq]; exact List.any_eq_true.2 ⟨p, hp', hs⟩)
  exact List.mem_filterMap.2 ⟨x, hx, hkx⟩
 have h3 := nodup_le h1 h2
 rw [List.length_map] at h3
 have h4 := List.length_filterMap_le (fun x => keyOf P k (key x)) G
 rw [size_eq]
 omega
end
open Go.RowKit Go.Maps
open Go.RowKit Go.Maps
theorem Sl.grown {α : Type} {E : Enc α} {w w' : World} {b : Nat} {a : Option Addr} {l : List α} (h : Sl E w (fun x => x < w.heap.size ∧ x ≠ b) a l) (hg : w.grownBy w' (some b)) : Sl E w' (fun x => x < w'.heap.size ∧ x ≠ b) a l :=
 (h.frame fun x hx => hg.block x hx.1 (fun e => hx.2 (Option.some.inj e))).mono fun x hx => ⟨Nat.lt_of_lt_of_le hx.1 hg.size, hx.2⟩
section
variable {p : List Atm} {l : List UInt32} {gp gl gk gf b : Nat} {ap al : Option Addr} {cp cl : Nat} {w w' : World}
end
open Go.RowKit Go.Maps
open Go.RowKit Go.Maps
theorem allA_succ (l : List Atm) (k : Nat) (hk : k < l.length) : (l.take (k + 1)).all atmOk = ((l.take k).all atmOk && atmOk l[k]) := by
 rw [List.take_succ_eq_append_getElem hk, List.all_append, List.all_cons, List.all_nil, Bool.and_true]
theorem allA_bad {l : List Atm} {k : Nat} (hk : k < l.length) (h : atmOk l[k] = false) : atmsOk l = false := by
 unfold atmsOk
 rw [Bool.and_eq_false_iff]
 refine .inl ?_
 rw [List.all_eq_false]
 exact ⟨l[k], List.getElem_mem hk, by rw [h]; decide⟩
theorem atm_cases (a : Atm) : (a.1 < 1 ∧ atmOk a = false) ∨ (1 ≤ a.1 ∧ 3 < a.1 ∧ atmOk a = false) ∨ (1 ≤ a.1 ∧ a.1 ≤ 3 ∧ ∃ b3 b4 : Bool, (a.1 == 1) = b3 ∧ decide (0 < a.2.toNat) = b4 ∧ (b3 != b4) = !atmOk a) := by
 unfold atmOk
 by_cases h1 : a.1 < 1
 ·exact .inl ⟨h1, by rw [decide_eq_false (by omega)]; rfl⟩
 ·by_cases h3 : 3 < a.1
  ·exact .inr (.inl ⟨by omega, h3, by rw [decide_eq_false (p := a.1 ≤ 3) (by omega)]; simp⟩)
  ·refine .inr (.inr ⟨by omega, by omega, _, _, rfl, rfl, ?_⟩)
   rw [decide_eq_true (p := 1 ≤ a.1) (by omega), decide_eq_true (p := a.1 ≤ 3) (by omega)]
   have e1 : (a.1 == 1) = decide (a.1 = 1) := rfl
   rw [e1]
   simp [bne]
set_option maxHeartbeats 1000000 in
theorem Atoms_any (a : Option Addr) (c : Nat) (l : List Atm) (w : World) (hl : l.length ≤ 16777216) (hs : Sl EAtm w (· < w.heap.size) a l) :
    Calls Tryz.prog 120 #[.slice a l.length c] w fun e w' => e = .returned (.bool (atmsOk l)) ∧ Ext w w' := by
  replace hs := hide hs
  go_enter Tryz.func120, Tryz.ntmps120
  go_wp2
  go_loopw [7] (fun i wr => ∃ k : Nat, k ≤ l.length ∧ i = .int .i64 k ∧ Ext w wr ∧ (l.take k).all atmOk = true) (fun i _ => l.length - (intOf i).toNat)
  case atStart => exact ⟨0, Nat.zero_le _, rfl, Ext.refl _, rfl⟩
  case round =>
    obtain ⟨k, hk, rfl, he, ha⟩ := hrel
    replace ha := hide ha
    replace he := hide he
    by_cases hlt : k < l.length
    · obtain ⟨b, off, rfl, _, hkd, x0, x1⟩ := EAtm.at (hs.out.ext he.out) k hlt
      have A := Blk.new wr 75 #[.int .i64 l[k].1, .int .u32 (l[k].2.toNat : Int)]
      have he' := hide (he.out.alloc (Obj.cells #[.int .i64 l[k].1, .int .u32 (l[k].2.toNat : Int)] 75))
      generalize hW : wr.alloc (Obj.cells #[.int .i64 l[k].1, .int .u32 (l[k].2.toNat : Int)] 75) = W at A he'
      generalize hg : wr.heap.size = g at A
      have A_0 : W.cell? ⟨g, 0, none⟩ = some (.int .i64 l[k].1) := A.cell 0
      have A_1 : W.cell? ⟨g, 1, none⟩ = some (.int .u32 (l[k].2.toNat : Int)) := A.cell 1
      replace A := hide A
      have hbad := fun h => allA_bad hlt h
      have hok := fun h : atmOk l[k] = true => (allA_succ l k hlt).trans (by rw [ha.out, h, Bool.true_and])
      have hcs := atm_cases l[k]
      generalize atmOk l[k] = ok at hbad hok hcs
      generalize l[k] = x at *
      obtain ⟨kd, av⟩ := x
      dsimp only at *
      replace hbad := hide hbad
      replace hok := hide hok
      rcases hcs with ⟨h1, rfl⟩ | ⟨h1, h3, rfl⟩ | ⟨h1, h3, b3, b4, e3, e4, e5⟩
      · have e1 : decide (kd < 1) = true := decide_eq_true h1
        clear h1
        go_wp2
        go_ret
        exact ⟨ret_bool (hbad.out (by trivial)).symm, he'.out⟩
      · have e1 : decide (kd < 1) = false := decide_eq_false (by omega)
        have e2 : decide (3 < kd) = true := decide_eq_true h3
        clear h1 h3
        go_wp2
        go_ret
        exact ⟨ret_bool (hbad.out (by trivial)).symm, he'.out⟩
      · have e1 : decide (kd < 1) = false := decide_eq_false (by omega)
        have e2 : decide (3 < kd) = false := decide_eq_false (by omega)
        clear h1 h3
        cases ok with
        | true =>
          rw [Bool.not_true] at e5
          cases b3 <;> cases b4 <;> first | exact absurd e5 (by decide) | (go_wp2; go_roundw; (case rel => exact ⟨k + 1, by omega, by go_num, he'.out, hok.out (by trivial)⟩); (case measure => simp [intOf]; omega))
        | false =>
          rw [Bool.not_false] at e5
          cases b3 <;> cases b4 <;> first | exact absurd e5 (by decide) | (go_wp2; go_ret; exact ⟨ret_bool (hbad.out (by trivial)).symm, he'.out⟩)
    · have hend : atmsOk l = decide (l.length ≤ 64) := by
        obtain rfl : k = l.length := by omega
        have := ha.out
        rw [List.take_length] at this
        unfold atmsOk
        rw [this, Bool.true_and]
      have hle : decide ((l.length : Int) ≤ 64) = decide (l.length ≤ 64) := decide_eq_decide.2 (by omega)
      rw [← hend] at hle
      clear hend
      go_wp2
      go_ret
      exact ⟨ret_bool rfl, he.out⟩
end
section
open Go.RowKit Go.Sort
set_option linter.unusedVariables false
noncomputable instance (a b : Pfx) : Decidable (Cov a b) := Classical.propDecidable _
open Go.RowKit Go.Sort
end
section
open Go.RowKit
set_option linter.unusedVariables false
theorem okU8 : ElemOk Tryz.prog 148 5 1 1 := elemOk (z := .int .u8 0) Tryz.underlying148 (by kernel_rfl) rfl
theorem okU8z : Tryz.prog.info? 5 = none ∨ ∀ i, Tryz.prog.info? 5 = some i → i.zero = some (.int .u8 0) := by
 right; intro i hi
 have h : (Tryz.prog.info? 5).map (fun i => i.zero) = some (some (.int .u8 0)) := by kernel_rfl
 rw [hi] at h; simpa using h
def put (s : ByteArray) (n v : Nat) : ByteArray := ⟨(s.data.toList ++ be n v).toArray⟩
set_option maxRecDepth 20000 in
set_option maxHeartbeats 1000000 in
theorem WPut_any (s : ByteArray) (v n : Nat) (w : World) (h1 : 1 ≤ n) (h8 : n ≤ 8) (hv : v < 18446744073709551616) (hvn : v < 2 ^ (8 * n)) (hs : s.size ≤ 33554432) :
    Calls Tryz.prog 174 #[.string s, .int .u64 v, .int .i64 n] w fun e w' => e = .returned (.tuple #[.string (put s n v), .int .i64 0]) ∧ Ext w w' := by
  have hln : (Lib.bitLen v : Int) ≤ 8 * n := bitLen_le n v hvn hv
  have hml : s.size ≤ maxLen := by unfold maxLen; omega
  have kc := fun (w : World) => Lib.run_convert_string_bytes (P := Tryz.prog) w 9 148 5 s Tryz.underlying9 Tryz.underlying148 Tryz.underlying5
  have e0 : decide ((n : Int) < 1) = false := by simp; omega
  have e8 : decide ((8 : Int) < (n : Int)) = false := by simp; omega
  have e9 : decide (8 * (n : Int) < (Lib.bitLen v : Int)) = false := by simp; omega
  replace hvn := hide hvn
  go_enter Tryz.func174, Tryz.ntmps174
  go_wp2_with (go_at_call 178; refine (Len64_any v hv _).mono ?_; rintro e w' ⟨rfl, rfl⟩)
  have hcv := hide (OwnB.conv (w := w) (e := 5) s hml)
  clear kc
  go_loopw [8, 9] (fun o i wr => ∃ k : Nat, k ≤ n ∧ i = .int .i64 ((n : Int) - 1 - k) ∧ OwnB 5 wr w.heap.size o (s.data.toList ++ (be n v).take k) ∧ Ext w wr) (fun _ i _ => (intOf i + 1).toNat)
  case atStart => exact ⟨0, Nat.zero_le _, by simp, by simpa using hcv.out, ext_bytesWorld w _ s⟩
  case round =>
    obtain ⟨k, hk, rfl, hown, hE⟩ := hrel
    have hsz := hE.size
    replace hE := hide hE
    replace hown := hide hown
    have hle : (s.data.toList ++ (be n v).take k).length ≤ 33554440 := by
      have : s.data.toList.length = s.size := by simp
      simp only [List.length_append, List.length_take, be_length]
      omega
    by_cases hlt : k < n
    · have hb := byt_cast v (n - 1 - k)
      go_wp2_with (at_builtin
                   have hox := hown.out.alloc (Obj.cells #[.int .u8 ((byt v (n - 1 - k)).toNat : Int)] 5)
                   refine wpList_appendB rfl _ _ _ rfl okU8 okU8z rfl hox (by simp; omega) [byt v (n - 1 - k)] rfl (by simp at hle ⊢; omega) (byte_new _ _ _) ?_
                   intro v' w1 hown1 hg hat)
      go_roundw
      case rel => exact ⟨k + 1, by omega, by simp; omega, by rw [be_snoc n v k hlt, ← List.append_assoc]; exact hown1, (hE.out.alloc _).push (fun j hj => (hown.out.lt j hj).1) hg⟩
      case measure => simp [intOf]; omega
    · obtain rfl : k = n := by omega
      have hown1 := hown.out
      rw [be_all] at hown1
      have kd := fun (W : World) (h : OwnB 5 W w.heap.size u8 (s.data.toList ++ be k v)) => run_stringB (P := Tryz.prog) (src := 148) (dst := 9) Tryz.underlying148 Tryz.underlying5 Tryz.underlying9 h
      have kd := kd wr hown1
      replace hown1 := hide hown1
      go_wp2
      go_ret2
      exact ⟨rfl, hE.out⟩
end
end Go.Proofs.YtljibkfbldjgdaaGreatDoor
