/- A law of regions that draw their order: a fact that every operation keeps holds at the end; the frame is the one of the text's order. A region that draws its order and makes memory, met by one word for each of its operations. A region that draws its order and makes memory, met by one word for each of its operations; a word for answers that are not one value. A region that draws its order, of which a tail comes in its own order: the head is met by words (PM), the tail is walked. The world but one block; steps of regions that draw their order: a call that returns or panics. Chapter 35, walks: something done, and what was given up in it (script.guarded). Walks: a prefix read of any text, by the program (printed by genp29.py). Chapter 35, walks: an event read of a line (script.read). Printed by genread.py. Chapter 35, walks: an event told as a line (script.line, script.tell). Chapter 35, wal -/
import Derived.Lib.SplitLaws
import Derived.Lib.ParseIntB
import Derived.Lib.ParseIntBCases
import Derived.Lib.ItoaNum
import Derived.Lib.Join
import Derived.WalkKit
import Derived.Below
import Derived.Outline
import Derived.LoopTactic
import Derived.Laws.OwnMore
import Derived.Deep.AppendLies
import Derived.Deep.Draws
import Derived.Lib.Hide
import Derived.BigQuiet
import Derived.Deep.QuietTactic
import Derived.WalkSpells
import Derived.WalkLawsBesides
import Derived.Deep.RegionHeld3
import Derived.Deep.DrawnRows
import Derived.Deep.RegionLaw
import Derived.Lib.ConvBytes
import Derived.Lib.Bytealg
import Derived.Lib.Small
import Derived.Test.YtkinghadgmbhbaaGreatDoorRows
import Derived.ProofKit
import Derived.Deep.Slices
import Derived.Shelf.GgClosure.StringsRunes
import Derived.Test.YtkinghadgmbhbaaGreatDoorProg
import Derived.Test.YtkinghadgmbhbaaGreatDoorShelf
import Derived.Shelf.RegionOpenPlain
import Derived.Laws.StructEq
import Derived.Lib.QuietBelow
import Derived.Test.YtkinghadgmbhbaaGreatDoorShelf2
import Derived.Lib.UnsafeStr
import Derived.Lib.ItoaMem
import Derived.Lib.ItoaLen
import Derived.Shelf.Strings.Builder1
import Derived.Orders
import Derived.StillTail
import Derived.Defers
import Derived.Recover
import Derived.Laws.EntriesVeiled
import Derived.Deep.DeepCutAuto
import Derived.Test.YtkinghadgmbhbaaGreatDoorPF01
import Derived.Test.YtkinghadgmbhbaaGreatDoorPF02
namespace Go.Proofs.YtkinghadgmbhbaaGreatDoor
section
set_option linter.unusedVariables false
def updF {α : Type} (f : Nat → α) (i : Nat) (x : α) : Nat → α := fun j => if j = i then x else f j
theorem updF_same {α : Type} (f : Nat → α) (i : Nat) (x : α) : updF f i x i = x := if_pos rfl
theorem updF_ne {α : Type} (f : Nat → α) {i j : Nat} (x : α) (h : j ≠ i) : updF f i x j = f j := if_neg h
def putD (done : Nat → Bool) (val : Nat → Value) : List Oper → Nat → Act → Act
 | [], _, a => a
 | o :: l, k, a => putD done val l (k + 1) (if done k = true then a.put o.dst (val k) else a)
def distB : List Oper → Bool
 | [] => true
 | o :: l => (match o.dst with | none => true | some d => l.all fun p => p.dst != some d) && distB l
theorem putD_put {done : Nat → Bool} {val : Nat → Value} (d : Option Tmp) (v : Value) : ∀ (l : List Oper) (k : Nat) (a : Act), (∀ o ∈ l, ∀ x, d = some x → o.dst ≠ some x) → putD done val l k (a.put d v) = (putD done val l k a).put d v
  | [], _, _, _ => rfl
  | o :: l, k, a, h => by
    simp only [putD]
    rw [← putD_put d v l (k + 1) _ fun p hp => h p (by simp [hp])]
    congr 1
    split
    · exact Act.put_comm a v _ fun x hx => h o (by simp) x hx
    · rfl
theorem putD_congr {done done' : Nat → Bool} {val val' : Nat → Value} : ∀ (l : List Oper) (k : Nat) (a : Act), (∀ j, k ≤ j → done j = done' j ∧ val j = val' j) → putD done val l k a = putD done' val' l k a
  | [], _, _, _ => rfl
  | o :: l, k, a, h => by
    simp only [putD]
    rw [(h k (Nat.le_refl _)).1, (h k (Nat.le_refl _)).2]
    exact putD_congr l (k + 1) _ fun j hj => h j (by omega)
theorem dist_tail {o : Oper} {l : List Oper} (h : distB (o :: l) = true) : distB l = true ∧ ∀ p ∈ l, ∀ x, o.dst = some x → p.dst ≠ some x := by
 simp only [distB, Bool.and_eq_true] at h
 refine ⟨h.2, fun p hp x hx => ?_⟩
 rw [hx] at h
 have := List.all_eq_true.1 h.1 p hp
 simpa using this
theorem putD_upd {done : Nat → Bool} {val : Nat → Value} (v : Value) : ∀ (l : List Oper) (k i : Nat) (a : Act) (o : Oper), distB l = true → l[i]? = some o → done (k + i) = false →
    putD (updF done (k + i) true) (updF val (k + i) v) l k a = (putD done val l k a).put o.dst v
  | [], _, _, _, _, _, h, _ => by simp at h
  | p :: l, k, 0, a, o, hB, ho, hd => by
    obtain rfl : p = o := by simpa using ho
    obtain ⟨_, hne⟩ := dist_tail hB
    simp only [putD, Nat.add_zero, updF_same, if_true]
    simp only [Nat.add_zero] at hd
    rw [hd, if_neg (by decide), putD_congr (done' := done) (val' := val) l (k + 1) _ fun j hj => ⟨updF_ne _ _ (by omega), updF_ne _ _ (by omega)⟩]
    exact putD_put _ _ l _ _ hne
  | p :: l, k, i + 1, a, o, hB, ho, hd => by
    have ho' : l[i]? = some o := by simpa using ho
    simp only [putD]
    rw [updF_ne _ _ (show k ≠ k + (i + 1) by omega), updF_ne _ _ (show k ≠ k + (i + 1) by omega)]
    have := putD_upd (val := val) v l (k + 1) i (if done k = true then a.put p.dst (val k) else a) o (dist_tail hB).1 ho' (by rw [show k + 1 + i = k + (i + 1) by omega]; exact hd)
    rw [show k + 1 + i = k + (i + 1) by omega] at this
    exact this
theorem putD_size {done : Nat → Bool} {val : Nat → Value} : ∀ (l : List Oper) (k : Nat) (a : Act), (putD done val l k a).tmps.size = a.tmps.size
  | [], _, _ => rfl
  | o :: l, k, a => by
    simp only [putD]
    rw [putD_size l]
    split
    · cases o.dst <;> simp [Act.put]
    · rfl
theorem eval_put_same {a : Act} {d : Tmp} {v : Value} (h : d < a.tmps.size) : (a.put (some d) v).eval (.tmp d) = v := by
 simp [Act.put, Act.eval, h]
theorem eval_putD {done : Nat → Bool} {val : Nat → Value} : ∀ (l : List Oper) (k i : Nat) (a : Act) (o : Oper) (d : Tmp), distB l = true → l[i]? = some o → o.dst = some d → done (k + i) = true → d < a.tmps.size → (putD done val l k a).eval (.tmp d) = val (k + i)
  | [], _, _, _, _, _, _, h, _, _, _ => by simp at h
  | p :: l, k, 0, a, o, d, hB, ho, hd, hk, hs => by
    obtain rfl : p = o := by simpa using ho
    simp only [Nat.add_zero] at hk ⊢
    simp only [putD]
    rw [hk, if_pos rfl, hd, putD_put (some d) _ l _ _ fun q hq x hx => (dist_tail hB).2 q hq x (by rw [hd]; exact hx)]
    exact eval_put_same (by rw [putD_size]; exact hs)
  | p :: l, k, i + 1, a, o, d, hB, ho, hd, hk, hs => by
    simp only [putD]
    have := eval_putD (done := done) (val := val) l (k + 1) i (if done k = true then a.put p.dst (val k) else a) o d (dist_tail hB).1 (by simpa using ho) hd (by rw [show k + 1 + i = k + (i + 1) by omega]; exact hk) (by split <;> (try cases p.dst) <;> simpa [Act.put] using hs)
    rw [show k + 1 + i = k + (i + 1) by omega] at this
    exact this
theorem eval_putD_out {done : Nat → Bool} {val : Nat → Value} (t : Tmp) : ∀ (l : List Oper) (k : Nat) (a : Act), (∀ o ∈ l, o.dst ≠ some t) → (putD done val l k a).eval (.tmp t) = a.eval (.tmp t)
  | [], _, _, _ => rfl
  | o :: l, k, a, h => by
    simp only [putD]
    rw [eval_putD_out t l (k + 1) _ fun p hp => h p (by simp [hp])]
    split
    · exact Act.eval_put fun d hd he => h o (by simp) (by rw [hd]; injection he with he; rw [he])
    · rfl
/-- How many are left. -/
def cntF (f : Nat → Bool) : Nat → Nat
 | 0 => 0
 | n + 1 => cntF f n + if f n = true then 0 else 1
theorem cntF_upd (f : Nat → Bool) (i : Nat) (hi : f i = false) : ∀ n, cntF (updF f i true) n + (if i < n then 1 else 0) = cntF f n
  | 0 => by simp [cntF]
  | n + 1 => by
    have ih := cntF_upd f i hi n
    simp only [cntF]
    by_cases h : n = i
    · subst h
      rw [if_neg (Nat.lt_irrefl n)] at ih
      have h1 : (if n < n + 1 then 1 else 0) = 1 := if_pos (Nat.lt_succ_self n)
      rw [updF_same, hi, h1]
      simp only [if_true, Bool.false_eq_true, if_false]
      omega
    · rw [updF_ne _ _ h]
      by_cases h2 : i < n
      · rw [if_pos h2] at ih
        have h1 : (if i < n + 1 then 1 else 0) = 1 := if_pos (by omega)
        rw [h1]
        omega
      · rw [if_neg h2] at ih
        have h1 : (if i < n + 1 then 1 else 0) = 0 := if_neg (by omega)
        rw [h1]
        omega
theorem cntF_zero (f : Nat → Bool) : ∀ n, cntF f n = 0 → ∀ i, i < n → f i = true
  | 0, _, i, hi => by omega
  | n + 1, h, i, hi => by
    simp only [cntF] at h
    by_cases hn : f n = true
    · rw [if_pos hn] at h
      rcases Nat.lt_or_ge i n with h2 | h2
      · exact cntF_zero f n h i h2
      · obtain rfl : i = n := by omega
        exact hn
    · rw [if_neg hn] at h; omega
theorem cntF_none (n : Nat) : cntF (fun _ => false) n = n := by
 induction n with
 | zero => rfl
 | succ n ih => simp [cntF, ih]
open Go.RowKit
def backM (md : Region.Mode) (ops : Array Oper) : Bool := (List.range ops.size).all fun i => match ops[i]? with | none => true | some o => o.after.all fun e => !Region.binds md e || decide (e.on < i)
theorem ready_nilM {md : Region.Mode} {ops : Array Oper} {listed : Array Bool} (hb : backM md ops = true) (hs : listed.size = ops.size) (h : Region.ready md ops listed = []) (i : Nat) : i < ops.size → listed.getD i false = true := by
  induction i using Nat.strongRecOn with
  | _ i ih =>
    intro hi
    cases hl : listed.getD i false with
    | true => rfl
    | false =>
      have hmem : i ∈ Region.ready md ops listed := mem_ready.2 ⟨by
        have : i < listed.size := by omega
        simp [this] at hl ⊢
        exact hl, ops[i], by simp [hi], fun e he hbd => by
        have hb' := List.all_eq_true.1 hb i (by simpa using hi)
        simp only [Array.getElem?_eq_getElem hi] at hb'
        have hlt : e.on < i := by
          rw [Array.all_eq_true] at hb'
          obtain ⟨k, hk, rfl⟩ := Array.mem_iff_getElem.1 he
          have h3 := hb' k hk
          rw [hbd] at h3
          simpa using h3
        exact ih e.on hlt (by omega)⟩
      rw [h] at hmem
      cases hmem
/-- What an operation yields: a value; a block of its own; a block that is filled later; nothing: it fills what number b made. -/
inductive Spec where
  | val (v : Value)
  | mk (f : Nat → Value) (t : TypeId) (cs : Array Value)
  | box (st : Nat) (t : TypeId) (z cs : Array Value)
  | fill (b : Nat)
def Spec.mem : Spec → Bool
 | .mk _ _ _ => true
 | .box _ _ _ _ => true
 | _ => false
def Spec.Ok (done : Nat → Bool) (v : Value) (w : World) (g : Nat) : Spec → Prop
 | .val u => v = u
 | .mk f t cs => v = f g ∧ Blk w g t cs
 | .box st t z cs => v = .pointer (some ⟨g, 0, none⟩) ∧ Blk w g t (if done st = true then cs else z)
 | .fill _ => True
/-- Nothing but block g has turned. -/
structure OnlyAt (g : Nat) (w w' : World) : Prop where
  os : w'.os = w.os
  tape : w'.tape = w.tape
  output : w'.output = w.output
  size : w'.heap.size = w.heap.size
  block : ∀ b, b ≠ g → w'.heap[b]? = w.heap[b]?
theorem OnlyAt.refl (g : Nat) (w : World) : OnlyAt g w w := ⟨rfl, rfl, rfl, rfl, fun _ _ => rfl⟩
theorem OnlyAt.setCell {g : Nat} {a w : World} (h : OnlyAt g a w) (o : Nat) (u : Value) : OnlyAt g a (w.setCell ⟨g, o, none⟩ u) :=
 ⟨h.os, h.tape, h.output, by simpa [World.setCell] using h.size, fun b hb => (Below.heap_setCell _ _ _ _ (show b ≠ g from hb)).trans (h.block b hb)⟩
theorem OnlyAt.ext {g : Nat} {W w w' : World} (h : OnlyAt g w w') (hE : Ext W w) (hg : W.heap.size ≤ g) : Ext W w' :=
 ⟨h.os.trans hE.os, h.tape.trans hE.tape, h.output.trans hE.output, by rw [h.size]; exact hE.size, fun b hb => (h.block b (by omega)).trans (hE.block b hb)⟩
def JS (W : World) (n : Nat) (sp : Nat → Spec) (done : Nat → Bool) (val : Nat → Value) (w : World) : Prop :=
 Ext W w ∧ ∃ G : Nat → Nat, (∀ i, i < n → done i = true → (sp i).Ok done (val i) w (G i)) ∧ (∀ i, i < n → done i = true → (sp i).mem = true → W.heap.size ≤ G i ∧ G i < w.heap.size) ∧
  (∀ i j, i < n → j < n → done i = true → done j = true → (sp i).mem = true → (sp j).mem = true → G i = G j → i = j) ∧ (∀ i b, i < n → sp i = .fill b → done i = true → done b = true)
theorem JS.start (W : World) (n : Nat) (sp : Nat → Spec) (val : Nat → Value) : JS W n sp (fun _ => false) val W.drew :=
 ⟨(Ext.refl W).drew, fun _ => 0, fun _ _ h => Bool.noConfusion h, fun _ _ h => Bool.noConfusion h, fun _ _ _ _ h => Bool.noConfusion h, fun _ _ _ _ h => Bool.noConfusion h⟩
def outB' (ops : Array Oper) (t : Tmp) : Bool := ops.toList.all fun o => o.dst != some t
theorem outB'_spec {ops : Array Oper} {t : Tmp} (h : outB' ops t = true) : ∀ o ∈ ops.toList, o.dst ≠ some t := fun o ho => by
 have := List.all_eq_true.1 h o ho
 simpa using this
theorem wanted_none' {o : Oper} {a : Nat → Option Bool} (h : o.guard = none) : Region.wanted o a = true := by
 unfold Region.wanted; rw [h]
theorem Spec.Ok.mono {sp : Spec} {done done' : Nat → Bool} {v : Value} {w w' : World} {g : Nat} (h : sp.Ok done v w g) (hd : ∀ st t z cs, sp = .box st t z cs → done' st = done st) (hw : sp.mem = true → w'.heap[g]? = w.heap[g]?) : sp.Ok done' v w' g := by
  cases sp with
  | val u => exact h
  | mk f t cs => exact ⟨h.1, (hw rfl).trans h.2⟩
  | box st t z cs =>
    refine ⟨h.1, ?_⟩
    rw [hd st t z cs rfl]
    exact (hw rfl).trans h.2
  | fill b => trivial
theorem Spec.Ok.lt {sp : Spec} {done : Nat → Bool} {v : Value} {w : World} {g : Nat} (h : sp.Ok done v w g) (hm : sp.mem = true) : g < w.heap.size := by
 cases sp with
 | val u => cases hm
 | mk f t cs => exact h.2.lt
 | box st t z cs => exact h.2.lt
 | fill b => cases hm
/-- Steps by their runs. -/
theorem step_val {P : Program} {Q : Exit → Act → World → Prop} {o : Oper} {a : Act} {w w'' : World} {u : Value} (h : (execOp a.eval o).run P w = .ok (.value u) w'') (he : Ext w w'') : Oper.wp P o a w (fun a' w'' => a' = a.put o.dst u ∧ Ext w w'') Q := by
 unfold Oper.wp
 rw [h]
 exact ⟨rfl, he⟩
theorem step_mk {P : Program} {Q : Exit → Act → World → Prop} {o : Oper} {a : Act} {w w'' : World} {g : Nat} {v : Value} {t : TypeId} {cs : Array Value} (h : (execOp a.eval o).run P w = .ok (.value v) w'') (hg : w.heap.size ≤ g) (he : Ext w w'') (hB : Blk w'' g t cs) (f : Nat → Value) (hv : v = f g) :
  Oper.wp P o a w (fun a' w'' => ∃ g, a' = a.put o.dst (f g) ∧ w.heap.size ≤ g ∧ Ext w w'' ∧ Blk w'' g t cs) Q := by
 unfold Oper.wp
 rw [h, hv]
 exact ⟨g, rfl, hg, he, hB⟩
theorem step_go {P : Program} {Q : Exit → Act → World → Prop} {o : Oper} {a : Act} {w : World} {u : Value} (f : FuncId) {fn : Func} (xs : Array Operand) (ts : Array TypeId)
  (hop : o.op = Op.call { callee := Callee.value (Operand.func f), args := xs, argTypes := ts }) (hf : P.funcs[f]? = some fn) (hname : (fn.name == "runtime.NumGoroutine") = false) (hb : fn.body.isNone = false) (vs : Array Value) (hx : xs.map a.eval = vs)
  (hc : Calls P f vs w fun e w' => e = .returned u ∧ Ext w w') : Oper.wp P o a w (fun a' w'' => a' = a.put o.dst u ∧ Ext w w'') Q := by
 unfold Oper.wp
 have h1 : fn.name ≠ "runtime.NumGoroutine" := by simpa using hname
 have hev : a.eval (Operand.func f) = .func (.func f) #[] #[] := rfl
 have h2 : ¬ (fn.body = none) := by intro h; simp [h] at hb
 have hrun : (execOp a.eval o).run P w = .ok (.enter f vs) w := by
  simp [execOp, hop, resolve, hev, Deferred.ofValue, invoke, hx, callFunc, hf, h1, h2]
 rw [hrun, Oper.upon_enter]
 exact hc.mono fun e w' h => by obtain ⟨rfl, hE⟩ := h; exact ⟨rfl, hE⟩
/-- What an operation yields: a value; a block of its own; a block that is filled later; nothing: it fills what number b made; something of which R holds, in blocks of its own from lo up to hi. -/
inductive Wd where
  | val (v : Value)
  | mk (f : Nat → Value) (t : TypeId) (cs : Array Value)
  | box (st : Nat) (t : TypeId) (z : Array Value) (cs : (Nat → Value) → Array Value)
  | fill (b : Nat)
  | any (R : Nat → Nat → Value → World → Prop)
def Wd.mem : Wd → Bool
 | .mk _ _ _ => true
 | .box _ _ _ _ => true
 | .any _ => true
 | _ => false
def Wd.Ok (done : Nat → Bool) (val : Nat → Value) (v : Value) (w : World) (g h : Nat) : Wd → Prop
 | .val u => v = u
 | .mk f t cs => (v = f g ∧ Blk w g t cs) ∧ h = g + 1
 | .box st t z cs => (v = .pointer (some ⟨g, 0, none⟩) ∧ Blk w g t (if done st = true then cs val else z)) ∧ h = g + 1
 | .fill _ => True
 | .any R => R g h v w
/-- What stays while nothing but other blocks turns. -/
def Stays (W : World) (R : Nat → Nat → Value → World → Prop) : Prop :=
 ∀ lo hi v w w', R lo hi v w → (∀ b, b < W.heap.size ∨ (lo ≤ b ∧ b < hi) → w'.heap[b]? = w.heap[b]?) → w.heap.size ≤ w'.heap.size → R lo hi v w'
def JW (W : World) (n : Nat) (sp : Nat → Wd) (done : Nat → Bool) (val : Nat → Value) (w : World) : Prop :=
 Ext W w ∧ ∃ G H : Nat → Nat, (∀ i, i < n → done i = true → (sp i).Ok done val (val i) w (G i) (H i)) ∧ (∀ i, i < n → done i = true → (sp i).mem = true → W.heap.size ≤ G i ∧ G i ≤ H i ∧ H i ≤ w.heap.size) ∧
  (∀ i j, i < n → j < n → i ≠ j → done i = true → done j = true → (sp i).mem = true → (sp j).mem = true → H i ≤ G j ∨ H j ≤ G i) ∧ (∀ i b, i < n → sp i = .fill b → done i = true → done b = true)
theorem JW.start (W : World) (n : Nat) (sp : Nat → Wd) (val : Nat → Value) : JW W n sp (fun _ => false) val W.drew :=
 ⟨(Ext.refl W).drew, fun _ => 0, fun _ => 0, fun _ _ h => Bool.noConfusion h, fun _ _ h => Bool.noConfusion h, fun _ _ _ _ _ h => Bool.noConfusion h, fun _ _ _ _ h => Bool.noConfusion h⟩
def StepW (P : Program) (Q : Exit → Act → World → Prop) (sp : Nat → Wd) (o : Oper) (a : Act) (w : World) (G : Nat → Nat) (val : Nat → Value) : Wd → Prop
  | .val u => Oper.wp P o a w (fun a' w'' => a' = a.put o.dst u ∧ Ext w w'') Q
  | .mk f t cs => Oper.wp P o a w (fun a' w'' => ∃ g, a' = a.put o.dst (f g) ∧ w.heap.size ≤ g ∧ Ext w w'' ∧ Blk w'' g t cs) Q
  | .box _ t z _ => Oper.wp P o a w (fun a' w'' => ∃ g, a' = a.put o.dst (.pointer (some ⟨g, 0, none⟩)) ∧ w.heap.size ≤ g ∧ Ext w w'' ∧ Blk w'' g t z) Q
  | .fill b => match sp b with
    | .box _ t _ cs => Oper.wp P o a w (fun a' w'' => ∃ v, a' = a.put o.dst v ∧ OnlyAt (G b) w w'' ∧ Blk w'' (G b) t (cs val)) Q
    | _ => False
  | .any R => Oper.wp P o a w (fun a' w'' => ∃ v, a' = a.put o.dst v ∧ Ext w w'' ∧ R w.heap.size w''.heap.size v w'') Q
theorem Wd.Ok.mono {W : World} {sp : Wd} (hR : ∀ R, sp = .any R → Stays W R) {done done' : Nat → Bool} {val val' : Nat → Value} {v : Value} {w w' : World} {g h : Nat} (hk : sp.Ok done val v w g h) (hd : ∀ st t z cs, sp = .box st t z cs → done' st = done st ∧ (done st = true → cs val' = cs val))
    (hw : sp.mem = true → ∀ b, b < W.heap.size ∨ (g ≤ b ∧ b < h) → w'.heap[b]? = w.heap[b]?) (hs : w.heap.size ≤ w'.heap.size) : sp.Ok done' val' v w' g h := by
  cases sp with
  | val u => exact hk
  | mk f t cs => exact ⟨⟨hk.1.1, (hw rfl g (.inr ⟨Nat.le_refl _, by have := hk.2; omega⟩)).trans hk.1.2⟩, hk.2⟩
  | box st t z cs =>
    refine ⟨⟨hk.1.1, ?_⟩, hk.2⟩
    obtain ⟨h1, h2⟩ := hd st t z cs rfl
    rw [h1]
    have := hk.1.2
    have hb : Blk w' g t (if done st = true then cs val else z) := (hw rfl g (.inr ⟨Nat.le_refl _, by have := hk.2; omega⟩)).trans this
    by_cases e : done st = true
    · rw [if_pos e] at hb ⊢
      rw [h2 e]
      exact hb
    · rw [if_neg e] at hb ⊢
      exact hb
  | fill b => trivial
  | any R => exact hR R rfl g h v w w' hk (hw rfl) hs
/-- The same, and that what is done has all done that it waits for. -/
def JV (W : World) (ops : Array Oper) (sp : Nat → Wd) (done : Nat → Bool) (val : Nat → Value) (w : World) : Prop :=
 JW W ops.size sp done val w ∧ ∀ i o, ops[i]? = some o → done i = true → ∀ e ∈ o.after, Region.binds .any e = true → done e.on = true
theorem JV.start (W : World) (ops : Array Oper) (sp : Nat → Wd) (val : Nat → Value) : JV W ops sp (fun _ => false) val W.drew := ⟨JW.start _ _ _ _, fun _ _ _ h => Bool.noConfusion h⟩
/-- An operation that is not skipped: it bears no guard, or its guard's word is what it wants. -/
def GuardOk (ops : Array Oper) (sp : Nat → Wd) (n m : Nat) (o : Oper) : Prop :=
 o.guard = none ∨ ∃ j want oj d, o.guard = some (j, want) ∧ ops[j]? = some oj ∧ oj.dst = some d ∧ d < m ∧ j < n ∧ sp j = .val (.bool want) ∧ o.after.any (fun e => Region.binds .any e && e.on == j) = true
theorem GuardOk.wanted {ops : Array Oper} {sp : Nat → Wd} {n : Nat} {a0 : Act} {o : Oper} {done : Nat → Bool} {val : Nat → Value} {w : World} {G H : Nat → Nat} (hB : distB ops.toList = true) (h : GuardOk ops sp n a0.tmps.size o)
  (hdep : ∀ e ∈ o.after, Region.binds .any e = true → done e.on = true) (hok : ∀ j, j < n → done j = true → (sp j).Ok done val (val j) w (G j) (H j)) :
  Region.wanted o (yielded ops (putD done val ops.toList 0 a0).tmps) = true := by
 rcases h with h | ⟨j, want, oj, d, h1, h2, h3, h4, h5, h6, h7⟩
 ·exact wanted_none' h
 ·obtain ⟨e, he, heb⟩ := Array.any_eq_true'.1 h7
  obtain ⟨hb1, hb2⟩ := (Bool.and_eq_true _ _).mp heb
  have hj : done j = true := by
   have := hdep e he hb1
   rwa [show e.on = j by simpa using hb2] at this
  have hv := hok j h5 hj
  rw [h6] at hv
  replace hv : val j = .bool want := hv
  have hev := eval_putD (done := done) (val := val) ops.toList 0 j a0 oj d hB (by simpa using h2) h3 (by rw [Nat.zero_add]; exact hj) h4
  rw [Nat.zero_add, hv] at hev
  have hsz : d < (putD done val ops.toList 0 a0).tmps.size := by rw [putD_size]; exact h4
  have hy : yielded ops (putD done val ops.toList 0 a0).tmps j = some want := by
   generalize putD done val ops.toList 0 a0 = a at hev hsz ⊢
   have hg : a.tmps[d]? = some (.bool want) := by
    simp [Act.eval, hsz] at hev
    rw [Array.getElem?_eq_getElem hsz, hev]
   simp [yielded, h2, h3, hg]
  simp [Region.wanted, h1, hy]
/-- As JV, over the first n. -/
def JN (W : World) (n : Nat) (ops : Array Oper) (sp : Nat → Wd) (done : Nat → Bool) (val : Nat → Value) (w : World) : Prop :=
 JW W n sp done val w ∧ ∀ i o, ops[i]? = some o → done i = true → ∀ e ∈ o.after, Region.binds .any e = true → done e.on = true
theorem JN.start (W : World) (n : Nat) (ops : Array Oper) (sp : Nat → Wd) (val : Nat → Value) : JN W n ops sp (fun _ => false) val W.drew := ⟨JW.start _ _ _ _, fun _ _ _ h => Bool.noConfusion h⟩
end
section
open Go.RowKit
set_option linter.unusedVariables false
/-- The world but one block. -/
structure But (g : Nat) (w w' : World) : Prop where
  os : w'.os = w.os
  tape : w'.tape = w.tape
  output : w'.output = w.output
  size : w.heap.size ≤ w'.heap.size
  block : ∀ b, b < w.heap.size → b ≠ g → w'.heap[b]? = w.heap[b]?
theorem But.of {g : Nat} {w w' : World} (h : Ext w w') : But g w w' := ⟨h.os, h.tape, h.output, h.size, fun b hb _ => h.block b hb⟩
theorem But.refl (g : Nat) (w : World) : But g w w := .of (Ext.refl w)
theorem But.trans {g : Nat} {a b c : World} (h : But g a b) (k : But g b c) : But g a c :=
 ⟨k.os.trans h.os, k.tape.trans h.tape, k.output.trans h.output, Nat.le_trans h.size k.size, fun x hx hg => (k.block x (Nat.lt_of_lt_of_le hx h.size) hg).trans (h.block x hx hg)⟩
theorem But.blk {g h : Nat} {w w' : World} {t : TypeId} {cs : Array Value} (b : But g w w') (k : Blk w h t cs) (hg : h ≠ g) : Blk w' h t cs := (b.block h k.lt hg).trans k
theorem But.ext {g : Nat} {w0 w w' : World} (h : Ext w0 w) (b : But g w w') (hg : w0.heap.size ≤ g) : Ext w0 w' :=
 ⟨b.os.trans h.os, b.tape.trans h.tape, b.output.trans h.output, Nat.le_trans h.size b.size, fun x hx => (b.block x (Nat.lt_of_lt_of_le hx h.size) (by omega)).trans (h.block x hx)⟩
theorem But.set {g : Nat} {a w : World} (h : But g a w) (o : Nat) (u : Value) : But g a (w.setCell ⟨g, o, none⟩ u) :=
 ⟨h.os, h.tape, h.output, by simpa [World.setCell] using h.size, fun b hb hg => (Below.heap_setCell _ _ _ _ (show b ≠ g from hg)).trans (h.block b hb hg)⟩
theorem Blk.but {g h : Nat} {w w' : World} {t : TypeId} {cs : Array Value} (k : Blk w h t cs) (b : But g w w') (hg : h ≠ g) : Blk w' h t cs := b.blk k hg
theorem But.alloc {g : Nat} {a w : World} (h : But g a w) (o : Obj) : But g a (w.alloc o) := h.trans (But.of ((Ext.refl w).alloc o))
theorem But.far {g k : Nat} {a w : World} (h : But g a w) (hk : a.heap.size ≤ k) (o : Nat) (u : Value) : But g a (w.setCell ⟨k, o, none⟩ u) :=
 ⟨h.os, h.tape, h.output, by simpa [World.setCell] using h.size, fun b hb hg => (Below.heap_setCell _ _ _ _ (show b ≠ k by omega)).trans (h.block b hb hg)⟩
end
section
open Go.RowKit
set_option linter.unusedVariables false
def wrongR (c : Int) : List PanicEntry := [{ v := .iface 107 (.agg #[.int .i64 c]), recovered := true }]
set_option maxRecDepth 20000 in
set_option maxHeartbeats 2000000 in
theorem gcatch_panicking (c : Int) (q : Nat) (y : Value) (w : World) (hQ : Blk w q 23 #[y]) :
  CallsD Tryz.prog 63 #[.pointer (some ⟨q, 0, none⟩)] (.panicking (wrongP c)) w fun e u' w' =>
   e = .returned (.tuple #[]) ∧ u' = .panicking (wrongR c) ∧ But q w w' ∧ Blk w' q 23 #[.int .i64 c] := by
 have hta : ∀ W, (Instr.typeAssert (.iface 107 (.agg #[.int .i64 c])) 20 107 true).run Tryz.prog W = .ok (.tuple #[.agg #[.int .i64 c], .bool true]) W := fun W => by kernel_rfl
 refine callsD_of_wpS Tryz.func63 rfl fun c₀ cs hu => ?_
 unfold wrongP at hu
 have Q2 := hQ.alloc (Obj.cells #[.int .i64 c] 107)
 have hb := (But.refl q w).alloc (Obj.cells #[.int .i64 c] 107)
 have C2 : (w.alloc (Obj.cells #[.int .i64 c] 107)).cell? ⟨w.heap.size, 0, none⟩ = some (.int .i64 c) := (Blk.new w 107 #[.int .i64 c]).cell 0
 generalize hW : w.alloc (Obj.cells #[.int .i64 c] 107) = W2 at Q2 hb C2 ⊢
 have c2 : W2.cell? ⟨q, 0, none⟩ = some y := Q2.cell 0
 have f1 := fun i => Q2.frozen i
 have Q3 : Blk (W2.setCell ⟨q, 0, none⟩ (.int .i64 c)) q 23 #[.int .i64 c] := Q2.set_ 0 (.int .i64 c)
 have hb3 := hb.set 0 (.int .i64 c)
 clear hQ hb Q2
 replace Q3 := hide Q3
 replace hb3 := hide hb3
 simp only [Tryz.ntmps63, List.size_toArray, List.length_cons, List.length_nil, Nat.reduceAdd, Nat.reduceSub, Array.replicate_succ, Array.replicate_zero, List.push_toArray, List.append_toArray, List.nil_append, List.cons_append]
 apply wpS_seq
 apply wpS_region
 simp [wpOpsS, go_sem, recoverD, hu, Exit.thenS]
 refine wpS_of_wp ?_
 go_wp2
 simp [bodyPostS, results, Tryz.results63, wrongR]
 exact ⟨hb3.out, Q3.out⟩
theorem gcatch_idle (q : Nat) (w : World) :
  CallsD Tryz.prog 63 #[.pointer (some ⟨q, 0, none⟩)] .returning w fun e u' w' => e = .returned (.tuple #[]) ∧ u' = .returning ∧ w' = w := by
 refine callsD_of_wpS Tryz.func63 rfl fun c₀ cs hu => ?_
 simp only [Tryz.ntmps63, List.size_toArray, List.length_cons, List.length_nil, Nat.reduceAdd, Nat.reduceSub, Array.replicate_succ, Array.replicate_zero, List.push_toArray, List.append_toArray, List.nil_append, List.cons_append]
 apply wpS_seq
 apply wpS_region
 simp [wpOpsS, go_sem, recoverD, hu, Exit.thenS]
 refine wpS_of_wp ?_
 go_wp2
 cases c₀
 simp_all [bodyPostS, results, Tryz.results63]
set_option maxRecDepth 20000 in
set_option maxHeartbeats 2000000 in
theorem guard_dies {Post : Ending → World → Prop} {a : Act} {W : World} {pe : Nat} {c : Int}
  (hd : a.defers = [{ target := .fn (.func 63) #[.pointer (some ⟨pe, 0, none⟩)], args := #[] }])
  (h2 : a.tmps[2]? = some (.pointer (some ⟨pe, 0, none⟩))) (Q : Blk W pe 23 #[.int .i64 0])
  (hp : ∀ W', But pe W W' → Post (.returned (.int .i64 c)) W') :
  bodyPostD Tryz.prog Tryz.f32 Post (.panic (wrongP c)) a W := by
 show Leaves Tryz.prog Tryz.f32 a.tmps Post a.defers (.panicking (wrongP c)) W
 rw [hd]
 refine leaves_cons (f := 63) (args := #[.pointer (some ⟨pe, 0, none⟩)]) (by simp) (by simp [go_sem]) ?_
 refine (gcatch_panicking c pe _ W Q).mono ?_
 rintro e u' w'' ⟨rfl, rfl, hb, hq⟩
 have y2 : w''.cell? ⟨pe, 0, none⟩ = some (.int .i64 c) := hq.cell 0
 have hq := hp w'' hb
 simp [Leaves, settle, wrongR, results, Tryz.results32, go_sem, h2, y2, hq]
set_option maxRecDepth 20000 in
theorem guard_returns {Post : Ending → World → Prop} {a : Act} {W : World} {pe : Nat} {c : Int}
  (hd : a.defers = [{ target := .fn (.func 63) #[.pointer (some ⟨pe, 0, none⟩)], args := #[] }])
  (h2 : a.tmps[2]? = some (.pointer (some ⟨pe, 0, none⟩))) (y : W.cell? ⟨pe, 0, none⟩ = some (.int .i64 c)) (hp : Post (.returned (.int .i64 c)) W) :
  bodyPostD Tryz.prog Tryz.f32 Post .ret a W := by
 show Leaves Tryz.prog Tryz.f32 a.tmps Post a.defers .returning W
 rw [hd]
 refine leaves_cons (f := 63) (args := #[.pointer (some ⟨pe, 0, none⟩)]) (by simp) (by simp [go_sem]) ?_
 refine (gcatch_idle pe W).mono ?_
 rintro e u' w'' ⟨rfl, rfl, rfl⟩
 simp [Leaves, settle, results, Tryz.results32, go_sem, h2, y, hp]
set_option maxRecDepth 20000 in
/-- What is done, called: it returns, or gives up. -/
theorem Guard_any (g : Nat) (lb : Array Value) (eg : ∀ args w, (callFunc g args).run Tryz.prog w = .ok (.enter g args) w) (w : World) (Q : World → Prop) (R : Int → World → Prop)
  (hc : Calls Tryz.prog g lb (w.alloc (Obj.cells #[.int .i64 0] 23)) fun e W => (e = .returned (.tuple #[]) ∧ Q W) ∨ ∃ c, e = .panicked (wrongP c) ∧ R c W)
  (hQ : ∀ W, Q W → Blk W w.heap.size 23 #[.int .i64 0]) (hR : ∀ c W, R c W → Blk W w.heap.size 23 #[.int .i64 0])
  (Post : Ending → World → Prop) (h0 : ∀ W W', Q W → But w.heap.size W W' → Post (.returned (.int .i64 0)) W') (h1 : ∀ c W W', R c W → But w.heap.size W W' → Post (.returned (.int .i64 c)) W') :
  Calls Tryz.prog 32 #[.func (.func g) #[] lb] w Post := by
 have hmf : ∀ (fn : Fn) (first cap : Array Value) (w : World), (Instr.makeFunc fn first cap).run Tryz.prog w = .ok (.func fn first cap) w := fun _ _ _ _ => rfl
 replace hc := hide hc
 replace hQ := hide hQ
 replace hR := hide hR
 replace h0 := hide h0
 replace h1 := hide h1
 go_enter_defers Tryz.func32, Tryz.ntmps32
 go_wp2_with fail
 refine hc.out.mono ?_
 rintro e W (⟨rfl, hq⟩ | ⟨c, rfl, hr⟩)
 ·have B := hQ.out W hq
  have h9 := fun W' hb => h0.out W W' hq hb
  have B0 := hide (B.set_ 0 (.int .i64 0))
  have B1 := hide ((But.refl w.heap.size W).set 0 (.int .i64 0))
  have c0 : W.cell? ⟨w.heap.size, 0, none⟩ = some (.int .i64 0) := B.cell 0
  have f0 := fun i => B.frozen i
  clear hc hQ hR h0 h1 hq B
  generalize w.heap.size = pe at *
  replace h9 := hide h9
  go_wp2_with fail
  exact guard_returns (c := 0) rfl rfl (B0.out.cell 0) (h9.out _ B1.out)
 ·exact guard_dies (c := c) rfl rfl (hR.out c W hr) fun W' hb => h1.out c W W' hr hb
end
section
open Go.RowKit Go.Sort
set_option linter.unusedVariables false
/-- What reading a prefix answers. -/
def PsP (s : List UInt8) (w : World) (e : Ending) (w' : World) : Prop := e = .returned (.tuple #[valP (parseC s).1, .int .i64 (parseC s).2]) ∧ Ext w w'
theorem PsP.of {s : List UInt8} {p : Pfx} {c : Int} {w : World} (h : parseC s = (p, c)) (W : World) (hE : Ext w W) : PsP s w (.returned (.tuple #[valP p, .int .i64 c])) W := ⟨by rw [h], hE⟩
end
section
open Go.RowKit
set_option linter.unusedVariables false
set_option linter.unusedSimpArgs false
def evCs (e : EvS) : List Value := [.int .i64 e.kind, .int .i64 e.conn, .string ⟨e.addr.toArray⟩, .string ⟨e.peer.toArray⟩, .string ⟨e.bytes.toArray⟩, .int .i64 e.ticks, .int .u32 (e.draw.toNat : Int)]
/-- A word's place in a variable, and the words. -/
structure NxS (W : World) (p : Nat) (l : List (List UInt8)) (k : Nat) : Prop where
  len : l.length ≤ 4194305
  lt : k < l.length
  at_ : Blk W (p + 1) 3 #[.int .i64 (k : Int)]
  ws : ∃ b c, Blk W p 63 #[.slice (some ⟨b, 0, none⟩) l.length c] ∧ b < p ∧ ∀ (j : Nat) (hj : j < l.length), W.cell? ⟨b, j, none⟩ = some (.string ⟨l[j].toArray⟩)
theorem NxS.but {W W' : World} {p k : Nat} {l : List (List UInt8)} (h : NxS W p l k) (hb : ∀ x, x < p + 1 → W'.heap[x]? = W.heap[x]?) {k' : Nat} (hk : k' < l.length) (ha : Blk W' (p + 1) 3 #[.int .i64 (k' : Int)]) : NxS W' p l k' := by
 obtain ⟨b, c, h1, h2, h3⟩ := h.ws
 exact ⟨h.len, hk, ha, b, c, (hb p (by omega)).trans h1, h2, fun j hj => (World.cell?_of_block (a := ⟨b, j, none⟩) (hb b (by omega))).trans (h3 j hj)⟩
theorem NxS.ext {W W' : World} {p k : Nat} {l : List (List UInt8)} (h : NxS W p l k) (he : Ext W W') : NxS W' p l k :=
 have hl := h.at_.lt
 h.but (fun x hx => he.block x (by omega)) h.lt (h.at_.ext he)
theorem NxS.far {W : World} {p k : Nat} {l : List (List UInt8)} (h : NxS W p l k) {q : Nat} (hq : p + 1 < q) (i : Nat) (u : Value) : NxS (W.setCell ⟨q, i, none⟩ u) p l k :=
 h.but (fun x hx => Below.heap_setCell _ _ _ _ (show x ≠ q by omega)) h.lt (h.at_.far (p := ⟨q, i, none⟩) (show p + 1 ≠ q by omega) u)
/-- The next word: there is none; there is one. -/
theorem rnext_none (p k : Nat) (l : List (List UInt8)) (W : World) (h : NxS W p l k) (hk : l[k + 1]? = none) :
  Calls Tryz.prog 64 #[.pointer (some ⟨p + 1, 0, none⟩), .pointer (some ⟨p, 0, none⟩)] W fun e w' => e = .panicked (wrongP 9) ∧ But (p + 1) W w' := by
 obtain ⟨b, c, h1, h2, h3⟩ := h.ws
 have hl : l.length = k + 1 := by have := List.getElem?_eq_none_iff.1 hk; have := h.lt; omega
 have ha := h.at_
 have hn : k ≤ 4194305 := by have := h.len; have := h.lt; omega
 have c0 : W.cell? ⟨p + 1, 0, none⟩ = some (.int .i64 (k : Int)) := ha.cell 0
 have c1 : W.cell? ⟨p, 0, none⟩ = some (.slice (some ⟨b, 0, none⟩) l.length c) := h1.cell 0
 have f0 := fun i => ha.frozen i
 have hb := (But.refl (p + 1) W).set 0 (.int .i64 ((k : Int) + 1))
 rw [hl] at c1
 have b1 : IntKind.i64.wrap ((k : Int) + 1) = (k : Int) + 1 := by rw [IntKind.wrap_i64]; omega
 clear h h1 h3 ha hk hl hn
 replace hb := hide hb
 go_enter Tryz.func64, Tryz.ntmps64
 go_wp2_with (go_at_call 37; refine (give_any _ _).mono ?_; rintro e w' ⟨rfl, rfl⟩)
 exact ⟨rfl, rfl, hb.out⟩
theorem rnext_some (p k : Nat) (l : List (List UInt8)) (x : List UInt8) (W : World) (h : NxS W p l k) (hk : l[k + 1]? = some x) :
  Calls Tryz.prog 64 #[.pointer (some ⟨p + 1, 0, none⟩), .pointer (some ⟨p, 0, none⟩)] W fun e w' => e = .returned (.string ⟨x.toArray⟩) ∧ But (p + 1) W w' ∧ NxS w' p l (k + 1) := by
 obtain ⟨b, c, h1, h2, h3⟩ := h.ws
 have hlt : k + 1 < l.length := (List.getElem?_eq_some_iff.1 hk).1
 have hx : l[k + 1] = x := (List.getElem?_eq_some_iff.1 hk).2
 have ha := h.at_
 have hn : l.length ≤ 4194305 := h.len
 have c0 : W.cell? ⟨p + 1, 0, none⟩ = some (.int .i64 (k : Int)) := ha.cell 0
 have c1 : W.cell? ⟨p, 0, none⟩ = some (.slice (some ⟨b, 0, none⟩) l.length c) := h1.cell 0
 have c2 : W.cell? ⟨b, k + 1, none⟩ = some (.string ⟨x.toArray⟩) := by rw [← hx]; exact h3 _ hlt
 have f0 := fun i => ha.frozen i
 have hb := (But.refl (p + 1) W).set 0 (.int .i64 ((k : Int) + 1))
 have b1 : IntKind.i64.wrap ((k : Int) + 1) = (k : Int) + 1 := by rw [IntKind.wrap_i64]; omega
 have hN : NxS (W.setCell ⟨p + 1, 0, none⟩ (.int .i64 ((k : Int) + 1))) p l (k + 1) :=
  h.but (fun y hy => Below.heap_setCell _ _ _ _ (show y ≠ p + 1 by omega)) hlt (by simpa using ha.set_ 0 (.int .i64 ((k : Int) + 1)))
 have hbp : b ≠ p + 1 := by omega
 have d1 : decide (l.length ≤ k + 1) = false := decide_eq_false (by omega)
 clear h h1 h3 ha hk hx hn
 generalize hL : l.length = L at *
 have hlt2 := hide hlt
 replace hb := hide hb
 replace hN := hide hN
 replace hL := hide hL
 go_enter Tryz.func64, Tryz.ntmps64
 go_wp2
 go_ret
 exact ⟨rfl, hb.out, hN.out⟩
theorem rconn_bad (p k : Nat) (l : List (List UInt8)) (w W : World) (hT : Tab w) (hV : Vars w) (E : Ext w W) (hp : w.heap.size ≤ p + 1) (h : NxS W p l k) (hB : Blk W (p + 2) 73 #[(.func (.func 64) #[] #[.pointer (some ⟨p + 1, 0, none⟩), .pointer (some ⟨p, 0, none⟩)])])
  (hk : l[k + 1]? = none ∨ ∃ x, l[k + 1]? = some x ∧ x.length ≤ 4194304 ∧ rdC x 1 64 = none) :
  Calls Tryz.prog 65 #[.pointer (some ⟨p + 2, 0, none⟩)] W fun e w' => e = .panicked (wrongP 9) ∧ Ext w w' := by
 have c0 : W.cell? ⟨p + 2, 0, none⟩ = some (.func (.func 64) #[] #[.pointer (some ⟨p + 1, 0, none⟩), .pointer (some ⟨p, 0, none⟩)]) := hB.cell 0
 clear hB
 rcases hk with hk | ⟨x, hk, hx, hc⟩
 ·have q := rnext_none p k l W h hk
  clear hT hV h hk
  replace q := hide q
  replace E := hide E
  go_enter Tryz.func65, Tryz.ntmps65
  go_wp2_with fail
  refine q.out.mono ?_
  rintro e w1 ⟨rfl, hb⟩
  go_wp2
  exact ⟨rfl, rfl, But.ext E.out hb hp⟩
 ·have q := rnext_some p k l x W h hk
  have qn := fun W1 (h1 : Ext w W1) => SNum_any x 1 64 (by decide) (by decide) W1 (hT.ext h1) (hV.ext h1) hx
  unfold NumS at qn
  rw [hc] at qn
  clear hT hV h hk hx hc
  replace q := hide q
  replace E := hide E
  replace qn := hide qn
  go_enter Tryz.func65, Tryz.ntmps65
  go_wp2_with fail
  refine q.out.mono ?_
  rintro e w1 ⟨rfl, hb, _⟩
  have E1 := hide (But.ext E.out hb hp)
  clear hb
  go_wp2_with fail
  refine (qn.out _ E1.out).mono ?_
  rintro e w2 ⟨rfl, E2⟩
  have E3 := hide (E1.out.trans E2)
  clear E2
  go_wp2
  exact ⟨rfl, rfl, E3.out⟩
theorem rconn_ok (p k c : Nat) (l : List (List UInt8)) (x : List UInt8) (w W : World) (hT : Tab w) (hV : Vars w) (E : Ext w W) (hp : w.heap.size ≤ p + 1) (h : NxS W p l k) (hB : Blk W (p + 2) 73 #[(.func (.func 64) #[] #[.pointer (some ⟨p + 1, 0, none⟩), .pointer (some ⟨p, 0, none⟩)])])
  (hk : l[k + 1]? = some x) (hx : x.length ≤ 4194304) (hc : rdC x 1 64 = some c) :
  Calls Tryz.prog 65 #[.pointer (some ⟨p + 2, 0, none⟩)] W fun e w' => e = .returned (.int .i64 (c : Int)) ∧ But (p + 1) W w' ∧ NxS w' p l (k + 1) := by
 have c0 : W.cell? ⟨p + 2, 0, none⟩ = some (.func (.func 64) #[] #[.pointer (some ⟨p + 1, 0, none⟩), .pointer (some ⟨p, 0, none⟩)]) := hB.cell 0
 clear hB
 have q := rnext_some p k l x W h hk
 have qn := fun W1 (h1 : Ext w W1) => SNum_any x 1 64 (by decide) (by decide) W1 (hT.ext h1) (hV.ext h1) hx
 unfold NumS at qn
 rw [hc] at qn
 have hcb := rdC_some hc
 have hw : IntKind.i64.wrap (c : Int) = (c : Int) := by rw [IntKind.wrap_i64]; omega
 clear hT hV h hk hx hc hcb
 replace q := hide q
 replace E := hide E
 replace qn := hide qn
 go_enter Tryz.func65, Tryz.ntmps65
 go_wp2_with fail
 refine q.out.mono ?_
 rintro e w1 ⟨rfl, hb, hN⟩
 have E1 := hide (But.ext E.out hb hp)
 replace hb := hide hb
 replace hN := hide hN
 go_wp2_with fail
 refine (qn.out _ E1.out).mono ?_
 rintro e w2 ⟨rfl, E2⟩
 have hb2 := hide (hb.out.trans (But.of E2))
 have hN2 := hide (hN.out.ext E2)
 clear E2
 go_wp2
 go_ret
 exact ⟨rfl, hb2.out, hN2.out⟩
/-- What lies in the frame's variables. -/
structure RS (w W : World) (p R : Nat) (l : List (List UInt8)) (k : Nat) (e : EvS) : Prop where
  lo : w.heap.size ≤ R
  hi : R < p
  ext : Ext w W
  nx : NxS W p l k
  nb : Blk W (p + 2) 73 #[(.func (.func 64) #[] #[.pointer (some ⟨p + 1, 0, none⟩), .pointer (some ⟨p, 0, none⟩)])]
  ev : Blk W (p + 3) 31 (evCs e).toArray
  rs : Blk W R 31 (evCs zeroEv).toArray
theorem RS.ext' {w W W' : World} {p R k : Nat} {l : List (List UInt8)} {e : EvS} (h : RS w W p R l k e) (he : Ext W W') : RS w W' p R l k e :=
 ⟨h.lo, h.hi, h.ext.trans he, h.nx.ext he, h.nb.ext he, h.ev.ext he, h.rs.ext he⟩
theorem RS.next {w W W' : World} {p R k k' : Nat} {l : List (List UInt8)} {e : EvS} (h : RS w W p R l k e) (hb : But (p + 1) W W') (hn : NxS W' p l k') : RS w W' p R l k' e :=
 have h1 := h.lo
 have h2 := h.hi
 ⟨h1, h2, But.ext h.ext hb (by omega), hn, h.nb.but hb (by omega), h.ev.but hb (by omega), h.rs.but hb (by omega)⟩
theorem RS.set {w W : World} {p R k : Nat} {l : List (List UInt8)} {e : EvS} (e' : EvS) (h : RS w W p R l k e) (i : Nat) (u : Value) (hu : (evCs e).toArray.setIfInBounds i u = (evCs e').toArray) : RS w (W.setCell ⟨p + 3, i, none⟩ u) p R l k e' :=
 have h1 := h.lo
 have h2 := h.hi
 ⟨h1, h2, h.ext.setCell (p := ⟨p + 3, i, none⟩) (show w.heap.size ≤ p + 3 by omega) u, h.nx.far (by omega) i u, h.nb.far (p := ⟨p + 3, i, none⟩) (show p + 2 ≠ p + 3 by omega) u, hu ▸ h.ev.set_ i u, h.rs.far (p := ⟨p + 3, i, none⟩) (show R ≠ p + 3 by omega) u⟩
theorem spl_cnt (c : UInt8) (f : Nat) (s : List UInt8) (h : s.length ≤ f) : (spl c s).length ≤ s.length + 1 := by
 refine spl_ind (P := fun s => (spl c s).length ≤ s.length + 1) c (fun s hs => ?_) (fun a b ha ih => ?_) f s h
 ·rw [spl_no hs]; simp
 ·rw [spl_at ha]
  simp only [List.length_cons, List.length_append]
  omega
theorem Blk.fill7 {w : World} {g : Nat} {T : TypeId} {a0 a1 a2 a3 a4 a5 a6 : Value} (h : Blk w g T #[a0, a1, a2, a3, a4, a5, a6]) (u0 u1 u2 u3 u4 u5 u6 : Value) :
  Blk (((((((w.setCell ⟨g, 0, none⟩ u0).setCell ⟨g, 1, none⟩ u1).setCell ⟨g, 2, none⟩ u2).setCell ⟨g, 3, none⟩ u3).setCell ⟨g, 4, none⟩ u4).setCell ⟨g, 5, none⟩ u5).setCell ⟨g, 6, none⟩ u6) g T #[u0, u1, u2, u3, u4, u5, u6] := by
 simpa using ((((((h.set_ 0 u0).set_ 1 u1).set_ 2 u2).set_ 3 u3).set_ 4 u4).set_ 5 u5).set_ 6 u6
theorem Ext.set7 {w0 w : World} {g : Nat} (h : Ext w0 w) (hg : w0.heap.size ≤ g) (u0 u1 u2 u3 u4 u5 u6 : Value) :
  Ext w0 (((((((w.setCell ⟨g, 0, none⟩ u0).setCell ⟨g, 1, none⟩ u1).setCell ⟨g, 2, none⟩ u2).setCell ⟨g, 3, none⟩ u3).setCell ⟨g, 4, none⟩ u4).setCell ⟨g, 5, none⟩ u5).setCell ⟨g, 6, none⟩ u6) :=
 ((((((h.setCell (p := ⟨g, 0, none⟩) hg u0).setCell (p := ⟨g, 1, none⟩) hg u1).setCell (p := ⟨g, 2, none⟩) hg u2).setCell (p := ⟨g, 3, none⟩) hg u3).setCell (p := ⟨g, 4, none⟩) hg u4).setCell (p := ⟨g, 5, none⟩) hg u5).setCell (p := ⟨g, 6, none⟩) hg u6
/-- What reading an event answers. -/
def ReadP (s : List UInt8) (w : World) (e : Ending) (w' : World) : Prop := (e = match evO s with | some v => .returned (.agg (evCs v).toArray) | none => .panicked (wrongP 9)) ∧ Ext w w'
set_option maxRecDepth 20000 in
set_option maxHeartbeats 4000000 in
theorem SRead_any (s : List UInt8) (hs : s.length ≤ 4194304) (hA : s.length ≤ 1048576 ∨ ∀ r, spl 32 s ≠ [105, 110] :: r) (w : World) (hT : Tab w) (hV : Vars w) (hD : Deb w) : Calls Tryz.prog 34 #[.string ⟨s.toArray⟩] w (ReadP s w) := by
 have hmf : ∀ (fn : Fn) (first cap : Array Value) (w : World), (Instr.makeFunc fn first cap).run Tryz.prog w = .ok (.func fn first cap) w := fun _ _ _ _ => rfl
 have hok : ∀ W v, readE (spl 32 s) = some v → Ext w W → ReadP s w (.returned (.agg (evCs v).toArray)) W := fun W v h he => ⟨by unfold evO; rw [h], he⟩
 have hno : ∀ W, readE (spl 32 s) = none → Ext w W → ReadP s w (.panicked (wrongP 9)) W := fun W h he => ⟨by unfold evO; rw [h], he⟩
 generalize ReadP s w = Post at *
 have hcnt := spl_cnt 32 s.length s (Nat.le_refl _)
 have hwl : ∀ y ∈ spl 32 s, y.length ≤ 4194304 := fun y hy => Nat.le_trans (spl_len 32 s y hy) hs
 have hnil := spl_ne 32 s
 have hA2 : ∀ r, spl 32 s = [105, 110] :: r → ∀ y ∈ r, y.length ≤ 1048576 := fun r h y hy => by
  rcases hA with hA | hA
  ·exact Nat.le_trans (spl_len 32 s y (by rw [h]; exact List.mem_cons_of_mem _ hy)) hA
  ·exact absurd h (hA r)
 have Z := Blk.new w 31 (evCs zeroEv).toArray
 have E := (Ext.refl w).alloc (Obj.cells (evCs zeroEv).toArray 31)
 have hz1 : (w.alloc (Obj.cells (evCs zeroEv).toArray 31)).heap.size = w.heap.size + 1 := by simp
 have hze : (evCs zeroEv).toArray = #[.int .i64 0, .int .i64 0, .string ⟨#[]⟩, .string ⟨#[]⟩, .string ⟨#[]⟩, .int .i64 0, .int .u32 0] := rfl
 rw [hze] at Z E hz1
 generalize hW1 : w.alloc (Obj.cells #[.int .i64 0, .int .i64 0, .string ⟨#[]⟩, .string ⟨#[]⟩, .string ⟨#[]⟩, .int .i64 0, .int .u32 0] 31) = W1 at Z E hz1
 have qs := Split_big s 32 W1 (hV.ext E) hs
 generalize spl 32 s = S at *
 clear hze
 replace hA2 := hide hA2
 replace qs := hide qs
 replace hok := hide hok
 replace hno := hide hno
 replace hT := hide hT
 replace hV := hide hV
 replace hD := hide hD
 replace Z := hide Z
 replace E := hide E
 replace hwl := hide hwl
 replace hnil := hide hnil
 replace hcnt := hide hcnt
 replace hz1 := hide hz1
 go_enter Tryz.func34, Tryz.ntmps34
 go_wp2_with fail
 clear hW1
 (with_reducible refine qs.out.mono ?_)
 rintro e W2 ⟨d, hd, rfl, he, hc⟩
 clear qs
 have hS0 := List.length_pos_iff.2 hnil.out
 have hr1 : W1.heap.size < W2.heap.size := World.block_lt_of_cell? W2 _ (hc 0 hS0)
 have hR : w.heap.size < W2.heap.size := by have := hz1.out; omega
 have hlen : S.length ≤ 4194305 := by have := hcnt.out; omega
 have hM : RS w ((((W2.alloc (Obj.cells #[.slice (some ⟨W1.heap.size, 0, none⟩) S.length d] 63)).alloc (Obj.cells #[.int .i64 0] 3)).alloc (Obj.cells #[.func (.func 64) #[] #[.pointer (some ⟨W2.heap.size + 1, 0, none⟩), .pointer (some ⟨W2.heap.size, 0, none⟩)]] 73)).alloc (Obj.cells #[.int .i64 0, .int .i64 0, .string ⟨#[]⟩, .string ⟨#[]⟩, .string ⟨#[]⟩, .int .i64 0, .int .u32 0] 31)) W2.heap.size w.heap.size S 0 zeroEv := by
  have a1 := Blk.new W2 63 #[.slice (some ⟨W1.heap.size, 0, none⟩) S.length d]
  have e1 := (Ext.refl W2).alloc (Obj.cells #[.slice (some ⟨W1.heap.size, 0, none⟩) S.length d] 63)
  have z1 : (W2.alloc (Obj.cells #[.slice (some ⟨W1.heap.size, 0, none⟩) S.length d] 63)).heap.size = W2.heap.size + 1 := by simp
  generalize W2.alloc (Obj.cells #[.slice (some ⟨W1.heap.size, 0, none⟩) S.length d] 63) = W3 at *
  have a2 := Blk.new W3 3 #[.int .i64 0]
  have e2 := e1.alloc (Obj.cells #[.int .i64 0] 3)
  have b1 := a1.alloc (Obj.cells #[.int .i64 0] 3)
  have z2 : (W3.alloc (Obj.cells #[.int .i64 0] 3)).heap.size = W2.heap.size + 2 := by simp [z1]
  rw [z1] at a2
  generalize W3.alloc (Obj.cells #[.int .i64 0] 3) = W4 at *
  have a3 := Blk.new W4 73 #[.func (.func 64) #[] #[.pointer (some ⟨W2.heap.size + 1, 0, none⟩), .pointer (some ⟨W2.heap.size, 0, none⟩)]]
  have e3 := e2.alloc (Obj.cells #[.func (.func 64) #[] #[.pointer (some ⟨W2.heap.size + 1, 0, none⟩), .pointer (some ⟨W2.heap.size, 0, none⟩)]] 73)
  have c1 := b1.alloc (Obj.cells #[.func (.func 64) #[] #[.pointer (some ⟨W2.heap.size + 1, 0, none⟩), .pointer (some ⟨W2.heap.size, 0, none⟩)]] 73)
  have c2 := a2.alloc (Obj.cells #[.func (.func 64) #[] #[.pointer (some ⟨W2.heap.size + 1, 0, none⟩), .pointer (some ⟨W2.heap.size, 0, none⟩)]] 73)
  have z3 : (W4.alloc (Obj.cells #[.func (.func 64) #[] #[.pointer (some ⟨W2.heap.size + 1, 0, none⟩), .pointer (some ⟨W2.heap.size, 0, none⟩)]] 73)).heap.size = W2.heap.size + 3 := by simp [z2]
  rw [z2] at a3
  generalize W4.alloc (Obj.cells #[.func (.func 64) #[] #[.pointer (some ⟨W2.heap.size + 1, 0, none⟩), .pointer (some ⟨W2.heap.size, 0, none⟩)]] 73) = W5 at *
  have a4 := Blk.new W5 31 #[.int .i64 0, .int .i64 0, .string ⟨#[]⟩, .string ⟨#[]⟩, .string ⟨#[]⟩, .int .i64 0, .int .u32 0]
  have e4 := e3.alloc (Obj.cells #[.int .i64 0, .int .i64 0, .string ⟨#[]⟩, .string ⟨#[]⟩, .string ⟨#[]⟩, .int .i64 0, .int .u32 0] 31)
  rw [z3] at a4
  refine ⟨Nat.le_refl _, hR, E.out.trans (he.trans e4), ⟨hlen, hS0, c2.alloc _, W1.heap.size, d, c1.alloc _, hr1, fun j hj => e4.cell (hc j hj)⟩, a3.alloc _, a4, ?_⟩
  exact (Z.out.ext he).ext e4
 generalize hp : W2.heap.size = p at hM
 obtain ⟨x, r, rfl⟩ := List.exists_cons_of_ne_nil hnil.out
 simp only [List.length_cons] at hM hd
 have hx0 : ((((W2.alloc (Obj.cells #[.slice (some ⟨W1.heap.size, 0, none⟩) (r.length + 1) d] 63)).alloc (Obj.cells #[.int .i64 0] 3)).alloc (Obj.cells #[.func (.func 64) #[] #[.pointer (some ⟨p + 1, 0, none⟩), .pointer (some ⟨p, 0, none⟩)]] 73)).alloc (Obj.cells #[.int .i64 0, .int .i64 0, .string ⟨#[]⟩, .string ⟨#[]⟩, .string ⟨#[]⟩, .int .i64 0, .int .u32 0] 31)).cell? ⟨W1.heap.size, 0, none⟩ = some (.string ⟨x.toArray⟩) :=
  ((((Ext.refl W2).alloc (Obj.cells #[.slice (some ⟨W1.heap.size, 0, none⟩) (r.length + 1) d] 63)).alloc (Obj.cells #[.int .i64 0] 3)).alloc (Obj.cells #[.func (.func 64) #[] #[.pointer (some ⟨p + 1, 0, none⟩), .pointer (some ⟨p, 0, none⟩)]] 73)).alloc (Obj.cells #[.int .i64 0, .int .i64 0, .string ⟨#[]⟩, .string ⟨#[]⟩, .string ⟨#[]⟩, .int .i64 0, .int .u32 0] 31) |>.cell (hc 0 (by simp))
 have hx1 : ((((W2.alloc (Obj.cells #[.slice (some ⟨W1.heap.size, 0, none⟩) (r.length + 1) d] 63)).alloc (Obj.cells #[.int .i64 0] 3)).alloc (Obj.cells #[.func (.func 64) #[] #[.pointer (some ⟨p + 1, 0, none⟩), .pointer (some ⟨p, 0, none⟩)]] 73)).alloc (Obj.cells #[.int .i64 0, .int .i64 0, .string ⟨#[]⟩, .string ⟨#[]⟩, .string ⟨#[]⟩, .int .i64 0, .int .u32 0] 31)).cell? ⟨p, 0, none⟩ = some (.slice (some ⟨W1.heap.size, 0, none⟩) (r.length + 1) d) := by
  rw [← hp]; exact (((Blk.new W2 63 #[.slice (some ⟨W1.heap.size, 0, none⟩) (r.length + 1) d]).alloc _).alloc _).alloc _ |>.cell 0
 generalize hWM : (((W2.alloc (Obj.cells #[.slice (some ⟨W1.heap.size, 0, none⟩) (r.length + 1) d] 63)).alloc (Obj.cells #[.int .i64 0] 3)).alloc (Obj.cells #[.func (.func 64) #[] #[.pointer (some ⟨p + 1, 0, none⟩), .pointer (some ⟨p, 0, none⟩)]] 73)).alloc (Obj.cells #[.int .i64 0, .int .i64 0, .string ⟨#[]⟩, .string ⟨#[]⟩, .string ⟨#[]⟩, .int .i64 0, .int .u32 0] 31) = WM at hM hx0 hx1
 replace hM := hide hM
 replace hx0 := hide hx0
 replace hx1 := hide hx1
 replace hWM := hide hWM
 clear hd he hc hS0 hr1 hlen Z E hcnt hz1 hnil
 go_upto_region 6 with fail
 rw [hWM.out]
 replace hx0 := hx0.out
 replace hx1 := hx1.out
 clear hWM hp
 go_upto_block 0 with fail
 simp only [Nat.add_assoc, Nat.reduceAdd]
 have hR1 : w.heap.size ≤ p + 1 := by have := hM.out.hi; have := hM.out.lo; omega
 clear hx0 hx1 hR
 go_cut [8] (fun s8 wx => ∃ (e : EvS) (k : Nat), RS w wx p w.heap.size (x :: r) k e ∧ readE (x :: r) = if k + 1 = (x :: r).length then some e else none)
 case first =>
  by_cases hx0 : x = [105, 110]
  ·subst hx0
   rcases r with _ | ⟨n, r⟩
   ·have q := rconn_bad p 0 [[105, 110]] w WM hT.out hV.out hM.out.ext hR1 hM.out.nx hM.out.nb (.inl rfl)
    replace q := hide q
    go_wp2_with fail
    refine q.out.mono ?_
    rintro e W9 ⟨rfl, he⟩
    go_wp2
    exact ⟨rfl, hno.out _ (by simp [readE]) he⟩
   rcases hn : rdC n 1 64 with _ | c
   ·have q := rconn_bad p 0 ([105, 110] :: n :: r) w WM hT.out hV.out hM.out.ext hR1 hM.out.nx hM.out.nb (.inr ⟨n, rfl, hwl.out n (by simp), hn⟩)
    have hr : readE ([105, 110] :: n :: r) = none := (match r with | [] => by simp [readE, hn] | [z] => by simp [readE, hn] | [z, z2] => by simp [readE, hn] | z :: z2 :: z3 :: r => by simp [readE, hn])
    clear hn
    replace q := hide q
    replace hr := hide hr
    go_wp2_with fail
    refine q.out.mono ?_
    rintro e W9 ⟨rfl, he⟩
    go_wp2
    exact ⟨rfl, hno.out _ hr.out he⟩
   have q := rconn_ok p 0 c ([105, 110] :: n :: r) n w WM hT.out hV.out hM.out.ext hR1 hM.out.nx hM.out.nb rfl (hwl.out n (by simp)) hn
   replace q := hide q
   replace hn := hide hn
   go_wp2_with fail
   refine q.out.mono ?_
   rintro e W3 ⟨rfl, hb, hN⟩
   have S3 := hM.out.next hb hN
   clear q hb hN
   have c0 : (W3).cell? ⟨p + 3, 0, none⟩ = some (.int .i64 0) := S3.ev.cell 0
   have c1 : (W3).cell? ⟨p + 3, 1, none⟩ = some (.int .i64 0) := S3.ev.cell 1
   have fE := fun i => S3.ev.frozen i
   have S4 := (S3.set ⟨1, 0, [], [], [], 0, 0⟩ 0 (.int .i64 1) rfl).set ⟨1, (c : Int), [], [], [], 0, 0⟩ 1 (.int .i64 (c : Int)) rfl
   replace S3 := hide S3
   replace S4 := hide S4
   go_upto_region 10 with fail
   generalize (W3.setCell ⟨p + 3, 0, none⟩ (.int .i64 1)).setCell ⟨p + 3, 1, none⟩ (.int .i64 (c : Int)) = W4 at *
   clear c0 c1 fE S3
   have nb : (W4).cell? ⟨p + 2, 0, none⟩ = some (.func (.func 64) #[] #[.pointer (some ⟨p + 1, 0, none⟩), .pointer (some ⟨p, 0, none⟩)]) := S4.out.nb.cell 0
   rcases r with _ | ⟨y, r⟩
   ·have q := rnext_none p 1 _ W4 S4.out.nx rfl
    replace q := hide q
    go_wp2_with fail
    refine q.out.mono ?_
    rintro e W9 ⟨rfl, hb⟩
    go_wp2
    exact ⟨rfl, hno.out _ (by simp [readE]) (But.ext S4.out.ext hb hR1)⟩
   have q := rnext_some p 1 _ y W4 S4.out.nx rfl
   replace q := hide q
   go_wp2_with fail
   refine q.out.mono ?_
   rintro e W5 ⟨rfl, hb, hN⟩
   have S5 := S4.out.next hb hN
   have hy := hwl.out y (by simp)
   clear q hb hN S4 nb
   have q := AAddr_any y (hA2.out _ (by trivial) y (by simp)) W5 (hT.out.ext S5.ext) (hD.out.ext S5.ext) (hV.out.ext S5.ext)
   unfold AdP at q
   have hrd : ∀ a ec, addrC y = (a, ec) → readE ([105, 110] :: n :: y :: r) = if ec = 0 then (if 2 + 1 = ([105, 110] :: n :: y :: r).length then some ⟨1, (c : Int), a, [], [], 0, 0⟩ else none) else none := fun a ec h => (by rcases r with _ | ⟨z, r⟩ <;> simp [readE, hn.out, h])
   rcases hac : addrC y with ⟨a, ec⟩
   rw [hac] at q
   replace hrd := hrd a ec hac
   clear hac
   replace q := hide q
   replace S5 := hide S5
   replace hrd := hide hrd
   replace hy := hide hy
   go_wp2_with fail
   refine q.out.mono ?_
   rintro e W6 ⟨rfl, he⟩
   have S6 := hide (S5.out.ext' he)
   clear q S5 he
   by_cases hec : ec = 0
   ·subst hec
    have c2 : (W6).cell? ⟨p + 3, 2, none⟩ = some (.string ⟨#[]⟩) := S6.out.ev.cell 2
    have fE := fun i => S6.out.ev.frozen i
    have S7 := hide (S6.out.set ⟨1, (c : Int), a, [], [], 0, 0⟩ 2 (.string ⟨a.toArray⟩) rfl)
    go_wp2_with fail
    go_meet
    case rel => exact ⟨_, 2, S7.out, hrd.out.trans (if_pos (by simp))⟩
   ·have b1 : (ec == 0) = false := beq_eq_false_iff_ne.2 hec
    have b2 : (ec != 0) = true := by simpa using hec
    have b3 : decide (ec = 0) = false := decide_eq_false hec
    have hec2 := hide hec
    clear hec
    go_wp2_with fail
    refine (give_any _ _).mono ?_
    rintro e W9 ⟨rfl, rfl⟩
    go_wp2
    exact ⟨rfl, hno.out _ (hrd.out.trans (if_neg hec2.out)) S6.out.ext⟩
  have g0a : (x == [105, 110]) = false := beq_eq_false_iff_ne.2 hx0
  have g0b : (x != [105, 110]) = true := by simpa using hx0
  by_cases hx1 : x = [117, 112]
  ·subst hx1
   rcases r with _ | ⟨n, r⟩
   ·have q := rconn_bad p 0 [[117, 112]] w WM hT.out hV.out hM.out.ext hR1 hM.out.nx hM.out.nb (.inl rfl)
    replace q := hide q
    go_wp2_with fail
    refine q.out.mono ?_
    rintro e W9 ⟨rfl, he⟩
    go_wp2
    exact ⟨rfl, hno.out _ (by simp [readE]) he⟩
   rcases hn : rdC n 1 64 with _ | c
   ·have q := rconn_bad p 0 ([117, 112] :: n :: r) w WM hT.out hV.out hM.out.ext hR1 hM.out.nx hM.out.nb (.inr ⟨n, rfl, hwl.out n (by simp), hn⟩)
    have hr : readE ([117, 112] :: n :: r) = none := (match r with | [] => by simp [readE, hn] | [z] => by simp [readE, hn] | [z, z2] => by simp [readE, hn] | z :: z2 :: z3 :: r => by simp [readE, hn])
    clear hn
    replace q := hide q
    replace hr := hide hr
    go_wp2_with fail
    refine q.out.mono ?_
    rintro e W9 ⟨rfl, he⟩
    go_wp2
    exact ⟨rfl, hno.out _ hr.out he⟩
   have q := rconn_ok p 0 c ([117, 112] :: n :: r) n w WM hT.out hV.out hM.out.ext hR1 hM.out.nx hM.out.nb rfl (hwl.out n (by simp)) hn
   replace q := hide q
   replace hn := hide hn
   go_wp2_with fail
   refine q.out.mono ?_
   rintro e W3 ⟨rfl, hb, hN⟩
   have S3 := hM.out.next hb hN
   clear q hb hN
   have c0 : (W3).cell? ⟨p + 3, 0, none⟩ = some (.int .i64 0) := S3.ev.cell 0
   have c1 : (W3).cell? ⟨p + 3, 1, none⟩ = some (.int .i64 0) := S3.ev.cell 1
   have fE := fun i => S3.ev.frozen i
   have S4 := (S3.set ⟨2, 0, [], [], [], 0, 0⟩ 0 (.int .i64 2) rfl).set ⟨2, (c : Int), [], [], [], 0, 0⟩ 1 (.int .i64 (c : Int)) rfl
   replace S3 := hide S3
   replace S4 := hide S4
   go_upto_region 16 with fail
   generalize (W3.setCell ⟨p + 3, 0, none⟩ (.int .i64 2)).setCell ⟨p + 3, 1, none⟩ (.int .i64 (c : Int)) = W4 at *
   clear c0 c1 fE S3
   have nb : (W4).cell? ⟨p + 2, 0, none⟩ = some (.func (.func 64) #[] #[.pointer (some ⟨p + 1, 0, none⟩), .pointer (some ⟨p, 0, none⟩)]) := S4.out.nb.cell 0
   rcases r with _ | ⟨y, r⟩
   ·have q := rnext_none p 1 _ W4 S4.out.nx rfl
    replace q := hide q
    go_wp2_with fail
    refine q.out.mono ?_
    rintro e W9 ⟨rfl, hb⟩
    go_wp2
    exact ⟨rfl, hno.out _ (by simp [readE]) (But.ext S4.out.ext hb hR1)⟩
   have q := rnext_some p 1 _ y W4 S4.out.nx rfl
   replace q := hide q
   go_wp2_with fail
   refine q.out.mono ?_
   rintro e W5 ⟨rfl, hb, hN⟩
   have S5 := S4.out.next hb hN
   have hy := hwl.out y (by simp)
   clear q hb hN S4 nb
   have q := SName_any y hy W5
   unfold NamS at q
   have hrd : ∀ b, nameOk y = b → readE ([117, 112] :: n :: y :: r) = if b = true then (if 2 + 1 = ([117, 112] :: n :: y :: r).length then some ⟨2, (c : Int), [], y, [], 0, 0⟩ else none) else none := fun b h => (by rcases r with _ | ⟨z, r⟩ <;> simp [readE, hn.out, h])
   rcases hok2 : nameOk y with _ | _
   all_goals rw [hok2] at q; replace hrd := hrd _ hok2; clear hok2
   ·skip
    replace q := hide q
    replace S5 := hide S5
    replace hrd := hide hrd
    replace hy := hide hy
    go_wp2_with fail
    refine q.out.mono ?_
    rintro e W6 ⟨he1, he⟩
    cases he1
    go_wp2
    exact ⟨rfl, hno.out _ (hrd.out.trans (if_neg (by simp))) (S5.out.ext.trans he)⟩
   ·skip
    replace q := hide q
    replace S5 := hide S5
    replace hrd := hide hrd
    replace hy := hide hy
    go_wp2_with fail
    refine q.out.mono ?_
    rintro e W6 ⟨he1, he⟩
    cases he1
    have S6 := hide (S5.out.ext' he)
    clear q S5 he
    have c3 : (W6).cell? ⟨p + 3, 3, none⟩ = some (.string ⟨#[]⟩) := S6.out.ev.cell 3
    have fE := fun i => S6.out.ev.frozen i
    have S7 := hide (S6.out.set ⟨2, (c : Int), [], y, [], 0, 0⟩ 3 (.string ⟨y.toArray⟩) rfl)
    go_wp2_with fail
    go_meet
    case rel => exact ⟨_, 2, S7.out, hrd.out.trans (if_pos (by simp))⟩
  have g1a : (x == [117, 112]) = false := beq_eq_false_iff_ne.2 hx1
  have g1b : (x != [117, 112]) = true := by simpa using hx1
  by_cases hx2 : x = [114, 101, 102, 117, 115, 101]
  ·subst hx2
   have nb : (WM).cell? ⟨p + 2, 0, none⟩ = some (.func (.func 64) #[] #[.pointer (some ⟨p + 1, 0, none⟩), .pointer (some ⟨p, 0, none⟩)]) := hM.out.nb.cell 0
   rcases r with _ | ⟨y, r⟩
   ·have q := rnext_none p 0 _ WM hM.out.nx rfl
    replace q := hide q
    go_wp2_with fail
    refine q.out.mono ?_
    rintro e W9 ⟨rfl, hb⟩
    go_wp2
    exact ⟨rfl, hno.out _ (by simp [readE]) (But.ext hM.out.ext hb hR1)⟩
   have q := rnext_some p 0 _ y WM hM.out.nx rfl
   replace q := hide q
   go_wp2_with fail
   refine q.out.mono ?_
   rintro e W5 ⟨rfl, hb, hN⟩
   have S5 := hM.out.next hb hN
   have hy := hwl.out y (by simp)
   clear q hb hN nb
   have q := SName_any y hy W5
   unfold NamS at q
   have hrd : ∀ b, nameOk y = b → readE ([114, 101, 102, 117, 115, 101] :: y :: r) = if b = true then (if 1 + 1 = ([114, 101, 102, 117, 115, 101] :: y :: r).length then some ⟨3, 0, [], y, [], 0, 0⟩ else none) else none := fun b h => (match r with | [] => by simp [readE, h] | [z] => by simp [readE, h] | [z, z2] => by simp [readE, h] | z :: z2 :: z3 :: r => by simp [readE, h])
   rcases hok2 : nameOk y with _ | _
   all_goals rw [hok2] at q; replace hrd := hrd _ hok2; clear hok2
   ·skip
    replace q := hide q
    replace S5 := hide S5
    replace hrd := hide hrd
    replace hy := hide hy
    go_wp2_with fail
    refine q.out.mono ?_
    rintro e W6 ⟨he1, he⟩
    cases he1
    go_wp2
    exact ⟨rfl, hno.out _ (hrd.out.trans (if_neg (by simp))) (S5.out.ext.trans he)⟩
   ·skip
    replace q := hide q
    replace S5 := hide S5
    replace hrd := hide hrd
    replace hy := hide hy
    go_wp2_with fail
    refine q.out.mono ?_
    rintro e W6 ⟨he1, he⟩
    cases he1
    have S6 := hide (S5.out.ext' he)
    clear q S5 he
    have c0 : (W6).cell? ⟨p + 3, 0, none⟩ = some (.int .i64 0) := S6.out.ev.cell 0
    have c3 : (W6).cell? ⟨p + 3, 3, none⟩ = some (.string ⟨#[]⟩) := S6.out.ev.cell 3
    have fE := fun i => S6.out.ev.frozen i
    have S7 := hide ((S6.out.set ⟨3, 0, [], [], [], 0, 0⟩ 0 (.int .i64 3) rfl).set ⟨3, 0, [], y, [], 0, 0⟩ 3 (.string ⟨y.toArray⟩) rfl)
    go_wp2_with fail
    go_meet
    case rel => exact ⟨_, 1, S7.out, hrd.out.trans (if_pos (by simp))⟩
  have g2a : (x == [114, 101, 102, 117, 115, 101]) = false := beq_eq_false_iff_ne.2 hx2
  have g2b : (x != [114, 101, 102, 117, 115, 101]) = true := by simpa using hx2
  by_cases hx3 : x = [100, 97, 116, 97]
  ·subst hx3
   rcases r with _ | ⟨n, r⟩
   ·have q := rconn_bad p 0 [[100, 97, 116, 97]] w WM hT.out hV.out hM.out.ext hR1 hM.out.nx hM.out.nb (.inl rfl)
    replace q := hide q
    go_wp2_with fail
    refine q.out.mono ?_
    rintro e W9 ⟨rfl, he⟩
    go_wp2
    exact ⟨rfl, hno.out _ (by simp [readE]) he⟩
   rcases hn : rdC n 1 64 with _ | c
   ·have q := rconn_bad p 0 ([100, 97, 116, 97] :: n :: r) w WM hT.out hV.out hM.out.ext hR1 hM.out.nx hM.out.nb (.inr ⟨n, rfl, hwl.out n (by simp), hn⟩)
    have hr : readE ([100, 97, 116, 97] :: n :: r) = none := (match r with | [] => by simp [readE, hn] | [z] => by simp [readE, hn] | [z, z2] => by simp [readE, hn] | z :: z2 :: z3 :: r => by simp [readE, hn])
    clear hn
    replace q := hide q
    replace hr := hide hr
    go_wp2_with fail
    refine q.out.mono ?_
    rintro e W9 ⟨rfl, he⟩
    go_wp2
    exact ⟨rfl, hno.out _ hr.out he⟩
   have q := rconn_ok p 0 c ([100, 97, 116, 97] :: n :: r) n w WM hT.out hV.out hM.out.ext hR1 hM.out.nx hM.out.nb rfl (hwl.out n (by simp)) hn
   replace q := hide q
   replace hn := hide hn
   go_wp2_with fail
   refine q.out.mono ?_
   rintro e W3 ⟨rfl, hb, hN⟩
   have S3 := hM.out.next hb hN
   clear q hb hN
   have c0 : (W3).cell? ⟨p + 3, 0, none⟩ = some (.int .i64 0) := S3.ev.cell 0
   have c1 : (W3).cell? ⟨p + 3, 1, none⟩ = some (.int .i64 0) := S3.ev.cell 1
   have fE := fun i => S3.ev.frozen i
   have S4 := (S3.set ⟨4, 0, [], [], [], 0, 0⟩ 0 (.int .i64 4) rfl).set ⟨4, (c : Int), [], [], [], 0, 0⟩ 1 (.int .i64 (c : Int)) rfl
   replace S3 := hide S3
   replace S4 := hide S4
   go_upto_region 21 with fail
   generalize (W3.setCell ⟨p + 3, 0, none⟩ (.int .i64 4)).setCell ⟨p + 3, 1, none⟩ (.int .i64 (c : Int)) = W4 at *
   clear c0 c1 fE S3
   have nb : (W4).cell? ⟨p + 2, 0, none⟩ = some (.func (.func 64) #[] #[.pointer (some ⟨p + 1, 0, none⟩), .pointer (some ⟨p, 0, none⟩)]) := S4.out.nb.cell 0
   rcases r with _ | ⟨y, r⟩
   ·have q := rnext_none p 1 _ W4 S4.out.nx rfl
    replace q := hide q
    go_wp2_with fail
    refine q.out.mono ?_
    rintro e W9 ⟨rfl, hb⟩
    go_wp2
    exact ⟨rfl, hno.out _ (by simp [readE]) (But.ext S4.out.ext hb hR1)⟩
   have q := rnext_some p 1 _ y W4 S4.out.nx rfl
   replace q := hide q
   go_wp2_with fail
   refine q.out.mono ?_
   rintro e W5 ⟨rfl, hb, hN⟩
   have S5 := S4.out.next hb hN
   have hy := hwl.out y (by simp)
   clear q hb hN S4 nb
   have q := SBytes_any y 16384 (by decide) hy W5
   unfold BytS at q
   have hrd : readE ([100, 97, 116, 97] :: n :: y :: r) = if 2 + 1 = ([100, 97, 116, 97] :: n :: y :: r).length then (readB 16384 y).map (fun b => (⟨4, (c : Int), [], [], b, 0, 0⟩ : EvS)) else none := (by rcases r with _ | ⟨z, r⟩ <;> simp [readE, hn.out])
   rcases hok2 : readB 16384 y with _ | b
   all_goals rw [hok2] at q hrd; clear hok2
   ·skip
    replace q := hide q
    replace S5 := hide S5
    replace hrd := hide hrd
    replace hy := hide hy
    go_wp2_with fail
    refine q.out.mono ?_
    rintro e W6 ⟨he1, he⟩
    cases he1
    go_wp2
    exact ⟨rfl, hno.out _ (hrd.out.trans (by split <;> rfl)) (S5.out.ext.trans he)⟩
   ·skip
    replace q := hide q
    replace S5 := hide S5
    replace hrd := hide hrd
    replace hy := hide hy
    go_wp2_with fail
    refine q.out.mono ?_
    rintro e W6 ⟨he1, he⟩
    cases he1
    have S6 := hide (S5.out.ext' he)
    clear q S5 he
    have c4 : (W6).cell? ⟨p + 3, 4, none⟩ = some (.string ⟨#[]⟩) := S6.out.ev.cell 4
    have fE := fun i => S6.out.ev.frozen i
    have S7 := hide (S6.out.set ⟨4, (c : Int), [], [], b, 0, 0⟩ 4 (.string ⟨b.toArray⟩) rfl)
    go_wp2_with fail
    go_meet
    case rel => exact ⟨_, 2, S7.out, hrd.out⟩
  have g3a : (x == [100, 97, 116, 97]) = false := beq_eq_false_iff_ne.2 hx3
  have g3b : (x != [100, 97, 116, 97]) = true := by simpa using hx3
  by_cases hx4 : x = [99, 108, 111, 115, 101]
  ·subst hx4
   rcases r with _ | ⟨n, r⟩
   ·have q := rconn_bad p 0 [[99, 108, 111, 115, 101]] w WM hT.out hV.out hM.out.ext hR1 hM.out.nx hM.out.nb (.inl rfl)
    replace q := hide q
    go_wp2_with fail
    refine q.out.mono ?_
    rintro e W9 ⟨rfl, he⟩
    go_wp2
    exact ⟨rfl, hno.out _ (by simp [readE]) he⟩
   rcases hn : rdC n 1 64 with _ | c
   ·have q := rconn_bad p 0 ([99, 108, 111, 115, 101] :: n :: r) w WM hT.out hV.out hM.out.ext hR1 hM.out.nx hM.out.nb (.inr ⟨n, rfl, hwl.out n (by simp), hn⟩)
    have hr : readE ([99, 108, 111, 115, 101] :: n :: r) = none := (match r with | [] => by simp [readE, hn] | [z] => by simp [readE, hn] | [z, z2] => by simp [readE, hn] | z :: z2 :: z3 :: r => by simp [readE, hn])
    clear hn
    replace q := hide q
    replace hr := hide hr
    go_wp2_with fail
    refine q.out.mono ?_
    rintro e W9 ⟨rfl, he⟩
    go_wp2
    exact ⟨rfl, hno.out _ hr.out he⟩
   have q := rconn_ok p 0 c ([99, 108, 111, 115, 101] :: n :: r) n w WM hT.out hV.out hM.out.ext hR1 hM.out.nx hM.out.nb rfl (hwl.out n (by simp)) hn
   replace q := hide q
   replace hn := hide hn
   go_wp2_with fail
   refine q.out.mono ?_
   rintro e W3 ⟨rfl, hb, hN⟩
   have S3 := hM.out.next hb hN
   clear q hb hN
   have c0 : (W3).cell? ⟨p + 3, 0, none⟩ = some (.int .i64 0) := S3.ev.cell 0
   have c1 : (W3).cell? ⟨p + 3, 1, none⟩ = some (.int .i64 0) := S3.ev.cell 1
   have fE := fun i => S3.ev.frozen i
   have S4 := (S3.set ⟨5, 0, [], [], [], 0, 0⟩ 0 (.int .i64 5) rfl).set ⟨5, (c : Int), [], [], [], 0, 0⟩ 1 (.int .i64 (c : Int)) rfl
   replace S3 := hide S3
   replace S4 := hide S4
   go_wp2_with fail
   go_meet
   case rel => exact ⟨_, 1, S4.out, (match r with | [] => by simp [readE, hn.out] | [z] => by simp [readE, hn.out] | [z, z2] => by simp [readE, hn.out] | z :: z2 :: z3 :: r => by simp [readE, hn.out])⟩
  have g4a : (x == [99, 108, 111, 115, 101]) = false := beq_eq_false_iff_ne.2 hx4
  have g4b : (x != [99, 108, 111, 115, 101]) = true := by simpa using hx4
  by_cases hx5 : x = [116, 105, 99, 107]
  ·subst hx5
   have nb : (WM).cell? ⟨p + 2, 0, none⟩ = some (.func (.func 64) #[] #[.pointer (some ⟨p + 1, 0, none⟩), .pointer (some ⟨p, 0, none⟩)]) := hM.out.nb.cell 0
   rcases r with _ | ⟨y, r⟩
   ·have q := rnext_none p 0 _ WM hM.out.nx rfl
    replace q := hide q
    go_wp2_with fail
    refine q.out.mono ?_
    rintro e W9 ⟨rfl, hb⟩
    go_wp2
    exact ⟨rfl, hno.out _ (by simp [readE]) (But.ext hM.out.ext hb hR1)⟩
   have q := rnext_some p 0 _ y WM hM.out.nx rfl
   replace q := hide q
   go_wp2_with fail
   refine q.out.mono ?_
   rintro e W5 ⟨rfl, hb, hN⟩
   have S5 := hM.out.next hb hN
   have hy := hwl.out y (by simp)
   clear q hb hN nb
   have q := SNum_any y 1 4096 (by decide) (by decide) W5 (hT.out.ext S5.ext) (hV.out.ext S5.ext) hy
   unfold NumS at q
   have hrd : readE ([116, 105, 99, 107] :: y :: r) = if 1 + 1 = ([116, 105, 99, 107] :: y :: r).length then (rdC y 1 4096).map (fun b => (⟨6, 0, [], [], [], (b : Int), 0⟩ : EvS)) else none := (match r with | [] => by simp [readE] | [z] => by simp [readE] | [z, z2] => by simp [readE] | z :: z2 :: z3 :: r => by simp [readE])
   rcases hok2 : rdC y 1 4096 with _ | b
   all_goals rw [hok2] at q hrd
   ·skip
    replace q := hide q
    replace S5 := hide S5
    replace hrd := hide hrd
    replace hy := hide hy
    go_wp2_with fail
    refine q.out.mono ?_
    rintro e W6 ⟨he1, he⟩
    cases he1
    go_wp2
    exact ⟨rfl, hno.out _ (hrd.out.trans (by split <;> rfl)) (S5.out.ext.trans he)⟩
   ·skip
    replace q := hide q
    replace S5 := hide S5
    replace hrd := hide hrd
    replace hy := hide hy
    have hbb := rdC_some hok2
    have hw : IntKind.i64.wrap (b : Int) = (b : Int) := by rw [IntKind.wrap_i64]; omega
    clear hbb hok2
    go_wp2_with fail
    refine q.out.mono ?_
    rintro e W6 ⟨he1, he⟩
    cases he1
    have S6 := hide (S5.out.ext' he)
    clear q S5 he
    have c0 : (W6).cell? ⟨p + 3, 0, none⟩ = some (.int .i64 0) := S6.out.ev.cell 0
    have c5 : (W6).cell? ⟨p + 3, 5, none⟩ = some (.int .i64 0) := S6.out.ev.cell 5
    have fE := fun i => S6.out.ev.frozen i
    have S7 := hide ((S6.out.set ⟨6, 0, [], [], [], 0, 0⟩ 0 (.int .i64 6) rfl).set ⟨6, 0, [], [], [], (b : Int), 0⟩ 5 (.int .i64 (b : Int)) rfl)
    go_wp2_with fail
    go_meet
    case rel => exact ⟨_, 1, S7.out, hrd.out⟩
  have g5a : (x == [116, 105, 99, 107]) = false := beq_eq_false_iff_ne.2 hx5
  have g5b : (x != [116, 105, 99, 107]) = true := by simpa using hx5
  by_cases hx6 : x = [108, 111, 97, 100]
  ·subst hx6
   have nb : (WM).cell? ⟨p + 2, 0, none⟩ = some (.func (.func 64) #[] #[.pointer (some ⟨p + 1, 0, none⟩), .pointer (some ⟨p, 0, none⟩)]) := hM.out.nb.cell 0
   rcases r with _ | ⟨y, r⟩
   ·have q := rnext_none p 0 _ WM hM.out.nx rfl
    replace q := hide q
    go_wp2_with fail
    refine q.out.mono ?_
    rintro e W9 ⟨rfl, hb⟩
    go_wp2
    exact ⟨rfl, hno.out _ (by simp [readE]) (But.ext hM.out.ext hb hR1)⟩
   have q := rnext_some p 0 _ y WM hM.out.nx rfl
   replace q := hide q
   go_wp2_with fail
   refine q.out.mono ?_
   rintro e W5 ⟨rfl, hb, hN⟩
   have S5 := hM.out.next hb hN
   have hy := hwl.out y (by simp)
   clear q hb hN nb
   have q := SBytes_any y 65536 (by decide) hy W5
   unfold BytS at q
   have hrd : readE ([108, 111, 97, 100] :: y :: r) = if 1 + 1 = ([108, 111, 97, 100] :: y :: r).length then (readB 65536 y).map (fun b => (⟨7, 0, [], [], b, 0, 0⟩ : EvS)) else none := (match r with | [] => by simp [readE] | [z] => by simp [readE] | [z, z2] => by simp [readE] | z :: z2 :: z3 :: r => by simp [readE])
   rcases hok2 : readB 65536 y with _ | b
   all_goals rw [hok2] at q hrd; clear hok2
   ·skip
    replace q := hide q
    replace S5 := hide S5
    replace hrd := hide hrd
    replace hy := hide hy
    go_wp2_with fail
    refine q.out.mono ?_
    rintro e W6 ⟨he1, he⟩
    cases he1
    go_wp2
    exact ⟨rfl, hno.out _ (hrd.out.trans (by split <;> rfl)) (S5.out.ext.trans he)⟩
   ·skip
    replace q := hide q
    replace S5 := hide S5
    replace hrd := hide hrd
    replace hy := hide hy
    go_wp2_with fail
    refine q.out.mono ?_
    rintro e W6 ⟨he1, he⟩
    cases he1
    have S6 := hide (S5.out.ext' he)
    clear q S5 he
    have c0 : (W6).cell? ⟨p + 3, 0, none⟩ = some (.int .i64 0) := S6.out.ev.cell 0
    have c4 : (W6).cell? ⟨p + 3, 4, none⟩ = some (.string ⟨#[]⟩) := S6.out.ev.cell 4
    have fE := fun i => S6.out.ev.frozen i
    have S7 := hide ((S6.out.set ⟨7, 0, [], [], [], 0, 0⟩ 0 (.int .i64 7) rfl).set ⟨7, 0, [], [], b, 0, 0⟩ 4 (.string ⟨b.toArray⟩) rfl)
    go_wp2_with fail
    go_meet
    case rel => exact ⟨_, 1, S7.out, hrd.out⟩
  have g6a : (x == [108, 111, 97, 100]) = false := beq_eq_false_iff_ne.2 hx6
  have g6b : (x != [108, 111, 97, 100]) = true := by simpa using hx6
  by_cases hx7 : x = [97, 115, 107]
  ·subst hx7
   have nb : (WM).cell? ⟨p + 2, 0, none⟩ = some (.func (.func 64) #[] #[.pointer (some ⟨p + 1, 0, none⟩), .pointer (some ⟨p, 0, none⟩)]) := hM.out.nb.cell 0
   rcases r with _ | ⟨y, r⟩
   ·have q := rnext_none p 0 _ WM hM.out.nx rfl
    replace q := hide q
    go_wp2_with fail
    refine q.out.mono ?_
    rintro e W9 ⟨rfl, hb⟩
    go_wp2
    exact ⟨rfl, hno.out _ (by simp [readE]) (But.ext hM.out.ext hb hR1)⟩
   have q := rnext_some p 0 _ y WM hM.out.nx rfl
   replace q := hide q
   go_wp2_with fail
   refine q.out.mono ?_
   rintro e W5 ⟨rfl, hb, hN⟩
   have S5 := hM.out.next hb hN
   have hy := hwl.out y (by simp)
   clear q hb hN nb
   have q := SBytes_any y 16384 (by decide) hy W5
   unfold BytS at q
   have hrd : readE ([97, 115, 107] :: y :: r) = if 1 + 1 = ([97, 115, 107] :: y :: r).length then (readB 16384 y).map (fun b => (⟨8, 0, [], [], b, 0, 0⟩ : EvS)) else none := (match r with | [] => by simp [readE] | [z] => by simp [readE] | [z, z2] => by simp [readE] | z :: z2 :: z3 :: r => by simp [readE])
   rcases hok2 : readB 16384 y with _ | b
   all_goals rw [hok2] at q hrd; clear hok2
   ·skip
    replace q := hide q
    replace S5 := hide S5
    replace hrd := hide hrd
    replace hy := hide hy
    go_wp2_with fail
    refine q.out.mono ?_
    rintro e W6 ⟨he1, he⟩
    cases he1
    go_wp2
    exact ⟨rfl, hno.out _ (hrd.out.trans (by split <;> rfl)) (S5.out.ext.trans he)⟩
   ·skip
    replace q := hide q
    replace S5 := hide S5
    replace hrd := hide hrd
    replace hy := hide hy
    go_wp2_with fail
    refine q.out.mono ?_
    rintro e W6 ⟨he1, he⟩
    cases he1
    have S6 := hide (S5.out.ext' he)
    clear q S5 he
    have c0 : (W6).cell? ⟨p + 3, 0, none⟩ = some (.int .i64 0) := S6.out.ev.cell 0
    have c4 : (W6).cell? ⟨p + 3, 4, none⟩ = some (.string ⟨#[]⟩) := S6.out.ev.cell 4
    have fE := fun i => S6.out.ev.frozen i
    have S7 := hide ((S6.out.set ⟨8, 0, [], [], [], 0, 0⟩ 0 (.int .i64 8) rfl).set ⟨8, 0, [], [], b, 0, 0⟩ 4 (.string ⟨b.toArray⟩) rfl)
    go_wp2_with fail
    go_meet
    case rel => exact ⟨_, 1, S7.out, hrd.out⟩
  have g7a : (x == [97, 115, 107]) = false := beq_eq_false_iff_ne.2 hx7
  have g7b : (x != [97, 115, 107]) = true := by simpa using hx7
  by_cases hx8 : x = [100, 114, 97, 119]
  ·subst hx8
   have nb : (WM).cell? ⟨p + 2, 0, none⟩ = some (.func (.func 64) #[] #[.pointer (some ⟨p + 1, 0, none⟩), .pointer (some ⟨p, 0, none⟩)]) := hM.out.nb.cell 0
   rcases r with _ | ⟨y, r⟩
   ·have q := rnext_none p 0 _ WM hM.out.nx rfl
    replace q := hide q
    go_wp2_with fail
    refine q.out.mono ?_
    rintro e W9 ⟨rfl, hb⟩
    go_wp2
    exact ⟨rfl, hno.out _ (by simp [readE]) (But.ext hM.out.ext hb hR1)⟩
   have q := rnext_some p 0 _ y WM hM.out.nx rfl
   replace q := hide q
   go_wp2_with fail
   refine q.out.mono ?_
   rintro e W5 ⟨rfl, hb, hN⟩
   have S5 := hM.out.next hb hN
   have hy := hwl.out y (by simp)
   clear q hb hN nb
   have q := SNum_any y 0 4294967295 (by decide) (by decide) W5 (hT.out.ext S5.ext) (hV.out.ext S5.ext) hy
   unfold NumS at q
   have hrd : readE ([100, 114, 97, 119] :: y :: r) = if 1 + 1 = ([100, 114, 97, 119] :: y :: r).length then (rdC y 0 4294967295).map (fun b => (⟨9, 0, [], [], [], 0, UInt32.ofNat b⟩ : EvS)) else none := (match r with | [] => by simp [readE] | [z] => by simp [readE] | [z, z2] => by simp [readE] | z :: z2 :: z3 :: r => by simp [readE])
   rcases hok2 : rdC y 0 4294967295 with _ | b
   all_goals rw [hok2] at q hrd
   ·skip
    replace q := hide q
    replace S5 := hide S5
    replace hrd := hide hrd
    replace hy := hide hy
    go_wp2_with fail
    refine q.out.mono ?_
    rintro e W6 ⟨he1, he⟩
    cases he1
    go_wp2
    exact ⟨rfl, hno.out _ (hrd.out.trans (by split <;> rfl)) (S5.out.ext.trans he)⟩
   ·skip
    replace q := hide q
    replace S5 := hide S5
    replace hrd := hide hrd
    replace hy := hide hy
    have hbb := rdC_some hok2
    have hw : IntKind.u32.wrap (b : Int) = (b : Int) := by rw [IntKind.wrap_u32]; omega
    have hv : (UInt32.ofNat b).toNat = b := by simp [UInt32.toNat_ofNat]; omega
    have hev : ∀ e : EvS, (evCs e).toArray.setIfInBounds 6 (.int .u32 (b : Int)) = (evCs { e with draw := UInt32.ofNat b }).toArray := fun e => by simp [evCs, hv]
    replace hev := hide hev
    replace hv := hide hv
    clear hbb hok2
    go_wp2_with fail
    refine q.out.mono ?_
    rintro e W6 ⟨he1, he⟩
    cases he1
    have S6 := hide (S5.out.ext' he)
    clear q S5 he
    have c0 : (W6).cell? ⟨p + 3, 0, none⟩ = some (.int .i64 0) := S6.out.ev.cell 0
    have c6 : (W6).cell? ⟨p + 3, 6, none⟩ = some (.int .u32 0) := S6.out.ev.cell 6
    have fE := fun i => S6.out.ev.frozen i
    have S7 := hide ((S6.out.set ⟨9, 0, [], [], [], 0, 0⟩ 0 (.int .i64 9) rfl).set ⟨9, 0, [], [], [], 0, UInt32.ofNat b⟩ 6 (.int .u32 (b : Int)) (hev.out _))
    go_wp2_with fail
    go_meet
    case rel => exact ⟨_, 1, S7.out, hrd.out⟩
  have g8a : (x == [100, 114, 97, 119]) = false := beq_eq_false_iff_ne.2 hx8
  have g8b : (x != [100, 114, 97, 119]) = true := by simpa using hx8
  by_cases hx9 : x = [100, 114, 97, 105, 110]
  ·subst hx9
   have c0 : (WM).cell? ⟨p + 3, 0, none⟩ = some (.int .i64 0) := hM.out.ev.cell 0
   have fE := fun i => hM.out.ev.frozen i
   have S4 := hide (hM.out.set ⟨10, 0, [], [], [], 0, 0⟩ 0 (.int .i64 10) rfl)
   go_wp2_with fail
   go_meet
   case rel => exact ⟨_, 0, S4.out, (match r with | [] => by simp [readE] | [z] => by simp [readE] | [z, z2] => by simp [readE] | z :: z2 :: z3 :: r => by simp [readE])⟩
  have g9a : (x == [100, 114, 97, 105, 110]) = false := beq_eq_false_iff_ne.2 hx9
  have g9b : (x != [100, 114, 97, 105, 110]) = true := by simpa using hx9
  have hr : readE (x :: r) = none := by
   match r with
   | [] => simp [readE, hx0, hx1, hx2, hx3, hx4, hx5, hx6, hx7, hx8, hx9]
   | [z] => simp [readE, hx0, hx1, hx2, hx3, hx4, hx5, hx6, hx7, hx8, hx9]
   | [z, z2] => simp [readE, hx0, hx1, hx2, hx3, hx4, hx5, hx6, hx7, hx8, hx9]
   | z :: z2 :: z3 :: r => rfl
  replace hr := hide hr
  clear hx0 hx1 hx2 hx3 hx4 hx5 hx6 hx7 hx8 hx9
  go_wp2_with fail
  refine (give_any _ _).mono ?_
  rintro e W9 ⟨rfl, rfl⟩
  go_wp2
  exact ⟨rfl, hno.out _ hr.out hM.out.ext⟩
 case rest =>
  clear hM
  obtain ⟨e, k, S, hr⟩ := hcut
  have hlt := S.nx.lt
  have hln := S.nx.len
  obtain ⟨b, c9, hwb, -⟩ := S.nx.ws
  have c0 : wc.cell? ⟨p + 1, 0, none⟩ = some (.int .i64 (k : Int)) := S.nx.at_.cell 0
  have c1 : wc.cell? ⟨p, 0, none⟩ = some (.slice (some ⟨b, 0, none⟩) (x :: r).length c9) := hwb.cell 0
  clear hwb
  generalize (x :: r).length = L at hr hlt hln c1
  have b1 : IntKind.i64.wrap ((L : Int) - 1) = (L : Int) - 1 := by rw [IntKind.wrap_i64]; omega
  by_cases hkl : k + 1 = L
  ·rw [if_pos hkl] at hr
   have b2 : (k : Int) = (L : Int) - 1 := by omega
   have b3 : decide ((k : Int) = (L : Int) - 1) = true := decide_eq_true b2
   have b4 : ((k : Int) == (L : Int) - 1) = true := beq_iff_eq.2 b2
   have b5 : ((k : Int) != (L : Int) - 1) = false := by rw [bne_eq_false_iff_eq]; exact b2
   clear b2 hlt hln hkl
   replace S := hide S
   replace hr := hide hr
   go_upto_region 36 with fail
   clear c0 c1 b1 b3 b4 b5
   obtain ⟨kd, cn, ad, pr, by_, tk, dr⟩ := e
   have zz0 : wc.cell? ⟨p + 3, 0, none⟩ = some (.int .i64 kd) := S.out.ev.cell 0
   have zz1 : wc.cell? ⟨p + 3, 1, none⟩ = some (.int .i64 cn) := S.out.ev.cell 1
   have zz2 : wc.cell? ⟨p + 3, 2, none⟩ = some (.string ⟨ad.toArray⟩) := S.out.ev.cell 2
   have zz3 : wc.cell? ⟨p + 3, 3, none⟩ = some (.string ⟨pr.toArray⟩) := S.out.ev.cell 3
   have zz4 : wc.cell? ⟨p + 3, 4, none⟩ = some (.string ⟨by_.toArray⟩) := S.out.ev.cell 4
   have zz5 : wc.cell? ⟨p + 3, 5, none⟩ = some (.int .i64 tk) := S.out.ev.cell 5
   have zz6 : wc.cell? ⟨p + 3, 6, none⟩ = some (.int .u32 (dr.toNat : Int)) := S.out.ev.cell 6
   have r0 : wc.cell? ⟨w.heap.size, 0, none⟩ = some (.int .i64 0) := S.out.rs.cell 0
   have r1 : wc.cell? ⟨w.heap.size, 1, none⟩ = some (.int .i64 0) := S.out.rs.cell 1
   have r2 : wc.cell? ⟨w.heap.size, 2, none⟩ = some (.string ⟨#[]⟩) := S.out.rs.cell 2
   have r3 : wc.cell? ⟨w.heap.size, 3, none⟩ = some (.string ⟨#[]⟩) := S.out.rs.cell 3
   have r4 : wc.cell? ⟨w.heap.size, 4, none⟩ = some (.string ⟨#[]⟩) := S.out.rs.cell 4
   have r5 : wc.cell? ⟨w.heap.size, 5, none⟩ = some (.int .i64 0) := S.out.rs.cell 5
   have r6 : wc.cell? ⟨w.heap.size, 6, none⟩ = some (.int .u32 0) := S.out.rs.cell 6
   have rf := fun i => S.out.rs.frozen i
   have hE := S.out.ext.set7 (Nat.le_refl _) (.int .i64 kd) (.int .i64 cn) (.string ⟨ad.toArray⟩) (.string ⟨pr.toArray⟩) (.string ⟨by_.toArray⟩) (.int .i64 tk) (.int .u32 (dr.toNat : Int))
   have hZ : Blk wc w.heap.size 31 #[.int .i64 0, .int .i64 0, .string ⟨#[]⟩, .string ⟨#[]⟩, .string ⟨#[]⟩, .int .i64 0, .int .u32 0] := S.out.rs
   have hRZ := hZ.fill7 (.int .i64 kd) (.int .i64 cn) (.string ⟨ad.toArray⟩) (.string ⟨pr.toArray⟩) (.string ⟨by_.toArray⟩) (.int .i64 tk) (.int .u32 (dr.toNat : Int))
   have z0 := hRZ.cell 0
   have z1 := hRZ.cell 1
   have z2 := hRZ.cell 2
   have z3 := hRZ.cell 3
   have z4 := hRZ.cell 4
   have z5 := hRZ.cell 5
   have z6 := hRZ.cell 6
   simp at z0 z1 z2 z3 z4 z5 z6
   have hfin := hok.out _ _ hr.out hE
   clear hRZ hZ hE
   replace hfin := hide hfin
   go_wp2_with fail
   exact bodyPost_ret (v := .agg #[.int .i64 kd, .int .i64 cn, .string ⟨ad.toArray⟩, .string ⟨pr.toArray⟩, .string ⟨by_.toArray⟩, .int .i64 tk, .int .u32 (dr.toNat : Int)]) (by simp [results, Tryz.results34, go_sem, z0, z1, z2, z3, z4, z5, z6]) rfl hfin.out
  ·rw [if_neg hkl] at hr
   have b2 : ¬ (k : Int) = (L : Int) - 1 := by omega
   have b3 : decide ((k : Int) = (L : Int) - 1) = false := decide_eq_false b2
   have b4 : ((k : Int) == (L : Int) - 1) = false := beq_eq_false_iff_ne.2 b2
   have b5 : ((k : Int) != (L : Int) - 1) = true := by simpa using b2
   clear hlt hln hkl b2
   replace S := hide S
   replace hr := hide hr
   go_wp2_with fail
   refine (give_any _ _).mono ?_
   rintro e W9 ⟨rfl, rfl⟩
   go_wp2
   exact ⟨rfl, hno.out _ hr.out S.out.ext⟩
end
section
open Go.RowKit Go.Sort
set_option linter.unusedVariables false
set_option linter.unusedSimpArgs false
theorem SLine_any (g c : Nat) (l : List (List UInt8)) (W : World) (hn : l.length ≤ 16) (hc : l.length ≤ c) (hl : (Lib.join l [32]).length ≤ 140737488355328) (h : Blk W g 9 (l.map fun s => Value.string ⟨s.toArray⟩).toArray) :
  Calls Tryz.prog 48 #[.slice (some ⟨g, 0, none⟩) l.length c] W fun e w' => e = .returned (.string ⟨(Lib.join l [32]).toArray⟩) ∧ Ext W w' := by
 have hm : (l.map fun s => (⟨s.toArray⟩ : ByteArray)).map (·.data.toList) = l := by rw [List.map_map]; exact List.map_id'' (fun _ => rfl) l
 have q := Tryz.strings_Join g 0 c (l.map fun s => (⟨s.toArray⟩ : ByteArray)) ⟨#[32]⟩ W (fun j x hx => by
  have := h.cell j
  simp only [List.getElem?_toArray, List.getElem?_map] at this hx
  cases hj : l[j]? with
  | none => rw [hj] at hx; cases hx
  | some y => rw [hj] at this hx; injection hx with hx; rw [← hx]; simpa using this) h.lt (by simp; omega) (by simpa using hc) (by rw [hm]; exact hl)
 rw [hm] at q
 simp only [List.length_map] at q
 clear h hc hl hm
 replace q := q.mono (R' := fun e w' => e = .returned (.string ⟨(Lib.join l [32]).toArray⟩) ∧ Ext W w') fun e w' h => h
 generalize Lib.join l [32] = j at *
 generalize l.length = n at *
 replace q := hide q
 replace hn := hide hn
 go_enter Tryz.func48, Tryz.ntmps48
 go_wp2_with fail
 refine q.out.mono ?_
 rintro e w1 ⟨rfl, he⟩
 go_wp2
 go_ret
 exact ⟨rfl, he⟩
/- tell -/
theorem ItoaI_any (n : Int) (h : i64 n) (w : World) (hT : Tab w) : Calls Tryz.prog 50 #[.int .i64 n] w fun e w' => e = .returned (.string ⟨(Lib.itoa n).toArray⟩) ∧ Ext w w' := by
 refine (Tryz.strconv_Itoa n h.1 h.2 w hT).mono ?_
 rintro e w' ⟨rfl, k, os, rfl⟩
 refine ⟨rfl, ?_⟩
 refine ⟨rfl, rfl, rfl, by simp [grow, World.drewN], fun j hj => ?_⟩
 simp only [grow, World.drewN]
 rw [Array.getElem?_append_left hj]
/-- An event as it lies in memory. -/
structure EvIn (e : EvS) : Prop where
  kind : i64 e.kind
  conn : i64 e.conn
  addr : e.addr.length ≤ 1048576
  peer : e.peer.length ≤ 1048576
  bytes : e.bytes.length ≤ 1048576
  ticks : i64 e.ticks
theorem join2_len (a b : List UInt8) : (Lib.join [a, b] [32]).length = a.length + 1 + b.length := by
 rw [show Lib.join [a, b] [32] = a ++ ([32] ++ Lib.join [b] [32]) from rfl, Lib.join_one]; simp; omega
theorem join3_len (a b c : List UInt8) : (Lib.join [a, b, c] [32]).length = a.length + 1 + b.length + 1 + c.length := by
 rw [show Lib.join [a, b, c] [32] = a ++ ([32] ++ Lib.join [b, c] [32]) from rfl]; simp [join2_len]; omega
theorem itoa_len (n : Int) (h : i64 n) : (Lib.itoa n).length ≤ 21 := by
 have := Lib.itoa_length_le n h.1 h.2
 omega
set_option maxRecDepth 20000 in
set_option maxHeartbeats 4000000 in
theorem STell_any (e : EvS) (hin : EvIn e) (w : World) (hT : Tab w) (hD : Deb w) : Calls Tryz.prog 31 #[.agg (evCs e).toArray] w fun e' w' => e' = .returned (.string ⟨(tellS e).toArray⟩) ∧ Ext w w' := by
 have hR : ∀ s W, tellS e = s → Ext w W → (Ending.returned (.string ⟨s.toArray⟩) = Ending.returned (.string ⟨(tellS e).toArray⟩) ∧ Ext w W) := fun s W h he => ⟨by rw [h], he⟩
 have hPost : (fun e' w' => e' = Ending.returned (.string ⟨(tellS e).toArray⟩) ∧ Ext w w') = (fun e' w' => e' = Ending.returned (.string ⟨(tellS e).toArray⟩) ∧ Ext w w') := rfl
 obtain ⟨kd, cn, ad, pr, by_, tk, dr⟩ := e
 obtain ⟨h1, h2, h3, h4, h5, h6⟩ := hin
 dsimp only at h1 h2 h3 h4 h5 h6
 generalize hQ : (fun e' w' => e' = Ending.returned (.string ⟨(tellS ⟨kd, cn, ad, pr, by_, tk, dr⟩).toArray⟩) ∧ Ext w w') = Post
 replace hR : ∀ s W, tellS ⟨kd, cn, ad, pr, by_, tk, dr⟩ = s → Ext w W → Post (.returned (.string ⟨s.toArray⟩)) W := by rw [← hQ]; exact hR
 clear hQ hPost
 have B := Blk.new w 31 #[.int .i64 kd, .int .i64 cn, .string ⟨ad.toArray⟩, .string ⟨pr.toArray⟩, .string ⟨by_.toArray⟩, .int .i64 tk, .int .u32 (dr.toNat : Int)]
 have E := (Ext.refl w).alloc (Obj.cells #[.int .i64 kd, .int .i64 cn, .string ⟨ad.toArray⟩, .string ⟨pr.toArray⟩, .string ⟨by_.toArray⟩, .int .i64 tk, .int .u32 (dr.toNat : Int)] 31)
 generalize hW1 : w.alloc (Obj.cells #[.int .i64 kd, .int .i64 cn, .string ⟨ad.toArray⟩, .string ⟨pr.toArray⟩, .string ⟨by_.toArray⟩, .int .i64 tk, .int .u32 (dr.toNat : Int)] 31) = W1 at *
 generalize hp : w.heap.size = p at B
 have q := ItoaI_any cn h2 W1 (hT.ext E)
 have hil := itoa_len cn h2
 have hil2 := itoa_len tk h6
 have c1 : W1.cell? ⟨p, 1, none⟩ = some (.int .i64 cn) := B.cell 1
 simp only [evCs]
 replace hW1 := hide hW1
 replace hp := hide hp
 replace hT := hide hT
 replace hD := hide hD
 replace hR := hide hR
 replace h1 := hide h1
 replace h3 := hide h3
 replace h4 := hide h4
 replace h5 := hide h5
 replace B := hide B
 replace E := hide E
 replace q := hide q
 replace hil := hide hil
 replace hil2 := hide hil2
 replace h2 := hide h2
 replace h6 := hide h6
 go_enter Tryz.func31, Tryz.ntmps31
 go_upto_region 1 with fail
 rw [hW1.out, hp.out]
 clear hW1
 go_wp2_with fail
 refine q.out.mono ?_
 rintro e W2 ⟨rfl, he⟩
 clear c1 q
 have B2 := B.out.ext he
 have E2 := E.out.trans he
 clear B E he
 have c0 : W2.cell? ⟨p, 0, none⟩ = some (.int .i64 kd) := B2.cell 0
 have c2 : W2.cell? ⟨p, 2, none⟩ = some (.string ⟨ad.toArray⟩) := B2.cell 2
 have c3 : W2.cell? ⟨p, 3, none⟩ = some (.string ⟨pr.toArray⟩) := B2.cell 3
 have c4 : W2.cell? ⟨p, 4, none⟩ = some (.string ⟨by_.toArray⟩) := B2.cell 4
 have c5 : W2.cell? ⟨p, 5, none⟩ = some (.int .i64 tk) := B2.cell 5
 have c6 : W2.cell? ⟨p, 6, none⟩ = some (.int .u32 (dr.toNat : Int)) := B2.cell 6
 clear B2
 have hit : ∃ it, Lib.itoa cn = it := ⟨_, rfl⟩
 obtain ⟨it, hit⟩ := hit
 rw [hit] at hil ⊢
 have qL : ∀ (g c : Nat) (l : List (List UInt8)) (W : World), l.length ≤ 16 → l.length ≤ c → (Lib.join l [32]).length ≤ 140737488355328 → Blk W g 9 (l.map fun s => Value.string ⟨s.toArray⟩).toArray → Calls Tryz.prog 48 #[.slice (some ⟨g, 0, none⟩) l.length c] W fun e w' => e = .returned (.string ⟨(Lib.join l [32]).toArray⟩) ∧ Ext W w' := fun g c l W a b d h => SLine_any g c l W a b d h
 replace hit := hide hit
 replace qL := hide qL
 replace E2 := hide E2
 by_cases hk1 : kd = 1
 ·subst hk1
  have q := AAddrText_any ad h3.out W2 (hT.out.ext E2.out) (hD.out.ext E2.out)
  have hat : ∃ a ec, addrT ad = (a, ec) := ⟨_, _, rfl⟩
  obtain ⟨a, ec, hat⟩ := hat
  have hal := addrT_len (a := ad)
  rw [hat] at q hal
  replace q := hide q
  replace hat := hide hat
  replace hal := hide hal
  go_wp2_with fail
  refine q.out.mono ?_
  rintro e W3 ⟨rfl, he3⟩
  have E3 := E2.out.trans he3
  clear q he3
  replace E3 := hide E3
  have qB := Blk.new W3 9 #[.string ⟨#[105, 110]⟩, .string ⟨it.toArray⟩, .string ⟨a.toArray⟩]
  have qE := (E3.out).alloc (Obj.cells #[.string ⟨#[105, 110]⟩, .string ⟨it.toArray⟩, .string ⟨a.toArray⟩] 9)
  have qj : (Lib.join [[105, 110], it, a] [32]).length ≤ 140737488355328 := by rw [join3_len]; have := hil.out; have := hal.out; simp only [List.length_cons, List.length_nil] at *; omega
  have q := qL.out W3.heap.size 3 [[105, 110], it, a] _ (by simp) (by simp) qj qB
  replace q : Calls Tryz.prog 48 #[.slice (some ⟨W3.heap.size, 0, none⟩) 3 3] _ _ := q
  have hr : tellS ⟨1, cn, ad, pr, by_, tk, dr⟩ = Lib.join [[105, 110], it, a] [32] := (by simp [tellS, hit.out, hat.out])
  generalize Lib.join [[105, 110], it, a] [32] = J at q hr
  clear qB qj
  replace q := hide q
  replace qE := hide qE
  replace hr := hide hr
  go_wp2_with fail
  refine q.out.mono ?_
  rintro e W9 ⟨rfl, he⟩
  go_wp2
  try go_ret
  exact hR.out _ _ hr.out (qE.out.trans he)
 have g1 : (kd == 1) = false := beq_eq_false_iff_ne.2 hk1
 have g1b : decide (kd = 1) = false := decide_eq_false hk1
 by_cases hk2 : kd = 2
 ·subst hk2
  have qB := Blk.new W2 9 #[.string ⟨#[117, 112]⟩, .string ⟨it.toArray⟩, .string ⟨pr.toArray⟩]
  have qE := (E2.out).alloc (Obj.cells #[.string ⟨#[117, 112]⟩, .string ⟨it.toArray⟩, .string ⟨pr.toArray⟩] 9)
  have qj : (Lib.join [[117, 112], it, pr] [32]).length ≤ 140737488355328 := by rw [join3_len]; have := hil.out; have := h4.out; simp only [List.length_cons, List.length_nil]; omega
  have q := qL.out W2.heap.size 3 [[117, 112], it, pr] _ (by simp) (by simp) qj qB
  replace q : Calls Tryz.prog 48 #[.slice (some ⟨W2.heap.size, 0, none⟩) 3 3] _ _ := q
  have hr : tellS ⟨2, cn, ad, pr, by_, tk, dr⟩ = Lib.join [[117, 112], it, pr] [32] := (by simp [tellS, hit.out])
  generalize Lib.join [[117, 112], it, pr] [32] = J at q hr
  clear qB qj
  replace q := hide q
  replace qE := hide qE
  replace hr := hide hr
  go_wp2_with fail
  refine q.out.mono ?_
  rintro e W9 ⟨rfl, he⟩
  go_wp2
  try go_ret
  exact hR.out _ _ hr.out (qE.out.trans he)
 have g2 : (kd == 2) = false := beq_eq_false_iff_ne.2 hk2
 have g2b : decide (kd = 2) = false := decide_eq_false hk2
 by_cases hk3 : kd = 3
 ·subst hk3
  have qB := Blk.new W2 9 #[.string ⟨#[114, 101, 102, 117, 115, 101]⟩, .string ⟨pr.toArray⟩]
  have qE := (E2.out).alloc (Obj.cells #[.string ⟨#[114, 101, 102, 117, 115, 101]⟩, .string ⟨pr.toArray⟩] 9)
  have qj : (Lib.join [[114, 101, 102, 117, 115, 101], pr] [32]).length ≤ 140737488355328 := by rw [join2_len]; have := h4.out; simp only [List.length_cons, List.length_nil]; omega
  have q := qL.out W2.heap.size 2 [[114, 101, 102, 117, 115, 101], pr] _ (by simp) (by simp) qj qB
  replace q : Calls Tryz.prog 48 #[.slice (some ⟨W2.heap.size, 0, none⟩) 2 2] _ _ := q
  have hr : tellS ⟨3, cn, ad, pr, by_, tk, dr⟩ = Lib.join [[114, 101, 102, 117, 115, 101], pr] [32] := (by simp [tellS, hit.out])
  generalize Lib.join [[114, 101, 102, 117, 115, 101], pr] [32] = J at q hr
  clear qB qj
  replace q := hide q
  replace qE := hide qE
  replace hr := hide hr
  go_wp2_with fail
  refine q.out.mono ?_
  rintro e W9 ⟨rfl, he⟩
  go_wp2
  try go_ret
  exact hR.out _ _ hr.out (qE.out.trans he)
 have g3 : (kd == 3) = false := beq_eq_false_iff_ne.2 hk3
 have g3b : decide (kd = 3) = false := decide_eq_false hk3
 by_cases hk4 : kd = 4
 ·subst hk4
  have q := SWord_any by_ h5.out W2
  have hwl := wordB_len by_
  have hwd : ∃ wd, wordB by_ = wd := ⟨_, rfl⟩
  obtain ⟨wd, hwd⟩ := hwd
  rw [hwd] at q hwl
  replace q := hide q
  replace hwl := hide hwl
  replace hwd := hide hwd
  go_wp2_with fail
  refine q.out.mono ?_
  rintro e W3 ⟨rfl, he3⟩
  have E3 := E2.out.trans he3
  clear q he3
  replace E3 := hide E3
  have qB := Blk.new W3 9 #[.string ⟨#[100, 97, 116, 97]⟩, .string ⟨it.toArray⟩, .string ⟨wd.toArray⟩]
  have qE := (E3.out).alloc (Obj.cells #[.string ⟨#[100, 97, 116, 97]⟩, .string ⟨it.toArray⟩, .string ⟨wd.toArray⟩] 9)
  have qj : (Lib.join [[100, 97, 116, 97], it, wd] [32]).length ≤ 140737488355328 := by rw [join3_len]; have := hil.out; have := hwl.out; have := h5.out; simp only [List.length_cons, List.length_nil]; omega
  have q := qL.out W3.heap.size 3 [[100, 97, 116, 97], it, wd] _ (by simp) (by simp) qj qB
  replace q : Calls Tryz.prog 48 #[.slice (some ⟨W3.heap.size, 0, none⟩) 3 3] _ _ := q
  have hr : tellS ⟨4, cn, ad, pr, by_, tk, dr⟩ = Lib.join [[100, 97, 116, 97], it, wd] [32] := (by simp [tellS, hit.out, hwd.out])
  generalize Lib.join [[100, 97, 116, 97], it, wd] [32] = J at q hr
  clear qB qj
  replace q := hide q
  replace qE := hide qE
  replace hr := hide hr
  go_wp2_with fail
  refine q.out.mono ?_
  rintro e W9 ⟨rfl, he⟩
  go_wp2
  try go_ret
  exact hR.out _ _ hr.out (qE.out.trans he)
 have g4 : (kd == 4) = false := beq_eq_false_iff_ne.2 hk4
 have g4b : decide (kd = 4) = false := decide_eq_false hk4
 by_cases hk5 : kd = 5
 ·subst hk5
  have qB := Blk.new W2 9 #[.string ⟨#[99, 108, 111, 115, 101]⟩, .string ⟨it.toArray⟩]
  have qE := (E2.out).alloc (Obj.cells #[.string ⟨#[99, 108, 111, 115, 101]⟩, .string ⟨it.toArray⟩] 9)
  have qj : (Lib.join [[99, 108, 111, 115, 101], it] [32]).length ≤ 140737488355328 := by rw [join2_len]; have := hil.out; simp only [List.length_cons, List.length_nil]; omega
  have q := qL.out W2.heap.size 2 [[99, 108, 111, 115, 101], it] _ (by simp) (by simp) qj qB
  replace q : Calls Tryz.prog 48 #[.slice (some ⟨W2.heap.size, 0, none⟩) 2 2] _ _ := q
  have hr : tellS ⟨5, cn, ad, pr, by_, tk, dr⟩ = Lib.join [[99, 108, 111, 115, 101], it] [32] := (by simp [tellS, hit.out])
  generalize Lib.join [[99, 108, 111, 115, 101], it] [32] = J at q hr
  clear qB qj
  replace q := hide q
  replace qE := hide qE
  replace hr := hide hr
  go_wp2_with fail
  refine q.out.mono ?_
  rintro e W9 ⟨rfl, he⟩
  go_wp2
  try go_ret
  exact hR.out _ _ hr.out (qE.out.trans he)
 have g5 : (kd == 5) = false := beq_eq_false_iff_ne.2 hk5
 have g5b : decide (kd = 5) = false := decide_eq_false hk5
 by_cases hk6 : kd = 6
 ·subst hk6
  have q := ItoaI_any tk h6.out W2 (hT.out.ext E2.out)
  have hit2 : ∃ it2, Lib.itoa tk = it2 := ⟨_, rfl⟩
  obtain ⟨it2, hit2⟩ := hit2
  rw [hit2] at q hil2
  replace q := hide q
  replace hit2 := hide hit2
  go_wp2_with fail
  refine q.out.mono ?_
  rintro e W3 ⟨rfl, he3⟩
  have E3 := E2.out.trans he3
  clear q he3
  replace E3 := hide E3
  have qB := Blk.new W3 9 #[.string ⟨#[116, 105, 99, 107]⟩, .string ⟨it2.toArray⟩]
  have qE := (E3.out).alloc (Obj.cells #[.string ⟨#[116, 105, 99, 107]⟩, .string ⟨it2.toArray⟩] 9)
  have qj : (Lib.join [[116, 105, 99, 107], it2] [32]).length ≤ 140737488355328 := by rw [join2_len]; have := hil2.out; simp only [List.length_cons, List.length_nil]; omega
  have q := qL.out W3.heap.size 2 [[116, 105, 99, 107], it2] _ (by simp) (by simp) qj qB
  replace q : Calls Tryz.prog 48 #[.slice (some ⟨W3.heap.size, 0, none⟩) 2 2] _ _ := q
  have hr : tellS ⟨6, cn, ad, pr, by_, tk, dr⟩ = Lib.join [[116, 105, 99, 107], it2] [32] := (by simp [tellS, hit2.out])
  generalize Lib.join [[116, 105, 99, 107], it2] [32] = J at q hr
  clear qB qj
  replace q := hide q
  replace qE := hide qE
  replace hr := hide hr
  go_wp2_with fail
  refine q.out.mono ?_
  rintro e W9 ⟨rfl, he⟩
  go_wp2
  try go_ret
  exact hR.out _ _ hr.out (qE.out.trans he)
 have g6 : (kd == 6) = false := beq_eq_false_iff_ne.2 hk6
 have g6b : decide (kd = 6) = false := decide_eq_false hk6
 by_cases hk7 : kd = 7
 ·subst hk7
  have q := SWord_any by_ h5.out W2
  have hwl := wordB_len by_
  have hwd : ∃ wd, wordB by_ = wd := ⟨_, rfl⟩
  obtain ⟨wd, hwd⟩ := hwd
  rw [hwd] at q hwl
  replace q := hide q
  replace hwl := hide hwl
  replace hwd := hide hwd
  go_wp2_with fail
  refine q.out.mono ?_
  rintro e W3 ⟨rfl, he3⟩
  have E3 := E2.out.trans he3
  clear q he3
  replace E3 := hide E3
  have qB := Blk.new W3 9 #[.string ⟨#[108, 111, 97, 100]⟩, .string ⟨wd.toArray⟩]
  have qE := (E3.out).alloc (Obj.cells #[.string ⟨#[108, 111, 97, 100]⟩, .string ⟨wd.toArray⟩] 9)
  have qj : (Lib.join [[108, 111, 97, 100], wd] [32]).length ≤ 140737488355328 := by rw [join2_len]; have := hil.out; have := hwl.out; have := h5.out; simp only [List.length_cons, List.length_nil]; omega
  have q := qL.out W3.heap.size 2 [[108, 111, 97, 100], wd] _ (by simp) (by simp) qj qB
  replace q : Calls Tryz.prog 48 #[.slice (some ⟨W3.heap.size, 0, none⟩) 2 2] _ _ := q
  have hr : tellS ⟨7, cn, ad, pr, by_, tk, dr⟩ = Lib.join [[108, 111, 97, 100], wd] [32] := (by simp [tellS, hit.out, hwd.out])
  generalize Lib.join [[108, 111, 97, 100], wd] [32] = J at q hr
  clear qB qj
  replace q := hide q
  replace qE := hide qE
  replace hr := hide hr
  go_wp2_with fail
  refine q.out.mono ?_
  rintro e W9 ⟨rfl, he⟩
  go_wp2
  try go_ret
  exact hR.out _ _ hr.out (qE.out.trans he)
 have g7 : (kd == 7) = false := beq_eq_false_iff_ne.2 hk7
 have g7b : decide (kd = 7) = false := decide_eq_false hk7
 by_cases hk8 : kd = 8
 ·subst hk8
  have q := SWord_any by_ h5.out W2
  have hwl := wordB_len by_
  have hwd : ∃ wd, wordB by_ = wd := ⟨_, rfl⟩
  obtain ⟨wd, hwd⟩ := hwd
  rw [hwd] at q hwl
  replace q := hide q
  replace hwl := hide hwl
  replace hwd := hide hwd
  go_wp2_with fail
  refine q.out.mono ?_
  rintro e W3 ⟨rfl, he3⟩
  have E3 := E2.out.trans he3
  clear q he3
  replace E3 := hide E3
  have qB := Blk.new W3 9 #[.string ⟨#[97, 115, 107]⟩, .string ⟨wd.toArray⟩]
  have qE := (E3.out).alloc (Obj.cells #[.string ⟨#[97, 115, 107]⟩, .string ⟨wd.toArray⟩] 9)
  have qj : (Lib.join [[97, 115, 107], wd] [32]).length ≤ 140737488355328 := by rw [join2_len]; have := hil.out; have := hwl.out; have := h5.out; simp only [List.length_cons, List.length_nil]; omega
  have q := qL.out W3.heap.size 2 [[97, 115, 107], wd] _ (by simp) (by simp) qj qB
  replace q : Calls Tryz.prog 48 #[.slice (some ⟨W3.heap.size, 0, none⟩) 2 2] _ _ := q
  have hr : tellS ⟨8, cn, ad, pr, by_, tk, dr⟩ = Lib.join [[97, 115, 107], wd] [32] := (by simp [tellS, hit.out, hwd.out])
  generalize Lib.join [[97, 115, 107], wd] [32] = J at q hr
  clear qB qj
  replace q := hide q
  replace qE := hide qE
  replace hr := hide hr
  go_wp2_with fail
  refine q.out.mono ?_
  rintro e W9 ⟨rfl, he⟩
  go_wp2
  try go_ret
  exact hR.out _ _ hr.out (qE.out.trans he)
 have g8 : (kd == 8) = false := beq_eq_false_iff_ne.2 hk8
 have g8b : decide (kd = 8) = false := decide_eq_false hk8
 by_cases hk9 : kd = 9
 ·subst hk9
  have hdl := dr.toNat_lt
  have hw : IntKind.u64.wrap (dr.toNat : Int) = (dr.toNat : Int) := by rw [IntKind.wrap_u64]; omega
  have q := FormatUint_any dr.toNat (by omega) W2 (hT.out.ext E2.out)
  unfold dec at q
  rw [← digS_dec] at q
  have hdg := dig10 (n := dr.toNat) (by omega)
  have hds : ∃ ds, digS 10 dr.toNat = ds := ⟨_, rfl⟩
  obtain ⟨ds, hds⟩ := hds
  rw [hds] at q hdg
  clear hdl
  replace q := hide q
  replace hdg := hide hdg
  replace hds := hide hds
  go_wp2_with fail
  refine q.out.mono ?_
  rintro e W3 ⟨rfl, he3⟩
  have E3 := E2.out.trans he3
  clear q he3
  replace E3 := hide E3
  have qB := Blk.new W3 9 #[.string ⟨#[100, 114, 97, 119]⟩, .string ⟨ds.toArray⟩]
  have qE := (E3.out).alloc (Obj.cells #[.string ⟨#[100, 114, 97, 119]⟩, .string ⟨ds.toArray⟩] 9)
  have qj : (Lib.join [[100, 114, 97, 119], ds] [32]).length ≤ 140737488355328 := by rw [join2_len]; have := hdg.out; simp only [List.length_cons, List.length_nil]; omega
  have q := qL.out W3.heap.size 2 [[100, 114, 97, 119], ds] _ (by simp) (by simp) qj qB
  replace q : Calls Tryz.prog 48 #[.slice (some ⟨W3.heap.size, 0, none⟩) 2 2] _ _ := q
  have hr : tellS ⟨9, cn, ad, pr, by_, tk, dr⟩ = Lib.join [[100, 114, 97, 119], ds] [32] := (by simp [tellS, hds.out])
  generalize Lib.join [[100, 114, 97, 119], ds] [32] = J at q hr
  clear qB qj
  replace q := hide q
  replace qE := hide qE
  replace hr := hide hr
  go_wp2_with fail
  refine q.out.mono ?_
  rintro e W9 ⟨rfl, he⟩
  go_wp2
  try go_ret
  exact hR.out _ _ hr.out (qE.out.trans he)
 have g9 : (kd == 9) = false := beq_eq_false_iff_ne.2 hk9
 have g9b : decide (kd = 9) = false := decide_eq_false hk9
 by_cases hk10 : kd = 10
 ·subst hk10
  go_wp2_with fail
  try go_ret
  exact hR.out _ _ (by simp [tellS]) E2.out
 have g10 : (kd == 10) = false := beq_eq_false_iff_ne.2 hk10
 have g10b : decide (kd = 10) = false := decide_eq_false hk10
 have hr : tellS ⟨kd, cn, ad, pr, by_, tk, dr⟩ = [] := by simp [tellS, hk1, hk2, hk3, hk4, hk5, hk6, hk7, hk8, hk9, hk10]
 clear hk1 hk2 hk3 hk4 hk5 hk6 hk7 hk8 hk9 hk10
 replace hr := hide hr
 go_wp2_with fail
 try go_ret
 exact hR.out _ _ hr.out E2.out
end
section
open Go.RowKit
set_option linter.unusedVariables false
set_option linter.unusedSimpArgs false
theorem But.set7 {w0 w : World} {g : Nat} (h : But g w0 w) (u0 u1 u2 u3 u4 u5 u6 : Value) :
  But g w0 (((((((w.setCell ⟨g, 0, none⟩ u0).setCell ⟨g, 1, none⟩ u1).setCell ⟨g, 2, none⟩ u2).setCell ⟨g, 3, none⟩ u3).setCell ⟨g, 4, none⟩ u4).setCell ⟨g, 5, none⟩ u5).setCell ⟨g, 6, none⟩ u6) :=
 ((((((h.set 0 u0).set 1 u1).set 2 u2).set 3 u3).set 4 u4).set 5 u5).set 6 u6
/-- Reading, as it is done under guard. -/
def DoneP (s : List UInt8) (eb : Nat) (W : World) (e : Ending) (W' : World) : Prop :=
 (∃ v, evO s = some v ∧ e = .returned (.tuple #[]) ∧ But eb W W' ∧ Blk W' eb 31 (evCs v).toArray) ∨ (evO s = none ∧ e = .panicked (wrongP 9) ∧ Ext W W')
set_option maxRecDepth 20000 in
set_option maxHeartbeats 2000000 in
theorem Event1_any (s : List UInt8) (hs : s.length ≤ 4194304) (hA : s.length ≤ 1048576 ∨ ∀ r, spl 32 s ≠ [105, 110] :: r) (sb eb : Nat) (W : World) (hT : Tab W) (hV : Vars W) (hD : Deb W) (h1 : W.cell? ⟨sb, 0, none⟩ = some (.string ⟨s.toArray⟩)) (h2 : Blk W eb 31 #[.int .i64 0, .int .i64 0, .string ⟨#[]⟩, .string ⟨#[]⟩, .string ⟨#[]⟩, .int .i64 0, .int .u32 0]) :
    Calls Tryz.prog 33 #[.pointer (some ⟨sb, 0, none⟩), .pointer (some ⟨eb, 0, none⟩)] W (DoneP s eb W) := by
  have q := SRead_any s hs hA W hT hV hD
  unfold ReadP at q
  have hok : ∀ v W', evO s = some v → But eb W W' → Blk W' eb 31 (evCs v).toArray → DoneP s eb W (.returned (.tuple #[])) W' := fun v W' h b k => .inl ⟨v, h, rfl, b, k⟩
  have hno : ∀ W', evO s = none → Ext W W' → DoneP s eb W (.panicked (wrongP 9)) W' := fun W' h b => .inr ⟨h, rfl, b⟩
  generalize DoneP s eb W = Post at *
  clear hT hV hD hs hA
  cases ho : evO s with
  | none =>
    rw [ho] at q
    replace hno := fun W' => hno W' ho
    clear hok ho h2
    replace q := hide q
    replace hno := hide hno
    go_enter Tryz.func33, Tryz.ntmps33
    go_wp2_with fail
    refine q.out.mono ?_
    rintro e W1 ⟨rfl, he⟩
    go_wp2
    exact ⟨rfl, hno.out _ he⟩
  | some v =>
    rw [ho] at q
    replace hok := fun W' => hok v W' ho
    clear hno ho
    replace q := hide q
    replace hok := hide hok
    replace h2 := hide h2
    go_enter Tryz.func33, Tryz.ntmps33
    go_wp2_with fail
    refine q.out.mono ?_
    rintro e W1 ⟨rfl, he⟩
    have B := h2.out.ext he
    have c0 : W1.cell? ⟨eb, 0, none⟩ = some (.int .i64 0) := B.cell 0
    have c1 : W1.cell? ⟨eb, 1, none⟩ = some (.int .i64 0) := B.cell 1
    have c2 : W1.cell? ⟨eb, 2, none⟩ = some (.string ⟨#[]⟩) := B.cell 2
    have c3 : W1.cell? ⟨eb, 3, none⟩ = some (.string ⟨#[]⟩) := B.cell 3
    have c4 : W1.cell? ⟨eb, 4, none⟩ = some (.string ⟨#[]⟩) := B.cell 4
    have c5 : W1.cell? ⟨eb, 5, none⟩ = some (.int .i64 0) := B.cell 5
    have c6 : W1.cell? ⟨eb, 6, none⟩ = some (.int .u32 0) := B.cell 6
    have cf := fun i => B.frozen i
    obtain ⟨kd, cn, ad, pr, by_, tk, dr⟩ := v
    have B7 := B.fill7 (.int .i64 kd) (.int .i64 cn) (.string ⟨ad.toArray⟩) (.string ⟨pr.toArray⟩) (.string ⟨by_.toArray⟩) (.int .i64 tk) (.int .u32 (dr.toNat : Int))
    have H7 := (But.of (g := eb) he).set7 (.int .i64 kd) (.int .i64 cn) (.string ⟨ad.toArray⟩) (.string ⟨pr.toArray⟩) (.string ⟨by_.toArray⟩) (.int .i64 tk) (.int .u32 (dr.toNat : Int))
    have hfin := hok.out _ H7 B7
    clear B he B7 H7 h2 hok q
    replace hfin := hide hfin
    simp only [evCs]
    go_wp2
    go_end0
    exact hfin.out
/-- What script.Event answers. -/
def EvP (s : List UInt8) (w : World) (e : Ending) (w' : World) : Prop :=
 (match evO s with
  | some v => e = .returned (.tuple #[.agg (evCs v).toArray, .nilIface])
  | none => ∃ f : Nat, e = .returned (.tuple #[.agg (evCs zeroEv).toArray, .iface 44 (.pointer (some ⟨f, 0, none⟩))]) ∧ w.heap.size ≤ f ∧ Blk w' f 48 #[.int .i64 9, .int .i64 0]) ∧ Ext w w'
theorem But.late {g h : Nat} {w0 w w' : World} (b : But g w0 w) (c : But h w w') (hh : w0.heap.size ≤ h) : But g w0 w' :=
 ⟨c.os.trans b.os, c.tape.trans b.tape, c.output.trans b.output, Nat.le_trans b.size c.size, fun x hx hg => (c.block x (Nat.lt_of_lt_of_le hx b.size) (by omega)).trans (b.block x hx hg)⟩
theorem event_mem (s : List UInt8) (w : World) : ∃ W3 : World, ((w.alloc (Obj.cells #[.string ⟨s.toArray⟩] 9)).alloc (Obj.cells #[.int .i64 0, .int .i64 0, .string ⟨#[]⟩, .string ⟨#[]⟩, .string ⟨#[]⟩, .int .i64 0, .int .u32 0] 31)).alloc (Obj.cells #[.int .i64 0, .int .i64 0, .string ⟨#[]⟩, .string ⟨#[]⟩, .string ⟨#[]⟩, .int .i64 0, .int .u32 0] 31) = W3 ∧ Ext w W3 ∧ W3.heap.size = w.heap.size + 3 ∧
  W3.cell? ⟨w.heap.size, 0, none⟩ = some (.string ⟨s.toArray⟩) ∧ Blk W3 (w.heap.size + 1) 31 #[.int .i64 0, .int .i64 0, .string ⟨#[]⟩, .string ⟨#[]⟩, .string ⟨#[]⟩, .int .i64 0, .int .u32 0] ∧ Blk W3 (w.heap.size + 2) 31 #[.int .i64 0, .int .i64 0, .string ⟨#[]⟩, .string ⟨#[]⟩, .string ⟨#[]⟩, .int .i64 0, .int .u32 0] := by
 refine ⟨_, rfl, ?_⟩
 have a1 := Blk.new w 9 #[.string ⟨s.toArray⟩]
 have e1 := (Ext.refl w).alloc (Obj.cells #[.string ⟨s.toArray⟩] 9)
 have z1 : (w.alloc (Obj.cells #[.string ⟨s.toArray⟩] 9)).heap.size = w.heap.size + 1 := by simp
 generalize w.alloc (Obj.cells #[.string ⟨s.toArray⟩] 9) = V1 at *
 have a2 := Blk.new V1 31 #[.int .i64 0, .int .i64 0, .string ⟨#[]⟩, .string ⟨#[]⟩, .string ⟨#[]⟩, .int .i64 0, .int .u32 0]
 have e2 := e1.alloc (Obj.cells #[.int .i64 0, .int .i64 0, .string ⟨#[]⟩, .string ⟨#[]⟩, .string ⟨#[]⟩, .int .i64 0, .int .u32 0] 31)
 have b1 := a1.alloc (Obj.cells #[.int .i64 0, .int .i64 0, .string ⟨#[]⟩, .string ⟨#[]⟩, .string ⟨#[]⟩, .int .i64 0, .int .u32 0] 31)
 have z2 : (V1.alloc (Obj.cells #[.int .i64 0, .int .i64 0, .string ⟨#[]⟩, .string ⟨#[]⟩, .string ⟨#[]⟩, .int .i64 0, .int .u32 0] 31)).heap.size = w.heap.size + 2 := by simp [z1]
 rw [z1] at a2
 generalize V1.alloc (Obj.cells #[.int .i64 0, .int .i64 0, .string ⟨#[]⟩, .string ⟨#[]⟩, .string ⟨#[]⟩, .int .i64 0, .int .u32 0] 31) = V2 at *
 have a3 := Blk.new V2 31 #[.int .i64 0, .int .i64 0, .string ⟨#[]⟩, .string ⟨#[]⟩, .string ⟨#[]⟩, .int .i64 0, .int .u32 0]
 rw [z2] at a3
 exact ⟨e2.alloc _, by simp [z2], (b1.alloc _).cell 0, a2.alloc _, a3⟩
set_option maxRecDepth 20000 in
set_option maxHeartbeats 2000000 in
theorem SEvent_any (s : List UInt8) (hs : s.length ≤ 4194304) (hA : s.length ≤ 1048576 ∨ ∀ r, spl 32 s ≠ [105, 110] :: r) (w : World) (hT : Tab w) (hV : Vars w) (hD : Deb w) : Calls Tryz.prog 14 #[.string ⟨s.toArray⟩] w (EvP s w) := by
  have hmf : ∀ (fn : Fn) (first cap : Array Value) (w : World), (Instr.makeFunc fn first cap).run Tryz.prog w = .ok (.func fn first cap) w := fun _ _ _ _ => rfl
  have hok : ∀ W v, evO s = some v → Ext w W → EvP s w (.returned (.tuple #[.agg (evCs v).toArray, .nilIface])) W := fun W v h he => by unfold EvP; rw [h]; exact ⟨rfl, he⟩
  have hno : ∀ W f, evO s = none → w.heap.size ≤ f → Blk W f 48 #[.int .i64 9, .int .i64 0] → Ext w W → EvP s w (.returned (.tuple #[.agg #[.int .i64 0, .int .i64 0, .string ⟨#[]⟩, .string ⟨#[]⟩, .string ⟨#[]⟩, .int .i64 0, .int .u32 0], .iface 44 (.pointer (some ⟨f, 0, none⟩))])) W := fun W f h hf hb he => by unfold EvP; rw [h]; exact ⟨⟨f, rfl, hf, hb⟩, he⟩
  generalize EvP s w = Post at *
  obtain ⟨W3, hW3, E3, hz, c1, B2, B3⟩ := event_mem s w
  have EA := (Ext.refl W3).alloc (Obj.cells #[.int .i64 0] 23)
  have q1 := Event1_any s hs hA w.heap.size (w.heap.size + 2) (W3.alloc (Obj.cells #[.int .i64 0] 23)) (hT.ext (E3.trans EA)) (hV.ext (E3.trans EA)) (hD.ext (E3.trans EA)) (EA.cell c1) (B3.alloc _)
  have N := Blk.new W3 23 #[.int .i64 0]
  unfold DoneP at q1
  clear hT hV hD hs hA
  cases ho : evO s with
  | none =>
    rw [ho] at q1
    replace hno := fun W f => hno W f ho
    have q := Guard_any 33 _ (fun _ _ => rfl) W3 (fun _ => False) (fun c W => c = 9 ∧ Ext (W3.alloc (Obj.cells #[.int .i64 0] 23)) W)
      (q1.mono fun e W h => by
        rcases h with ⟨v, h, _⟩ | ⟨_, h1, h2⟩
        · cases h
        · exact .inr ⟨9, h1, rfl, h2⟩)
      (fun W h => h.elim) (fun c W h => N.ext h.2) (fun e W => e = .returned (.int .i64 9) ∧ Ext W3 W) (fun _ _ h _ => h.elim) (fun c W W' h hb => ⟨by rw [h.1], But.ext (EA.trans h.2) hb (Nat.le_refl _)⟩)
    clear q1 hok ho EA N B3
    replace q := hide q
    replace hno := hide hno
    replace E3 := hide E3
    replace B2 := hide B2
    replace hz := hide hz
    go_enter Tryz.func14, Tryz.ntmps14
    go_wp2_with fail
    clear hW3
    refine q.out.mono ?_
    rintro e W4 ⟨rfl, h4⟩
    have E4 := E3.out.trans h4
    have B4 := B2.out.ext h4
    have hz4 : w.heap.size + 3 ≤ W4.heap.size := by have := h4.size; have := hz.out; omega
    have hs4 := h4.size
    have F := Blk.new W4 48 #[.int .i64 9, .int .i64 0]
    have E5 := E4.alloc (Obj.cells #[.int .i64 9, .int .i64 0] 48)
    have B5 := B4.alloc (Obj.cells #[.int .i64 9, .int .i64 0] 48)
    generalize hW5 : W4.alloc (Obj.cells #[.int .i64 9, .int .i64 0] 48) = W5 at *
    generalize hf4 : W4.heap.size = f4 at *
    have r0 : W5.cell? ⟨w.heap.size + 1, 0, none⟩ = some (.int .i64 0) := B5.cell 0
    have r1 : W5.cell? ⟨w.heap.size + 1, 1, none⟩ = some (.int .i64 0) := B5.cell 1
    have r2 : W5.cell? ⟨w.heap.size + 1, 2, none⟩ = some (.string ⟨#[]⟩) := B5.cell 2
    have r3 : W5.cell? ⟨w.heap.size + 1, 3, none⟩ = some (.string ⟨#[]⟩) := B5.cell 3
    have r4 : W5.cell? ⟨w.heap.size + 1, 4, none⟩ = some (.string ⟨#[]⟩) := B5.cell 4
    have r5 : W5.cell? ⟨w.heap.size + 1, 5, none⟩ = some (.int .i64 0) := B5.cell 5
    have r6 : W5.cell? ⟨w.heap.size + 1, 6, none⟩ = some (.int .u32 0) := B5.cell 6
    have rf := fun i => B5.frozen i
    have hE := E5.set7 (show w.heap.size ≤ w.heap.size + 1 by omega) (.int .i64 0) (.int .i64 0) (.string ⟨#[]⟩) (.string ⟨#[]⟩) (.string ⟨#[]⟩) (.int .i64 0) (.int .u32 0)
    have hRZ := B5.fill7 (.int .i64 0) (.int .i64 0) (.string ⟨#[]⟩) (.string ⟨#[]⟩) (.string ⟨#[]⟩) (.int .i64 0) (.int .u32 0)
    have F7 := (((((((F.far (p := ⟨w.heap.size + 1, 0, none⟩) (show f4 ≠ w.heap.size + 1 by omega) (.int .i64 0)).far (p := ⟨w.heap.size + 1, 1, none⟩) (show f4 ≠ w.heap.size + 1 by omega) (.int .i64 0)).far (p := ⟨w.heap.size + 1, 2, none⟩) (show f4 ≠ w.heap.size + 1 by omega) (.string ⟨#[]⟩)).far (p := ⟨w.heap.size + 1, 3, none⟩) (show f4 ≠ w.heap.size + 1 by omega) (.string ⟨#[]⟩)).far (p := ⟨w.heap.size + 1, 4, none⟩) (show f4 ≠ w.heap.size + 1 by omega) (.string ⟨#[]⟩)).far (p := ⟨w.heap.size + 1, 5, none⟩) (show f4 ≠ w.heap.size + 1 by omega) (.int .i64 0)).far (p := ⟨w.heap.size + 1, 6, none⟩) (show f4 ≠ w.heap.size + 1 by omega) (.int .u32 0))
    have z0 := hRZ.cell 0
    have z1 := hRZ.cell 1
    have z2 := hRZ.cell 2
    have z3 := hRZ.cell 3
    have z4 := hRZ.cell 4
    have z5 := hRZ.cell 5
    have z6 := hRZ.cell 6
    simp at z0 z1 z2 z3 z4 z5 z6
    have hfin := hno.out _ f4 (by omega) F7 hE
    clear hE hRZ F7 F E5 B5 E4 B4 h4 q E3 B2 hno hz hz4 hs4
    replace hfin := hide hfin
    go_wp2
    exact bodyPost_ret (v := .tuple #[.agg #[.int .i64 0, .int .i64 0, .string ⟨#[]⟩, .string ⟨#[]⟩, .string ⟨#[]⟩, .int .i64 0, .int .u32 0], .iface 44 (.pointer (some ⟨f4, 0, none⟩))]) (by simp [results, Tryz.results14, go_sem, z0, z1, z2, z3, z4, z5, z6]) rfl hfin.out
  | some v =>
    rw [ho] at q1
    replace hok := fun W => hok W v ho
    have q := Guard_any 33 _ (fun _ _ => rfl) W3 (fun W => But (w.heap.size + 2) (W3.alloc (Obj.cells #[.int .i64 0] 23)) W ∧ Blk W (w.heap.size + 2) 31 (evCs v).toArray) (fun c W => False)
      (q1.mono fun e W h => by
        rcases h with ⟨v', h, h1, h2, h3⟩ | ⟨h, _⟩
        · injection h with h
          subst h
          exact .inl ⟨h1, h2, h3⟩
        · cases h)
      (fun W h => N.but h.1 (by omega)) (fun c W h => h.elim) (fun e W => e = .returned (.int .i64 0) ∧ But (w.heap.size + 2) W3 W ∧ Blk W (w.heap.size + 2) 31 (evCs v).toArray) (fun W W' h hb => ⟨rfl, ((But.of EA).trans h.1).late hb (Nat.le_refl _), h.2.but hb (by omega)⟩) (fun _ _ _ h _ => h.elim)
    clear q1 hno ho EA N B3
    replace q := hide q
    replace hok := hide hok
    replace E3 := hide E3
    replace B2 := hide B2
    go_enter Tryz.func14, Tryz.ntmps14
    go_wp2_with fail
    clear hW3
    refine q.out.mono ?_
    rintro e W4 ⟨rfl, h4, B3⟩
    have E4 := But.ext E3.out h4 (by omega)
    have B4 := B2.out.but h4 (by omega)
    obtain ⟨kd, cn, ad, pr, by_, tk, dr⟩ := v
    have zz0 : W4.cell? ⟨w.heap.size + 2, 0, none⟩ = some (.int .i64 kd) := B3.cell 0
    have zz1 : W4.cell? ⟨w.heap.size + 2, 1, none⟩ = some (.int .i64 cn) := B3.cell 1
    have zz2 : W4.cell? ⟨w.heap.size + 2, 2, none⟩ = some (.string ⟨ad.toArray⟩) := B3.cell 2
    have zz3 : W4.cell? ⟨w.heap.size + 2, 3, none⟩ = some (.string ⟨pr.toArray⟩) := B3.cell 3
    have zz4 : W4.cell? ⟨w.heap.size + 2, 4, none⟩ = some (.string ⟨by_.toArray⟩) := B3.cell 4
    have zz5 : W4.cell? ⟨w.heap.size + 2, 5, none⟩ = some (.int .i64 tk) := B3.cell 5
    have zz6 : W4.cell? ⟨w.heap.size + 2, 6, none⟩ = some (.int .u32 (dr.toNat : Int)) := B3.cell 6
    have r0 : W4.cell? ⟨w.heap.size + 1, 0, none⟩ = some (.int .i64 0) := B4.cell 0
    have r1 : W4.cell? ⟨w.heap.size + 1, 1, none⟩ = some (.int .i64 0) := B4.cell 1
    have r2 : W4.cell? ⟨w.heap.size + 1, 2, none⟩ = some (.string ⟨#[]⟩) := B4.cell 2
    have r3 : W4.cell? ⟨w.heap.size + 1, 3, none⟩ = some (.string ⟨#[]⟩) := B4.cell 3
    have r4 : W4.cell? ⟨w.heap.size + 1, 4, none⟩ = some (.string ⟨#[]⟩) := B4.cell 4
    have r5 : W4.cell? ⟨w.heap.size + 1, 5, none⟩ = some (.int .i64 0) := B4.cell 5
    have r6 : W4.cell? ⟨w.heap.size + 1, 6, none⟩ = some (.int .u32 0) := B4.cell 6
    have rf := fun i => B4.frozen i
    have hE := E4.set7 (show w.heap.size ≤ w.heap.size + 1 by omega) (.int .i64 kd) (.int .i64 cn) (.string ⟨ad.toArray⟩) (.string ⟨pr.toArray⟩) (.string ⟨by_.toArray⟩) (.int .i64 tk) (.int .u32 (dr.toNat : Int))
    have hRZ := B4.fill7 (.int .i64 kd) (.int .i64 cn) (.string ⟨ad.toArray⟩) (.string ⟨pr.toArray⟩) (.string ⟨by_.toArray⟩) (.int .i64 tk) (.int .u32 (dr.toNat : Int))
    have z0 := hRZ.cell 0
    have z1 := hRZ.cell 1
    have z2 := hRZ.cell 2
    have z3 := hRZ.cell 3
    have z4 := hRZ.cell 4
    have z5 := hRZ.cell 5
    have z6 := hRZ.cell 6
    simp at z0 z1 z2 z3 z4 z5 z6
    have hfin := hok.out _ hE
    clear hE hRZ B4 B3 h4 q E3 B2 hok E4
    replace hfin := hide hfin
    go_wp2
    exact bodyPost_ret (v := .tuple #[.agg #[.int .i64 kd, .int .i64 cn, .string ⟨ad.toArray⟩, .string ⟨pr.toArray⟩, .string ⟨by_.toArray⟩, .int .i64 tk, .int .u32 (dr.toNat : Int)], .nilIface]) (by simp [results, Tryz.results14, go_sem, z0, z1, z2, z3, z4, z5, z6]) rfl hfin.out
end
section
open Go.RowKit
set_option linter.unusedVariables false
set_option linter.unusedSimpArgs false
theorem run_neq_ofB {P : Program} {T : TypeId} {xs ys : Array Value} {W : World} {b : Bool} (h1 : (binOp .eql T (.agg xs) (.agg ys)).run P W = .ok (.bool b) W) :
    (binOp .neq T (.agg xs) (.agg ys)).run P W = .ok (.bool (!b)) W := by
  rw [run_eql_struct] at h1
  rw [run_neq_struct]
  generalize (Op.equalIn 10000 T (.agg xs) (.agg ys)).run P W = q at h1 ⊢
  cases q with
  | ok b w' =>
    simp only [Result.andThen] at h1 ⊢
    injection h1 with e1 e2
    injection e1 with e1
    subst e1
    subst e2
    rfl
  | halt x w' => simp only [Result.andThen] at h1; cases h1
theorem run_eqEv (W : World) (x y : EvS) :
  (binOp .eql 31 (.agg #[.int .i64 x.kind, .int .i64 x.conn, .string ⟨x.addr.toArray⟩, .string ⟨x.peer.toArray⟩, .string ⟨x.bytes.toArray⟩, .int .i64 x.ticks, .int .u32 (x.draw.toNat : Int)]) (.agg #[.int .i64 y.kind, .int .i64 y.conn, .string ⟨y.addr.toArray⟩, .string ⟨y.peer.toArray⟩, .string ⟨y.bytes.toArray⟩, .int .i64 y.ticks, .int .u32 (y.draw.toNat : Int)])).run Tryz.prog W = .ok (.bool (decide (x = y))) W := by
 obtain ⟨a1, a2, a3, a4, a5, a6, a7⟩ := x
 obtain ⟨b1, b2, b3, b4, b5, b6, b7⟩ := y
 have hS : Tryz.prog.underlying 31 = some (.struct (Tryz.prog.fieldsOf 31)) := by kernel_rfl
 rw [run_eql_struct, run_equalIn_agg W 9999 _ _ _ hS Tryz.stoodInHeld31]
 simp only [Program.fieldsOf, Tryz.underlying31]
 have e1 : ∀ (a b : Int) (w : World), (Op.equalIn 9999 3 (.int .i64 a) (.int .i64 b)).run Tryz.prog w = .ok (a == b) w := fun a b w => run_equalIn_int w 9998 _ .i64 .i64 a b Tryz.underlying3
 have e2 : ∀ (a b : UInt32) (w : World), (Op.equalIn 9999 29 (.int .u32 (a.toNat : Int)) (.int .u32 (b.toNat : Int))).run Tryz.prog w = .ok (a == b) w := fun a b w => by
  have key : ((a.toNat : Int) == (b.toNat : Int)) = (a == b) := by
   rw [Bool.eq_iff_iff, beq_iff_eq, beq_iff_eq, ← UInt32.toNat_inj]
   omega
  rw [← key]
  exact run_equalIn_int w 9998 _ .u32 .u32 _ _ Tryz.underlying29
 have e3 : ∀ (a b : List UInt8) (w : World), (Op.equalIn 9999 9 (.string ⟨a.toArray⟩) (.string ⟨b.toArray⟩)).run Tryz.prog w = .ok (a == b) w := fun a b w => by
  rw [run_equalIn_string w 9998 _ _ _ Tryz.underlying9, ByteArray.toList_eq, ByteArray.toList_eq]
 by_cases h1 : a1 = b1
 ·subst h1
  by_cases h2 : a2 = b2
  ·subst h2
   by_cases h3 : a3 = b3
   ·subst h3
    by_cases h4 : a4 = b4
    ·subst h4
     by_cases h5 : a5 = b5
     ·subst h5
      by_cases h6 : a6 = b6
      ·subst h6
       by_cases h7 : a7 = b7
       ·subst h7
        simp [Op.eqFields, part, e1, e2, e3]
       ·simp [Op.eqFields, part, e1, e2, e3, h7]
      ·simp [Op.eqFields, part, e1, e2, e3, h6]
     ·simp [Op.eqFields, part, e1, e2, e3, h5]
    ·simp [Op.eqFields, part, e1, e2, e3, h4]
   ·simp [Op.eqFields, part, e1, e2, e3, h3]
  ·simp [Op.eqFields, part, e1, e2, e3, h2]
 ·simp [Op.eqFields, part, e1, e2, e3, h1]
/-- What is told is not too long to be read. -/
theorem tell_len {e : EvS} (h : EvIn e) : (tellS e).length ≤ 4194304 ∧ ((tellS e).length ≤ 1048576 ∨ ∀ r, spl 32 (tellS e) ≠ [105, 110] :: r) := by
 obtain ⟨h1, h2, h3, h4, h5, h6⟩ := h
 have i1 := itoa_len e.conn h2
 have i2 := itoa_len e.ticks h6
 have i3 := wordB_len e.bytes
 have i4 := addrT_len (a := e.addr)
 have i5 : (digS 10 e.draw.toNat).length ≤ 10 := dig10 (by have := e.draw.toNat_lt; omega)
 have key : ∀ (a b : List UInt8), (32 : UInt8) ∉ a → a ≠ [105, 110] → ∀ r, spl 32 (Lib.join [a, b] [32]) ≠ [105, 110] :: r := fun a b ha hn r he => by
  rw [show Lib.join [a, b] [32] = a ++ 32 :: Lib.join [b] [32] from rfl, spl_at ha] at he
  injection he with he _
  exact hn he
 have key3 : ∀ (a b c : List UInt8), (32 : UInt8) ∉ a → a ≠ [105, 110] → ∀ r, spl 32 (Lib.join [a, b, c] [32]) ≠ [105, 110] :: r := fun a b c ha hn r he => by
  rw [show Lib.join [a, b, c] [32] = a ++ 32 :: Lib.join [b, c] [32] from rfl, spl_at ha] at he
  injection he with he _
  exact hn he
 unfold tellS
 by_cases k0 : e.kind = 1
 ·rw [if_pos k0]
  refine ⟨?_, ?_⟩
  ·rw [join3_len]; simp only [List.length_cons, List.length_nil]; omega
  ·rw [join3_len]; simp only [List.length_cons, List.length_nil]; exact .inl (by omega)
 rw [if_neg k0]
 by_cases k1 : e.kind = 2
 ·rw [if_pos k1]
  refine ⟨?_, ?_⟩
  ·rw [join3_len]; simp only [List.length_cons, List.length_nil]; omega
  ·exact .inr (key3 _ _ _ (by decide) (by decide))
 rw [if_neg k1]
 by_cases k2 : e.kind = 3
 ·rw [if_pos k2]
  refine ⟨?_, ?_⟩
  ·rw [join2_len]; simp only [List.length_cons, List.length_nil]; omega
  ·exact .inr (key _ _ (by decide) (by decide))
 rw [if_neg k2]
 by_cases k3 : e.kind = 4
 ·rw [if_pos k3]
  refine ⟨?_, ?_⟩
  ·rw [join3_len]; simp only [List.length_cons, List.length_nil]; omega
  ·exact .inr (key3 _ _ _ (by decide) (by decide))
 rw [if_neg k3]
 by_cases k4 : e.kind = 5
 ·rw [if_pos k4]
  refine ⟨?_, ?_⟩
  ·rw [join2_len]; simp only [List.length_cons, List.length_nil]; omega
  ·rw [join2_len]; simp only [List.length_cons, List.length_nil]; exact .inl (by omega)
 rw [if_neg k4]
 by_cases k5 : e.kind = 6
 ·rw [if_pos k5]
  refine ⟨?_, ?_⟩
  ·rw [join2_len]; simp only [List.length_cons, List.length_nil]; omega
  ·rw [join2_len]; simp only [List.length_cons, List.length_nil]; exact .inl (by omega)
 rw [if_neg k5]
 by_cases k6 : e.kind = 7
 ·rw [if_pos k6]
  refine ⟨?_, ?_⟩
  ·rw [join2_len]; simp only [List.length_cons, List.length_nil]; omega
  ·exact .inr (key _ _ (by decide) (by decide))
 rw [if_neg k6]
 by_cases k7 : e.kind = 8
 ·rw [if_pos k7]
  refine ⟨?_, ?_⟩
  ·rw [join2_len]; simp only [List.length_cons, List.length_nil]; omega
  ·exact .inr (key _ _ (by decide) (by decide))
 rw [if_neg k7]
 by_cases k8 : e.kind = 9
 ·rw [if_pos k8]
  refine ⟨?_, ?_⟩
  ·rw [join2_len]; simp only [List.length_cons, List.length_nil]; omega
  ·rw [join2_len]; simp only [List.length_cons, List.length_nil]; exact .inl (by omega)
 rw [if_neg k8]
 by_cases k9 : e.kind = 10
 ·rw [if_pos k9]; exact ⟨by decide, .inl (by decide)⟩
 ·rw [if_neg k9]; exact ⟨by decide, .inl (by decide)⟩
set_option maxRecDepth 20000 in
set_option maxHeartbeats 2000000 in
theorem SLineE_any (e : EvS) (hin : EvIn e) (w : World) (hT : Tab w) (hV : Vars w) (hD : Deb w) :
    Calls Tryz.prog 13 #[.agg (evCs e).toArray] w fun e' w' => e' = .returned (.tuple #[.string ⟨(evT e).1.toArray⟩, .int .i64 (evT e).2]) ∧ Ext w w' := by
  have qt := fun W (h : Ext w W) => STell_any e hin W (hT.ext h) (hD.ext h)
  obtain ⟨l1, l2⟩ := tell_len hin
  have qe := fun W (h : Ext w W) => SEvent_any (tellS e) l1 l2 W (hT.ext h) (hV.ext h) (hD.ext h)
  rw [evT_back]
  clear l1 l2 hT hV hD hin
  generalize tellS e = t at *
  unfold EvP at qe
  obtain ⟨b1, b2, b3, b4, b5, b6, b7⟩ := e
  simp only [evCs] at qt ⊢
  cases ho : evO t with
  | none =>
    rw [ho] at qe
    rw [if_neg (by simp)]
    clear ho
    have B := Blk.new w 31 #[.int .i64 b1, .int .i64 b2, .string ⟨b3.toArray⟩, .string ⟨b4.toArray⟩, .string ⟨b5.toArray⟩, .int .i64 b6, .int .u32 (b7.toNat : Int)]
    have E := (Ext.refl w).alloc (Obj.cells #[.int .i64 b1, .int .i64 b2, .string ⟨b3.toArray⟩, .string ⟨b4.toArray⟩, .string ⟨b5.toArray⟩, .int .i64 b6, .int .u32 (b7.toNat : Int)] 31)
    generalize hW0 : w.alloc (Obj.cells #[.int .i64 b1, .int .i64 b2, .string ⟨b3.toArray⟩, .string ⟨b4.toArray⟩, .string ⟨b5.toArray⟩, .int .i64 b6, .int .u32 (b7.toNat : Int)] 31) = W0 at B E
    generalize hp : w.heap.size = p at B
    replace qt := qt W0 E
    replace hW0 := hide hW0
    replace hp := hide hp
    replace B := hide B
    replace E := hide E
    replace qt := hide qt
    replace qe := hide qe
    go_enter Tryz.func13, Tryz.ntmps13
    go_upto_region 1 with fail
    rw [hW0.out, hp.out]
    clear hW0 hp
    have c0 : W0.cell? ⟨p, 0, none⟩ = some (.int .i64 b1) := B.out.cell 0
    have c1 : W0.cell? ⟨p, 1, none⟩ = some (.int .i64 b2) := B.out.cell 1
    have c2 : W0.cell? ⟨p, 2, none⟩ = some (.string ⟨b3.toArray⟩) := B.out.cell 2
    have c3 : W0.cell? ⟨p, 3, none⟩ = some (.string ⟨b4.toArray⟩) := B.out.cell 3
    have c4 : W0.cell? ⟨p, 4, none⟩ = some (.string ⟨b5.toArray⟩) := B.out.cell 4
    have c5 : W0.cell? ⟨p, 5, none⟩ = some (.int .i64 b6) := B.out.cell 5
    have c6 : W0.cell? ⟨p, 6, none⟩ = some (.int .u32 (b7.toNat : Int)) := B.out.cell 6
    go_wp2_with fail
    refine qt.out.mono ?_
    rintro e1 W1 ⟨rfl, he⟩
    have E1 := E.out.trans he
    have q := qe.out W1 E1
    clear he qt E c0 c1 c2 c3 c4 c5 c6
    replace E1 := hide E1
    replace q := hide q
    go_wp2_with fail
    refine q.out.mono ?_
    rintro e1 W2 ⟨⟨f, rfl, _, _⟩, he2⟩
    have E2 := E1.out.trans he2
    clear q he2
    replace E2 := hide E2
    simp only [evCs, zeroEv]
    go_wp2
    go_ret2
    exact ⟨rfl, E2.out.alloc _⟩
  | some v =>
    rw [ho] at qe
    have hR : ∀ b : Bool, decide (v = ⟨b1, b2, b3, b4, b5, b6, b7⟩) = b → (if some v = some (⟨b1, b2, b3, b4, b5, b6, b7⟩ : EvS) then (t, (0 : Int)) else ([], 2)) = if b = true then (t, 0) else ([], 2) := fun b hb => by rw [← hb]; simp
    have hq := fun W => run_neq_ofB (run_eqEv W v ⟨b1, b2, b3, b4, b5, b6, b7⟩)
    clear ho
    generalize hb : decide (v = (⟨b1, b2, b3, b4, b5, b6, b7⟩ : EvS)) = b at *
    rw [hR b rfl]
    clear hR hb
    obtain ⟨a1, a2, a3, a4, a5, a6, a7⟩ := v
    simp only [evCs] at qe hq
    have B := Blk.new w 31 #[.int .i64 b1, .int .i64 b2, .string ⟨b3.toArray⟩, .string ⟨b4.toArray⟩, .string ⟨b5.toArray⟩, .int .i64 b6, .int .u32 (b7.toNat : Int)]
    have E := (Ext.refl w).alloc (Obj.cells #[.int .i64 b1, .int .i64 b2, .string ⟨b3.toArray⟩, .string ⟨b4.toArray⟩, .string ⟨b5.toArray⟩, .int .i64 b6, .int .u32 (b7.toNat : Int)] 31)
    generalize hW0 : w.alloc (Obj.cells #[.int .i64 b1, .int .i64 b2, .string ⟨b3.toArray⟩, .string ⟨b4.toArray⟩, .string ⟨b5.toArray⟩, .int .i64 b6, .int .u32 (b7.toNat : Int)] 31) = W0 at B E
    generalize hp : w.heap.size = p at B
    replace qt := qt W0 E
    replace hW0 := hide hW0
    replace hp := hide hp
    replace B := hide B
    replace E := hide E
    replace qt := hide qt
    replace qe := hide qe
    go_enter Tryz.func13, Tryz.ntmps13
    go_upto_region 1 with fail
    rw [hW0.out, hp.out]
    clear hW0 hp
    have c0 : W0.cell? ⟨p, 0, none⟩ = some (.int .i64 b1) := B.out.cell 0
    have c1 : W0.cell? ⟨p, 1, none⟩ = some (.int .i64 b2) := B.out.cell 1
    have c2 : W0.cell? ⟨p, 2, none⟩ = some (.string ⟨b3.toArray⟩) := B.out.cell 2
    have c3 : W0.cell? ⟨p, 3, none⟩ = some (.string ⟨b4.toArray⟩) := B.out.cell 3
    have c4 : W0.cell? ⟨p, 4, none⟩ = some (.string ⟨b5.toArray⟩) := B.out.cell 4
    have c5 : W0.cell? ⟨p, 5, none⟩ = some (.int .i64 b6) := B.out.cell 5
    have c6 : W0.cell? ⟨p, 6, none⟩ = some (.int .u32 (b7.toNat : Int)) := B.out.cell 6
    go_wp2_with fail
    refine qt.out.mono ?_
    rintro e1 W1 ⟨rfl, he⟩
    have E1 := E.out.trans he
    have q := qe.out W1 E1
    have B1 := B.out.ext he
    clear he qt E B c0 c1 c2 c3 c4 c5 c6
    replace E1 := hide E1
    replace q := hide q
    replace B1 := hide B1
    go_wp2_with fail
    refine q.out.mono ?_
    rintro e1 W2 ⟨rfl, he2⟩
    have E2 := E1.out.trans he2
    have B2 := B1.out.ext he2
    clear q he2 E1 B1
    have B3 := B2.alloc (Obj.cells #[.int .i64 a1, .int .i64 a2, .string ⟨a3.toArray⟩, .string ⟨a4.toArray⟩, .string ⟨a5.toArray⟩, .int .i64 a6, .int .u32 (a7.toNat : Int)] 31)
    have N := Blk.new W2 31 #[.int .i64 a1, .int .i64 a2, .string ⟨a3.toArray⟩, .string ⟨a4.toArray⟩, .string ⟨a5.toArray⟩, .int .i64 a6, .int .u32 (a7.toNat : Int)]
    have E3 := E2.alloc (Obj.cells #[.int .i64 a1, .int .i64 a2, .string ⟨a3.toArray⟩, .string ⟨a4.toArray⟩, .string ⟨a5.toArray⟩, .int .i64 a6, .int .u32 (a7.toNat : Int)] 31)
    generalize hW3 : (W2.alloc (Obj.cells #[.int .i64 a1, .int .i64 a2, .string ⟨a3.toArray⟩, .string ⟨a4.toArray⟩, .string ⟨a5.toArray⟩, .int .i64 a6, .int .u32 (a7.toNat : Int)] 31)) = W3 at B3 E3 N
    have c0 : W3.cell? ⟨p, 0, none⟩ = some (.int .i64 b1) := B3.cell 0
    have c1 : W3.cell? ⟨p, 1, none⟩ = some (.int .i64 b2) := B3.cell 1
    have c2 : W3.cell? ⟨p, 2, none⟩ = some (.string ⟨b3.toArray⟩) := B3.cell 2
    have c3 : W3.cell? ⟨p, 3, none⟩ = some (.string ⟨b4.toArray⟩) := B3.cell 3
    have c4 : W3.cell? ⟨p, 4, none⟩ = some (.string ⟨b5.toArray⟩) := B3.cell 4
    have c5 : W3.cell? ⟨p, 5, none⟩ = some (.int .i64 b6) := B3.cell 5
    have c6 : W3.cell? ⟨p, 6, none⟩ = some (.int .u32 (b7.toNat : Int)) := B3.cell 6
    have d0 : W3.cell? ⟨W2.heap.size, 0, none⟩ = some (.int .i64 a1) := N.cell 0
    have d1 : W3.cell? ⟨W2.heap.size, 1, none⟩ = some (.int .i64 a2) := N.cell 1
    have d2 : W3.cell? ⟨W2.heap.size, 2, none⟩ = some (.string ⟨a3.toArray⟩) := N.cell 2
    have d3 : W3.cell? ⟨W2.heap.size, 3, none⟩ = some (.string ⟨a4.toArray⟩) := N.cell 3
    have d4 : W3.cell? ⟨W2.heap.size, 4, none⟩ = some (.string ⟨a5.toArray⟩) := N.cell 4
    have d5 : W3.cell? ⟨W2.heap.size, 5, none⟩ = some (.int .i64 a6) := N.cell 5
    have d6 : W3.cell? ⟨W2.heap.size, 6, none⟩ = some (.int .u32 (a7.toNat : Int)) := N.cell 6
    clear B2 E2 N
    replace B3 := hide B3
    replace E3 := hide E3
    go_upto_region 3 with fail
    clear hW3
    cases b
    · go_wp2
      go_ret2
      exact ⟨rfl, E3.out⟩
    · go_wp2
      go_ret2
      exact ⟨rfl, E3.out⟩
end
end Go.Proofs.YtkinghadgmbhbaaGreatDoor
