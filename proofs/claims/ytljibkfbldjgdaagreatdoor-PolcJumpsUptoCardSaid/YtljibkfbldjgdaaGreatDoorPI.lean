/- A law of regions that draw their order: a fact that every operation keeps holds at the end; the frame is the one of the text's order. A region that draws its order and makes memory, met by one word for each of its operations. A region that draws its order and makes memory, met by one word for each of its operations; a word for answers that are not one value. A region that draws its order, of which a tail comes in its own order: the head is met by words (PM), the tail is walked. -/
import Derived.Test.YtljibkfbldjgdaaGreatDoorBase
import Derived.Orders
import Derived.StillTail
namespace Go.Proofs.YtljibkfbldjgdaaGreatDoor
set_option linter.unusedVariables false

def updF {α : Type} (f : Nat → α) (i : Nat) (x : α) : Nat → α := fun j => if j = i then x else f j
theorem updF_same {α : Type} (f : Nat → α) (i : Nat) (x : α) : updF f i x i = x := if_pos rfl
theorem updF_ne {α : Type} (f : Nat → α) {i j : Nat} (x : α) (h : j ≠ i) : updF f i x j = f j := if_neg h
def putD (done : Nat → Bool) (val : Nat → Value) : List Oper → Nat → Act → Act
  | [], _, a => a
  | o :: l, k, a => putD done val l (k + 1) (if done k = true then a.put o.dst (val k) else a)
def distB : List Oper → Bool
  | [] => true
  | o :: l => (match o.dst with | none => true | some d => l.all fun p => p.dst != some d) && distB l
theorem putD_put {done : Nat → Bool} {val : Nat → Value} (d : Option Tmp) (v : Value) : ∀ (l : List Oper) (k : Nat) (a : Act), (∀ o ∈ l, ∀ x, d = some x → o.dst ≠ some x) → putD done val l k (a.put d v) = (putD done val l k a).put d v
  | [], _, _, _ => rfl
  | o :: l, k, a, h => by
    simp only [putD]
    rw [← putD_put d v l (k + 1) _ fun p hp => h p (by simp [hp])]
    congr 1
    split
    · exact Act.put_comm a v _ fun x hx => h o (by simp) x hx
    · rfl
theorem putD_congr {done done' : Nat → Bool} {val val' : Nat → Value} : ∀ (l : List Oper) (k : Nat) (a : Act), (∀ j, k ≤ j → done j = done' j ∧ val j = val' j) → putD done val l k a = putD done' val' l k a
  | [], _, _, _ => rfl
  | o :: l, k, a, h => by
    simp only [putD]
    rw [(h k (Nat.le_refl _)).1, (h k (Nat.le_refl _)).2]
    exact putD_congr l (k + 1) _ fun j hj => h j (by omega)
theorem dist_tail {o : Oper} {l : List Oper} (h : distB (o :: l) = true) : distB l = true ∧ ∀ p ∈ l, ∀ x, o.dst = some x → p.dst ≠ some x := by
  simp only [distB, Bool.and_eq_true] at h
  refine ⟨h.2, fun p hp x hx => ?_⟩
  rw [hx] at h
  have := List.all_eq_true.1 h.1 p hp
  simpa using this
theorem putD_upd {done : Nat → Bool} {val : Nat → Value} (v : Value) : ∀ (l : List Oper) (k i : Nat) (a : Act) (o : Oper), distB l = true → l[i]? = some o → done (k + i) = false →
    putD (updF done (k + i) true) (updF val (k + i) v) l k a = (putD done val l k a).put o.dst v
  | [], _, _, _, _, _, h, _ => by simp at h
  | p :: l, k, 0, a, o, hB, ho, hd => by
    obtain rfl : p = o := by simpa using ho
    obtain ⟨_, hne⟩ := dist_tail hB
    simp only [putD, Nat.add_zero, updF_same, if_true]
    simp only [Nat.add_zero] at hd
    rw [hd, if_neg (by decide), putD_congr (done' := done) (val' := val) l (k + 1) _ fun j hj => ⟨updF_ne _ _ (by omega), updF_ne _ _ (by omega)⟩]
    exact putD_put _ _ l _ _ hne
  | p :: l, k, i + 1, a, o, hB, ho, hd => by
    have ho' : l[i]? = some o := by simpa using ho
    simp only [putD]
    rw [updF_ne _ _ (show k ≠ k + (i + 1) by omega), updF_ne _ _ (show k ≠ k + (i + 1) by omega)]
    have := putD_upd (val := val) v l (k + 1) i (if done k = true then a.put p.dst (val k) else a) o (dist_tail hB).1 ho' (by rw [show k + 1 + i = k + (i + 1) by omega]; exact hd)
    rw [show k + 1 + i = k + (i + 1) by omega] at this
    exact this
theorem putD_size {done : Nat → Bool} {val : Nat → Value} : ∀ (l : List Oper) (k : Nat) (a : Act), (putD done val l k a).tmps.size = a.tmps.size
  | [], _, _ => rfl
  | o :: l, k, a => by
    simp only [putD]
    rw [putD_size l]
    split
    · cases o.dst <;> simp [Act.put]
    · rfl
theorem eval_put_same {a : Act} {d : Tmp} {v : Value} (h : d < a.tmps.size) : (a.put (some d) v).eval (.tmp d) = v := by
  simp [Act.put, Act.eval, h]
theorem eval_putD {done : Nat → Bool} {val : Nat → Value} : ∀ (l : List Oper) (k i : Nat) (a : Act) (o : Oper) (d : Tmp), distB l = true → l[i]? = some o → o.dst = some d → done (k + i) = true → d < a.tmps.size → (putD done val l k a).eval (.tmp d) = val (k + i)
  | [], _, _, _, _, _, _, h, _, _, _ => by simp at h
  | p :: l, k, 0, a, o, d, hB, ho, hd, hk, hs => by
    obtain rfl : p = o := by simpa using ho
    simp only [Nat.add_zero] at hk ⊢
    simp only [putD]
    rw [hk, if_pos rfl, hd, putD_put (some d) _ l _ _ fun q hq x hx => (dist_tail hB).2 q hq x (by rw [hd]; exact hx)]
    exact eval_put_same (by rw [putD_size]; exact hs)
  | p :: l, k, i + 1, a, o, d, hB, ho, hd, hk, hs => by
    simp only [putD]
    have := eval_putD (done := done) (val := val) l (k + 1) i (if done k = true then a.put p.dst (val k) else a) o d (dist_tail hB).1 (by simpa using ho) hd (by rw [show k + 1 + i = k + (i + 1) by omega]; exact hk) (by split <;> (try cases p.dst) <;> simpa [Act.put] using hs)
    rw [show k + 1 + i = k + (i + 1) by omega] at this
    exact this
theorem eval_putD_out {done : Nat → Bool} {val : Nat → Value} (t : Tmp) : ∀ (l : List Oper) (k : Nat) (a : Act), (∀ o ∈ l, o.dst ≠ some t) → (putD done val l k a).eval (.tmp t) = a.eval (.tmp t)
  | [], _, _, _ => rfl
  | o :: l, k, a, h => by
    simp only [putD]
    rw [eval_putD_out t l (k + 1) _ fun p hp => h p (by simp [hp])]
    split
    · exact Act.eval_put fun d hd he => h o (by simp) (by rw [hd]; injection he with he; rw [he])
    · rfl
/-- How many are left. -/
def cntF (f : Nat → Bool) : Nat → Nat
  | 0 => 0
  | n + 1 => cntF f n + if f n = true then 0 else 1
theorem cntF_upd (f : Nat → Bool) (i : Nat) (hi : f i = false) : ∀ n, cntF (updF f i true) n + (if i < n then 1 else 0) = cntF f n
  | 0 => by simp [cntF]
  | n + 1 => by
    have ih := cntF_upd f i hi n
    simp only [cntF]
    by_cases h : n = i
    · subst h
      rw [if_neg (Nat.lt_irrefl n)] at ih
      have h1 : (if n < n + 1 then 1 else 0) = 1 := if_pos (Nat.lt_succ_self n)
      rw [updF_same, hi, h1]
      simp only [if_true, Bool.false_eq_true, if_false]
      omega
    · rw [updF_ne _ _ h]
      by_cases h2 : i < n
      · rw [if_pos h2] at ih
        have h1 : (if i < n + 1 then 1 else 0) = 1 := if_pos (by omega)
        rw [h1]
        omega
      · rw [if_neg h2] at ih
        have h1 : (if i < n + 1 then 1 else 0) = 0 := if_neg (by omega)
        rw [h1]
        omega
theorem cntF_zero (f : Nat → Bool) : ∀ n, cntF f n = 0 → ∀ i, i < n → f i = true
  | 0, _, i, hi => by omega
  | n + 1, h, i, hi => by
    simp only [cntF] at h
    by_cases hn : f n = true
    · rw [if_pos hn] at h
      rcases Nat.lt_or_ge i n with h2 | h2
      · exact cntF_zero f n h i h2
      · obtain rfl : i = n := by omega
        exact hn
    · rw [if_neg hn] at h; omega
def backB (ops : Array Oper) : Bool := (List.range ops.size).all fun i => match ops[i]? with | none => true | some o => o.after.all fun e => decide (e.on < i)
theorem ready_nil {md : Region.Mode} {ops : Array Oper} {listed : Array Bool} (hb : backB ops = true) (hs : listed.size = ops.size) (h : Region.ready md ops listed = []) (i : Nat) : i < ops.size → listed.getD i false = true := by
  induction i using Nat.strongRecOn with
  | _ i ih =>
    intro hi
    cases hl : listed.getD i false with
    | true => rfl
    | false =>
      have hmem : i ∈ Region.ready md ops listed := mem_ready.2 ⟨by
        have : i < listed.size := by omega
        simp [this] at hl ⊢
        exact hl, ops[i], by simp [hi], fun e he _ => by
        have hb' := List.all_eq_true.1 hb i (by simpa using hi)
        simp only [Array.getElem?_eq_getElem hi] at hb'
        have hlt : e.on < i := by
          obtain ⟨k, hk, rfl⟩ := Array.mem_iff_getElem.1 he
          have hb2 : ∀ (k : Nat) (hk : k < ops[i].after.size), ops[i].after[k].on < i := by simpa using hb'
          exact hb2 k hk
        exact ih e.on hlt (by omega)⟩
      rw [h] at hmem
      cases hmem
/-- What is asked of one operation: J is kept. -/
def KeepsJ (P : Program) (md : Region.Mode) (ops : Array Oper) (Q : Exit → Act → World → Prop) (J : (Nat → Bool) → (Nat → Value) → World → Prop) (a0 : Act) : Prop :=
  ∀ (i : Nat) (o : Oper) (done : Nat → Bool) (val : Nat → Value) (w' : World), ops[i]? = some o → done i = false → (∀ e ∈ o.after, Region.binds md e = true → done e.on = true) → J done val w' →
    Region.wanted o (yielded ops (putD done val ops.toList 0 a0).tmps) = true ∧ Oper.wp P o (putD done val ops.toList 0 a0) w' (fun a' w'' => ∃ v, a' = (putD done val ops.toList 0 a0).put o.dst v ∧ J (updF done i true) (updF val i v) w'') Q
theorem wpAny_J {P : Program} {md : Region.Mode} {ops : Array Oper} {Q : Exit → Act → World → Prop} {J : (Nat → Bool) → (Nat → Value) → World → Prop} {a0 : Act} (hB : distB ops.toList = true) (hb : backB ops = true)
    (hend : ∀ done val w', (∀ i, i < ops.size → done i = true) → J done val w' → Q .normal (putD done val ops.toList 0 a0) w') (hstep : KeepsJ P md ops Q J a0) :
    ∀ (fuel : Nat) (listed : Array Bool) (val : Nat → Value) (w' : World), listed.size = ops.size → cntF (fun i => listed.getD i false) ops.size = fuel → J (fun i => listed.getD i false) val w' →
      wpAny P md ops Q fuel listed (putD (fun i => listed.getD i false) val ops.toList 0 a0) w' := by
  intro fuel
  induction fuel with
  | zero =>
    intro listed val w' hs hc hJ
    have hall := cntF_zero _ _ hc
    refine ⟨?_, hend _ _ _ hall hJ⟩
    cases hr : Region.ready md ops listed with
    | nil => rfl
    | cons j r =>
      have hm : j ∈ Region.ready md ops listed := by rw [hr]; simp
      obtain ⟨h1, o, ho, _⟩ := mem_ready.1 hm
      have hj : j < ops.size := by
        rcases Nat.lt_or_ge j ops.size with h | h
        · exact h
        · rw [Array.getElem?_eq_none h] at ho; cases ho
      have h2 := hall j hj
      have : j < listed.size := by omega
      simp [this] at h1 h2
      rw [h1] at h2
      cases h2
  | succ fuel ih =>
    intro listed val w' hs hc hJ
    refine ⟨fun hr => hend _ _ _ (fun i hi => ready_nil hb hs hr i hi) hJ, fun i hi => ?_⟩
    obtain ⟨h1, o, ho, hdep⟩ := mem_ready.1 hi
    have hj : i < ops.size := by
      rcases Nat.lt_or_ge i ops.size with h | h
      · exact h
      · rw [Array.getElem?_eq_none h] at ho; cases ho
    have hjl : i < listed.size := by omega
    have hd : listed.getD i false = false := by simp [hjl] at h1 ⊢; exact h1
    obtain ⟨hw, hstp⟩ := hstep i o (fun i => listed.getD i false) val w' ho hd hdep hJ
    unfold wpOp
    simp only [ho]
    rw [if_pos hw]
    refine .inl (Oper.wp_mono ?_ hstp)
    rintro a' w'' ⟨v, rfl, hJ'⟩
    have he : (fun j => (listed.setIfInBounds i true).getD j false) = updF (fun j => listed.getD j false) i true := by
      funext j
      unfold updF
      by_cases h : j = i
      · subst h; simp [hjl]
      · rw [if_neg h]
        simp [Ne.symm h]
    have := ih (listed.setIfInBounds i true) (updF val i v) w'' (by simpa using hs) (by
      rw [he]
      have := cntF_upd (fun j => listed.getD j false) i hd ops.size
      rw [if_pos hj] at this
      omega) (by rw [he]; exact hJ')
    rw [he] at this
    have hp := putD_upd (done := fun j => listed.getD j false) (val := val) v ops.toList 0 i a0 o hB (by simpa using ho) (by rw [Nat.zero_add]; exact hd)
    rw [Nat.zero_add] at hp
    rw [hp] at this
    exact this
theorem cntF_none (n : Nat) : cntF (fun _ => false) n = n := by
  induction n with
  | zero => rfl
  | succ n ih => simp [cntF, ih]
theorem wp_region_J {P : Program} {id : Nat} {ops : Array Oper} {Q : Exit → Act → World → Prop} {J : (Nat → Bool) → (Nat → Value) → World → Prop} {a0 : Act} {w : World} (hm : P.follows .mixedOrders = true) (hB : distB ops.toList = true) (hb : backB ops = true) (val : Nat → Value)
    (h0 : J (fun _ => false) val w.drew) (hstep : KeepsJ P .any ops Q J a0)
    (hend : ∀ done val w', (∀ i, i < ops.size → done i = true) → J done val w' → Q .normal (putD done val ops.toList 0 a0) w') : (Code.region id ops true).wp P Q a0 w := by
  refine wp_region_any hm ?_
  have he : (fun i => (Array.replicate ops.size false).getD i false) = fun _ => false := by
    funext i
    by_cases h : i < ops.size <;> simp [h]
  have hn : ∀ (l : List Oper) (k : Nat) (a : Act), putD (fun _ => false) val l k a = a := by
    intro l
    induction l with
    | nil => intro k a; rfl
    | cons o l ih => intro k a; simp only [putD]; exact ih _ _
  have := wpAny_J (P := P) (md := .any) (Q := Q) (J := J) (a0 := a0) hB hb hend hstep ops.size (Array.replicate ops.size false) val w.drew (by simp) (by rw [he]; exact cntF_none _) (by rw [he]; exact h0)
  rw [he, hn] at this
  exact this
open Go.RowKit

def backM (md : Region.Mode) (ops : Array Oper) : Bool := (List.range ops.size).all fun i => match ops[i]? with | none => true | some o => o.after.all fun e => !Region.binds md e || decide (e.on < i)
theorem ready_nilM {md : Region.Mode} {ops : Array Oper} {listed : Array Bool} (hb : backM md ops = true) (hs : listed.size = ops.size) (h : Region.ready md ops listed = []) (i : Nat) : i < ops.size → listed.getD i false = true := by
  induction i using Nat.strongRecOn with
  | _ i ih =>
    intro hi
    cases hl : listed.getD i false with
    | true => rfl
    | false =>
      have hmem : i ∈ Region.ready md ops listed := mem_ready.2 ⟨by
        have : i < listed.size := by omega
        simp [this] at hl ⊢
        exact hl, ops[i], by simp [hi], fun e he hbd => by
        have hb' := List.all_eq_true.1 hb i (by simpa using hi)
        simp only [Array.getElem?_eq_getElem hi] at hb'
        have hlt : e.on < i := by
          rw [Array.all_eq_true] at hb'
          obtain ⟨k, hk, rfl⟩ := Array.mem_iff_getElem.1 he
          have h3 := hb' k hk
          rw [hbd] at h3
          simpa using h3
        exact ih e.on hlt (by omega)⟩
      rw [h] at hmem
      cases hmem
theorem wpAny_JM {P : Program} {md : Region.Mode} {ops : Array Oper} {Q : Exit → Act → World → Prop} {J : (Nat → Bool) → (Nat → Value) → World → Prop} {a0 : Act} (hB : distB ops.toList = true) (hb : backM md ops = true)
    (hend : ∀ done val w', (∀ i, i < ops.size → done i = true) → J done val w' → Q .normal (putD done val ops.toList 0 a0) w') (hstep : KeepsJ P md ops Q J a0) :
    ∀ (fuel : Nat) (listed : Array Bool) (val : Nat → Value) (w' : World), listed.size = ops.size → cntF (fun i => listed.getD i false) ops.size = fuel → J (fun i => listed.getD i false) val w' →
      wpAny P md ops Q fuel listed (putD (fun i => listed.getD i false) val ops.toList 0 a0) w' := by
  intro fuel
  induction fuel with
  | zero =>
    intro listed val w' hs hc hJ
    have hall := cntF_zero _ _ hc
    refine ⟨?_, hend _ _ _ hall hJ⟩
    cases hr : Region.ready md ops listed with
    | nil => rfl
    | cons j r =>
      have hm : j ∈ Region.ready md ops listed := by rw [hr]; simp
      obtain ⟨h1, o, ho, _⟩ := mem_ready.1 hm
      have hj : j < ops.size := by
        rcases Nat.lt_or_ge j ops.size with h | h
        · exact h
        · rw [Array.getElem?_eq_none h] at ho; cases ho
      have h2 := hall j hj
      have : j < listed.size := by omega
      simp [this] at h1 h2
      rw [h1] at h2
      cases h2
  | succ fuel ih =>
    intro listed val w' hs hc hJ
    refine ⟨fun hr => hend _ _ _ (fun i hi => ready_nilM hb hs hr i hi) hJ, fun i hi => ?_⟩
    obtain ⟨h1, o, ho, hdep⟩ := mem_ready.1 hi
    have hj : i < ops.size := by
      rcases Nat.lt_or_ge i ops.size with h | h
      · exact h
      · rw [Array.getElem?_eq_none h] at ho; cases ho
    have hjl : i < listed.size := by omega
    have hd : listed.getD i false = false := by simp [hjl] at h1 ⊢; exact h1
    obtain ⟨hw, hstp⟩ := hstep i o (fun i => listed.getD i false) val w' ho hd hdep hJ
    unfold wpOp
    simp only [ho]
    rw [if_pos hw]
    refine .inl (Oper.wp_mono ?_ hstp)
    rintro a' w'' ⟨v, rfl, hJ'⟩
    have he : (fun j => (listed.setIfInBounds i true).getD j false) = updF (fun j => listed.getD j false) i true := by
      funext j
      unfold updF
      by_cases h : j = i
      · subst h; simp [hjl]
      · rw [if_neg h]
        simp [Ne.symm h]
    have := ih (listed.setIfInBounds i true) (updF val i v) w'' (by simpa using hs) (by
      rw [he]
      have := cntF_upd (fun j => listed.getD j false) i hd ops.size
      rw [if_pos hj] at this
      omega) (by rw [he]; exact hJ')
    rw [he] at this
    have hp := putD_upd (done := fun j => listed.getD j false) (val := val) v ops.toList 0 i a0 o hB (by simpa using ho) (by rw [Nat.zero_add]; exact hd)
    rw [Nat.zero_add] at hp
    rw [hp] at this
    exact this
theorem wp_region_JM {P : Program} {id : Nat} {ops : Array Oper} {Q : Exit → Act → World → Prop} {J : (Nat → Bool) → (Nat → Value) → World → Prop} {a0 : Act} {w : World} (hm : P.follows .mixedOrders = true) (hB : distB ops.toList = true) (hb : backM .any ops = true) (val : Nat → Value)
    (h0 : J (fun _ => false) val w.drew) (hstep : KeepsJ P .any ops Q J a0)
    (hend : ∀ done val w', (∀ i, i < ops.size → done i = true) → J done val w' → Q .normal (putD done val ops.toList 0 a0) w') : (Code.region id ops true).wp P Q a0 w := by
  refine wp_region_any hm ?_
  have he : (fun i => (Array.replicate ops.size false).getD i false) = fun _ => false := by
    funext i
    by_cases h : i < ops.size <;> simp [h]
  have hn : ∀ (l : List Oper) (k : Nat) (a : Act), putD (fun _ => false) val l k a = a := by
    intro l
    induction l with
    | nil => intro k a; rfl
    | cons o l ih => intro k a; simp only [putD]; exact ih _ _
  have := wpAny_JM (P := P) (md := .any) (Q := Q) (J := J) (a0 := a0) hB hb hend hstep ops.size (Array.replicate ops.size false) val w.drew (by simp) (by rw [he]; exact cntF_none _) (by rw [he]; exact h0)
  rw [he, hn] at this
  exact this
/-- What an operation yields: a value; a block of its own; a block that is filled later; nothing: it fills what number b made. -/
inductive Spec where
  | val (v : Value)
  | mk (f : Nat → Value) (t : TypeId) (cs : Array Value)
  | box (st : Nat) (t : TypeId) (z cs : Array Value)
  | fill (b : Nat)
def Spec.mem : Spec → Bool
  | .mk _ _ _ => true
  | .box _ _ _ _ => true
  | _ => false
def Spec.Ok (done : Nat → Bool) (v : Value) (w : World) (g : Nat) : Spec → Prop
  | .val u => v = u
  | .mk f t cs => v = f g ∧ Blk w g t cs
  | .box st t z cs => v = .pointer (some ⟨g, 0, none⟩) ∧ Blk w g t (if done st = true then cs else z)
  | .fill _ => True
/-- Nothing but block g has turned. -/
structure OnlyAt (g : Nat) (w w' : World) : Prop where
  os : w'.os = w.os
  tape : w'.tape = w.tape
  output : w'.output = w.output
  size : w'.heap.size = w.heap.size
  block : ∀ b, b ≠ g → w'.heap[b]? = w.heap[b]?
theorem OnlyAt.refl (g : Nat) (w : World) : OnlyAt g w w := ⟨rfl, rfl, rfl, rfl, fun _ _ => rfl⟩
theorem OnlyAt.setCell {g : Nat} {a w : World} (h : OnlyAt g a w) (o : Nat) (u : Value) : OnlyAt g a (w.setCell ⟨g, o, none⟩ u) :=
  ⟨h.os, h.tape, h.output, by simpa [World.setCell] using h.size, fun b hb => (Below.heap_setCell _ _ _ _ (show b ≠ g from hb)).trans (h.block b hb)⟩
theorem OnlyAt.ext {g : Nat} {W w w' : World} (h : OnlyAt g w w') (hE : Ext W w) (hg : W.heap.size ≤ g) : Ext W w' :=
  ⟨h.os.trans hE.os, h.tape.trans hE.tape, h.output.trans hE.output, by rw [h.size]; exact hE.size, fun b hb => (h.block b (by omega)).trans (hE.block b hb)⟩
def JS (W : World) (n : Nat) (sp : Nat → Spec) (done : Nat → Bool) (val : Nat → Value) (w : World) : Prop :=
  Ext W w ∧ ∃ G : Nat → Nat, (∀ i, i < n → done i = true → (sp i).Ok done (val i) w (G i)) ∧ (∀ i, i < n → done i = true → (sp i).mem = true → W.heap.size ≤ G i ∧ G i < w.heap.size) ∧
    (∀ i j, i < n → j < n → done i = true → done j = true → (sp i).mem = true → (sp j).mem = true → G i = G j → i = j) ∧ (∀ i b, i < n → sp i = .fill b → done i = true → done b = true)
theorem JS.start (W : World) (n : Nat) (sp : Nat → Spec) (val : Nat → Value) : JS W n sp (fun _ => false) val W.drew :=
  ⟨(Ext.refl W).drew, fun _ => 0, fun _ _ h => Bool.noConfusion h, fun _ _ h => Bool.noConfusion h, fun _ _ _ _ h => Bool.noConfusion h, fun _ _ _ _ h => Bool.noConfusion h⟩
def StepOk (P : Program) (Q : Exit → Act → World → Prop) (sp : Nat → Spec) (o : Oper) (a : Act) (w : World) (G : Nat → Nat) : Spec → Prop
  | .val u => Oper.wp P o a w (fun a' w'' => a' = a.put o.dst u ∧ Ext w w'') Q
  | .mk f t cs => Oper.wp P o a w (fun a' w'' => ∃ g, a' = a.put o.dst (f g) ∧ w.heap.size ≤ g ∧ Ext w w'' ∧ Blk w'' g t cs) Q
  | .box _ t z _ => Oper.wp P o a w (fun a' w'' => ∃ g, a' = a.put o.dst (.pointer (some ⟨g, 0, none⟩)) ∧ w.heap.size ≤ g ∧ Ext w w'' ∧ Blk w'' g t z) Q
  | .fill b => match sp b with
    | .box _ t _ cs => Oper.wp P o a w (fun a' w'' => ∃ v, a' = a.put o.dst v ∧ OnlyAt (G b) w w'' ∧ Blk w'' (G b) t cs) Q
    | _ => False
def outB' (ops : Array Oper) (t : Tmp) : Bool := ops.toList.all fun o => o.dst != some t
theorem outB'_spec {ops : Array Oper} {t : Tmp} (h : outB' ops t = true) : ∀ o ∈ ops.toList, o.dst ≠ some t := fun o ho => by
  have := List.all_eq_true.1 h o ho
  simpa using this
theorem wanted_none' {o : Oper} {a : Nat → Option Bool} (h : o.guard = none) : Region.wanted o a = true := by
  unfold Region.wanted; rw [h]
theorem Spec.Ok.mono {sp : Spec} {done done' : Nat → Bool} {v : Value} {w w' : World} {g : Nat} (h : sp.Ok done v w g) (hd : ∀ st t z cs, sp = .box st t z cs → done' st = done st) (hw : sp.mem = true → w'.heap[g]? = w.heap[g]?) : sp.Ok done' v w' g := by
  cases sp with
  | val u => exact h
  | mk f t cs => exact ⟨h.1, (hw rfl).trans h.2⟩
  | box st t z cs =>
    refine ⟨h.1, ?_⟩
    rw [hd st t z cs rfl]
    exact (hw rfl).trans h.2
  | fill b => trivial
theorem Spec.Ok.lt {sp : Spec} {done : Nat → Bool} {v : Value} {w : World} {g : Nat} (h : sp.Ok done v w g) (hm : sp.mem = true) : g < w.heap.size := by
  cases sp with
  | val u => cases hm
  | mk f t cs => exact h.2.lt
  | box st t z cs => exact h.2.lt
  | fill b => cases hm

theorem JS.keeps {P : Program} {ops : Array Oper} {Q : Exit → Act → World → Prop} {a0 : Act} {W : World} {sp : Nat → Spec} (hB : distB ops.toList = true)
    (hfill : ∀ i b, i < ops.size → sp i = .fill b → b < ops.size ∧ (∃ t z cs, sp b = .box i t z cs) ∧ ∃ o, ops[i]? = some o ∧ ∃ e ∈ o.after, Region.binds .any e = true ∧ e.on = b)
    (hbox : ∀ b st t z cs, b < ops.size → sp b = .box st t z cs → st < ops.size ∧ sp st = .fill b)
    (hst : ∀ i, i < ops.size → ∃ o, ops[i]? = some o ∧ o.guard = none ∧ ∀ (a : Act) (w : World) (done : Nat → Bool) (val : Nat → Value) (G : Nat → Nat), done i = false →
      (∀ e ∈ o.after, Region.binds .any e = true → done e.on = true) → (∀ j oj d, ops[j]? = some oj → oj.dst = some d → d < a0.tmps.size → done j = true → a.eval (.tmp d) = val j) →
      (∀ t, outB' ops t = true → a.eval (.tmp t) = a0.eval (.tmp t)) → Ext W w → (∀ j, j < ops.size → done j = true → (sp j).Ok done (val j) w (G j)) → StepOk P Q sp o a w G (sp i)) :
    KeepsJ P .any ops Q (JS W ops.size sp) a0 := by
  intro i o done val w' ho hdn hdep hJ
  have hi : i < ops.size := by
    rcases Nat.lt_or_ge i ops.size with h | h
    · exact h
    · rw [Array.getElem?_eq_none h] at ho; cases ho
  obtain ⟨hE, G, hok, hge, hinj, hfd⟩ := hJ
  obtain ⟨o', ho', hg, hstep⟩ := hst i hi
  rw [ho] at ho'
  cases ho'
  refine ⟨wanted_none' hg, ?_⟩
  have hs := hstep (putD done val ops.toList 0 a0) w' done val G hdn hdep (fun j oj d h1 h2 h3 h4 => by
    have := eval_putD (done := done) (val := val) ops.toList 0 j a0 oj d hB (by simpa using h1) h2 (by rw [Nat.zero_add]; exact h4) h3
    rw [Nat.zero_add] at this
    exact this) (fun t ht => eval_putD_out _ _ _ _ (outB'_spec ht)) hE hok
  generalize putD done val ops.toList 0 a0 = a at hs ⊢
  have hnst : ∀ j st t z cs, j < ops.size → sp j = .box st t z cs → (∀ b, sp i = .fill b → b ≠ j) → updF done i true st = done st := fun j st t z cs hj hs hb => by
    refine updF_ne _ _ fun e => ?_
    obtain ⟨_, h2⟩ := hbox j st t z cs hj hs
    exact hb j (e ▸ h2) rfl
  have hpast : ∀ j, done j = true → j ≠ i := fun j h e => by subst e; rw [hdn] at h; cases h
  have hfd' : ∀ j b, j < ops.size → sp j = .fill b → updF done i true j = true → (i = j → done b = true) → updF done i true b = true := fun j b hj hs hd hq => by
    by_cases hb : b = i
    · subst hb; exact updF_same _ _ _
    · rw [updF_ne _ _ hb]
      by_cases e : j = i
      · exact hq e.symm
      · rw [updF_ne _ _ e] at hd
        exact hfd j b hj hs hd
  cases hsp : sp i with
  | val u =>
    rw [hsp] at hs
    refine Oper.wp_mono ?_ hs
    rintro a' w'' ⟨ha, he⟩
    refine ⟨u, ha, hE.trans he, G, fun j hj hd => ?_, fun j hj hd hm => ?_, fun j k hj hk hd hd' hm hm' h => ?_, fun j b hj hs hd => hfd' j b hj hs hd fun e => by subst e; rw [hsp] at hs; cases hs⟩
    · by_cases e : j = i
      · subst e
        rw [hsp, updF_same]
        exact rfl
      · rw [updF_ne _ _ e] at hd ⊢
        refine (hok j hj hd).mono (fun st t z cs h => hnst j st t z cs hj h fun b hb => by rw [hsp] at hb; cases hb) fun hm => he.block _ ((hge j hj hd hm).2)
    · have e : j ≠ i := fun e => by subst e; rw [hsp] at hm; cases hm
      rw [updF_ne _ _ e] at hd
      have := hge j hj hd hm
      exact ⟨this.1, Nat.lt_of_lt_of_le this.2 he.size⟩
    · have e : j ≠ i := fun e => by subst e; rw [hsp] at hm; cases hm
      have e' : k ≠ i := fun e => by subst e; rw [hsp] at hm'; cases hm'
      rw [updF_ne _ _ e] at hd
      rw [updF_ne _ _ e'] at hd'
      exact hinj j k hj hk hd hd' hm hm' h
  | mk f t cs =>
    rw [hsp] at hs
    refine Oper.wp_mono ?_ hs
    rintro a' w'' ⟨g, ha, hgs, he, hB⟩
    refine ⟨f g, ha, hE.trans he, updF G i g, fun j hj hd => ?_, fun j hj hd hm => ?_, fun j k hj hk hd hd' hm hm' h => ?_, fun j b hj hs hd => hfd' j b hj hs hd fun e => by subst e; rw [hsp] at hs; cases hs⟩
    · by_cases e : j = i
      · subst e
        rw [hsp, updF_same, updF_same]
        exact ⟨rfl, hB⟩
      · rw [updF_ne _ _ e] at hd ⊢
        rw [updF_ne _ _ e]
        refine (hok j hj hd).mono (fun st t z cs h => hnst j st t z cs hj h fun b hb => by rw [hsp] at hb; cases hb) fun hm => he.block _ ((hge j hj hd hm).2)
    · by_cases e : j = i
      · subst e
        rw [updF_same]
        exact ⟨Nat.le_trans hE.size hgs, hB.lt⟩
      · rw [updF_ne _ _ e] at hd ⊢
        have := hge j hj hd hm
        exact ⟨this.1, Nat.lt_of_lt_of_le this.2 he.size⟩
    · by_cases e : j = i <;> by_cases e' : k = i
      · rw [e, e']
      · exfalso
        subst e
        rw [updF_ne _ _ e'] at hd'
        rw [updF_same, updF_ne _ _ e'] at h
        have := (hge k hk hd' hm').2
        omega
      · exfalso
        subst e'
        rw [updF_ne _ _ e] at hd
        rw [updF_same, updF_ne _ _ e] at h
        have := (hge j hj hd hm).2
        omega
      · rw [updF_ne _ _ e] at hd
        rw [updF_ne _ _ e'] at hd'
        rw [updF_ne _ _ e, updF_ne _ _ e'] at h
        exact hinj j k hj hk hd hd' hm hm' h
  | box st t z cs =>
    rw [hsp] at hs
    refine Oper.wp_mono ?_ hs
    rintro a' w'' ⟨g, ha, hgs, he, hB⟩
    obtain ⟨hst1, hst2⟩ := hbox i st t z cs hi hsp
    refine ⟨_, ha, hE.trans he, updF G i g, fun j hj hd => ?_, fun j hj hd hm => ?_, fun j k hj hk hd hd' hm hm' h => ?_, fun j b hj hs hd => hfd' j b hj hs hd fun e => by subst e; rw [hsp] at hs; cases hs⟩
    · by_cases e : j = i
      · subst e
        rw [hsp, updF_same, updF_same]
        refine ⟨rfl, ?_⟩
        have hne : st ≠ j := fun e => by subst e; rw [hsp] at hst2; cases hst2
        rw [updF_ne _ _ hne]
        have hns : ¬ done st = true := fun h => by
          have := hfd st j hst1 hst2 h
          rw [hdn] at this
          cases this
        rw [if_neg hns]
        exact hB
      · rw [updF_ne _ _ e] at hd ⊢
        rw [updF_ne _ _ e]
        refine (hok j hj hd).mono (fun st t z cs h => hnst j st t z cs hj h fun b hb => by rw [hsp] at hb; cases hb) fun hm => he.block _ ((hge j hj hd hm).2)
    · by_cases e : j = i
      · subst e
        rw [updF_same]
        exact ⟨Nat.le_trans hE.size hgs, hB.lt⟩
      · rw [updF_ne _ _ e] at hd ⊢
        have := hge j hj hd hm
        exact ⟨this.1, Nat.lt_of_lt_of_le this.2 he.size⟩
    · by_cases e : j = i <;> by_cases e' : k = i
      · rw [e, e']
      · exfalso
        subst e
        rw [updF_ne _ _ e'] at hd'
        rw [updF_same, updF_ne _ _ e'] at h
        have := (hge k hk hd' hm').2
        omega
      · exfalso
        subst e'
        rw [updF_ne _ _ e] at hd
        rw [updF_same, updF_ne _ _ e] at h
        have := (hge j hj hd hm).2
        omega
      · rw [updF_ne _ _ e] at hd
        rw [updF_ne _ _ e'] at hd'
        rw [updF_ne _ _ e, updF_ne _ _ e'] at h
        exact hinj j k hj hk hd hd' hm hm' h
  | fill b =>
    obtain ⟨hb, ⟨t, z, cs, hbx⟩, oi, hoi, e, hea, hbi, hon⟩ := hfill i b hi hsp
    rw [ho] at hoi
    cases hoi
    have hdb : done b = true := hon ▸ hdep e hea hbi
    rw [hsp] at hs
    simp only [StepOk, hbx] at hs
    refine Oper.wp_mono ?_ hs
    rintro a' w'' ⟨v, ha, hon', hB⟩
    have hmb : (sp b).mem = true := by rw [hbx]; rfl
    have hgb := hge b hb hdb hmb
    refine ⟨v, ha, hon'.ext hE hgb.1, G, fun j hj hd => ?_, fun j hj hd hm => ?_, fun j k hj hk hd hd' hm hm' h => ?_, fun j b' hj hs hd => hfd' j b' hj hs hd fun e => by
      subst e
      rw [hsp] at hs
      injection hs with hs
      subst hs
      exact hdb⟩
    · by_cases e : j = i
      · subst e
        rw [hsp]
        trivial
      · rw [updF_ne _ _ e] at hd ⊢
        by_cases ejb : j = b
        · subst ejb
          have h1 := hok j hj hd
          rw [hbx] at h1 ⊢
          refine ⟨h1.1, ?_⟩
          rw [updF_same, if_pos rfl]
          exact hB
        · refine (hok j hj hd).mono (fun st t z cs h => hnst j st t z cs hj h fun b' hb' => by rw [hsp] at hb'; injection hb' with hb'; rw [← hb']; exact fun e => ejb e.symm) fun hm => hon'.block _ fun hG => ejb (hinj j b hj hb hd hdb hm hmb hG)
    · have e : j ≠ i := fun e => by subst e; rw [hsp] at hm; cases hm
      rw [updF_ne _ _ e] at hd
      have := hge j hj hd hm
      exact ⟨this.1, by rw [hon'.size]; exact this.2⟩
    · have e : j ≠ i := fun e => by subst e; rw [hsp] at hm; cases hm
      have e' : k ≠ i := fun e => by subst e; rw [hsp] at hm'; cases hm'
      rw [updF_ne _ _ e] at hd
      rw [updF_ne _ _ e'] at hd'
      exact hinj j k hj hk hd hd' hm hm' h
/-- Steps by their runs. -/
theorem step_val {P : Program} {Q : Exit → Act → World → Prop} {o : Oper} {a : Act} {w w'' : World} {u : Value} (h : (execOp a.eval o).run P w = .ok (.value u) w'') (he : Ext w w'') : Oper.wp P o a w (fun a' w'' => a' = a.put o.dst u ∧ Ext w w'') Q := by
  unfold Oper.wp
  rw [h]
  exact ⟨rfl, he⟩
theorem step_mk {P : Program} {Q : Exit → Act → World → Prop} {o : Oper} {a : Act} {w w'' : World} {g : Nat} {v : Value} {t : TypeId} {cs : Array Value} (h : (execOp a.eval o).run P w = .ok (.value v) w'') (hg : w.heap.size ≤ g) (he : Ext w w'') (hB : Blk w'' g t cs) (f : Nat → Value) (hv : v = f g) :
    Oper.wp P o a w (fun a' w'' => ∃ g, a' = a.put o.dst (f g) ∧ w.heap.size ≤ g ∧ Ext w w'' ∧ Blk w'' g t cs) Q := by
  unfold Oper.wp
  rw [h, hv]
  exact ⟨g, rfl, hg, he, hB⟩
theorem step_fill {P : Program} {Q : Exit → Act → World → Prop} {o : Oper} {a : Act} {w w'' : World} {g : Nat} {t : TypeId} {cs : Array Value} (h : (execOp a.eval o).run P w = .ok .skip w'') (hd : o.dst = none) (hn : OnlyAt g w w'') (hB : Blk w'' g t cs) :
    Oper.wp P o a w (fun a' w'' => ∃ v, a' = a.put o.dst v ∧ OnlyAt g w w'' ∧ Blk w'' g t cs) Q := by
  unfold Oper.wp
  rw [h]
  exact ⟨undef, by rw [hd], hn, hB⟩
theorem step_go {P : Program} {Q : Exit → Act → World → Prop} {o : Oper} {a : Act} {w : World} {u : Value} (f : FuncId) {fn : Func} (xs : Array Operand) (ts : Array TypeId)
    (hop : o.op = Op.call { callee := Callee.value (Operand.func f), args := xs, argTypes := ts }) (hf : P.funcs[f]? = some fn) (hname : (fn.name == "runtime.NumGoroutine") = false) (hb : fn.body.isNone = false) (vs : Array Value) (hx : xs.map a.eval = vs)
    (hc : Calls P f vs w fun e w' => e = .returned u ∧ Ext w w') : Oper.wp P o a w (fun a' w'' => a' = a.put o.dst u ∧ Ext w w'') Q := by
  unfold Oper.wp
  have h1 : fn.name ≠ "runtime.NumGoroutine" := by simpa using hname
  have hev : a.eval (Operand.func f) = .func (.func f) #[] #[] := rfl
  have h2 : ¬ (fn.body = none) := by intro h; simp [h] at hb
  have hrun : (execOp a.eval o).run P w = .ok (.enter f vs) w := by
    simp [execOp, hop, resolve, hev, Deferred.ofValue, invoke, hx, callFunc, hf, h1, h2]
  rw [hrun, Oper.upon_enter]
  exact hc.mono fun e w' h => by obtain ⟨rfl, hE⟩ := h; exact ⟨rfl, hE⟩

/-- What an operation yields: a value; a block of its own; a block that is filled later; nothing: it fills what number b made; something of which R holds, in blocks of its own from lo up to hi. -/
inductive Wd where
  | val (v : Value)
  | mk (f : Nat → Value) (t : TypeId) (cs : Array Value)
  | box (st : Nat) (t : TypeId) (z : Array Value) (cs : (Nat → Value) → Array Value)
  | fill (b : Nat)
  | any (R : Nat → Nat → Value → World → Prop)
def Wd.mem : Wd → Bool
  | .mk _ _ _ => true
  | .box _ _ _ _ => true
  | .any _ => true
  | _ => false
def Wd.Ok (done : Nat → Bool) (val : Nat → Value) (v : Value) (w : World) (g h : Nat) : Wd → Prop
  | .val u => v = u
  | .mk f t cs => (v = f g ∧ Blk w g t cs) ∧ h = g + 1
  | .box st t z cs => (v = .pointer (some ⟨g, 0, none⟩) ∧ Blk w g t (if done st = true then cs val else z)) ∧ h = g + 1
  | .fill _ => True
  | .any R => R g h v w
/-- What stays while nothing but other blocks turns. -/
def Stays (W : World) (R : Nat → Nat → Value → World → Prop) : Prop :=
  ∀ lo hi v w w', R lo hi v w → (∀ b, b < W.heap.size ∨ (lo ≤ b ∧ b < hi) → w'.heap[b]? = w.heap[b]?) → w.heap.size ≤ w'.heap.size → R lo hi v w'
def JW (W : World) (n : Nat) (sp : Nat → Wd) (done : Nat → Bool) (val : Nat → Value) (w : World) : Prop :=
  Ext W w ∧ ∃ G H : Nat → Nat, (∀ i, i < n → done i = true → (sp i).Ok done val (val i) w (G i) (H i)) ∧ (∀ i, i < n → done i = true → (sp i).mem = true → W.heap.size ≤ G i ∧ G i ≤ H i ∧ H i ≤ w.heap.size) ∧
    (∀ i j, i < n → j < n → i ≠ j → done i = true → done j = true → (sp i).mem = true → (sp j).mem = true → H i ≤ G j ∨ H j ≤ G i) ∧ (∀ i b, i < n → sp i = .fill b → done i = true → done b = true)
theorem JW.start (W : World) (n : Nat) (sp : Nat → Wd) (val : Nat → Value) : JW W n sp (fun _ => false) val W.drew :=
  ⟨(Ext.refl W).drew, fun _ => 0, fun _ => 0, fun _ _ h => Bool.noConfusion h, fun _ _ h => Bool.noConfusion h, fun _ _ _ _ _ h => Bool.noConfusion h, fun _ _ _ _ h => Bool.noConfusion h⟩
def StepW (P : Program) (Q : Exit → Act → World → Prop) (sp : Nat → Wd) (o : Oper) (a : Act) (w : World) (G : Nat → Nat) (val : Nat → Value) : Wd → Prop
  | .val u => Oper.wp P o a w (fun a' w'' => a' = a.put o.dst u ∧ Ext w w'') Q
  | .mk f t cs => Oper.wp P o a w (fun a' w'' => ∃ g, a' = a.put o.dst (f g) ∧ w.heap.size ≤ g ∧ Ext w w'' ∧ Blk w'' g t cs) Q
  | .box _ t z _ => Oper.wp P o a w (fun a' w'' => ∃ g, a' = a.put o.dst (.pointer (some ⟨g, 0, none⟩)) ∧ w.heap.size ≤ g ∧ Ext w w'' ∧ Blk w'' g t z) Q
  | .fill b => match sp b with
    | .box _ t _ cs => Oper.wp P o a w (fun a' w'' => ∃ v, a' = a.put o.dst v ∧ OnlyAt (G b) w w'' ∧ Blk w'' (G b) t (cs val)) Q
    | _ => False
  | .any R => Oper.wp P o a w (fun a' w'' => ∃ v, a' = a.put o.dst v ∧ Ext w w'' ∧ R w.heap.size w''.heap.size v w'') Q
theorem Wd.Ok.mono {W : World} {sp : Wd} (hR : ∀ R, sp = .any R → Stays W R) {done done' : Nat → Bool} {val val' : Nat → Value} {v : Value} {w w' : World} {g h : Nat} (hk : sp.Ok done val v w g h) (hd : ∀ st t z cs, sp = .box st t z cs → done' st = done st ∧ (done st = true → cs val' = cs val))
    (hw : sp.mem = true → ∀ b, b < W.heap.size ∨ (g ≤ b ∧ b < h) → w'.heap[b]? = w.heap[b]?) (hs : w.heap.size ≤ w'.heap.size) : sp.Ok done' val' v w' g h := by
  cases sp with
  | val u => exact hk
  | mk f t cs => exact ⟨⟨hk.1.1, (hw rfl g (.inr ⟨Nat.le_refl _, by have := hk.2; omega⟩)).trans hk.1.2⟩, hk.2⟩
  | box st t z cs =>
    refine ⟨⟨hk.1.1, ?_⟩, hk.2⟩
    obtain ⟨h1, h2⟩ := hd st t z cs rfl
    rw [h1]
    have := hk.1.2
    have hb : Blk w' g t (if done st = true then cs val else z) := (hw rfl g (.inr ⟨Nat.le_refl _, by have := hk.2; omega⟩)).trans this
    by_cases e : done st = true
    · rw [if_pos e] at hb ⊢
      rw [h2 e]
      exact hb
    · rw [if_neg e] at hb ⊢
      exact hb
  | fill b => trivial
  | any R => exact hR R rfl g h v w w' hk (hw rfl) hs

/-- The same, and that what is done has all done that it waits for. -/
def JV (W : World) (ops : Array Oper) (sp : Nat → Wd) (done : Nat → Bool) (val : Nat → Value) (w : World) : Prop :=
  JW W ops.size sp done val w ∧ ∀ i o, ops[i]? = some o → done i = true → ∀ e ∈ o.after, Region.binds .any e = true → done e.on = true
theorem JV.start (W : World) (ops : Array Oper) (sp : Nat → Wd) (val : Nat → Value) : JV W ops sp (fun _ => false) val W.drew := ⟨JW.start _ _ _ _, fun _ _ _ h => Bool.noConfusion h⟩
/-- An operation that is not skipped: it bears no guard, or its guard's word is what it wants. -/
def GuardOk (ops : Array Oper) (sp : Nat → Wd) (n m : Nat) (o : Oper) : Prop :=
  o.guard = none ∨ ∃ j want oj d, o.guard = some (j, want) ∧ ops[j]? = some oj ∧ oj.dst = some d ∧ d < m ∧ j < n ∧ sp j = .val (.bool want) ∧ o.after.any (fun e => Region.binds .any e && e.on == j) = true
theorem GuardOk.wanted {ops : Array Oper} {sp : Nat → Wd} {n : Nat} {a0 : Act} {o : Oper} {done : Nat → Bool} {val : Nat → Value} {w : World} {G H : Nat → Nat} (hB : distB ops.toList = true) (h : GuardOk ops sp n a0.tmps.size o)
    (hdep : ∀ e ∈ o.after, Region.binds .any e = true → done e.on = true) (hok : ∀ j, j < n → done j = true → (sp j).Ok done val (val j) w (G j) (H j)) :
    Region.wanted o (yielded ops (putD done val ops.toList 0 a0).tmps) = true := by
  rcases h with h | ⟨j, want, oj, d, h1, h2, h3, h4, h5, h6, h7⟩
  · exact wanted_none' h
  · obtain ⟨e, he, heb⟩ := Array.any_eq_true'.1 h7
    obtain ⟨hb1, hb2⟩ := (Bool.and_eq_true _ _).mp heb
    have hj : done j = true := by
      have := hdep e he hb1
      rwa [show e.on = j by simpa using hb2] at this
    have hv := hok j h5 hj
    rw [h6] at hv
    replace hv : val j = .bool want := hv
    have hev := eval_putD (done := done) (val := val) ops.toList 0 j a0 oj d hB (by simpa using h2) h3 (by rw [Nat.zero_add]; exact hj) h4
    rw [Nat.zero_add, hv] at hev
    have hsz : d < (putD done val ops.toList 0 a0).tmps.size := by rw [putD_size]; exact h4
    have hy : yielded ops (putD done val ops.toList 0 a0).tmps j = some want := by
      generalize putD done val ops.toList 0 a0 = a at hev hsz ⊢
      have hg : a.tmps[d]? = some (.bool want) := by
        simp [Act.eval, hsz] at hev
        rw [Array.getElem?_eq_getElem hsz, hev]
      simp [yielded, h2, h3, hg]
    simp [Region.wanted, h1, hy]
theorem JW.keepsG {P : Program} {ops : Array Oper} {Q : Exit → Act → World → Prop} {a0 : Act} {W : World} {sp : Nat → Wd} (hB : distB ops.toList = true)
    (hany : ∀ i R, i < ops.size → sp i = .any R → Stays W R)
    (hfill : ∀ i b, i < ops.size → sp i = .fill b → b < ops.size ∧ (∃ t z cs, sp b = .box i t z cs) ∧ ∃ o, ops[i]? = some o ∧ ∃ e ∈ o.after, Region.binds .any e = true ∧ e.on = b)
    (hbox : ∀ b st t z cs, b < ops.size → sp b = .box st t z cs → st < ops.size ∧ sp st = .fill b ∧ ∀ (i : Nat) (val : Nat → Value) (v : Value) (done : Nat → Bool), i < ops.size → done i = false → (∀ o, ops[st]? = some o → done st = true → ∀ e ∈ o.after, Region.binds .any e = true → done e.on = true) → done st = true → cs (updF val i v) = cs val)
    (hst : ∀ i, i < ops.size → ∃ o, ops[i]? = some o ∧ GuardOk ops sp ops.size a0.tmps.size o ∧ ∀ (a : Act) (w : World) (done : Nat → Bool) (val : Nat → Value) (G H : Nat → Nat), done i = false →
      (∀ e ∈ o.after, Region.binds .any e = true → done e.on = true) → (∀ j oj d, ops[j]? = some oj → oj.dst = some d → d < a0.tmps.size → done j = true → a.eval (.tmp d) = val j) →
      (∀ t, outB' ops t = true → a.eval (.tmp t) = a0.eval (.tmp t)) → Ext W w → (∀ j, j < ops.size → done j = true → (sp j).Ok done val (val j) w (G j) (H j)) →
      (∀ j, j < ops.size → done j = true → (sp j).mem = true → W.heap.size ≤ G j ∧ G j ≤ H j ∧ H j ≤ w.heap.size) →
      (∀ v b, sp i = .fill b → ∀ t z cs, sp b = .box i t z cs → cs (updF val i v) = cs val) ∧ StepW P Q sp o a w G val (sp i)) :
    KeepsJ P .any ops Q (JV W ops sp) a0 := by
  intro i o done val w' ho hdn hdep ⟨hJ, hdw⟩
  have hi : i < ops.size := by
    rcases Nat.lt_or_ge i ops.size with h | h
    · exact h
    · rw [Array.getElem?_eq_none h] at ho; cases ho
  obtain ⟨hE, G, H, hok, hge, hdis, hfd⟩ := hJ
  obtain ⟨o', ho', hg, hstep⟩ := hst i hi
  rw [ho] at ho'
  cases ho'
  refine ⟨hg.wanted hB hdep hok, ?_⟩
  obtain ⟨hcs, hs⟩ := hstep (putD done val ops.toList 0 a0) w' done val G H hdn hdep (fun j oj d h1 h2 h3 h4 => by
    have := eval_putD (done := done) (val := val) ops.toList 0 j a0 oj d hB (by simpa using h1) h2 (by rw [Nat.zero_add]; exact h4) h3
    rw [Nat.zero_add] at this
    exact this) (fun t ht => eval_putD_out _ _ _ _ (outB'_spec ht)) hE hok hge
  generalize putD done val ops.toList 0 a0 = a at hs ⊢
  have hdw' : ∀ j oj, ops[j]? = some oj → updF done i true j = true → ∀ e ∈ oj.after, Region.binds .any e = true → updF done i true e.on = true := fun j oj hj hd e he hb => by
    by_cases hji : j = i
    · subst hji
      rw [ho] at hj
      cases hj
      have := hdep e he hb
      by_cases h : e.on = j
      · rw [h, updF_same]
      · rw [updF_ne _ _ h]; exact this
    · rw [updF_ne _ _ hji] at hd
      have := hdw j oj hj hd e he hb
      by_cases h : e.on = i
      · rw [h, updF_same]
      · rw [updF_ne _ _ h]; exact this
  have hnst : ∀ (v : Value) j st t z cs, j < ops.size → sp j = .box st t z cs → (∀ b, sp i = .fill b → b ≠ j) → updF done i true st = done st ∧ (done st = true → cs (updF val i v) = cs val) := fun v j st t z cs hj hs hb => by
    obtain ⟨_, h2, h3⟩ := hbox j st t z cs hj hs
    exact ⟨updF_ne _ _ fun e => hb j (e ▸ h2) rfl, fun hd => h3 i val v done hi hdn (fun o ho hd => hdw st o ho hd) hd⟩
  have hpast : ∀ j, done j = true → j ≠ i := fun j h e => by subst e; rw [hdn] at h; cases h
  have hfd' : ∀ j b, j < ops.size → sp j = .fill b → updF done i true j = true → (i = j → done b = true) → updF done i true b = true := fun j b hj hs hd hq => by
    by_cases hb : b = i
    · subst hb; exact updF_same _ _ _
    · rw [updF_ne _ _ hb]
      by_cases e : j = i
      · exact hq e.symm
      · rw [updF_ne _ _ e] at hd
        exact hfd j b hj hs hd
  -- one step that makes the blocks [g, h) and turns nothing old
  have made : ∀ (v : Value) (g h : Nat) (w'' : World), (∀ b, sp i ≠ .fill b) → Ext w' w'' → ((sp i).mem = true → w'.heap.size ≤ g ∧ g ≤ h ∧ h ≤ w''.heap.size) → (sp i).Ok (updF done i true) (updF val i v) v w'' g h → JW W ops.size sp (updF done i true) (updF val i v) w'' := by
    intro v g h w'' hnf he hgh hnew
    refine ⟨hE.trans he, updF G i g, updF H i h, fun j hj hd => ?_, fun j hj hd hm => ?_, fun j k hj hk hne hd hd' hm hm' => ?_, fun j b hj hs hd => hfd' j b hj hs hd fun e => absurd (e ▸ hs) (hnf b)⟩
    · by_cases e : j = i
      · subst e
        rw [updF_same, updF_same, updF_same]
        exact hnew
      · rw [updF_ne _ _ e] at hd
        rw [updF_ne _ _ e, updF_ne _ _ e, updF_ne _ _ e]
        refine (hok j hj hd).mono (hany j · hj) (fun st t z cs h => hnst v j st t z cs hj h fun b hb => absurd hb (hnf b)) (fun hm b hb => ?_) he.size
        have := hge j hj hd hm
        have := hE.size
        exact he.block b (by omega)
    · by_cases e : j = i
      · subst e
        rw [updF_same, updF_same]
        have := hgh hm
        have := hE.size
        omega
      · rw [updF_ne _ _ e] at hd
        rw [updF_ne _ _ e, updF_ne _ _ e]
        have := hge j hj hd hm
        have := he.size
        omega
    · by_cases e : j = i
      · have e' : k ≠ i := fun x => hne (e.trans x.symm)
        rw [updF_ne _ _ e'] at hd'
        rw [e, updF_same, updF_same, updF_ne _ _ e', updF_ne _ _ e']
        have := hgh (e ▸ hm)
        have := hge k hk hd' hm'
        omega
      · rw [updF_ne _ _ e] at hd
        rw [updF_ne _ _ e, updF_ne _ _ e]
        by_cases e' : k = i
        · rw [e', updF_same, updF_same]
          have := hgh (e' ▸ hm')
          have := hge j hj hd hm
          omega
        · rw [updF_ne _ _ e'] at hd'
          rw [updF_ne _ _ e', updF_ne _ _ e']
          exact hdis j k hj hk hne hd hd' hm hm'
  cases hsp : sp i with
  | val u =>
    rw [hsp] at hs
    refine Oper.wp_mono ?_ hs
    rintro a' w'' ⟨ha, he⟩
    exact ⟨u, ha, made u 0 0 w'' (fun b h => by rw [hsp] at h; cases h) he (fun h => by rw [hsp] at h; cases h) (by rw [hsp]; exact rfl), hdw'⟩
  | mk f t cs =>
    rw [hsp] at hs
    refine Oper.wp_mono ?_ hs
    rintro a' w'' ⟨g, ha, hgs, he, hB⟩
    exact ⟨f g, ha, made (f g) g (g + 1) w'' (fun b h => by rw [hsp] at h; cases h) he (fun _ => ⟨hgs, by omega, hB.lt⟩) (by rw [hsp]; exact ⟨⟨rfl, hB⟩, rfl⟩), hdw'⟩
  | box st t z cs =>
    rw [hsp] at hs
    refine Oper.wp_mono ?_ hs
    rintro a' w'' ⟨g, ha, hgs, he, hB⟩
    obtain ⟨hst1, hst2, _⟩ := hbox i st t z cs hi hsp
    refine ⟨_, ha, made _ g (g + 1) w'' (fun b h => by rw [hsp] at h; cases h) he (fun _ => ⟨hgs, by omega, hB.lt⟩) ?_, hdw'⟩
    rw [hsp]
    refine ⟨⟨rfl, ?_⟩, rfl⟩
    have hne : st ≠ i := fun e => by subst e; rw [hsp] at hst2; cases hst2
    rw [updF_ne _ _ hne]
    have hns : ¬ done st = true := fun h => by
      have := hfd st i hst1 hst2 h
      rw [hdn] at this
      cases this
    rw [if_neg hns]
    exact hB
  | any R =>
    rw [hsp] at hs
    refine Oper.wp_mono ?_ hs
    rintro a' w'' ⟨v, ha, he, hR⟩
    exact ⟨v, ha, made v w'.heap.size w''.heap.size w'' (fun b h => by rw [hsp] at h; cases h) he (fun _ => ⟨Nat.le_refl _, he.size, Nat.le_refl _⟩) (by rw [hsp]; exact hR), hdw'⟩
  | fill b =>
    obtain ⟨hb, ⟨t, z, cs, hbx⟩, oi, hoi, e, hea, hbi, hon⟩ := hfill i b hi hsp
    rw [ho] at hoi
    cases hoi
    have hdb : done b = true := hon ▸ hdep e hea hbi
    rw [hsp] at hs
    simp only [StepW, hbx] at hs
    refine Oper.wp_mono ?_ hs
    rintro a' w'' ⟨v, ha, hon', hB⟩
    have hmb : (sp b).mem = true := by rw [hbx]; rfl
    have hgb := hge b hb hdb hmb
    have hgb1 : H b = G b + 1 := by have := hok b hb hdb; rw [hbx] at this; exact this.2
    refine ⟨v, ha, ⟨hon'.ext hE hgb.1, G, H, fun j hj hd => ?_, fun j hj hd hm => ?_, fun j k hj hk hne hd hd' hm hm' => ?_, fun j b' hj hs hd => hfd' j b' hj hs hd fun e => by
      subst e
      rw [hsp] at hs
      injection hs with hs
      subst hs
      exact hdb⟩, hdw'⟩
    · by_cases e : j = i
      · subst e
        rw [hsp]
        trivial
      · rw [updF_ne _ _ e] at hd ⊢
        by_cases ejb : j = b
        · subst ejb
          have h1 := hok j hj hd
          rw [hbx] at h1 ⊢
          refine ⟨⟨h1.1.1, ?_⟩, h1.2⟩
          rw [updF_same, if_pos rfl, hcs v j hsp t z cs hbx]
          exact hB
        · refine (hok j hj hd).mono (hany j · hj) (fun st t z cs h => hnst v j st t z cs hj h fun b' hb' => by rw [hsp] at hb'; injection hb' with hb'; rw [← hb']; exact fun e => ejb e.symm) (fun hm c hc => hon'.block _ ?_) (Nat.le_of_eq hon'.size.symm)
          have h1 := hdis j b hj hb ejb hd hdb hm hmb
          omega
    · have e : j ≠ i := fun e => by subst e; rw [hsp] at hm; cases hm
      rw [updF_ne _ _ e] at hd
      have := hge j hj hd hm
      rw [hon'.size]
      exact this
    · have e : j ≠ i := fun e => by subst e; rw [hsp] at hm; cases hm
      have e' : k ≠ i := fun e => by subst e; rw [hsp] at hm'; cases hm'
      rw [updF_ne _ _ e] at hd
      rw [updF_ne _ _ e'] at hd'
      exact hdis j k hj hk hne hd hd' hm hm'

theorem JW.keeps {P : Program} {ops : Array Oper} {Q : Exit → Act → World → Prop} {a0 : Act} {W : World} {sp : Nat → Wd} (hB : distB ops.toList = true)
    (hany : ∀ i R, i < ops.size → sp i = .any R → Stays W R)
    (hfill : ∀ i b, i < ops.size → sp i = .fill b → b < ops.size ∧ (∃ t z cs, sp b = .box i t z cs) ∧ ∃ o, ops[i]? = some o ∧ ∃ e ∈ o.after, Region.binds .any e = true ∧ e.on = b)
    (hbox : ∀ b st t z cs, b < ops.size → sp b = .box st t z cs → st < ops.size ∧ sp st = .fill b ∧ ∀ (i : Nat) (val : Nat → Value) (v : Value) (done : Nat → Bool), i < ops.size → done i = false → (∀ o, ops[st]? = some o → done st = true → ∀ e ∈ o.after, Region.binds .any e = true → done e.on = true) → done st = true → cs (updF val i v) = cs val)
    (hst : ∀ i, i < ops.size → ∃ o, ops[i]? = some o ∧ o.guard = none ∧ ∀ (a : Act) (w : World) (done : Nat → Bool) (val : Nat → Value) (G H : Nat → Nat), done i = false →
      (∀ e ∈ o.after, Region.binds .any e = true → done e.on = true) → (∀ j oj d, ops[j]? = some oj → oj.dst = some d → d < a0.tmps.size → done j = true → a.eval (.tmp d) = val j) →
      (∀ t, outB' ops t = true → a.eval (.tmp t) = a0.eval (.tmp t)) → Ext W w → (∀ j, j < ops.size → done j = true → (sp j).Ok done val (val j) w (G j) (H j)) →
      (∀ j, j < ops.size → done j = true → (sp j).mem = true → W.heap.size ≤ G j ∧ G j ≤ H j ∧ H j ≤ w.heap.size) →
      (∀ v b, sp i = .fill b → ∀ t z cs, sp b = .box i t z cs → cs (updF val i v) = cs val) ∧ StepW P Q sp o a w G val (sp i)) :
    KeepsJ P .any ops Q (JV W ops sp) a0 :=
  JW.keepsG hB hany hfill hbox fun i hi => let ⟨o, h1, h2, h3⟩ := hst i hi; ⟨o, h1, .inl h2, h3⟩
def KeepsN (P : Program) (md : Region.Mode) (ops : Array Oper) (n : Nat) (Q : Exit → Act → World → Prop) (J : (Nat → Bool) → (Nat → Value) → World → Prop) (a0 : Act) : Prop :=
  ∀ (i : Nat) (o : Oper) (done : Nat → Bool) (val : Nat → Value) (w' : World), i < n → ops[i]? = some o → done i = false → (∀ e ∈ o.after, Region.binds md e = true → done e.on = true) → J done val w' →
    Region.wanted o (yielded ops (putD done val ops.toList 0 a0).tmps) = true ∧ Oper.wp P o (putD done val ops.toList 0 a0) w' (fun a' w'' => ∃ v, a' = (putD done val ops.toList 0 a0).put o.dst v ∧ J (updF done i true) (updF val i v) w'') Q
theorem cntF_all (f : Nat → Bool) : ∀ n, (∀ i, i < n → f i = true) → cntF f n = 0
  | 0, _ => rfl
  | n + 1, h => by
    simp only [cntF]
    rw [cntF_all f n fun i hi => h i (by omega), if_pos (h n (by omega))]
def headA (n m : Nat) : Array Bool := Array.replicate n true ++ Array.replicate m false
theorem headA_eq {md : Region.Mode} {ops : Array Oper} {n : Nat} {listed : Array Bool} (hn : n ≤ ops.size) (inv : HeadInv md ops n listed) (h : ∀ i, i < n → listed.getD i false = true) : listed = headA n (ops.size - n) := by
  apply Array.ext
  · rw [inv.size]; simp [headA]; omega
  · intro i h1 h2
    by_cases hi : i < n
    · have := h i hi
      rw [Array.getD_eq_getD_getElem?, Array.getElem?_eq_getElem h1] at this
      rw [show listed[i] = true from this]
      simp [headA, hi]
    · have := inv.tail i (by omega) (by rw [inv.size] at h1; exact h1)
      rw [Array.getD_eq_getD_getElem?, Array.getElem?_eq_getElem h1] at this
      rw [show listed[i] = false from this]
      simp [headA, Array.getElem_append, hi]
theorem wpAny_JT {P : Program} {md : Region.Mode} {ops : Array Oper} {n : Nat} {Q : Exit → Act → World → Prop} {J : (Nat → Bool) → (Nat → Value) → World → Prop} {a0 : Act} (hB : distB ops.toList = true) (hb : backM md ops = true)
    (hn : n < ops.size) (hs : Region.sinkB md ops n = true) (hc : Region.chainB md ops n = true) (hseq : Region.seqB md ops (ops.size - n) n (headA n (ops.size - n)) = true)
    (hend : ∀ done val w', (∀ i, i < n → done i = true) → (∀ i, n ≤ i → done i = false) → J done val w' → wpList P ops Q (ops.toList.drop n) (putD done val ops.toList 0 a0) w') (hstep : KeepsN P md ops n Q J a0) :
    ∀ (fuel : Nat) (listed : Array Bool) (val : Nat → Value) (w' : World), HeadInv md ops n listed → cntF (fun i => listed.getD i false) n = fuel → J (fun i => listed.getD i false) val w' →
      wpAny P md ops Q (fuel + (ops.size - n)) listed (putD (fun i => listed.getD i false) val ops.toList 0 a0) w' := by
  intro fuel
  induction fuel with
  | zero =>
    intro listed val w' inv hcn hJ
    have hall := cntF_zero _ _ hcn
    have hdl : (ops.toList.drop n).length = ops.size - n := by simp
    rw [Nat.zero_add, ← hdl]
    refine wpAny_of_seq (ops.toList.drop n) n listed _ w' (fun j => by simp [List.getElem?_drop]) ?_ (hend _ _ _ hall (fun i hi => ?_) hJ)
    · rw [hdl, headA_eq (Nat.le_of_lt hn) inv hall]; exact hseq
    · rcases Nat.lt_or_ge i ops.size with h | h
      · exact getD_both (inv.tail i hi h)
      · show listed.getD i false = false
        rw [Array.getD_eq_getD_getElem?, Array.getElem?_eq_none (by rw [inv.size]; exact h)]
        rfl
  | succ fuel ih =>
    intro listed val w' inv hcn hJ
    obtain ⟨i0, hi0, hun0⟩ : ∃ i0, i0 < n ∧ listed.getD i0 false = false := by
      refine Classical.byContradiction fun hne => ?_
      have := cntF_all (fun i => listed.getD i false) n fun i hi => by
        cases h : listed.getD i false with
        | true => rfl
        | false => exact absurd ⟨i, hi, h⟩ hne
      omega
    rw [show fuel + 1 + (ops.size - n) = (fuel + (ops.size - n)) + 1 by omega]
    refine ⟨fun hr => ?_, fun i hi => ?_⟩
    · have h1 := ready_nilM hb inv.size hr n hn
      rw [getD_both (inv.tail n (Nat.le_refl _) hn)] at h1
      cases h1
    · have hin : i < n := by
        rcases Nat.lt_or_ge i n with h | h
        · exact h
        · exact absurd hi (tail_waits hs hc hn inv _ i0 rfl hi0 (getD_in (by rw [inv.size]; omega) hun0) i h)
      have hi' := hi
      obtain ⟨h1, o, ho, hdep⟩ := mem_ready.1 hi
      have hjl : i < listed.size := by rw [inv.size]; omega
      have hd : listed.getD i false = false := getD_both h1
      obtain ⟨hw, hstp⟩ := hstep i o (fun i => listed.getD i false) val w' hin ho hd hdep hJ
      unfold wpOp
      simp only [ho]
      rw [if_pos hw]
      refine .inl (Oper.wp_mono ?_ hstp)
      rintro a' w'' ⟨v, rfl, hJ'⟩
      have he : (fun j => (listed.setIfInBounds i true).getD j false) = updF (fun j => listed.getD j false) i true := by
        funext j
        unfold updF
        by_cases h : j = i
        · subst h; simp [hjl]
        · rw [if_neg h]
          simp [Ne.symm h]
      have := ih (listed.setIfInBounds i true) (updF val i v) w'' (inv.set hi' hin) (by
        rw [he]
        have := cntF_upd (fun j => listed.getD j false) i hd n
        rw [if_pos hin] at this
        omega) (by rw [he]; exact hJ')
      rw [he] at this
      have hp := putD_upd (done := fun j => listed.getD j false) (val := val) v ops.toList 0 i a0 o hB (by simpa using ho) (by rw [Nat.zero_add]; exact hd)
      rw [Nat.zero_add] at hp
      rw [hp] at this
      exact this
theorem wp_region_JT {P : Program} {id : Nat} {ops : Array Oper} (n : Nat) {Q : Exit → Act → World → Prop} {J : (Nat → Bool) → (Nat → Value) → World → Prop} {a0 : Act} {w : World} (hm : P.follows .mixedOrders = true) (hB : distB ops.toList = true) (hb : backM .any ops = true)
    (ht : (decide (n < ops.size) && Region.sinkB .any ops n && Region.chainB .any ops n && Region.seqB .any ops (ops.size - n) n (headA n (ops.size - n))) = true) (val : Nat → Value)
    (h0 : J (fun _ => false) val w.drew) (hstep : KeepsN P .any ops n Q J a0)
    (hend : ∀ done val w', (∀ i, i < n → done i = true) → (∀ i, n ≤ i → done i = false) → J done val w' → wpList P ops Q (ops.toList.drop n) (putD done val ops.toList 0 a0) w') : (Code.region id ops true).wp P Q a0 w := by
  simp only [Bool.and_eq_true, decide_eq_true_eq] at ht
  obtain ⟨⟨⟨hn, hs⟩, hc⟩, hseq⟩ := ht
  refine wp_region_any hm ?_
  have he : (fun i => (Array.replicate ops.size false).getD i false) = fun _ => false := by
    funext i
    by_cases h : i < ops.size <;> simp [h]
  have hnn : ∀ (l : List Oper) (k : Nat) (a : Act), putD (fun _ => false) val l k a = a := by
    intro l
    induction l with
    | nil => intro k a; rfl
    | cons o l ih => intro k a; simp only [putD]; exact ih _ _
  have inv0 : HeadInv .any ops n (Array.replicate ops.size false) :=
    ⟨by simp, fun j oj _ hl => (by rw [getD_replicate_false] at hl; cases hl), fun t _ ht => getD_in (by simpa using ht) (getD_replicate_false _ _)⟩
  have := wpAny_JT (P := P) (md := .any) (Q := Q) (J := J) (a0 := a0) hB hb hn hs hc hseq hend hstep n (Array.replicate ops.size false) val w.drew inv0 (by rw [he]; exact cntF_none _) (by rw [he]; exact h0)
  rw [he, hnn, show n + (ops.size - n) = ops.size by omega] at this
  exact this
/-- As JV, over the first n. -/
def JN (W : World) (n : Nat) (ops : Array Oper) (sp : Nat → Wd) (done : Nat → Bool) (val : Nat → Value) (w : World) : Prop :=
  JW W n sp done val w ∧ ∀ i o, ops[i]? = some o → done i = true → ∀ e ∈ o.after, Region.binds .any e = true → done e.on = true
theorem JN.start (W : World) (n : Nat) (ops : Array Oper) (sp : Nat → Wd) (val : Nat → Value) : JN W n ops sp (fun _ => false) val W.drew := ⟨JW.start _ _ _ _, fun _ _ _ h => Bool.noConfusion h⟩
theorem JN.keepsG {P : Program} {n : Nat} {ops : Array Oper} {Q : Exit → Act → World → Prop} {a0 : Act} {W : World} {sp : Nat → Wd} (hB : distB ops.toList = true)
    (hany : ∀ i R, i < n → sp i = .any R → Stays W R)
    (hfill : ∀ i b, i < n → sp i = .fill b → b < n ∧ (∃ t z cs, sp b = .box i t z cs) ∧ ∃ o, ops[i]? = some o ∧ ∃ e ∈ o.after, Region.binds .any e = true ∧ e.on = b)
    (hbox : ∀ b st t z cs, b < n → sp b = .box st t z cs → st < n ∧ sp st = .fill b ∧ ∀ (i : Nat) (val : Nat → Value) (v : Value) (done : Nat → Bool), i < n → done i = false → (∀ o, ops[st]? = some o → done st = true → ∀ e ∈ o.after, Region.binds .any e = true → done e.on = true) → done st = true → cs (updF val i v) = cs val)
    (hst : ∀ i, i < n → ∃ o, ops[i]? = some o ∧ GuardOk ops sp n a0.tmps.size o ∧ ∀ (a : Act) (w : World) (done : Nat → Bool) (val : Nat → Value) (G H : Nat → Nat), done i = false →
      (∀ e ∈ o.after, Region.binds .any e = true → done e.on = true) → (∀ j oj d, ops[j]? = some oj → oj.dst = some d → d < a0.tmps.size → done j = true → a.eval (.tmp d) = val j) →
      (∀ t, outB' ops t = true → a.eval (.tmp t) = a0.eval (.tmp t)) → Ext W w → (∀ j, j < n → done j = true → (sp j).Ok done val (val j) w (G j) (H j)) →
      (∀ j, j < n → done j = true → (sp j).mem = true → W.heap.size ≤ G j ∧ G j ≤ H j ∧ H j ≤ w.heap.size) →
      (∀ v b, sp i = .fill b → ∀ t z cs, sp b = .box i t z cs → cs (updF val i v) = cs val) ∧ StepW P Q sp o a w G val (sp i)) :
    KeepsN P .any ops n Q (JN W n ops sp) a0 := by
  intro i o done val w' hi ho hdn hdep ⟨hJ, hdw⟩
  obtain ⟨hE, G, H, hok, hge, hdis, hfd⟩ := hJ
  obtain ⟨o', ho', hg, hstep⟩ := hst i hi
  rw [ho] at ho'
  cases ho'
  refine ⟨hg.wanted hB hdep hok, ?_⟩
  obtain ⟨hcs, hs⟩ := hstep (putD done val ops.toList 0 a0) w' done val G H hdn hdep (fun j oj d h1 h2 h3 h4 => by
    have := eval_putD (done := done) (val := val) ops.toList 0 j a0 oj d hB (by simpa using h1) h2 (by rw [Nat.zero_add]; exact h4) h3
    rw [Nat.zero_add] at this
    exact this) (fun t ht => eval_putD_out _ _ _ _ (outB'_spec ht)) hE hok hge
  generalize putD done val ops.toList 0 a0 = a at hs ⊢
  have hdw' : ∀ j oj, ops[j]? = some oj → updF done i true j = true → ∀ e ∈ oj.after, Region.binds .any e = true → updF done i true e.on = true := fun j oj hj hd e he hb => by
    by_cases hji : j = i
    · subst hji
      rw [ho] at hj
      cases hj
      have := hdep e he hb
      by_cases h : e.on = j
      · rw [h, updF_same]
      · rw [updF_ne _ _ h]; exact this
    · rw [updF_ne _ _ hji] at hd
      have := hdw j oj hj hd e he hb
      by_cases h : e.on = i
      · rw [h, updF_same]
      · rw [updF_ne _ _ h]; exact this
  have hnst : ∀ (v : Value) j st t z cs, j < n → sp j = .box st t z cs → (∀ b, sp i = .fill b → b ≠ j) → updF done i true st = done st ∧ (done st = true → cs (updF val i v) = cs val) := fun v j st t z cs hj hs hb => by
    obtain ⟨_, h2, h3⟩ := hbox j st t z cs hj hs
    exact ⟨updF_ne _ _ fun e => hb j (e ▸ h2) rfl, fun hd => h3 i val v done hi hdn (fun o ho hd => hdw st o ho hd) hd⟩
  have hpast : ∀ j, done j = true → j ≠ i := fun j h e => by subst e; rw [hdn] at h; cases h
  have hfd' : ∀ j b, j < n → sp j = .fill b → updF done i true j = true → (i = j → done b = true) → updF done i true b = true := fun j b hj hs hd hq => by
    by_cases hb : b = i
    · subst hb; exact updF_same _ _ _
    · rw [updF_ne _ _ hb]
      by_cases e : j = i
      · exact hq e.symm
      · rw [updF_ne _ _ e] at hd
        exact hfd j b hj hs hd
  -- one step that makes the blocks [g, h) and turns nothing old
  have made : ∀ (v : Value) (g h : Nat) (w'' : World), (∀ b, sp i ≠ .fill b) → Ext w' w'' → ((sp i).mem = true → w'.heap.size ≤ g ∧ g ≤ h ∧ h ≤ w''.heap.size) → (sp i).Ok (updF done i true) (updF val i v) v w'' g h → JW W n sp (updF done i true) (updF val i v) w'' := by
    intro v g h w'' hnf he hgh hnew
    refine ⟨hE.trans he, updF G i g, updF H i h, fun j hj hd => ?_, fun j hj hd hm => ?_, fun j k hj hk hne hd hd' hm hm' => ?_, fun j b hj hs hd => hfd' j b hj hs hd fun e => absurd (e ▸ hs) (hnf b)⟩
    · by_cases e : j = i
      · subst e
        rw [updF_same, updF_same, updF_same]
        exact hnew
      · rw [updF_ne _ _ e] at hd
        rw [updF_ne _ _ e, updF_ne _ _ e, updF_ne _ _ e]
        refine (hok j hj hd).mono (hany j · hj) (fun st t z cs h => hnst v j st t z cs hj h fun b hb => absurd hb (hnf b)) (fun hm b hb => ?_) he.size
        have := hge j hj hd hm
        have := hE.size
        exact he.block b (by omega)
    · by_cases e : j = i
      · subst e
        rw [updF_same, updF_same]
        have := hgh hm
        have := hE.size
        omega
      · rw [updF_ne _ _ e] at hd
        rw [updF_ne _ _ e, updF_ne _ _ e]
        have := hge j hj hd hm
        have := he.size
        omega
    · by_cases e : j = i
      · have e' : k ≠ i := fun x => hne (e.trans x.symm)
        rw [updF_ne _ _ e'] at hd'
        rw [e, updF_same, updF_same, updF_ne _ _ e', updF_ne _ _ e']
        have := hgh (e ▸ hm)
        have := hge k hk hd' hm'
        omega
      · rw [updF_ne _ _ e] at hd
        rw [updF_ne _ _ e, updF_ne _ _ e]
        by_cases e' : k = i
        · rw [e', updF_same, updF_same]
          have := hgh (e' ▸ hm')
          have := hge j hj hd hm
          omega
        · rw [updF_ne _ _ e'] at hd'
          rw [updF_ne _ _ e', updF_ne _ _ e']
          exact hdis j k hj hk hne hd hd' hm hm'
  cases hsp : sp i with
  | val u =>
    rw [hsp] at hs
    refine Oper.wp_mono ?_ hs
    rintro a' w'' ⟨ha, he⟩
    exact ⟨u, ha, made u 0 0 w'' (fun b h => by rw [hsp] at h; cases h) he (fun h => by rw [hsp] at h; cases h) (by rw [hsp]; exact rfl), hdw'⟩
  | mk f t cs =>
    rw [hsp] at hs
    refine Oper.wp_mono ?_ hs
    rintro a' w'' ⟨g, ha, hgs, he, hB⟩
    exact ⟨f g, ha, made (f g) g (g + 1) w'' (fun b h => by rw [hsp] at h; cases h) he (fun _ => ⟨hgs, by omega, hB.lt⟩) (by rw [hsp]; exact ⟨⟨rfl, hB⟩, rfl⟩), hdw'⟩
  | box st t z cs =>
    rw [hsp] at hs
    refine Oper.wp_mono ?_ hs
    rintro a' w'' ⟨g, ha, hgs, he, hB⟩
    obtain ⟨hst1, hst2, _⟩ := hbox i st t z cs hi hsp
    refine ⟨_, ha, made _ g (g + 1) w'' (fun b h => by rw [hsp] at h; cases h) he (fun _ => ⟨hgs, by omega, hB.lt⟩) ?_, hdw'⟩
    rw [hsp]
    refine ⟨⟨rfl, ?_⟩, rfl⟩
    have hne : st ≠ i := fun e => by subst e; rw [hsp] at hst2; cases hst2
    rw [updF_ne _ _ hne]
    have hns : ¬ done st = true := fun h => by
      have := hfd st i hst1 hst2 h
      rw [hdn] at this
      cases this
    rw [if_neg hns]
    exact hB
  | any R =>
    rw [hsp] at hs
    refine Oper.wp_mono ?_ hs
    rintro a' w'' ⟨v, ha, he, hR⟩
    exact ⟨v, ha, made v w'.heap.size w''.heap.size w'' (fun b h => by rw [hsp] at h; cases h) he (fun _ => ⟨Nat.le_refl _, he.size, Nat.le_refl _⟩) (by rw [hsp]; exact hR), hdw'⟩
  | fill b =>
    obtain ⟨hb, ⟨t, z, cs, hbx⟩, oi, hoi, e, hea, hbi, hon⟩ := hfill i b hi hsp
    rw [ho] at hoi
    cases hoi
    have hdb : done b = true := hon ▸ hdep e hea hbi
    rw [hsp] at hs
    simp only [StepW, hbx] at hs
    refine Oper.wp_mono ?_ hs
    rintro a' w'' ⟨v, ha, hon', hB⟩
    have hmb : (sp b).mem = true := by rw [hbx]; rfl
    have hgb := hge b hb hdb hmb
    have hgb1 : H b = G b + 1 := by have := hok b hb hdb; rw [hbx] at this; exact this.2
    refine ⟨v, ha, ⟨hon'.ext hE hgb.1, G, H, fun j hj hd => ?_, fun j hj hd hm => ?_, fun j k hj hk hne hd hd' hm hm' => ?_, fun j b' hj hs hd => hfd' j b' hj hs hd fun e => by
      subst e
      rw [hsp] at hs
      injection hs with hs
      subst hs
      exact hdb⟩, hdw'⟩
    · by_cases e : j = i
      · subst e
        rw [hsp]
        trivial
      · rw [updF_ne _ _ e] at hd ⊢
        by_cases ejb : j = b
        · subst ejb
          have h1 := hok j hj hd
          rw [hbx] at h1 ⊢
          refine ⟨⟨h1.1.1, ?_⟩, h1.2⟩
          rw [updF_same, if_pos rfl, hcs v j hsp t z cs hbx]
          exact hB
        · refine (hok j hj hd).mono (hany j · hj) (fun st t z cs h => hnst v j st t z cs hj h fun b' hb' => by rw [hsp] at hb'; injection hb' with hb'; rw [← hb']; exact fun e => ejb e.symm) (fun hm c hc => hon'.block _ ?_) (Nat.le_of_eq hon'.size.symm)
          have h1 := hdis j b hj hb ejb hd hdb hm hmb
          omega
    · have e : j ≠ i := fun e => by subst e; rw [hsp] at hm; cases hm
      rw [updF_ne _ _ e] at hd
      have := hge j hj hd hm
      rw [hon'.size]
      exact this
    · have e : j ≠ i := fun e => by subst e; rw [hsp] at hm; cases hm
      have e' : k ≠ i := fun e => by subst e; rw [hsp] at hm'; cases hm'
      rw [updF_ne _ _ e] at hd
      rw [updF_ne _ _ e'] at hd'
      exact hdis j k hj hk hne hd hd' hm hm'
theorem JN.keeps {P : Program} {n : Nat} {ops : Array Oper} {Q : Exit → Act → World → Prop} {a0 : Act} {W : World} {sp : Nat → Wd} (hB : distB ops.toList = true)
    (hany : ∀ i R, i < n → sp i = .any R → Stays W R)
    (hfill : ∀ i b, i < n → sp i = .fill b → b < n ∧ (∃ t z cs, sp b = .box i t z cs) ∧ ∃ o, ops[i]? = some o ∧ ∃ e ∈ o.after, Region.binds .any e = true ∧ e.on = b)
    (hbox : ∀ b st t z cs, b < n → sp b = .box st t z cs → st < n ∧ sp st = .fill b ∧ ∀ (i : Nat) (val : Nat → Value) (v : Value) (done : Nat → Bool), i < n → done i = false → (∀ o, ops[st]? = some o → done st = true → ∀ e ∈ o.after, Region.binds .any e = true → done e.on = true) → done st = true → cs (updF val i v) = cs val)
    (hst : ∀ i, i < n → ∃ o, ops[i]? = some o ∧ o.guard = none ∧ ∀ (a : Act) (w : World) (done : Nat → Bool) (val : Nat → Value) (G H : Nat → Nat), done i = false →
      (∀ e ∈ o.after, Region.binds .any e = true → done e.on = true) → (∀ j oj d, ops[j]? = some oj → oj.dst = some d → d < a0.tmps.size → done j = true → a.eval (.tmp d) = val j) →
      (∀ t, outB' ops t = true → a.eval (.tmp t) = a0.eval (.tmp t)) → Ext W w → (∀ j, j < n → done j = true → (sp j).Ok done val (val j) w (G j) (H j)) →
      (∀ j, j < n → done j = true → (sp j).mem = true → W.heap.size ≤ G j ∧ G j ≤ H j ∧ H j ≤ w.heap.size) →
      (∀ v b, sp i = .fill b → ∀ t z cs, sp b = .box i t z cs → cs (updF val i v) = cs val) ∧ StepW P Q sp o a w G val (sp i)) :
    KeepsN P .any ops n Q (JN W n ops sp) a0 :=
  JN.keepsG hB hany hfill hbox fun i hi => let ⟨o, h1, h2, h3⟩ := hst i hi; ⟨o, h1, .inl h2, h3⟩
end Go.Proofs.YtljibkfbldjgdaaGreatDoor
