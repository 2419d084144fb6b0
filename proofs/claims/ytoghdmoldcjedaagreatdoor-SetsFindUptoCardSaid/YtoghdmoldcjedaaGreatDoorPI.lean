/- A law of regions that draw their order: a fact that every operation keeps holds at the end; the frame is the one of the text's order. -/
import Derived.Test.YtoghdmoldcjedaaGreatDoorBase
import Derived.Orders
namespace Go.Proofs.YtoghdmoldcjedaaGreatDoor
set_option linter.unusedVariables false

def updF {α : Type} (f : Nat → α) (i : Nat) (x : α) : Nat → α := fun j => if j = i then x else f j
theorem updF_same {α : Type} (f : Nat → α) (i : Nat) (x : α) : updF f i x i = x := if_pos rfl
theorem updF_ne {α : Type} (f : Nat → α) {i j : Nat} (x : α) (h : j ≠ i) : updF f i x j = f j := if_neg h
def putD (done : Nat → Bool) (val : Nat → Value) : List Oper → Nat → Act → Act
  | [], _, a => a
  | o :: l, k, a => putD done val l (k + 1) (if done k = true then a.put o.dst (val k) else a)
def distB : List Oper → Bool
  | [] => true
  | o :: l => (match o.dst with | none => true | some d => l.all fun p => p.dst != some d) && distB l
theorem putD_put {done : Nat → Bool} {val : Nat → Value} (d : Option Tmp) (v : Value) : ∀ (l : List Oper) (k : Nat) (a : Act), (∀ o ∈ l, ∀ x, d = some x → o.dst ≠ some x) → putD done val l k (a.put d v) = (putD done val l k a).put d v
  | [], _, _, _ => rfl
  | o :: l, k, a, h => by
    simp only [putD]
    rw [← putD_put d v l (k + 1) _ fun p hp => h p (by simp [hp])]
    congr 1
    split
    · exact Act.put_comm a v _ fun x hx => h o (by simp) x hx
    · rfl
theorem putD_congr {done done' : Nat → Bool} {val val' : Nat → Value} : ∀ (l : List Oper) (k : Nat) (a : Act), (∀ j, k ≤ j → done j = done' j ∧ val j = val' j) → putD done val l k a = putD done' val' l k a
  | [], _, _, _ => rfl
  | o :: l, k, a, h => by
    simp only [putD]
    rw [(h k (Nat.le_refl _)).1, (h k (Nat.le_refl _)).2]
    exact putD_congr l (k + 1) _ fun j hj => h j (by omega)
theorem dist_tail {o : Oper} {l : List Oper} (h : distB (o :: l) = true) : distB l = true ∧ ∀ p ∈ l, ∀ x, o.dst = some x → p.dst ≠ some x := by
  simp only [distB, Bool.and_eq_true] at h
  refine ⟨h.2, fun p hp x hx => ?_⟩
  rw [hx] at h
  have := List.all_eq_true.1 h.1 p hp
  simpa using this
theorem putD_upd {done : Nat → Bool} {val : Nat → Value} (v : Value) : ∀ (l : List Oper) (k i : Nat) (a : Act) (o : Oper), distB l = true → l[i]? = some o → done (k + i) = false →
    putD (updF done (k + i) true) (updF val (k + i) v) l k a = (putD done val l k a).put o.dst v
  | [], _, _, _, _, _, h, _ => by simp at h
  | p :: l, k, 0, a, o, hB, ho, hd => by
    obtain rfl : p = o := by simpa using ho
    obtain ⟨_, hne⟩ := dist_tail hB
    simp only [putD, Nat.add_zero, updF_same, if_true]
    simp only [Nat.add_zero] at hd
    rw [hd, if_neg (by decide), putD_congr (done' := done) (val' := val) l (k + 1) _ fun j hj => ⟨updF_ne _ _ (by omega), updF_ne _ _ (by omega)⟩]
    exact putD_put _ _ l _ _ hne
  | p :: l, k, i + 1, a, o, hB, ho, hd => by
    have ho' : l[i]? = some o := by simpa using ho
    simp only [putD]
    rw [updF_ne _ _ (show k ≠ k + (i + 1) by omega), updF_ne _ _ (show k ≠ k + (i + 1) by omega)]
    have := putD_upd (val := val) v l (k + 1) i (if done k = true then a.put p.dst (val k) else a) o (dist_tail hB).1 ho' (by rw [show k + 1 + i = k + (i + 1) by omega]; exact hd)
    rw [show k + 1 + i = k + (i + 1) by omega] at this
    exact this
theorem putD_size {done : Nat → Bool} {val : Nat → Value} : ∀ (l : List Oper) (k : Nat) (a : Act), (putD done val l k a).tmps.size = a.tmps.size
  | [], _, _ => rfl
  | o :: l, k, a => by
    simp only [putD]
    rw [putD_size l]
    split
    · cases o.dst <;> simp [Act.put]
    · rfl
theorem eval_put_same {a : Act} {d : Tmp} {v : Value} (h : d < a.tmps.size) : (a.put (some d) v).eval (.tmp d) = v := by
  simp [Act.put, Act.eval, h]
theorem eval_putD {done : Nat → Bool} {val : Nat → Value} : ∀ (l : List Oper) (k i : Nat) (a : Act) (o : Oper) (d : Tmp), distB l = true → l[i]? = some o → o.dst = some d → done (k + i) = true → d < a.tmps.size → (putD done val l k a).eval (.tmp d) = val (k + i)
  | [], _, _, _, _, _, _, h, _, _, _ => by simp at h
  | p :: l, k, 0, a, o, d, hB, ho, hd, hk, hs => by
    obtain rfl : p = o := by simpa using ho
    simp only [Nat.add_zero] at hk ⊢
    simp only [putD]
    rw [hk, if_pos rfl, hd, putD_put (some d) _ l _ _ fun q hq x hx => (dist_tail hB).2 q hq x (by rw [hd]; exact hx)]
    exact eval_put_same (by rw [putD_size]; exact hs)
  | p :: l, k, i + 1, a, o, d, hB, ho, hd, hk, hs => by
    simp only [putD]
    have := eval_putD (done := done) (val := val) l (k + 1) i (if done k = true then a.put p.dst (val k) else a) o d (dist_tail hB).1 (by simpa using ho) hd (by rw [show k + 1 + i = k + (i + 1) by omega]; exact hk) (by split <;> (try cases p.dst) <;> simpa [Act.put] using hs)
    rw [show k + 1 + i = k + (i + 1) by omega] at this
    exact this
theorem eval_putD_out {done : Nat → Bool} {val : Nat → Value} (t : Tmp) : ∀ (l : List Oper) (k : Nat) (a : Act), (∀ o ∈ l, o.dst ≠ some t) → (putD done val l k a).eval (.tmp t) = a.eval (.tmp t)
  | [], _, _, _ => rfl
  | o :: l, k, a, h => by
    simp only [putD]
    rw [eval_putD_out t l (k + 1) _ fun p hp => h p (by simp [hp])]
    split
    · exact Act.eval_put fun d hd he => h o (by simp) (by rw [hd]; injection he with he; rw [he])
    · rfl
/-- How many are left. -/
def cntF (f : Nat → Bool) : Nat → Nat
  | 0 => 0
  | n + 1 => cntF f n + if f n = true then 0 else 1
theorem cntF_upd (f : Nat → Bool) (i : Nat) (hi : f i = false) : ∀ n, cntF (updF f i true) n + (if i < n then 1 else 0) = cntF f n
  | 0 => by simp [cntF]
  | n + 1 => by
    have ih := cntF_upd f i hi n
    simp only [cntF]
    by_cases h : n = i
    · subst h
      rw [if_neg (Nat.lt_irrefl n)] at ih
      have h1 : (if n < n + 1 then 1 else 0) = 1 := if_pos (Nat.lt_succ_self n)
      rw [updF_same, hi, h1]
      simp only [if_true, Bool.false_eq_true, if_false]
      omega
    · rw [updF_ne _ _ h]
      by_cases h2 : i < n
      · rw [if_pos h2] at ih
        have h1 : (if i < n + 1 then 1 else 0) = 1 := if_pos (by omega)
        rw [h1]
        omega
      · rw [if_neg h2] at ih
        have h1 : (if i < n + 1 then 1 else 0) = 0 := if_neg (by omega)
        rw [h1]
        omega
theorem cntF_zero (f : Nat → Bool) : ∀ n, cntF f n = 0 → ∀ i, i < n → f i = true
  | 0, _, i, hi => by omega
  | n + 1, h, i, hi => by
    simp only [cntF] at h
    by_cases hn : f n = true
    · rw [if_pos hn] at h
      rcases Nat.lt_or_ge i n with h2 | h2
      · exact cntF_zero f n h i h2
      · obtain rfl : i = n := by omega
        exact hn
    · rw [if_neg hn] at h; omega
def backB (ops : Array Oper) : Bool := (List.range ops.size).all fun i => match ops[i]? with | none => true | some o => o.after.all fun e => decide (e.on < i)
theorem ready_nil {md : Region.Mode} {ops : Array Oper} {listed : Array Bool} (hb : backB ops = true) (hs : listed.size = ops.size) (h : Region.ready md ops listed = []) (i : Nat) : i < ops.size → listed.getD i false = true := by
  induction i using Nat.strongRecOn with
  | _ i ih =>
    intro hi
    cases hl : listed.getD i false with
    | true => rfl
    | false =>
      have hmem : i ∈ Region.ready md ops listed := mem_ready.2 ⟨by
        have : i < listed.size := by omega
        simp [this] at hl ⊢
        exact hl, ops[i], by simp [hi], fun e he _ => by
        have hb' := List.all_eq_true.1 hb i (by simpa using hi)
        simp only [Array.getElem?_eq_getElem hi] at hb'
        have hlt : e.on < i := by
          obtain ⟨k, hk, rfl⟩ := Array.mem_iff_getElem.1 he
          have hb2 : ∀ (k : Nat) (hk : k < ops[i].after.size), ops[i].after[k].on < i := by simpa using hb'
          exact hb2 k hk
        exact ih e.on hlt (by omega)⟩
      rw [h] at hmem
      cases hmem
/-- What is asked of one operation: J is kept. -/
def KeepsJ (P : Program) (md : Region.Mode) (ops : Array Oper) (Q : Exit → Act → World → Prop) (J : (Nat → Bool) → (Nat → Value) → World → Prop) (a0 : Act) : Prop :=
  ∀ (i : Nat) (o : Oper) (done : Nat → Bool) (val : Nat → Value) (w' : World), ops[i]? = some o → done i = false → (∀ e ∈ o.after, Region.binds md e = true → done e.on = true) → J done val w' →
    Region.wanted o (yielded ops (putD done val ops.toList 0 a0).tmps) = true ∧ Oper.wp P o (putD done val ops.toList 0 a0) w' (fun a' w'' => ∃ v, a' = (putD done val ops.toList 0 a0).put o.dst v ∧ J (updF done i true) (updF val i v) w'') Q
theorem wpAny_J {P : Program} {md : Region.Mode} {ops : Array Oper} {Q : Exit → Act → World → Prop} {J : (Nat → Bool) → (Nat → Value) → World → Prop} {a0 : Act} (hB : distB ops.toList = true) (hb : backB ops = true)
    (hend : ∀ done val w', (∀ i, i < ops.size → done i = true) → J done val w' → Q .normal (putD done val ops.toList 0 a0) w') (hstep : KeepsJ P md ops Q J a0) :
    ∀ (fuel : Nat) (listed : Array Bool) (val : Nat → Value) (w' : World), listed.size = ops.size → cntF (fun i => listed.getD i false) ops.size = fuel → J (fun i => listed.getD i false) val w' →
      wpAny P md ops Q fuel listed (putD (fun i => listed.getD i false) val ops.toList 0 a0) w' := by
  intro fuel
  induction fuel with
  | zero =>
    intro listed val w' hs hc hJ
    have hall := cntF_zero _ _ hc
    refine ⟨?_, hend _ _ _ hall hJ⟩
    cases hr : Region.ready md ops listed with
    | nil => rfl
    | cons j r =>
      have hm : j ∈ Region.ready md ops listed := by rw [hr]; simp
      obtain ⟨h1, o, ho, _⟩ := mem_ready.1 hm
      have hj : j < ops.size := by
        rcases Nat.lt_or_ge j ops.size with h | h
        · exact h
        · rw [Array.getElem?_eq_none h] at ho; cases ho
      have h2 := hall j hj
      have : j < listed.size := by omega
      simp [this] at h1 h2
      rw [h1] at h2
      cases h2
  | succ fuel ih =>
    intro listed val w' hs hc hJ
    refine ⟨fun hr => hend _ _ _ (fun i hi => ready_nil hb hs hr i hi) hJ, fun i hi => ?_⟩
    obtain ⟨h1, o, ho, hdep⟩ := mem_ready.1 hi
    have hj : i < ops.size := by
      rcases Nat.lt_or_ge i ops.size with h | h
      · exact h
      · rw [Array.getElem?_eq_none h] at ho; cases ho
    have hjl : i < listed.size := by omega
    have hd : listed.getD i false = false := by simp [hjl] at h1 ⊢; exact h1
    obtain ⟨hw, hstp⟩ := hstep i o (fun i => listed.getD i false) val w' ho hd hdep hJ
    unfold wpOp
    simp only [ho]
    rw [if_pos hw]
    refine .inl (Oper.wp_mono ?_ hstp)
    rintro a' w'' ⟨v, rfl, hJ'⟩
    have he : (fun j => (listed.setIfInBounds i true).getD j false) = updF (fun j => listed.getD j false) i true := by
      funext j
      unfold updF
      by_cases h : j = i
      · subst h; simp [hjl]
      · rw [if_neg h]
        simp [Ne.symm h]
    have := ih (listed.setIfInBounds i true) (updF val i v) w'' (by simpa using hs) (by
      rw [he]
      have := cntF_upd (fun j => listed.getD j false) i hd ops.size
      rw [if_pos hj] at this
      omega) (by rw [he]; exact hJ')
    rw [he] at this
    have hp := putD_upd (done := fun j => listed.getD j false) (val := val) v ops.toList 0 i a0 o hB (by simpa using ho) (by rw [Nat.zero_add]; exact hd)
    rw [Nat.zero_add] at hp
    rw [hp] at this
    exact this
theorem cntF_none (n : Nat) : cntF (fun _ => false) n = n := by
  induction n with
  | zero => rfl
  | succ n ih => simp [cntF, ih]
theorem wp_region_J {P : Program} {id : Nat} {ops : Array Oper} {Q : Exit → Act → World → Prop} {J : (Nat → Bool) → (Nat → Value) → World → Prop} {a0 : Act} {w : World} (hm : P.follows .mixedOrders = true) (hB : distB ops.toList = true) (hb : backB ops = true) (val : Nat → Value)
    (h0 : J (fun _ => false) val w.drew) (hstep : KeepsJ P .any ops Q J a0)
    (hend : ∀ done val w', (∀ i, i < ops.size → done i = true) → J done val w' → Q .normal (putD done val ops.toList 0 a0) w') : (Code.region id ops true).wp P Q a0 w := by
  refine wp_region_any hm ?_
  have he : (fun i => (Array.replicate ops.size false).getD i false) = fun _ => false := by
    funext i
    by_cases h : i < ops.size <;> simp [h]
  have hn : ∀ (l : List Oper) (k : Nat) (a : Act), putD (fun _ => false) val l k a = a := by
    intro l
    induction l with
    | nil => intro k a; rfl
    | cons o l ih => intro k a; simp only [putD]; exact ih _ _
  have := wpAny_J (P := P) (md := .any) (Q := Q) (J := J) (a0 := a0) hB hb hend hstep ops.size (Array.replicate ops.size false) val w.drew (by simp) (by rw [he]; exact cntF_none _) (by rw [he]; exact h0)
  rw [he, hn] at this
  exact this
end Go.Proofs.YtoghdmoldcjedaaGreatDoor
