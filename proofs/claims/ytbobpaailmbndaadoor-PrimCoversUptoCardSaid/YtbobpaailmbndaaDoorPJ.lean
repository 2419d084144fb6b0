/- Several prefixes made at once (a, b := of(x), of(y)): the region that draws, met by one law. -/
import Derived.Test.YtbobpaailmbndaaDoorPI
import Derived.Test.YtbobpaailmbndaaDoorPR
namespace Go.Proofs.YtbobpaailmbndaaDoor
open Go.RowKit Go.Sort
set_option linter.unusedVariables false

def cellsP (p : Pfx) : Array Value := #[.int .i64 p.fam, .int .u64 (p.rd : Int), .string ⟨p.addr.toArray⟩, .int .i64 p.len]
def cellsR (x : Rw) : Array Value := #[.int .u8 (x.fam.toNat : Int), .int .u64 (x.rd : Int), .int .u8 ((x.b 0).toNat : Int), .int .u8 ((x.b 1).toNat : Int), .int .u8 ((x.b 2).toNat : Int), .int .u8 ((x.b 3).toNat : Int), .int .u8 ((x.b 4).toNat : Int), .int .u8 ((x.b 5).toNat : Int), .int .u8 ((x.b 6).toNat : Int), .int .u8 ((x.b 7).toNat : Int), .int .u8 ((x.b 8).toNat : Int), .int .u8 ((x.b 9).toNat : Int), .int .u8 ((x.b 10).toNat : Int), .int .u8 ((x.b 11).toNat : Int), .int .u8 ((x.b 12).toNat : Int), .int .u8 ((x.b 13).toNat : Int), .int .u8 ((x.b 14).toNat : Int), .int .u8 ((x.b 15).toNat : Int), .int .u8 (x.len.toNat : Int)]
theorem run_loadP {W : World} {g : Nat} {a b c d : Value} (h : Blk W g 24 #[a, b, c, d]) : (Instr.loadAt 24 (.pointer (some ⟨g, 0, none⟩))).run Tryd.prog W = .ok (.agg #[a, b, c, d]) W := by
  have h0 : W.cell? ⟨g, 0, none⟩ = some a := h.cell 0
  have h1 : W.cell? ⟨g, 1, none⟩ = some b := h.cell 1
  have h2 : W.cell? ⟨g, 2, none⟩ = some c := h.cell 2
  have h3 : W.cell? ⟨g, 3, none⟩ = some d := h.cell 3
  go_simp
theorem run_loadR {W : World} {g : Nat} {x : Rw} (h : Blk W g 37 (cellsR x)) : (Instr.loadAt 37 (.pointer (some ⟨g, 0, none⟩))).run Tryd.prog W = .ok (valR x) W := by
  simp only [Instr.loadAt, Instr.sureAddr, Sem.run_bind, Sem.run_pure, Result.andThen_ok, run_loadVar_row W g _ 37 (cellsR x) (0, 0) _ h Tryd.underlying37 rfl (by kernel_rfl)]
  rfl
theorem run_storeP {W : World} {g : Nat} {a b c d : Value} (h : Blk W g 24 #[a, b, c, d]) (q : Pfx) : (Instr.storeAt 24 (.pointer (some ⟨g, 0, none⟩)) (valP q)).run Tryd.prog W = .ok () ((((W.setCell ⟨g, 0, none⟩ (.int .i64 q.fam)).setCell ⟨g, 1, none⟩ (.int .u64 (q.rd : Int))).setCell ⟨g, 2, none⟩ (.string ⟨q.addr.toArray⟩)).setCell ⟨g, 3, none⟩ (.int .i64 q.len)) := by
  have h0 : W.cell? ⟨g, 0, none⟩ = some a := h.cell 0
  have h1 : W.cell? ⟨g, 1, none⟩ = some b := h.cell 1
  have h2 : W.cell? ⟨g, 2, none⟩ = some c := h.cell 2
  have h3 : W.cell? ⟨g, 3, none⟩ = some d := h.cell 3
  have hf := fun i => h.frozen i
  unfold valP
  go_simp
theorem run_allocP (W : World) : (Instr.alloc 24 true (.tuple #[])).run Tryd.prog W = .ok (.pointer (some ⟨W.heap.size, 0, none⟩)) (W.alloc (.cells #[.int .i64 0, .int .u64 0, .string ⟨#[]⟩, .int .i64 0] 24)) := by
  go_simp

/-- One prefix that is made: the operations (load, call, alloc, store), their slots, the block that is read, what is in it. -/
structure Fill where
  ld : Nat
  cl : Nat
  al : Nat
  st : Nat
  src : Tmp
  sl : Tmp
  sc : Tmp
  sa : Tmp
  g : Nat
  x : Rw
structure Fill.Fits (ops : Array Oper) (k : Fill) : Prop where
  l : ∃ o, ops[k.ld]? = some o ∧ o.op = Op.load 37 (.tmp k.src) ∧ o.dst = some k.sl ∧ o.guard = none
  c : ∃ o, ops[k.cl]? = some o ∧ o.op = Op.call { callee := Callee.value (Operand.func 21), args := #[.tmp k.sl], argTypes := #[37] } ∧ o.dst = some k.sc ∧ o.guard = none ∧ ∃ e ∈ o.after, Region.binds .any e = true ∧ e.on = k.ld
  a : ∃ o, ops[k.al]? = some o ∧ o.op = Op.alloc 24 ∧ o.dst = some k.sa ∧ o.guard = none
  s : ∃ o, ops[k.st]? = some o ∧ o.op = Op.store 24 (.tmp k.sa) (.tmp k.sc) ∧ o.dst = none ∧ o.guard = none ∧ (∃ e ∈ o.after, Region.binds .any e = true ∧ e.on = k.al) ∧ ∃ e ∈ o.after, Region.binds .any e = true ∧ e.on = k.cl
structure Fill.Ok (W : World) (done : Nat → Bool) (val : Nat → Value) (w' : World) (k : Fill) : Prop where
  l : done k.ld = true → val k.ld = valR k.x
  c : done k.cl = true → val k.cl = valP (rawP k.x)
  a : done k.al = true → ∃ g, val k.al = .pointer (some ⟨g, 0, none⟩) ∧ W.heap.size ≤ g ∧ Blk w' g 24 (if done k.st = true then cellsP (rawP k.x) else cellsP zeroP)
  s : done k.st = true → done k.al = true
def Fill.J (W : World) (ks : List Fill) (done : Nat → Bool) (val : Nat → Value) (w' : World) : Prop :=
  Ext W w' ∧ (∀ k ∈ ks, k.Ok W done val w') ∧ ∀ k ∈ ks, ∀ k' ∈ ks, k.al ≠ k'.al → done k.al = true → done k'.al = true → val k.al ≠ val k'.al
def outB (ops : Array Oper) (t : Tmp) : Bool := ops.toList.all fun o => o.dst != some t
theorem outB_spec {ops : Array Oper} {t : Tmp} (h : outB ops t = true) : ∀ o ∈ ops.toList, o.dst ≠ some t := fun o ho => by
  have := List.all_eq_true.1 h o ho
  simpa using this
theorem wanted_none {o : Oper} {a : Nat → Option Bool} (h : o.guard = none) : Region.wanted o a = true := by
  unfold Region.wanted; rw [h]
theorem Fill.keeps {ops : Array Oper} {Q : Exit → Act → World → Prop} {a0 : Act} {W : World} (hOf : ∀ x W, Calls Tryd.prog 21 #[valR x] W fun e w' => e = .returned (valP (rawP x)) ∧ Ext W w') (ks : List Fill) (hB : distB ops.toList = true)
    (hfit : ∀ k ∈ ks, k.Fits ops) (hcov : ∀ i, i < ops.size → ∃ k ∈ ks, i = k.ld ∨ i = k.cl ∨ i = k.al ∨ i = k.st)
    (hinj : ∀ k ∈ ks, ∀ k' ∈ ks, (k.ld = k'.ld ∨ k.cl = k'.cl ∨ k.al = k'.al ∨ k.st = k'.st) → k = k')
    (hsrc : ∀ k ∈ ks, a0.eval (.tmp k.src) = .pointer (some ⟨k.g, 0, none⟩) ∧ outB ops k.src = true ∧ Blk W k.g 37 (cellsR k.x))
    (hsz : ∀ k ∈ ks, k.sl < a0.tmps.size ∧ k.sc < a0.tmps.size ∧ k.sa < a0.tmps.size) : KeepsJ Tryd.prog .any ops Q (Fill.J W ks) a0 := by
  have hkind : ∀ k ∈ ks, ∀ k' ∈ ks, k.ld ≠ k'.cl ∧ k.ld ≠ k'.al ∧ k.ld ≠ k'.st ∧ k.cl ≠ k'.al ∧ k.cl ≠ k'.st ∧ k.al ≠ k'.st := by
    intro k hk k' hk'
    obtain ⟨o1, l1, l2, _⟩ := (hfit k hk).l
    obtain ⟨o2, c1, c2, _⟩ := (hfit k hk).c
    obtain ⟨o3, a1, a2, _⟩ := (hfit k hk).a
    obtain ⟨p2, d1, d2, _⟩ := (hfit k' hk').c
    obtain ⟨p3, b1, b2, _⟩ := (hfit k' hk').a
    obtain ⟨p4, s1, s2, _⟩ := (hfit k' hk').s
    refine ⟨fun e => ?_, fun e => ?_, fun e => ?_, fun e => ?_, fun e => ?_, fun e => ?_⟩
    · rw [e, d1] at l1; cases l1; rw [d2] at l2; cases l2
    · rw [e, b1] at l1; cases l1; rw [b2] at l2; cases l2
    · rw [e, s1] at l1; cases l1; rw [s2] at l2; cases l2
    · rw [e, b1] at c1; cases c1; rw [b2] at c2; cases c2
    · rw [e, s1] at c1; cases c1; rw [s2] at c2; cases c2
    · rw [e, s1] at a1; cases a1; rw [s2] at a2; cases a2
  intro i o done val w' ho hdn hdep hJ
  have hi : i < ops.size := by
    rcases Nat.lt_or_ge i ops.size with h | h
    · exact h
    · rw [Array.getElem?_eq_none h] at ho; cases ho
  obtain ⟨hE, hO, hD⟩ := hJ
  obtain ⟨k, hk, h⟩ := hcov i hi
  have hat : ∀ (j : Nat) (p : Oper) (d : Tmp), ops[j]? = some p → p.dst = some d → done j = true → d < a0.tmps.size → (putD done val ops.toList 0 a0).eval (.tmp d) = val j := fun j p d h1 h2 h3 h4 => by
    have := eval_putD (done := done) (val := val) ops.toList 0 j a0 p d hB (by simpa using h1) h2 (by rw [Nat.zero_add]; exact h3) h4
    rw [Nat.zero_add] at this
    exact this
  obtain ⟨hsl, hsc, hsa⟩ := hsz k hk
  have hok := hO k hk
  rcases h with rfl | rfl | rfl | rfl
  · -- the load
    obtain ⟨o', l1, l2, l3, l4⟩ := (hfit k hk).l
    rw [ho] at l1; cases l1
    refine ⟨wanted_none l4, ?_⟩
    obtain ⟨s1, s2, s3⟩ := hsrc k hk
    have hev : (putD done val ops.toList 0 a0).eval (.tmp k.src) = .pointer (some ⟨k.g, 0, none⟩) := (eval_putD_out _ _ _ _ (outB_spec s2)).trans s1
    have hrun : (execOp (putD done val ops.toList 0 a0).eval o).run Tryd.prog w' = .ok (.value (valR k.x)) w' := by
      simp [execOp, l2, hev, run_loadR (s3.ext hE)]
    unfold Oper.wp
    rw [hrun]
    refine ⟨_, rfl, hE, fun k' hk' => ?_, fun k1 hk1 k2 hk2 hne => ?_⟩
    · have n := hkind k hk k' hk'
      have hok' := hO k' hk'
      refine ⟨?_, ?_, ?_, ?_⟩
      · intro hd
        by_cases e : k'.ld = k.ld
        · obtain rfl := hinj k' hk' k hk (.inl e); rw [updF_same]
        · rw [updF_ne _ _ e] at hd ⊢; exact hok'.l hd
      · rw [updF_ne _ _ n.1.symm, updF_ne _ _ n.1.symm]; exact hok'.c
      · rw [updF_ne _ _ n.2.1.symm, updF_ne _ _ n.2.1.symm, updF_ne _ _ n.2.2.1.symm]; exact hok'.a
      · rw [updF_ne _ _ n.2.1.symm, updF_ne _ _ n.2.2.1.symm]; exact hok'.s
    · rw [updF_ne _ _ (hkind k hk k1 hk1).2.1.symm, updF_ne _ _ (hkind k hk k2 hk2).2.1.symm, updF_ne _ _ (hkind k hk k1 hk1).2.1.symm, updF_ne _ _ (hkind k hk k2 hk2).2.1.symm]
      exact hD k1 hk1 k2 hk2 hne
  · -- the call
    obtain ⟨o', c1, c2, c3, c4, e, he, hb, hon⟩ := (hfit k hk).c
    rw [ho] at c1; cases c1
    refine ⟨wanted_none c4, ?_⟩
    obtain ⟨ol, l1, l2, l3, _⟩ := (hfit k hk).l
    have hdl : done k.ld = true := by have := hdep e he hb; rw [hon] at this; exact this
    have hev : (putD done val ops.toList 0 a0).eval (.tmp k.sl) = valR k.x := (hat k.ld ol k.sl l1 l3 hdl hsl).trans (hok.l hdl)
    have hst := step_callN (P := Tryd.prog) (ops := ops) (o := o) (a := putD done val ops.toList 0 a0) (w := w') (Q := Q) (X := True) (K := fun a' w'' => ∃ v, a' = (putD done val ops.toList 0 a0).put o.dst v ∧ Fill.J W ks (updF done k.cl true) (updF val k.cl v) w'') (wanted_none c4) 21 (fn := Tryd.f21) #[.tmp k.sl] #[37] c2 Tryd.func21 (by kernel_rfl) (by kernel_rfl) #[valR k.x] (by simp [hev]) (hOf k.x w') ?_
    · rw [if_pos (wanted_none c4)] at hst; exact hst
    · rintro en w'' ⟨rfl, hx⟩
      refine ⟨_, rfl, _, rfl, hE.trans hx, fun k' hk' => ?_, fun k1 hk1 k2 hk2 hne => ?_⟩
      · have n := hkind k' hk' k hk
        have m := hkind k hk k' hk'
        have hok' := hO k' hk'
        refine ⟨?_, ?_, ?_, ?_⟩
        · rw [updF_ne _ _ n.1, updF_ne _ _ n.1]; exact hok'.l
        · intro hd
          by_cases e : k'.cl = k.cl
          · obtain rfl := hinj k' hk' k hk (.inr (.inl e)); rw [updF_same]
          · rw [updF_ne _ _ e] at hd ⊢; exact hok'.c hd
        · rw [updF_ne _ _ m.2.2.2.1.symm, updF_ne _ _ m.2.2.2.1.symm, updF_ne _ _ m.2.2.2.2.1.symm]
          intro hd
          obtain ⟨g, h1, h2, h3⟩ := hok'.a hd
          exact ⟨g, h1, h2, h3.ext hx⟩
        · rw [updF_ne _ _ m.2.2.2.1.symm, updF_ne _ _ m.2.2.2.2.1.symm]; exact hok'.s
      · rw [updF_ne _ _ (hkind k hk k1 hk1).2.2.2.1.symm, updF_ne _ _ (hkind k hk k2 hk2).2.2.2.1.symm, updF_ne _ _ (hkind k hk k1 hk1).2.2.2.1.symm, updF_ne _ _ (hkind k hk k2 hk2).2.2.2.1.symm]
        exact hD k1 hk1 k2 hk2 hne
  · -- the new block
    obtain ⟨o', a1, a2, a3, a4⟩ := (hfit k hk).a
    rw [ho] at a1; cases a1
    refine ⟨wanted_none a4, ?_⟩
    have hrun : (execOp (putD done val ops.toList 0 a0).eval o).run Tryd.prog w' = .ok (.value (.pointer (some ⟨w'.heap.size, 0, none⟩))) (w'.alloc (.cells (cellsP zeroP) 24)) := by
      simp only [execOp, a2]
      simp [run_allocP]
      rfl
    unfold Oper.wp
    rw [hrun]
    have hold : ∀ k' ∈ ks, done k'.al = true → val k'.al ≠ .pointer (some ⟨w'.heap.size, 0, none⟩) := fun k' hk' hd he => by
      obtain ⟨g, h1, _, h3⟩ := (hO k' hk').a hd
      rw [h1] at he
      have := h3.lt
      injection he with he; injection he with he; injection he with he
      omega
    refine ⟨_, rfl, hE.alloc _, fun k' hk' => ?_, fun k1 hk1 k2 hk2 hne => ?_⟩
    · have n := hkind k' hk' k hk
      have m := hkind k hk k' hk'
      have hok' := hO k' hk'
      refine ⟨?_, ?_, ?_, ?_⟩
      · rw [updF_ne _ _ n.2.1, updF_ne _ _ n.2.1]; exact hok'.l
      · rw [updF_ne _ _ n.2.2.2.1, updF_ne _ _ n.2.2.2.1]; exact hok'.c
      · rw [updF_ne _ _ m.2.2.2.2.2.symm]
        intro hd
        by_cases e : k'.al = k.al
        · obtain rfl := hinj k' hk' k hk (.inr (.inr (.inl e)))
          rw [updF_same]
          have hns : ¬ done k'.st = true := fun hs => by rw [hok'.s hs] at hdn; cases hdn
          rw [if_neg hns]
          exact ⟨_, rfl, hE.size, Blk.new _ _ _⟩
        · rw [updF_ne _ _ e] at hd ⊢
          obtain ⟨g, h1, h2, h3⟩ := hok'.a hd
          exact ⟨g, h1, h2, h3.alloc _⟩
      · intro hs
        rw [updF_ne _ _ m.2.2.2.2.2.symm] at hs
        by_cases e : k'.al = k.al
        · rw [e, updF_same]
        · rw [updF_ne _ _ e]; exact hok'.s hs
    · by_cases e1 : k1.al = k.al
      · have e2 : k2.al ≠ k.al := fun h => hne (e1.trans h.symm)
        rw [e1, updF_same, updF_same, updF_ne _ _ e2, updF_ne _ _ e2]
        exact fun _ hd => (hold k2 hk2 hd).symm
      · by_cases e2 : k2.al = k.al
        · rw [e2, updF_same, updF_same, updF_ne _ _ e1, updF_ne _ _ e1]
          exact fun hd _ => hold k1 hk1 hd
        · rw [updF_ne _ _ e1, updF_ne _ _ e1, updF_ne _ _ e2, updF_ne _ _ e2]
          exact hD k1 hk1 k2 hk2 hne
  · -- the store
    obtain ⟨o', s1, s2, s3, s4, ⟨ea, hea, hba, hona⟩, ec, hec, hbc, honc⟩ := (hfit k hk).s
    rw [ho] at s1; cases s1
    refine ⟨wanted_none s4, ?_⟩
    obtain ⟨oc, c1, c2, c3, _⟩ := (hfit k hk).c
    obtain ⟨oa, a1, a2, a3, _⟩ := (hfit k hk).a
    have hdc : done k.cl = true := by have := hdep ec hec hbc; rw [honc] at this; exact this
    have hda : done k.al = true := by have := hdep ea hea hba; rw [hona] at this; exact this
    obtain ⟨g, hg1, hg2, hg3⟩ := hok.a hda
    rw [if_neg (by rw [hdn]; decide)] at hg3
    have ev1 : (putD done val ops.toList 0 a0).eval (.tmp k.sc) = valP (rawP k.x) := (hat k.cl oc k.sc c1 c3 hdc hsc).trans (hok.c hdc)
    have ev2 : (putD done val ops.toList 0 a0).eval (.tmp k.sa) = .pointer (some ⟨g, 0, none⟩) := (hat k.al oa k.sa a1 a3 hda hsa).trans hg1
    have hrun : (execOp (putD done val ops.toList 0 a0).eval o).run Tryd.prog w' = .ok .skip ((((w'.setCell ⟨g, 0, none⟩ (.int .i64 (rawP k.x).fam)).setCell ⟨g, 1, none⟩ (.int .u64 ((rawP k.x).rd : Int))).setCell ⟨g, 2, none⟩ (.string ⟨(rawP k.x).addr.toArray⟩)).setCell ⟨g, 3, none⟩ (.int .i64 (rawP k.x).len)) := by
      simp only [execOp, s2, ev1, ev2]
      simp [run_storeP hg3]
    unfold Oper.wp
    rw [hrun]
    refine ⟨undef, rfl, hE.set4 hg2 _ _ _ _, fun k' hk' => ?_, fun k1 hk1 k2 hk2 hne => ?_⟩
    · have n := hkind k' hk' k hk
      have hok' := hO k' hk'
      refine ⟨?_, ?_, ?_, ?_⟩
      · rw [updF_ne _ _ n.2.2.1, updF_ne _ _ n.2.2.1]; exact hok'.l
      · rw [updF_ne _ _ n.2.2.2.2.1, updF_ne _ _ n.2.2.2.2.1]; exact hok'.c
      · rw [updF_ne _ _ n.2.2.2.2.2, updF_ne _ _ n.2.2.2.2.2]
        intro hd
        by_cases e : k'.st = k.st
        · obtain rfl := hinj k' hk' k hk (.inr (.inr (.inr e)))
          rw [updF_same, if_pos rfl]
          exact ⟨g, hg1, hg2, hg3.set4 _ _ _ _⟩
        · rw [updF_ne _ _ e]
          obtain ⟨g', h1, h2, h3⟩ := hok'.a hd
          have hne : g' ≠ g := fun he => by
            have hal : k'.al ≠ k.al := fun h => e (by rw [hinj k' hk' k hk (.inr (.inr (.inl h)))])
            exact hD k' hk' k hk hal hd hda (by rw [h1, hg1, he])
          exact ⟨g', h1, h2, (((h3.far (by exact hne) _).far (by exact hne) _).far (by exact hne) _).far (by exact hne) _⟩
      · intro hs
        rw [updF_ne _ _ n.2.2.2.2.2]
        by_cases e : k'.st = k.st
        · obtain rfl := hinj k' hk' k hk (.inr (.inr (.inr e))); exact hda
        · rw [updF_ne _ _ e] at hs; exact hok'.s hs
    · rw [updF_ne _ _ (hkind k1 hk1 k hk).2.2.2.2.2, updF_ne _ _ (hkind k2 hk2 k hk).2.2.2.2.2, updF_ne _ _ (hkind k1 hk1 k hk).2.2.2.2.2, updF_ne _ _ (hkind k2 hk2 k hk).2.2.2.2.2]
      exact hD k1 hk1 k2 hk2 hne
end Go.Proofs.YtbobpaailmbndaaDoor
