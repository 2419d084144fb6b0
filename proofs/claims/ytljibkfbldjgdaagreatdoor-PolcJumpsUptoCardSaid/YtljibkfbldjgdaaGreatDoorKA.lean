/- slices.Clone at items, at atoms, at numbers, at patterns (shallow). Rows of slices by their heads; rows of slices whose elements are replaced one by one by rows of the call's own. -/
import Derived.Test.YtljibkfbldjgdaaGreatDoorVZ
import Derived.Deep.MidRow
namespace Go.Proofs.YtljibkfbldjgdaaGreatDoor
open Go.RowKit Go.Sort
set_option linter.unusedVariables false

theorem okU32K : ElemOk Tryz.prog 64 49 EU32.sz 4 := elemOk (z := .int .u32 0) Tryz.underlying64 (by kernel_rfl) rfl
theorem EItm_one : ∀ x : Itm, ∀ u ∈ itmCs x, u.oneCell' = true := fun x u hu => by
  simp only [itmCs, List.mem_cons, List.not_mem_nil, or_false] at hu
  rcases hu with rfl | rfl | rfl | rfl | rfl | rfl <;> rfl
set_option maxRecDepth 20000 in
theorem okItmV : ElemOk Tryz.prog 63 72 EItm.sz 56 := elemOk (z := .agg #[.int .i64 0, .int .u64 0, .string ⟨#[]⟩, .int .i64 0, .int .i64 0, .int .i64 0]) Tryz.underlying63 (by kernel_rfl) rfl
theorem CloneI_any (a : Option Addr) (c : Nat) (l : List Itm) (w : World) (hl : l.length ≤ 16777216) (hs : Sl EItm w (· < w.heap.size) a l) :
    Calls Tryz.prog 59 #[.slice a l.length c] w fun e w' => ∃ v, e = .returned v ∧ Ext w w' ∧ Own EItm 72 w' w.heap.size v l := by
  replace hs := hide hs
  have q1 := fun (w : World) (a : Option Addr) (n c : Nat) => Lib.run_eql_slice_nil (P := Tryz.prog) w 63 72 a n c 0 0 Tryz.underlying63
  rcases a with _ | ad
  · have hn : l = [] := by
      rcases hs.out with h2 | ⟨_, _, h2, _⟩
      · exact h2
      · cases h2
    subst hn
    go_enter Tryz.func59, Tryz.ntmps59
    go_wp2
    go_ret
    exact ⟨_, rfl, Ext.refl _, Own.nil⟩
  · go_enter Tryz.func59, Tryz.ntmps59
    go_wp2_with (at_builtin; go_must (refine wpList_pushesC (f := itmCs) (P := ItmIn) (n := 6) (hn := fun _ => rfl) (h1 := EItm_one) (B := w.heap.size) rfl _ _ _ rfl (by decide) okItmV (by decide) rfl (Own.empty (Nat.le_refl _)) (by simp) rfl (by simp; omega) (hs.out.ext ((Ext.refl _).alloc _)) ?_); intro v' w1 hown hg hat)
    go_ret
    refine ⟨_, rfl, ((Ext.refl _).alloc _).push (fun j hj => ?_) hg, by rw [List.nil_append] at hown; exact hown⟩
    have : w.heap.size = j := Option.some.inj hj
    omega
theorem CloneA_any (a : Option Addr) (c : Nat) (l : List Atm) (w : World) (hl : l.length ≤ 16777216) (hs : Sl EAtm w (· < w.heap.size) a l) :
    Calls Tryz.prog 62 #[.slice a l.length c] w fun e w' => ∃ v, e = .returned v ∧ Ext w w' ∧ Own EAtm 75 w' w.heap.size v l := by
  replace hs := hide hs
  have q1 := fun (w : World) (a : Option Addr) (n c : Nat) => Lib.run_eql_slice_nil (P := Tryz.prog) w 73 75 a n c 0 0 Tryz.underlying73
  rcases a with _ | ad
  · have hn : l = [] := by
      rcases hs.out with h2 | ⟨_, _, h2, _⟩
      · exact h2
      · cases h2
    subst hn
    go_enter Tryz.func62, Tryz.ntmps62
    go_wp2
    go_ret
    exact ⟨_, rfl, Ext.refl _, Own.nil⟩
  · go_enter Tryz.func62, Tryz.ntmps62
    go_wp2_with (at_builtin; go_must (refine wpList_pushesC (f := atmCs) (P := fun a => i64 a.1) (n := 2) (hn := fun _ => rfl) (h1 := EAtm_oneZ) (B := w.heap.size) rfl _ _ _ rfl (by decide) okAtmZ (by decide) rfl (Own.empty (Nat.le_refl _)) (by simp) rfl (by simp; omega) (hs.out.ext ((Ext.refl _).alloc _)) ?_); intro v' w1 hown hg hat)
    go_ret
    refine ⟨_, rfl, ((Ext.refl _).alloc _).push (fun j hj => ?_) hg, by rw [List.nil_append] at hown; exact hown⟩
    have : w.heap.size = j := Option.some.inj hj
    omega
open Go.RowKit Go.Sort

theorem ESet.at {w : World} {S : Nat → Prop} {a : Option Addr} {l : List StS} (h : Sl ESet w S a l) (k : Nat) (hk : k < l.length) :
    ∃ b off a1 c1 a2 c2 a3 c3, a = some ⟨b, off, none⟩ ∧ S b ∧ SetIn w S l[k] a1 a2 a3 ∧ ∀ j u, (setCs l[k] a1 c1 a2 c2 a3 c3)[j]? = some u → w.cell? ⟨b, off + k * 5 + j, none⟩ = some u := by
  obtain ⟨b, off, cs, rfl, hb, hr, hc⟩ := h.at k hk
  obtain ⟨a1, c1, a2, c2, a3, c3, rfl, hi⟩ := ESet.iff.1 hr
  exact ⟨b, off, a1, c1, a2, c2, a3, c3, rfl, hb, hi, hc⟩
abbrev Head := Option Addr × Nat × Nat
/-- A slice as a value alone. -/
def ESlv : Enc Head := Enc.flat (fun x => .slice x.1 x.2.1 x.2.2) (fun _ => True) (fun _ => rfl)
theorem okSlv : ElemOk Tryz.prog 65 73 ESlv.sz 24 := elemOk (z := .slice none 0 0) Tryz.underlying65 (by kernel_rfl) rfl
/-- A slice's head tells a list. -/
def HeadIs (w : World) (S : Nat → Prop) (h : Head) (x : List Atm) : Prop := h.2.1 = x.length ∧ x.length ≤ 16777216 ∧ Sl EAtm w S h.1 x
theorem heads_sl {w : World} {S : Nat → Prop} {a : Option Addr} {l : List (List Atm)} (h : Sl EAtm.slice w S a l) : ∃ hs : List Head, hs.length = l.length ∧ Sl ESlv w S a hs ∧ ∀ k (hk : k < l.length), ∃ x, hs[k]? = some x ∧ HeadIs w S x l[k] := by
  have hq : ∀ k (hk : k < l.length), ∃ x : Head, HeadIs w S x l[k] ∧ ∀ b off, a = some ⟨b, off, none⟩ → w.cell? ⟨b, off + k, none⟩ = some (.slice x.1 x.2.1 x.2.2) := fun k hk => by
    obtain ⟨b, off, ak, ck, rfl, _, h0, hm, hs⟩ := EPat.at h k hk
    refine ⟨(ak, l[k].length, ck), ⟨rfl, hm, hs⟩, fun b' off' he => ?_⟩
    injection he with he
    injection he with h1 h2
    subst h1 h2
    exact h0
  obtain ⟨f, hf⟩ : ∃ f : Nat → Head, ∀ k (hk : k < l.length), HeadIs w S (f k) l[k] ∧ ∀ b off, a = some ⟨b, off, none⟩ → w.cell? ⟨b, off + k, none⟩ = some (.slice (f k).1 (f k).2.1 (f k).2.2) := by
    refine ⟨fun k => if hk : k < l.length then (hq k hk).choose else (none, 0, 0), fun k hk => ?_⟩
    simp only [dif_pos hk]
    exact (hq k hk).choose_spec
  refine ⟨(List.range l.length).map f, by simp, ?_, fun k hk => ⟨f k, by simp [hk], (hf k hk).1⟩⟩
  rcases h with h | ⟨b, off, rfl, hb, hc⟩
  · subst h
    exact .inl rfl
  · refine .inr ⟨b, off, rfl, hb, fun k y hy => ?_⟩
    have hk : k < l.length := by
      have := (List.getElem?_eq_some_iff.1 hy).1
      simpa using this
    have hy' : y = f k := by
      simp [hk] at hy
      exact hy.symm
    subst hy'
    refine ⟨_, ⟨rfl, trivial⟩, fun j u hu => ?_⟩
    match j, hu with
    | 0, hu =>
      injection hu with hu
      rw [← hu]
      have := (hf k hk).2 b off rfl
      rw [show off + k * ESlv.sz + 0 = off + k by show off + k * 1 + 0 = off + k; omega]
      exact this
    | j + 1, hu => cases hu
theorem CloneU_any (a : Option Addr) (c : Nat) (l : List UInt32) (w : World) (hl : l.length ≤ 16777216) (hs : Sl EU32 w (· < w.heap.size) a l) :
    Calls Tryz.prog 60 #[.slice a l.length c] w fun e w' => ∃ v, e = .returned v ∧ Ext w w' ∧ Own EU32 49 w' w.heap.size v l := by
  replace hs := hide hs
  have q1 := fun (w : World) (a : Option Addr) (n c : Nat) => Lib.run_eql_slice_nil (P := Tryz.prog) w 64 49 a n c 0 0 Tryz.underlying64
  rcases a with _ | ad
  · have hn : l = [] := by
      rcases hs.out with h2 | ⟨_, _, h2, _⟩
      · exact h2
      · cases h2
    subst hn
    go_enter Tryz.func60, Tryz.ntmps60
    go_wp2
    go_ret
    exact ⟨_, rfl, Ext.refl _, Own.nil⟩
  · go_enter Tryz.func60, Tryz.ntmps60
    go_wp2_with (at_builtin; go_must (refine wpList_pushes (B := w.heap.size) rfl _ _ _ rfl okU32K (by decide) rfl (Own.empty (Nat.le_refl _)) (by simp) rfl (by simp; omega) (hs.out.ext ((Ext.refl _).alloc _)) ?_); intro v' w1 hown hg hat)
    go_ret
    refine ⟨_, rfl, ((Ext.refl _).alloc _).push (fun j hj => ?_) hg, by rw [List.nil_append] at hown; exact hown⟩
    have : w.heap.size = j := Option.some.inj hj
    omega
theorem CloneH_any (a : Option Addr) (c : Nat) (l : List Head) (w : World) (hl : l.length ≤ 16777216) (hs : Sl ESlv w (· < w.heap.size) a l) :
    Calls Tryz.prog 61 #[.slice a l.length c] w fun e w' => ∃ v, e = .returned v ∧ Ext w w' ∧ Own ESlv 73 w' w.heap.size v l := by
  replace hs := hide hs
  have q1 := fun (w : World) (a : Option Addr) (n c : Nat) => Lib.run_eql_slice_nil (P := Tryz.prog) w 65 73 a n c 0 0 Tryz.underlying65
  rcases a with _ | ad
  · have hn : l = [] := by
      rcases hs.out with h2 | ⟨_, _, h2, _⟩
      · exact h2
      · cases h2
    subst hn
    go_enter Tryz.func61, Tryz.ntmps61
    go_wp2
    go_ret
    exact ⟨_, rfl, Ext.refl _, Own.nil⟩
  · go_enter Tryz.func61, Tryz.ntmps61
    go_wp2_with (at_builtin; go_must (refine wpList_pushes (B := w.heap.size) rfl _ _ _ rfl okSlv (by decide) rfl (Own.empty (Nat.le_refl _)) (by simp) rfl (by simp; omega) (hs.out.ext ((Ext.refl _).alloc _)) ?_); intro v' w1 hown hg hat)
    go_ret
    refine ⟨_, rfl, ((Ext.refl _).alloc _).push (fun j hj => ?_) hg, by rw [List.nil_append] at hown; exact hown⟩
    have : w.heap.size = j := Option.some.inj hj
    omega
open Go.RowKit Go.Sort

theorem slv_cell {w : World} {e : TypeId} {B g n c : Nat} {l : List Head} (h : Own ESlv e w B (.slice (some ⟨g, 0, none⟩) n c) l) (k : Nat) (hk : k < l.length) :
    w.cell? ⟨g, k, none⟩ = some (.slice l[k].1 l[k].2.1 l[k].2.2) ∧ w.frozen? ⟨g, k, none⟩ = false := by
  obtain ⟨xs, ho, hr⟩ := h
  obtain ⟨cs, ⟨rfl, _⟩, hc⟩ := hr k l[k] (List.getElem?_eq_getElem hk)
  have hn : n = l.length := by
    rcases ho.2 with ⟨h2, _⟩ | ⟨g', cap, cur, h2, _⟩
    · cases h2
    · injection h2
  subst hn
  have h0 := hc 0 _ rfl
  have hz : ESlv.sz = 1 := rfl
  rw [hz, Nat.mul_one, Nat.add_zero] at h0
  have h3 := ho.cells (g := g) rfl k _ h0
  rw [add_lit, Nat.zero_add] at h3
  exact ⟨h3, ho.frozenAt k⟩
theorem slv_set {w : World} {e : TypeId} {B g n c : Nat} {l : List Head} (h : Own ESlv e w B (.slice (some ⟨g, 0, none⟩) n c) l) (k : Nat) (hk : k < l.length) (x : Head) :
    Own ESlv e (w.setCell ⟨g, k, none⟩ (.slice x.1 x.2.1 x.2.2)) B (.slice (some ⟨g, 0, none⟩) n c) (l.set k x) := by
  have := h.setC k 0 hk (by decide) (x := x) (u := .slice x.1 x.2.1 x.2.2) (fun cs hr => by
    obtain ⟨rfl, _⟩ := hr
    exact ⟨rfl, trivial⟩)
  rwa [show k * ESlv.sz + 0 = k by show k * 1 + 0 = k; omega] at this
/-- The first k heads tell rows of the call's own, the others are as they were. -/
def PreP (wr : World) (B : Nat) (hs' hs : List Head) (P : List (List Atm)) (k : Nat) : Prop :=
  hs'.length = P.length ∧ (∀ i (hi : i < P.length), i < k → ∃ ai ci, hs'[i]? = some (ai, P[i].length, ci) ∧ Own EAtm 75 wr B (.slice ai P[i].length ci) P[i]) ∧ ∀ i, k ≤ i → hs'[i]? = hs[i]?
theorem PreP.step {wr w5 : World} {B : Nat} {hs' hs : List Head} {P : List (List Atm)} {k : Nat} (h : PreP wr B hs' hs P k) (hk : k < P.length) (hE : Ext wr w5) {ai : Option Addr} {ci : Nat}
    (ho : Own EAtm 75 w5 B (.slice ai P[k].length ci) P[k]) {g8 : Nat} (hg : g8 < B) (o : Nat) (u : Value) : PreP (w5.setCell ⟨g8, o, none⟩ u) B (hs'.set k (ai, P[k].length, ci)) hs P (k + 1) := by
  have hfar : ∀ {v : Value} {l : List Atm}, Own EAtm 75 w5 B v l → Own EAtm 75 (w5.setCell ⟨g8, o, none⟩ u) B v l := fun hh =>
    hh.kept (by simp [World.setCell]) fun b hb _ => Below.heap_setCell _ _ _ _ (show b ≠ g8 by omega)
  obtain ⟨h1, h2, h3⟩ := h
  refine ⟨by rw [List.length_set, h1], fun i hi hik => ?_, fun i hik => ?_⟩
  · by_cases e : i = k
    · subst e
      exact ⟨ai, ci, by rw [List.getElem?_set_self (by omega)], hfar ho⟩
    · obtain ⟨a, c, h4, h5⟩ := h2 i hi (by omega)
      exact ⟨a, c, by rw [List.getElem?_set_ne (fun x => e x.symm)]; exact h4, hfar (h5.ext hE)⟩
  · rw [List.getElem?_set_ne (by omega)]
    exact h3 i (by omega)
theorem PreP.done {wr : World} {B B0 : Nat} {e : TypeId} {v : Value} {hs' hs : List Head} {P : List (List Atm)} (h : PreP wr B hs' hs P P.length) (ho : Own ESlv e wr B0 v hs') (hB : B0 ≤ B) (hv : ∀ b, v.ownBlock = some b → b < B) (hm : ∀ i (hi : i < P.length), P[i].length ≤ 16777216) :
    Own EAtm.sliceC e wr B0 v P ∧ ∀ k (hk : k < P.length) b a c, v.ownBlock = some b → wr.cell? ⟨b, k, none⟩ = some (.slice a P[k].length c) → Own EAtm 75 wr B0 (.slice a P[k].length c) P[k] := by
  obtain ⟨h1, h2, _⟩ := h
  refine ⟨?_, fun k hk b a c hb hc => ?_⟩
  · obtain ⟨xs, hrow, hr⟩ := ho
    rw [h1] at hrow
    refine ⟨xs, hrow, fun k x hx => ?_⟩
    have hk : k < P.length := (List.getElem?_eq_some_iff.1 hx).1
    obtain rfl : P[k] = x := by rw [List.getElem?_eq_getElem hk] at hx; exact Option.some.inj hx
    obtain ⟨ai, ci, h3, h4⟩ := h2 k hk hk
    obtain ⟨cs, ⟨rfl, _⟩, hc⟩ := hr k _ h3
    obtain ⟨b1, d1, he, hd1, hd2, hC⟩ := h4.asC (hm k hk)
    injection he with e1 e2 e3
    subst e1
    subst e3
    exact ⟨_, EAtm.sliceC.mono (fun b hb => ⟨Nat.le_trans hB hb.1, hb.2, fun e' => by have := hv b e'.symm; have := hb.1; omega⟩) hC, hc⟩
  · obtain ⟨ai, ci, h3, h4⟩ := h2 k hk hk
    have hform := ho.form
    obtain ⟨a', c', rfl⟩ := hform
    obtain ⟨g, c2, hv2, _⟩ := ho.formNe (by intro e; rw [e] at h1; simp at h1; omega)
    rw [hv2] at ho hb
    injection hb with hb
    subst hb
    have hk' : k < hs'.length := by omega
    have h5 := (slv_cell ho k hk').1
    rw [List.getElem?_eq_getElem hk'] at h3
    rw [Option.some.inj h3, hc] at h5
    have h6 := Option.some.inj h5
    injection h6 with h7 h8 h9
    subst h7
    subst h9
    exact h4.low hB
theorem step_goB {P : Program} {Q : Exit → Act → World → Prop} {o : Oper} {a : Act} {w : World} {R : Nat → Nat → Value → World → Prop} (f : FuncId) {fn : Func} (xs : Array Operand) (ts : Array TypeId)
    (hop : o.op = Op.call { callee := Callee.value (Operand.func f), args := xs, argTypes := ts }) (hf : P.funcs[f]? = some fn) (hname : (fn.name == "runtime.NumGoroutine") = false) (hb : fn.body.isNone = false) (vs : Array Value) (hx : xs.map a.eval = vs)
    (hc : Calls P f vs w fun e w' => ∃ v, e = .returned v ∧ Ext w w' ∧ R w.heap.size w'.heap.size v w') : Oper.wp P o a w (fun a' w'' => ∃ v, a' = a.put o.dst v ∧ Ext w w'' ∧ R w.heap.size w''.heap.size v w'') Q := by
  unfold Oper.wp
  have h1 : fn.name ≠ "runtime.NumGoroutine" := by simpa using hname
  have hev : a.eval (Operand.func f) = .func (.func f) #[] #[] := rfl
  have h2 : ¬ (fn.body = none) := by intro h; simp [h] at hb
  have hrun : (execOp a.eval o).run P w = .ok (.enter f vs) w := by
    simp [execOp, hop, resolve, hev, Deferred.ofValue, invoke, hx, callFunc, hf, h1, h2]
  rw [hrun, Oper.upon_enter]
  exact hc.mono fun e w' h => by obtain ⟨v, rfl, hE, hR⟩ := h; exact ⟨v, rfl, hE, hR⟩
/-- A row that a step has made. -/
def OwnR {α : Type} (E : Enc α) (e : TypeId) (l : List α) (lo hi : Nat) (v : Value) (w : World) : Prop := Own E e w lo v l ∧ ∀ b, v.ownBlock = some b → b < hi
theorem OwnR.stays {α : Type} {E : Enc α} {e : TypeId} {l : List α} {W : World} (hE : ∀ {w w' : World} {S S' : Nat → Prop} {x : α} {cs : List Value}, E.R w S x cs → E.R w' S' x cs) : Stays W (OwnR E e l) := by
  rintro lo hi v w w' ⟨⟨xs, ⟨hl, h3⟩, h2⟩, hlt⟩ hw hs
  refine ⟨⟨xs, ⟨hl, ?_⟩, fun k x hx => ?_⟩, hlt⟩
  · rcases h3 with h3 | ⟨g, cap, cur, rfl, hg, hh, r⟩
    · exact .inl h3
    · exact .inr ⟨g, cap, cur, rfl, hg, by rw [hw g (.inr ⟨hg, hlt g rfl⟩)]; exact hh, r⟩
  · obtain ⟨cs, hr, hc⟩ := h2 k x hx
    exact ⟨cs, hE hr, hc⟩
theorem OwnR.of {α : Type} {E : Enc α} {e : TypeId} {l : List α} {w w' : World} {v : Value} (h : Own E e w' w.heap.size v l) : OwnR E e l w.heap.size w'.heap.size v w' := ⟨h, fun b hb => (h.lt b hb).2⟩
theorem own_kept {α : Type} {E : Enc α} {e : TypeId} {l : List α} {w w' : World} {B : Nat} {v : Value} {row : Option Nat} (hE : ∀ {w w' : World} {S S' : Nat → Prop} {x : α} {cs : List Value}, E.R w S x cs → E.R w' S' x cs) (h : Own E e w B v l) (hg : w.grownBy w' row) (hn : v.ownBlock = none ∨ v.ownBlock ≠ row) : Own E e w' B v l := by
  obtain ⟨xs, ho, hr⟩ := h
  exact ⟨xs, ho.kept hg hn, fun k x hx => let ⟨cs, h1, h2⟩ := hr k x hx; ⟨cs, hE h1, h2⟩⟩
end Go.Proofs.YtljibkfbldjgdaaGreatDoor
