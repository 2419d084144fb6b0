/- Chapter 16, plain: what PolcJumps asks of a program. append(none, l...) of rows of any elements. -/
import Derived.Test.YtljibkfbldjgdaaGreatDoorHA
import Derived.Test.YtljibkfbldjgdaaGreatDoorVA
namespace Go.Proofs.YtljibkfbldjgdaaGreatDoor
section
open Go.RowKit Go.Sort
set_option linter.unusedVariables false

theorem insL_kind : ∀ (l : List TermS) (off : Nat) (x : InsS), x ∈ insL off l → x.kind = 1 ∨ x.kind = 2
  | [], off, x, h => by cases h
  | t :: r, off, x, h => by
    have h : x ∈ insT off t ++ insL (off + t.conds.length + t.acts.length) r := h
    rcases List.mem_append.1 h with h | h
    · unfold insT at h
      rcases List.mem_append.1 h with h | h
      · obtain ⟨c, _, rfl⟩ := List.mem_map.1 h; exact .inl rfl
      · obtain ⟨c, _, rfl⟩ := List.mem_map.1 h; exact .inr rfl
    · exact insL_kind r _ x h
theorem insL_cond : ∀ (l : List TermS) (off : Nat) (t : TermS) (c : CondS), t ∈ l → c ∈ t.conds → ∃ x ∈ insL off l, x.cond = c
  | [], off, t, c, h, _ => by cases h
  | y :: r, off, t, c, h, hc => by
    show ∃ x ∈ insT off y ++ insL (off + y.conds.length + y.acts.length) r, x.cond = c
    rcases List.mem_cons.1 h with rfl | h
    · refine ⟨_, List.mem_append_left _ (List.mem_append_left _ (List.mem_map.2 ⟨c, hc, rfl⟩)), rfl⟩
    · obtain ⟨x, hx, he⟩ := insL_cond r (off + y.conds.length + y.acts.length) t c h hc
      exact ⟨x, List.mem_append_right _ hx, he⟩
theorem insL_act : ∀ (l : List TermS) (off : Nat) (t : TermS) (c : ActS), t ∈ l → c ∈ t.acts → ∃ x ∈ insL off l, x.act = c
  | [], off, t, c, h, _ => by cases h
  | y :: r, off, t, c, h, hc => by
    show ∃ x ∈ insT off y ++ insL (off + y.conds.length + y.acts.length) r, x.act = c
    rcases List.mem_cons.1 h with rfl | h
    · refine ⟨_, List.mem_append_left _ (List.mem_append_right _ (List.mem_map.2 ⟨c, hc, rfl⟩)), rfl⟩
    · obtain ⟨x, hx, he⟩ := insL_act r (off + y.conds.length + y.acts.length) t c h hc
      exact ⟨x, List.mem_append_right _ hx, he⟩
theorem insP_len (p : PolS) : (insP p).length = (insL 0 p.terms).length + 1 := by unfold insP; simp
theorem insP_last (p : PolS) (h : (insL 0 p.terms).length < (insP p).length) : (insP p)[(insL 0 p.terms).length] = ⟨3, zeroCo, zeroAc, 0, if p.els = true then 1 else 0⟩ := by
  have h2 : (insP p)[(insL 0 p.terms).length]? = some ⟨3, zeroCo, zeroAc, 0, if p.els = true then 1 else 0⟩ := by
    unfold insP
    rw [List.getElem?_append_right (Nat.le_refl _)]
    simp
  rw [List.getElem?_eq_getElem h] at h2
  exact Option.some.inj h2
/-- An instruction is as the law says. -/
def jumpOk (n : Nat) (i : Nat) (x : InsS) : Prop := ¬ (x.kind = 1 ∧ (x.to ≤ (i : Int) ∨ (n : Int) ≤ x.to)) ∧ ¬ (x.kind = 3 ∧ (i : Int) < (n : Int) - 1)
theorem insP_jump (p : PolS) (i : Nat) (h : i < (insP p).length) : jumpOk (insP p).length i (insP p)[i] := by
  have hl := insP_len p
  by_cases hi : i < (insL 0 p.terms).length
  · have he : (insP p)[i] = (insL 0 p.terms)[i] := by
      have h2 : (insP p)[i]? = (insL 0 p.terms)[i]? := by unfold insP; rw [List.getElem?_append_left hi]
      rw [List.getElem?_eq_getElem h, List.getElem?_eq_getElem hi] at h2
      exact Option.some.inj h2
    rw [he]
    have hk := insL_kind p.terms 0 _ (List.getElem_mem hi)
    have hj := insL_jump p.terms 0 i _ (List.getElem?_eq_getElem hi)
    refine ⟨fun h2 => ?_, fun h2 => ?_⟩
    · have := hj h2.1
      omega
    · rcases hk with hk | hk <;> (rw [hk] at h2; exact absurd h2.1 (by decide))
  · obtain rfl : i = (insL 0 p.terms).length := by omega
    rw [insP_last p h]
    refine ⟨fun h2 => absurd (show (3 : Int) = 1 from h2.1) (by decide), fun h2 => ?_⟩
    have := h2.2
    omega
/-- Does an instruction name it? -/
def insNames (nm : List UInt8) (x : InsS) : Bool := x.cond.name == nm || x.act.name == nm
theorem needC_name {c : CondS} {n : List UInt8 × Int} (h : needC c = some n) : c.name = n.1 := by
  unfold needC at h
  split at h
  · injection h with h; rw [← h]
  · cases h
theorem needA_name {c : ActS} {n : List UInt8 × Int} (h : needA c = some n) : c.name = n.1 := by
  unfold needA at h
  split at h
  · injection h with h; rw [← h]
  · cases h
theorem needs_named (p : PolS) (n : List UInt8 × Int) (h : n ∈ needsP p) : (insP p).any (insNames n.1) = true := by
  unfold needsP at h
  obtain ⟨t, ht, h⟩ := List.mem_flatMap.1 h
  unfold needsT at h
  rw [List.any_eq_true]
  rcases List.mem_append.1 h with h | h
  · obtain ⟨c, hc, hn⟩ := List.mem_filterMap.1 h
    obtain ⟨x, hx, he⟩ := insL_cond p.terms 0 t c ht hc
    exact ⟨x, List.mem_append_left _ hx, by unfold insNames; rw [he, needC_name hn]; simp⟩
  · obtain ⟨c, hc, hn⟩ := List.mem_filterMap.1 h
    obtain ⟨x, hx, he⟩ := insL_act p.terms 0 t c ht hc
    exact ⟨x, List.mem_append_left _ hx, by unfold insNames; rw [he, needA_name hn]; simp⟩
theorem setsP_named (p : PolS) (l : List StS) (s : StS) (h : s ∈ setsP p l) : (insP p).any (insNames s.name) = true := by
  unfold setsP at h
  obtain ⟨_, h2⟩ := List.mem_filter.1 h
  obtain ⟨n, hn, he⟩ := List.any_eq_true.1 h2
  rw [← eq_of_beq he]
  exact needs_named p n hn
/-- A set that is not named changes nothing. -/
theorem wide_check (p : PolS) (l : List StS) (m : StS) (h : checkP p l = 0) (hm : ∀ s ∈ l, s.name ≠ m.name) : checkP p (l ++ [m]) = 2 ∨ (checkP p (l ++ [m]) = 0 ∧ setsP p (l ++ [m]) = setsP p l) := by
  have h1 : polOk p = true := by
    cases hp : polOk p with
    | true => rfl
    | false => rw [checkP_bad hp] at h; cases h
  have h2 : setsOk l [] = true := by
    cases hp : setsOk l [] with
    | true => rfl
    | false => rw [checkP_sets h1 hp] at h; cases h
  have h3 : (needsP p).all (thereS l) = true := by
    cases hp : (needsP p).all (thereS l) with
    | true => rfl
    | false => rw [checkP_need h1 h2 hp] at h; cases h
  have h3' := List.all_eq_true.1 h3
  have h4 : (needsP p).all (thereS (l ++ [m])) = true := by
    rw [List.all_eq_true]
    intro n hn
    have := h3' n hn
    unfold thereS at *
    rw [List.any_append, this, Bool.true_or]
  cases hso : setsOk (l ++ [m]) [] with
  | false => exact .inl (checkP_sets h1 hso)
  | true =>
    refine .inr ⟨checkP_ok h1 hso h4, ?_⟩
    unfold setsP
    rw [List.filter_append]
    have : ((needsP p).any fun n => n.1 == m.name) = false := by
      rw [List.any_eq_false]
      intro n hn he
      have ht := h3' n hn
      unfold thereS at ht
      obtain ⟨s, hs, h5⟩ := List.any_eq_true.1 ht
      rw [Bool.and_eq_true] at h5
      exact hm s hs (by rw [eq_of_beq h5.1]; exact eq_of_beq he)
    simp [this]
theorem any_snoc {α : Type} (f : α → Bool) {l : List α} {k : Nat} (h : k < l.length) : (l.take (k + 1)).any f = ((l.take k).any f || f l[k]) := by
  rw [List.take_succ_eq_append_getElem h, List.any_append]
  simp
end
section
open Go.RowKit Go.Sort
set_option linter.unusedVariables false

theorem run_pushRowK {Q : Program} {w : World} {e t ty : TypeId} {sz bytes B n n2 c : Nat} {v : Value} {xs ys : List Value} {a : Option Addr} (hok : ElemOk Q t e sz bytes) (hsz : 0 < sz) (hby : bytes ≤ 4096) (ho : w.ownsRow B e sz v n xs) (hB : B ≤ w.heap.size)
    (hl : n + n2 ≤ 34359738368) (hys : ys.length = n2 * sz) (ha : a = none → n2 = 0) (hc : ∀ ad, a = some ad → ∀ j u, ys[j]? = some u → w.cell? (ad.add j) = some u) (h1 : ∀ u ∈ ys, u.oneCell' = true) :
    ∃ v' w', (Builtin.append_ #[t, t] ty #[v, .slice a n2 c]).run Q w = .ok v' w' ∧ w'.ownsRow B e sz v' (n + n2) (xs ++ ys) ∧ w.grownBy w' v.ownBlock ∧ (v'.ownBlock = v.ownBlock ∨ v'.ownBlock = some w.heap.size) := by
  obtain ⟨ht, i, z, hi, hz, h1', hb, h3⟩ := hok
  rcases a with _ | ad
  · have hn := ha rfl
    subst hn
    have hy : ys = [] := List.eq_nil_of_length_eq_zero (by omega)
    subst hy
    refine ⟨v, w, ?_, by simpa using ho, ⟨rfl, rfl, rfl, Nat.le_refl _, fun _ _ _ => rfl⟩, .inl rfl⟩
    rcases ho.2 with ⟨rfl, h0⟩ | ⟨g, cap, cur, rfl, _, _, hnc, _⟩
    · simp [Builtin.append_, run_underlying ht, sizeOf, typeInfo, hi, Builtin.lenOf, Builtin.firstCells]
    · simp [Builtin.append_, run_underlying ht, sizeOf, typeInfo, hi, Builtin.lenOf, Builtin.firstCells, hnc, storeCells]
  · have hm : (n + n2) * bytes ≤ 34359738368 * 4096 := Nat.mul_le_mul (by omega) hby
    obtain ⟨v', w', hrun, hown, hg, _, hat⟩ := run_append_own_at (P := Q) w B t ty e i z sz bytes ht hi hz h1' hb h3 hsz v n xs ho ad n2 c ys hys (hc ad rfl) h1 (by unfold maxLen; omega) (by omega) hB
    exact ⟨v', w', hrun, hown, hg, hat⟩
/-- The cells of a row, one after the other. -/
theorem Sl.cells {α : Type} {E : Enc α} {w : World} {S : Nat → Prop} {a : Option Addr} {l : List α} (h : Sl E w S a l) :
    ∃ ys : List Value, ys.length = l.length * E.sz ∧ (∀ u ∈ ys, u.oneCell' = true) ∧ (a = none → l.length = 0) ∧ (∀ ad, a = some ad → ∀ j u, ys[j]? = some u → w.cell? (ad.add j) = some u) ∧
      ∀ k x, l[k]? = some x → ∃ cs, E.R w S x cs ∧ ∀ j u, cs[j]? = some u → ys[k * E.sz + j]? = some u := by
  rcases h with h | ⟨b, off, rfl, hb, h⟩
  · subst h
    exact ⟨([] : List Value), by simp, (fun u hu => absurd hu List.not_mem_nil), (fun _ => rfl), (fun ad _ j u hu => by simp at hu), (fun k x hx => by simp at hx)⟩
  have h' : ∀ k (hk : k < l.length), ∃ cs, E.R w S l[k] cs ∧ ∀ j u, cs[j]? = some u → w.cell? ⟨b, off + k * E.sz + j, none⟩ = some u := fun k hk => h k l[k] (List.getElem?_eq_getElem hk)
  obtain ⟨f, hf⟩ : ∃ f : Nat → List Value, ∀ k, (f k).length = E.sz ∧ ∀ (hk : k < l.length), E.R w S l[k] (f k) ∧ ∀ j u, (f k)[j]? = some u → w.cell? ⟨b, off + k * E.sz + j, none⟩ = some u := by
    refine ⟨fun k => if hk : k < l.length then (h' k hk).choose else List.replicate E.sz undef, fun k => ?_⟩
    by_cases hk : k < l.length
    · simp only [dif_pos hk]
      exact ⟨E.size (h' k hk).choose_spec.1, fun _ => (h' k hk).choose_spec⟩
    · simp only [dif_neg hk]
      exact ⟨List.length_replicate, fun hk' => absurd hk' hk⟩
  have hn := fun k => (hf k).1
  have hget : ∀ k j, k < l.length → j < E.sz → ((List.range l.length).flatMap f)[k * E.sz + j]? = (f k)[j]? := fun k j hk hj => by
    have := flat_get f E.sz hn (List.range l.length) k j (by simpa using hk) hj
    simpa using this
  refine ⟨(List.range l.length).flatMap f, by rw [flatC_len f E.sz hn]; simp, fun u hu => ?_, fun e => (by cases e), fun ad he j u hj => ?_, fun k x hx => ?_⟩
  · obtain ⟨k, hk, hu⟩ := List.mem_flatMap.1 hu
    have hk := List.mem_range.1 hk
    exact E.one ((hf k).2 hk).1 u hu
  · injection he with he
    subst he
    have hlt := (List.getElem?_eq_some_iff.1 hj).1
    rw [flatC_len f E.sz hn, List.length_range] at hlt
    have hz : 0 < E.sz := by
      rcases Nat.eq_zero_or_pos E.sz with h0 | h0
      · rw [h0, Nat.mul_zero] at hlt; omega
      · exact h0
    have hk : j / E.sz < l.length := Nat.div_lt_of_lt_mul (by rw [Nat.mul_comm]; exact hlt)
    have hjm : j % E.sz < E.sz := Nat.mod_lt _ hz
    have he : j / E.sz * E.sz + j % E.sz = j := by rw [Nat.mul_comm]; exact Nat.div_add_mod j E.sz
    have h2 := hget (j / E.sz) (j % E.sz) hk hjm
    rw [he, hj] at h2
    have h3 := ((hf (j / E.sz)).2 hk).2 _ u h2.symm
    rw [add_lit, show off + j = off + j / E.sz * E.sz + j % E.sz by omega]
    exact h3
  · have hk : k < l.length := (List.getElem?_eq_some_iff.1 hx).1
    obtain rfl : l[k] = x := by rw [List.getElem?_eq_getElem hk] at hx; exact Option.some.inj hx
    refine ⟨f k, ((hf k).2 hk).1, fun j u hj => ?_⟩
    have hj' : j < E.sz := by
      have := (List.getElem?_eq_some_iff.1 hj).1
      rw [hn] at this
      exact this
    rw [hget k j hk hj']
    exact hj
/-- append(none, l...): a row of the call's own of the same elements, whatever they lead to. -/
theorem wpList_pushAll {α : Type} {E : Enc α} {Q : Program} {ops : Array Oper} {rest : List Oper} {o : Oper} {ac : Act} {R : Exit → Act → World → Prop} {w : World} {e : TypeId} {bytes c : Nat} {a : Option Addr} {l : List α} (hgd : o.guard = none) (s x : Operand) (t : TypeId)
    (hop : o.op = .call { callee := .builtin .append, args := #[s, x], argTypes := #[t, t] }) (hok : ElemOk Q t e E.sz bytes) (hsz : 0 < E.sz) (hby : bytes ≤ 4096) (hs : ac.eval s = .slice none 0 0)
    (hx : ac.eval x = .slice a l.length c) (hl : l.length ≤ 34359738368) (h : Sl E w (· < w.heap.size) a l)
    (hk : ∀ v' w', Own E e w' 0 v' l → Ext w w' → (∀ b, v'.ownBlock = some b → w.heap.size ≤ b) → wpList Q ops R rest (ac.put o.dst v') w') : wpList Q ops R (o :: rest) ac w :=
  wpList_plain hgd fun _ hK => by
    obtain ⟨ys, h1, h2, h3, h4, h5⟩ := h.cells
    obtain ⟨v', w', hrun, ho, hg, hat⟩ := run_pushRowK (Q := Q) (ty := o.type) (c := c) (B := 0) hok hsz hby (World.ownsRow_nil w 0 e E.sz) (Nat.zero_le _) (by omega) h1 h3 h4 h2
    unfold Oper.wp execOp
    simp only [hop, resolve, invoke, builtin, Sem.run_bind, Sem.run_pure, Result.andThen_ok, List.map_toArray, List.map_cons, List.map_nil, hs, hx, hrun]
    have hE : Ext w w' := (Ext.refl w).grown hg fun k hk => by cases hk
    refine hK _ _ (hk v' w' ⟨ys, ?_, fun k y hy => ?_⟩ hE fun b hb => by
      rcases hat with hat | hat
      · rw [hat] at hb; cases hb
      · rw [hat] at hb; injection hb with hb; omega)
    · rw [Nat.zero_add, List.nil_append] at ho
      exact ho
    · obtain ⟨cs, hr, hc⟩ := h5 k y hy
      refine ⟨cs, E.mono (fun b hb => ⟨Nat.zero_le _, Nat.lt_of_lt_of_le hb hE.size, fun e => ?_⟩) (E.frame (fun b hb => hE.block b hb) hr), hc⟩
      rcases hat with hat | hat
      · rw [hat] at e; cases e
      · rw [hat] at e; injection e with e; have : b < w.heap.size := hb; omega
end
end Go.Proofs.YtljibkfbldjgdaaGreatDoor
