/- Rows of slices that tell their capacity; an element of such a row stored anew. -/
import Derived.Test.YtljibkfbldjgdaaGreatDoorVA
import Derived.Test.YtljibkfbldjgdaaGreatDoorW1
import Derived.Test.YtljibkfbldjgdaaGreatDoorPI
namespace Go.Proofs.YtljibkfbldjgdaaGreatDoor
open Go.RowKit
set_option linter.unusedVariables false

def Enc.sliceC {α : Type} (E : Enc α) : Enc (List α) where
  R w S l cs := ∃ a c, cs = [.slice a l.length c] ∧ l.length ≤ 16777216 ∧ l.length ≤ c ∧ c ≤ maxLen ∧ Sl E w S a l
  sz := 1
  size := by rintro w S x cs ⟨a, c, rfl, _⟩; rfl
  one := by rintro w S x cs ⟨a, c, rfl, _⟩ u hu; simp at hu; subst hu; rfl
  frame := by rintro w w' S x cs hw ⟨a, c, rfl, hm, h1, h2, h⟩; exact ⟨a, c, rfl, hm, h1, h2, h.frame hw⟩
  mono := by rintro w S S' x cs hS ⟨a, c, rfl, hm, h1, h2, h⟩; exact ⟨a, c, rfl, hm, h1, h2, h.mono hS⟩
section
variable {α : Type} {E F : Enc α} {w w' : World} {B : Nat} {v : Value} {l : List α} {e : TypeId} {S : Nat → Prop} {a : Option Addr}
theorem sliceC_weak {l : List α} {cs : List Value} (h : E.sliceC.R w S l cs) : E.slice.R w S l cs := by
  obtain ⟨a, c, rfl, hm, _, _, h⟩ := h
  exact ⟨a, c, rfl, hm, h⟩
theorem Sl.of (hsz : E.sz = F.sz) (hEF : ∀ {w : World} {S : Nat → Prop} {x : α} {cs : List Value}, E.R w S x cs → F.R w S x cs) (h : Sl E w S a l) : Sl F w S a l := by
  rcases h with h | ⟨b, off, rfl, hb, h⟩
  · exact .inl h
  · refine .inr ⟨b, off, rfl, hb, fun k x hx => ?_⟩
    obtain ⟨cs, hr, hc⟩ := h k x hx
    exact ⟨cs, hEF hr, by rw [← hsz]; exact hc⟩
theorem Sl.weakC {l : List (List α)} (h : Sl E.sliceC w S a l) : Sl E.slice w S a l := Sl.of (E := E.sliceC) (F := E.slice) rfl (fun h => sliceC_weak h) h
/-- Own, with what its capacity is at most. -/
theorem Own.slm (h : Own E e w B v l) : ∃ a c, v = .slice a l.length c ∧ l.length ≤ c ∧ c ≤ maxLen ∧ Sl E w (fun b => B ≤ b ∧ b < w.heap.size) a l := by
  obtain ⟨a, c, rfl, hn, hs⟩ := h.slc
  refine ⟨a, c, rfl, hn, ?_, hs⟩
  obtain ⟨xs, h1, _⟩ := h
  rcases h1.2 with ⟨h2, h0⟩ | ⟨g, cap, cur, h2, _, _, _, hm, _⟩
  · injection h2 with _ _ h2
    subst h2
    exact Nat.zero_le _
  · injection h2 with _ _ h2
    subst h2
    exact hm
/-- What a row of the call's own is, as an element of another row. -/
theorem Own.asC (h : Own E e w B v l) (hl : l.length ≤ 16777216) : ∃ a c, v = .slice a l.length c ∧ l.length ≤ c ∧ c ≤ maxLen ∧ E.sliceC.R w (fun b => B ≤ b ∧ b < w.heap.size) l [.slice a l.length c] := by
  obtain ⟨a, c, rfl, h1, h2, hs⟩ := h.slm
  exact ⟨a, c, rfl, h1, h2, a, c, rfl, hl, h1, h2, hs⟩
/-- One cell of an element, stored anew. -/
theorem Own.setC {g c n : Nat} (h : Own E e w B (.slice (some ⟨g, 0, none⟩) n c) l) (k j : Nat) (hk : k < l.length) (hj : j < E.sz) {x : α} {u : Value}
    (hx : ∀ cs, E.R w (fun b => B ≤ b ∧ b < w.heap.size ∧ b ≠ g) l[k] cs → E.R w (fun b => B ≤ b ∧ b < w.heap.size ∧ b ≠ g) x (cs.set j u)) : Own E e (w.setCell ⟨g, k * E.sz + j, none⟩ u) B (.slice (some ⟨g, 0, none⟩) n c) (l.set k x) := by
  obtain ⟨xs, ho, hr⟩ := h
  have hn : n = l.length := by
    rcases ho.2 with ⟨h2, _⟩ | ⟨g', cap, cur, h2, _⟩
    · cases h2
    · injection h2
  subst hn
  have hst := (ho.stored (k * E.sz + j) u).1
  have hfr : ∀ b, (B ≤ b ∧ b < w.heap.size ∧ b ≠ g) → (w.setCell ⟨g, k * E.sz + j, none⟩ u).heap[b]? = w.heap[b]? := fun b hb => Below.heap_setCell _ _ _ _ (show b ≠ g from hb.2.2)
  have hsz : (w.setCell ⟨g, k * E.sz + j, none⟩ u).heap.size = w.heap.size := by simp [World.setCell]
  have hmo : ∀ b, (B ≤ b ∧ b < w.heap.size ∧ b ≠ g) → (B ≤ b ∧ b < (w.setCell ⟨g, k * E.sz + j, none⟩ u).heap.size ∧ some b ≠ (Value.slice (some ⟨g, 0, none⟩) l.length c).ownBlock) := fun b hb => ⟨hb.1, by rw [hsz]; exact hb.2.1, fun e => hb.2.2 (Option.some.inj e)⟩
  have hmi : ∀ b, (B ≤ b ∧ b < w.heap.size ∧ some b ≠ (Value.slice (some ⟨g, 0, none⟩) l.length c).ownBlock) → (B ≤ b ∧ b < w.heap.size ∧ b ≠ g) := fun b hb => ⟨hb.1, hb.2.1, fun e => hb.2.2 (by rw [e]; rfl)⟩
  refine ⟨xs.set (k * E.sz + j) u, by simpa using hst, fun i y hy => ?_⟩
  by_cases hi : i = k
  · subst hi
    rw [List.getElem?_set_self hk] at hy
    injection hy with hy
    subst hy
    obtain ⟨cs, hrc, hc⟩ := hr i l[i] (List.getElem?_eq_getElem hk)
    refine ⟨cs.set j u, E.mono hmo (E.frame hfr (hx cs (E.mono hmi hrc))), fun m v hm => ?_⟩
    by_cases hmj : m = j
    · subst hmj
      have hcj : m < cs.length := by rw [E.size hrc]; exact hj
      rw [List.getElem?_set_self hcj] at hm
      have := hc m _ (List.getElem?_eq_getElem hcj)
      rw [List.getElem?_set_self (List.getElem?_eq_some_iff.1 this).1]
      exact hm
    · rw [List.getElem?_set_ne (Ne.symm hmj)] at hm
      rw [List.getElem?_set_ne (by omega)]
      exact hc m v hm
  · rw [List.getElem?_set_ne (Ne.symm hi)] at hy
    obtain ⟨cs, hrc, hc⟩ := hr i y hy
    refine ⟨cs, E.mono hmo (E.frame hfr (E.mono hmi hrc)), fun m v hm => ?_⟩
    have hml : m < E.sz := by rw [← E.size hrc]; exact (List.getElem?_eq_some_iff.1 hm).1
    have hne : k * E.sz + j ≠ i * E.sz + m := by
      intro h
      rcases Nat.lt_or_ge i k with hik | hik
      · have : (i + 1) * E.sz ≤ k * E.sz := Nat.mul_le_mul_right _ hik
        rw [Nat.add_mul, Nat.one_mul] at this
        omega
      · have : (k + 1) * E.sz ≤ i * E.sz := Nat.mul_le_mul_right _ (by omega)
        rw [Nat.add_mul, Nat.one_mul] at this
        omega
    rw [List.getElem?_set_ne hne]
    exact hc m v hm
theorem Own.ofE (hsz : E.sz = F.sz) (hEF : ∀ {w : World} {S : Nat → Prop} {x : α} {cs : List Value}, E.R w S x cs → F.R w S x cs) (h : Own E e w B v l) : Own F e w B v l := by
  obtain ⟨xs, ho, hr⟩ := h
  rw [hsz] at ho hr
  exact ⟨xs, ho, fun k x hx => let ⟨cs, h3, h4⟩ := hr k x hx; ⟨cs, hEF h3, h4⟩⟩
end
def ESegC : Enc Seg := (EI64.pair EU32.sliceC).map fun s => (s.kind, s.as)
theorem ESegC.weak {w : World} {S : Nat → Prop} {x : Seg} {cs : List Value} (h : ESegC.R w S x cs) : ESeg.R w S x cs := by
  obtain ⟨c, d, rfl, h1, h2⟩ := h
  exact ⟨c, _, rfl, h1, sliceC_weak h2⟩
section
variable {α : Type} {f : α → List Value} {P : α → Prop} {n : Nat} {hn : ∀ x, (f x).length = n} {h1 : ∀ x, ∀ u ∈ f x, u.oneCell' = true} {w w' : World} {B : Nat} {v : Value} {l : List α} {e : TypeId} {S : Nat → Prop} {a : Option Addr}
theorem step_pushesC {Q : Program} {ops : Array Oper} {o : Oper} {ac : Act} {K : Act → World → Prop} {R : Exit → Act → World → Prop} {X : Prop} (hgd : o.guard = none) (s x : Operand) (t : TypeId)
    (ho : o.op = .call { callee := .builtin .append, args := #[s, x], argTypes := #[t, t] }) {bytes : Nat} (h0 : 0 < n) (hok : ElemOk Q t e n bytes) (hby : bytes ≤ 4096)
    (hs : ac.eval s = v) (h : Own (Enc.cells f P n hn h1) e w B v l) (hB : B ≤ w.heap.size)
    {l2 : List α} {c : Nat} (hx : ac.eval x = .slice a l2.length c) (hl : l.length + l2.length ≤ 34359738368) (h2 : Sl (Enc.cells f P n hn h1) w S a l2)
    (hk : ∀ v' w', Own (Enc.cells f P n hn h1) e w' B v' (l ++ l2) → w.grownBy w' v.ownBlock → (v'.ownBlock = v.ownBlock ∨ v'.ownBlock = some w.heap.size) → K (ac.put o.dst v') w') : if Region.wanted o (yielded ops ac.tmps) = true then Oper.wp Q o ac w K R else X := by
  have hw : Region.wanted o (yielded ops ac.tmps) = true := by simp [Region.wanted, hgd]
  rw [if_pos hw]
  exact wp_pushesC s x t ho h0 hok hby hs h hB hx hl h2 hk
end
section
variable {α : Type} {f : α → Value} {P : α → Prop} {hf : ∀ x, (f x).oneCell' = true} {w w' : World} {B : Nat} {v : Value} {l : List α} {e : TypeId} {S : Nat → Prop} {a : Option Addr}
theorem step_pushes {Q : Program} {ops : Array Oper} {o : Oper} {ac : Act} {K : Act → World → Prop} {R : Exit → Act → World → Prop} {X : Prop} (hgd : o.guard = none) (s x : Operand) (t : TypeId)
    (ho : o.op = .call { callee := .builtin .append, args := #[s, x], argTypes := #[t, t] }) {bytes : Nat} (hok : ElemOk Q t e 1 bytes) (hby : bytes ≤ 4096)
    (hs : ac.eval s = v) (h : Own (Enc.flat f P hf) e w B v l) (hB : B ≤ w.heap.size)
    {l2 : List α} {c : Nat} (hx : ac.eval x = .slice a l2.length c) (hl : l.length + l2.length ≤ 34359738368) (h2 : Sl (Enc.flat f P hf) w S a l2)
    (hk : ∀ v' w', Own (Enc.flat f P hf) e w' B v' (l ++ l2) → w.grownBy w' v.ownBlock → (v'.ownBlock = v.ownBlock ∨ v'.ownBlock = some w.heap.size) → K (ac.put o.dst v') w') : if Region.wanted o (yielded ops ac.tmps) = true then Oper.wp Q o ac w K R else X := by
  have hw : Region.wanted o (yielded ops ac.tmps) = true := by simp [Region.wanted, hgd]
  rw [if_pos hw]
  exact wp_pushes s x t ho hok hby hs h hB hx hl h2 hk
end
/-- A new row, behind an append onto nil. -/
theorem ext_pushNil {w w' : World} (hg : w.grownBy w' (Value.slice none 0 0).ownBlock) : Ext w w' := (Ext.refl w).grown hg (fun k hk => by cases hk)

theorem EItm_oneZ : ∀ x : Itm, ∀ u ∈ itmCs x, u.oneCell' = true := fun x u hu => by
  simp only [itmCs, List.mem_cons, List.not_mem_nil, or_false] at hu
  rcases hu with rfl | rfl | rfl | rfl | rfl | rfl <;> rfl
theorem EAtm_oneZ : ∀ x : Atm, ∀ u ∈ atmCs x, u.oneCell' = true := fun x u hu => by
  simp only [atmCs, List.mem_cons, List.not_mem_nil, or_false] at hu
  rcases hu with rfl | rfl <;> rfl
set_option maxRecDepth 20000 in
theorem okItmZ : ElemOk Tryz.prog 63 72 EItm.sz 56 := elemOk (z := .agg #[.int .i64 0, .int .u64 0, .string ⟨#[]⟩, .int .i64 0, .int .i64 0, .int .i64 0]) Tryz.underlying63 (by kernel_rfl) rfl
set_option maxRecDepth 20000 in
theorem okAtmZ : ElemOk Tryz.prog 73 75 EAtm.sz 16 := elemOk (z := .agg #[.int .i64 0, .int .u32 0]) Tryz.underlying73 (by kernel_rfl) rfl
theorem Blk.set5w {w : World} {g : Nat} {T : TypeId} {a b c d e : Value} (h : Blk w g T #[a, b, c, d, e]) (u0 u1 u2 u3 u4 : Value) :
    Blk (((((w.setCell ⟨g, 0, none⟩ u0).setCell ⟨g, 1, none⟩ u1).setCell ⟨g, 2, none⟩ u2).setCell ⟨g, 3, none⟩ u3).setCell ⟨g, 4, none⟩ u4) g T #[u0, u1, u2, u3, u4] := by
  simpa using ((((h.set_ 0 u0).set_ 1 u1).set_ 2 u2).set_ 3 u3).set_ 4 u4
theorem OnlyAt.set5w {g : Nat} {w : World} (u0 u1 u2 u3 u4 : Value) :
    OnlyAt g w (((((w.setCell ⟨g, 0, none⟩ u0).setCell ⟨g, 1, none⟩ u1).setCell ⟨g, 2, none⟩ u2).setCell ⟨g, 3, none⟩ u3).setCell ⟨g, 4, none⟩ u4) :=
  (((((OnlyAt.refl g w).setCell 0 u0).setCell 1 u1).setCell 2 u2).setCell 3 u3).setCell 4 u4
theorem Own.only {α : Type} {E : Enc α} {e : TypeId} {w w' : World} {B : Nat} {v : Value} {l : List α} {g : Nat} (h : Own E e w B v l) (ho : OnlyAt g w w') (hg : g < B) : Own E e w' B v l :=
  h.kept (Nat.le_of_eq ho.size.symm) fun b hb _ => ho.block b (by omega)
theorem Own.formNe {α : Type} {E : Enc α} {e : TypeId} {w : World} {B : Nat} {v : Value} {l : List α} (h : Own E e w B v l) (hl : l ≠ []) : ∃ g c, v = .slice (some ⟨g, 0, none⟩) l.length c ∧ B ≤ g ∧ g < w.heap.size := by
  obtain ⟨xs, h1, _⟩ := h
  rcases h1.2 with ⟨_, h0⟩ | ⟨g, cap, cur, rfl, hb, hh, _⟩
  · exact absurd (List.eq_nil_of_length_eq_zero h0) hl
  · exact ⟨g, cap, rfl, hb, (Array.getElem?_eq_some_iff.1 hh).1⟩
theorem grown_cellZ (w : World) (g o : Nat) (u : Value) : w.grownBy (w.setCell ⟨g, o, none⟩ u) (some g) :=
  ⟨rfl, rfl, rfl, by simp [World.setCell], fun k _ hk => Below.heap_setCell _ _ _ _ (show k ≠ g from fun e => hk (by rw [e]))⟩
theorem own_cells_far {α : Type} {f : α → List Value} {P : α → Prop} {n : Nat} {hn : ∀ x, (f x).length = n} {h1 : ∀ x, ∀ u ∈ f x, u.oneCell' = true} {w : World} {B : Nat} {v : Value} {l : List α} {e : TypeId} (h0 : 0 < n) (h : Own (Enc.cells f P n hn h1) e w B v l) {g : Nat} (hne : v.ownBlock ≠ some g) (o : Nat) (u : Value) :
    Own (Enc.cells f P n hn h1) e (w.setCell ⟨g, o, none⟩ u) B v l :=
  (own_cells h0).2 ⟨((own_cells h0).1 h).1.kept (grown_cellZ w g o u) (.inr hne), ((own_cells h0).1 h).2⟩
theorem own_flat_far {α : Type} {f : α → Value} {P : α → Prop} {hf : ∀ x, (f x).oneCell' = true} {w : World} {B : Nat} {v : Value} {l : List α} {e : TypeId} (h : Own (Enc.flat f P hf) e w B v l) {g : Nat} (hne : v.ownBlock ≠ some g) (o : Nat) (u : Value) :
    Own (Enc.flat f P hf) e (w.setCell ⟨g, o, none⟩ u) B v l :=
  own_flat.2 ⟨(own_flat.1 h).1.kept (grown_cellZ w g o u) (.inr hne), (own_flat.1 h).2⟩
/-- An element of a row of slices, with its capacity. -/
theorem Own.atC {α : Type} {E : Enc α} {e : TypeId} {w : World} {B g n c : Nat} {l : List (List α)} (h : Own E.sliceC e w B (.slice (some ⟨g, 0, none⟩) n c) l) (k : Nat) (hk : k < l.length) :
    ∃ ak ck, w.cell? ⟨g, k, none⟩ = some (.slice ak l[k].length ck) ∧ w.frozen? ⟨g, k, none⟩ = false ∧ l[k].length ≤ 16777216 ∧ l[k].length ≤ ck ∧ ck ≤ maxLen ∧ Sl E w (fun b => B ≤ b ∧ b < w.heap.size ∧ b ≠ g) ak l[k] := by
  obtain ⟨xs, ho, hr⟩ := h
  obtain ⟨cs, ⟨ak, ck, rfl, hm, h1, h2, hs⟩, hc⟩ := hr k l[k] (List.getElem?_eq_getElem hk)
  have hn : n = l.length := by
    rcases ho.2 with ⟨h2, _⟩ | ⟨g', cap, cur, h2, _⟩
    · cases h2
    · injection h2
  subst hn
  have h0 := hc 0 _ rfl
  have hz : E.sliceC.sz = 1 := rfl
  rw [hz, Nat.mul_one, Nat.add_zero] at h0
  have h3 := ho.cells (g := g) rfl k _ h0
  rw [add_lit, Nat.zero_add] at h3
  exact ⟨ak, ck, h3, ho.frozenAt k, hm, h1, h2, hs.mono fun b hb => ⟨hb.1, hb.2.1, fun e => hb.2.2 (by rw [e]; rfl)⟩⟩
theorem slice_headIz (a : Option Addr) (n c k : Nat) (hk : k ≤ n) (hn : n ≤ c) (hc : c ≤ 9223372036854775807) (W : World) : (Instr.sliceAt 63 (.slice a n c) none (some (.int .i64 (k : Int))) none).run Tryz.prog W = .ok (.slice a k c) W := by
  go_simp
  first | omega | (intro h; omega) | skip
theorem slice_headUz (a : Option Addr) (n c k : Nat) (hk : k ≤ n) (hn : n ≤ c) (hc : c ≤ 9223372036854775807) (W : World) : (Instr.sliceAt 64 (.slice a n c) none (some (.int .i64 (k : Int))) none).run Tryz.prog W = .ok (.slice a k c) W := by
  go_simp
  first | omega | (intro h; omega) | skip
theorem slice_headAz (a : Option Addr) (n c k : Nat) (hk : k ≤ n) (hn : n ≤ c) (hc : c ≤ 9223372036854775807) (W : World) : (Instr.sliceAt 73 (.slice a n c) none (some (.int .i64 (k : Int))) none).run Tryz.prog W = .ok (.slice a k c) W := by
  go_simp
  first | omega | (intro h; omega) | skip
theorem slice_headPz (a : Option Addr) (n c k : Nat) (hk : k ≤ n) (hn : n ≤ c) (hc : c ≤ 9223372036854775807) (W : World) : (Instr.sliceAt 65 (.slice a n c) none (some (.int .i64 (k : Int))) none).run Tryz.prog W = .ok (.slice a k c) W := by
  go_simp
  first | omega | (intro h; omega) | skip
theorem minTake {α : Type} (l : List α) (m : Nat) : min (l.length : Int) (m : Int) = ((l.take m).length : Int) := by rw [List.length_take]; omega
theorem maxLen_le {c : Nat} (h : c ≤ maxLen) : c ≤ 9223372036854775807 := by unfold maxLen at h; omega
theorem Own.slAt {α : Type} {E : Enc α} {e : TypeId} {w : World} {B n c : Nat} {a : Option Addr} {l : List α} (h : Own E e w B (.slice a n c) l) : Sl E w (fun b => B ≤ b ∧ b < w.heap.size) a l := by
  obtain ⟨a', c', hv, hs⟩ := h.sl
  injection hv with h1 _ _
  subst h1
  exact hs
end Go.Proofs.YtljibkfbldjgdaaGreatDoor
