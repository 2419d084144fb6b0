/- Words for memory that a call reads and makes: a slice that reads as a list of data, a row of the call's own that does. Independent of the program. -/
import Derived.WalkKit
import Derived.Below
import Derived.Outline
import Derived.LoopTactic
import Derived.Laws.OwnMore
import Derived.Deep.AppendLies
import Derived.Deep.Draws
import Derived.Lib.Hide
import Derived.BigQuiet
import Derived.Deep.QuietTactic
import Derived.WalkSpells
import Derived.WalkLawsBesides
import Derived.Deep.RegionHeld3
import Derived.Deep.DrawnRows
import Derived.Deep.RegionLaw
namespace Go.Proofs.YtiappobhljiknaaGreatDoor
open Go.RowKit

theorem hide {p : Prop} (h : p) : Hid p := h

/-- Nothing that was there when the call began has turned. -/
def Ext (w w' : World) : Prop := Below w.heap.size w w'
theorem Ext.refl (w : World) : Ext w w := Below.refl _ _
theorem Ext.trans {a b c : World} (h : Ext a b) (k : Ext b c) : Ext a c := Below.trans h (Below.mono k h.size)
theorem Ext.alloc {a b : World} (h : Ext a b) (o : Obj) : Ext a (b.alloc o) := Below.alloc h h.size o
theorem Ext.drew {a b : World} (h : Ext a b) : Ext a b.drew := Below.drew h
theorem Ext.drewN {a b : World} (h : Ext a b) (n : Nat) : Ext a (b.drewN n) := ⟨h.os, h.tape, h.output, h.size, h.block⟩
theorem Ext.setCell {a b : World} (h : Ext a b) {p : Addr} (hp : a.heap.size ≤ p.block) (u : Value) : Ext a (b.setCell p u) := Below.setCell h hp u
theorem Ext.grown {a b c : World} {row : Option Nat} (h : Ext a b) (hg : b.grownBy c row) (hr : ∀ k, row = some k → a.heap.size ≤ k) : Ext a c := Below.grown h hg h.size hr
theorem Ext.cell {w w' : World} {b o : Nat} {u : Value} (h : Ext w w') (hc : w.cell? ⟨b, o, none⟩ = some u) : w'.cell? ⟨b, o, none⟩ = some u :=
  (Below.cell h (p := ⟨b, o, none⟩) (World.block_lt_of_cell? w _ hc)).trans hc

/-- The world behind some draws. -/
def Drew (w w' : World) : Prop := ∃ n, w' = w.drewN n
theorem Drew.refl (w : World) : Drew w w := ⟨0, rfl⟩
theorem Drew.more {a b : World} (h : Drew a b) (n : Nat) : Drew a (b.drewN n) := by obtain ⟨m, rfl⟩ := h; exact ⟨m + n, by rw [World.drewN_drewN]⟩
theorem Drew.trans {a b c : World} (h : Drew a b) (k : Drew b c) : Drew a c := by obtain ⟨n, rfl⟩ := k; exact h.more n
theorem Drew.ext {a b : World} (h : Drew a b) : Ext a b := by obtain ⟨m, rfl⟩ := h; exact (Ext.refl a).drewN m

/-- A block that is known whole. -/
def Blk (w : World) (g : Nat) (t : TypeId) (cs : Array Value) : Prop := w.heap[g]? = some (.cells cs t (0, 0))
section
variable {w w' : World} {g : Nat} {t : TypeId} {cs : Array Value}
theorem Blk.lt (h : Blk w g t cs) : g < w.heap.size := by
  rcases Nat.lt_or_ge g w.heap.size with hlt | hge
  · exact hlt
  · unfold Blk at h; rw [Array.getElem?_eq_none hge] at h; cases h
theorem Blk.cell (h : Blk w g t cs) (i : Nat) : w.cell? ⟨g, i, none⟩ = cs[i]? := cell_of_row w g i cs t (0, 0) h
theorem Blk.frozen (h : Blk w g t cs) (i : Nat) : w.frozen? ⟨g, i, none⟩ = false := by
  unfold Blk at h
  simp [World.frozen?, h]
theorem Blk.new (w : World) (t : TypeId) (cs : Array Value) : Blk (w.alloc (.cells cs t)) w.heap.size t cs := heap_alloc_new w _
theorem Blk.alloc (h : Blk w g t cs) (o : Obj) : Blk (w.alloc o) g t cs := (Below.heap_alloc w o g h.lt).trans h
theorem Blk.set_ (h : Blk w g t cs) (i : Nat) (u : Value) : Blk (w.setCell ⟨g, i, none⟩ u) g t (cs.setIfInBounds i u) := by
  unfold Blk at h ⊢
  simp [World.setCell, Array.getElem?_modify, h]
theorem Blk.far (h : Blk w g t cs) {p : Addr} (hp : g ≠ p.block) (u : Value) : Blk (w.setCell p u) g t cs := (Below.heap_setCell w p u g hp).trans h
theorem Blk.below {B : Nat} (h : Blk w g t cs) (hb : Below B w w') (hg : g < B) : Blk w' g t cs := (hb.block g hg).trans h
theorem Blk.ext (h : Blk w g t cs) (hb : Ext w w') : Blk w' g t cs := Blk.below h hb h.lt
theorem Blk.grown (h : Blk w g t cs) {row : Option Nat} (hb : w.grownBy w' row) (hg : some g ≠ row) : Blk w' g t cs := (hb.block g h.lt hg).trans h
theorem Blk.drew (h : Blk w g t cs) : Blk w.drew g t cs := h
theorem Blk.drewN (h : Blk w g t cs) (n : Nat) : Blk (w.drewN n) g t cs := h
end

/-- How a datum of type α lies in cells: which cells, in a world, nothing looked at outside the blocks S. -/
structure Enc (α : Type) where
  R : World → (Nat → Prop) → α → List Value → Prop
  sz : Nat
  size : ∀ {w S x cs}, R w S x cs → cs.length = sz
  one : ∀ {w S x cs}, R w S x cs → ∀ u ∈ cs, u.oneCell' = true
  frame : ∀ {w w' : World} {S : Nat → Prop} {x : α} {cs}, (∀ b, S b → w'.heap[b]? = w.heap[b]?) → R w S x cs → R w' S x cs
  mono : ∀ {w : World} {S S' : Nat → Prop} {x : α} {cs}, (∀ b, S b → S' b) → R w S x cs → R w S' x cs

/-- A slice at address a reads as the list l. -/
def Sl {α : Type} (E : Enc α) (w : World) (S : Nat → Prop) (a : Option Addr) (l : List α) : Prop :=
  l = [] ∨ ∃ b off, a = some ⟨b, off, none⟩ ∧ S b ∧ ∀ k x, l[k]? = some x → ∃ cs, E.R w S x cs ∧ ∀ j u, cs[j]? = some u → w.cell? ⟨b, off + k * E.sz + j, none⟩ = some u

section
variable {α : Type} {E : Enc α} {w w' : World} {S S' : Nat → Prop} {a : Option Addr} {l : List α}
theorem Sl.nil : Sl E w S a [] := .inl rfl
theorem Sl.frame (h : Sl E w S a l) (hw : ∀ b, S b → w'.heap[b]? = w.heap[b]?) : Sl E w' S a l := by
  rcases h with h | ⟨b, off, rfl, hb, h⟩
  · exact .inl h
  · refine .inr ⟨b, off, rfl, hb, fun k x hx => ?_⟩
    obtain ⟨cs, hr, hc⟩ := h k x hx
    exact ⟨cs, E.frame hw hr, fun j u hu => (World.cell?_of_block (a := ⟨b, off + k * E.sz + j, none⟩) (hw b hb)).trans (hc j u hu)⟩
theorem Sl.mono (h : Sl E w S a l) (hS : ∀ b, S b → S' b) : Sl E w S' a l := by
  rcases h with h | ⟨b, off, rfl, hb, h⟩
  · exact .inl h
  · exact .inr ⟨b, off, rfl, hS b hb, fun k x hx => let ⟨cs, hr, hc⟩ := h k x hx; ⟨cs, E.mono hS hr, hc⟩⟩
theorem Sl.at (h : Sl E w S a l) (k : Nat) (hk : k < l.length) :
    ∃ b off cs, a = some ⟨b, off, none⟩ ∧ S b ∧ E.R w S l[k] cs ∧ ∀ j u, cs[j]? = some u → w.cell? ⟨b, off + k * E.sz + j, none⟩ = some u := by
  rcases h with h | ⟨b, off, rfl, hb, h⟩
  · subst h; simp at hk
  · obtain ⟨cs, hr, hc⟩ := h k l[k] (by simp [hk])
    exact ⟨b, off, cs, rfl, hb, hr, hc⟩
theorem Sl.below {B : Nat} (h : Sl E w (· < B) a l) (hb : Below B w w') : Sl E w' (· < B) a l := h.frame hb.block
theorem Sl.ext (h : Sl E w (· < w.heap.size) a l) (hb : Ext w w') : Sl E w' (· < w'.heap.size) a l := (h.frame hb.block).mono fun _ hh => Nat.lt_of_lt_of_le hh hb.size
theorem Sl.draw (h : Sl E w S a l) : Sl E w.drew S a l := h.frame fun _ _ => rfl
theorem Sl.drewN (h : Sl E w S a l) (n : Nat) : Sl E (w.drewN n) S a l := h.frame fun _ _ => rfl
theorem Sl.drew (h : Sl E w S a l) (hd : Drew w w') : Sl E w' S a l := by obtain ⟨n, rfl⟩ := hd; exact h.drewN n
theorem Sl.up {B C : Nat} (h : Sl E w (· < B) a l) (hB : B ≤ C) : Sl E w (· < C) a l := h.mono fun _ hb => Nat.lt_of_lt_of_le hb hB
theorem Sl.take (h : Sl E w S a l) (n : Nat) : Sl E w S a (l.take n) := by
  rcases h with h | ⟨b, off, rfl, hb, h⟩
  · subst h; exact .inl (by simp)
  · refine .inr ⟨b, off, rfl, hb, fun k x hx => h k x ?_⟩
    rw [List.getElem?_take] at hx
    split at hx <;> simp_all
end

/-- A row of the call's own (from block B on) that reads as the list l; what its elements lead to lies in other blocks, from B on. -/
def Own {α : Type} (E : Enc α) (e : TypeId) (w : World) (B : Nat) (v : Value) (l : List α) : Prop :=
  ∃ xs, w.ownsRow B e E.sz v l.length xs ∧ ∀ k x, l[k]? = some x → ∃ cs, E.R w (fun b => B ≤ b ∧ b < w.heap.size ∧ some b ≠ v.ownBlock) x cs ∧ ∀ j u, cs[j]? = some u → xs[k * E.sz + j]? = some u

section
variable {α : Type} {E : Enc α} {w w' : World} {B : Nat} {v : Value} {l : List α} {e : TypeId}
theorem Own.nil : Own E e w B (.slice none 0 0) [] := ⟨[], World.ownsRow_nil w B e E.sz, fun k x h => by simp at h⟩
theorem Own.form (h : Own E e w B v l) : ∃ a c, v = .slice a l.length c := by
  obtain ⟨xs, ⟨_, h1⟩, _⟩ := h
  rcases h1 with ⟨rfl, h0⟩ | ⟨g, cap, cur, rfl, _⟩
  · exact ⟨none, 0, by rw [h0]⟩
  · exact ⟨_, _, rfl⟩
theorem Own.lt (h : Own E e w B v l) : ∀ k, v.ownBlock = some k → B ≤ k ∧ k < w.heap.size := by
  obtain ⟨xs, h1, _⟩ := h
  exact h1.lt
/-- The world grows elsewhere: new blocks, writes to a row that is not this one nor what it leads to. -/
theorem Own.kept (h : Own E e w B v l) (hs : w.heap.size ≤ w'.heap.size) (hw : ∀ b, B ≤ b → b < w.heap.size → w'.heap[b]? = w.heap[b]?) : Own E e w' B v l := by
  obtain ⟨xs, h1, h2⟩ := h
  refine ⟨xs, ?_, fun k x hx => ?_⟩
  · obtain ⟨hl, h3⟩ := h1
    refine ⟨hl, ?_⟩
    rcases h3 with h3 | ⟨g, cap, cur, rfl, hg, hh, r⟩
    · exact .inl h3
    · exact .inr ⟨g, cap, cur, rfl, hg, by rw [hw g hg (Array.getElem?_eq_some_iff.1 hh).1]; exact hh, r⟩
  · obtain ⟨cs, hr, hc⟩ := h2 k x hx
    exact ⟨cs, E.mono (fun b hb => ⟨hb.1, by omega, hb.2.2⟩) (E.frame (fun b hb => hw b hb.1 hb.2.1) hr), hc⟩
theorem Own.below {C : Nat} (h : Own E e w B v l) (hb : Below C w w') (hC : C = w.heap.size) : Own E e w' B v l := by
  subst hC
  exact h.kept hb.size fun b _ hlt => hb.block b hlt
theorem Own.low {B' : Nat} (h : Own E e w B v l) (hB : B' ≤ B) : Own E e w B' v l := by
  obtain ⟨xs, ⟨hl, h1⟩, h2⟩ := h
  refine ⟨xs, ⟨hl, ?_⟩, fun k x hx => ?_⟩
  · rcases h1 with h1 | ⟨g, cap, cur, rfl, hg, r⟩
    · exact .inl h1
    · exact .inr ⟨g, cap, cur, rfl, Nat.le_trans hB hg, r⟩
  · obtain ⟨cs, hr, hc⟩ := h2 k x hx
    exact ⟨cs, E.mono (fun b hb => ⟨Nat.le_trans hB hb.1, hb.2⟩) hr, hc⟩
theorem Own.sl (h : Own E e w B v l) : ∃ a c, v = .slice a l.length c ∧ Sl E w (fun b => B ≤ b ∧ b < w.heap.size) a l := by
  obtain ⟨xs, h1, h2⟩ := h
  rcases h1.2 with ⟨rfl, h0⟩ | ⟨g, cap, cur, rfl, hg, hh, hcap, _, hcs, htake⟩
  · refine ⟨none, 0, by rw [h0], .inl (List.eq_nil_of_length_eq_zero h0)⟩
  · refine ⟨_, _, rfl, .inr ⟨g, 0, rfl, ⟨hg, (Array.getElem?_eq_some_iff.1 hh).1⟩, fun k x hx => ?_⟩⟩
    obtain ⟨cs, hr, hc⟩ := h2 k x hx
    refine ⟨cs, E.mono (fun b hb => ⟨hb.1, hb.2.1⟩) hr, fun j u hu => ?_⟩
    have := h1.cells (g := g) rfl (k * E.sz + j) u (hc j u hu)
    have hadd : (⟨g, 0, none⟩ : Addr).add (k * E.sz + j) = ⟨g, 0 + k * E.sz + j, none⟩ := by unfold Addr.add; split <;> simp_all
    rw [hadd] at this
    exact this
theorem Own.slc (h : Own E e w B v l) : ∃ a c, v = .slice a l.length c ∧ l.length ≤ c ∧ Sl E w (fun b => B ≤ b ∧ b < w.heap.size) a l := by
  obtain ⟨a, c, rfl, hs⟩ := h.sl
  refine ⟨a, c, rfl, ?_, hs⟩
  obtain ⟨xs, h1, _⟩ := h
  rcases h1.2 with ⟨h2, h0⟩ | ⟨g, cap, cur, h2, _, _, hn, _⟩
  · omega
  · injection h2 with _ _ h2; omega
/-- One more element behind: what the law on append leaves. -/
theorem Own.snoc {v' : Value} {x : α} {cs : List Value} {W : World} {xs : List Value} (hold : ∀ k y, l[k]? = some y → ∃ cs, E.R w (fun b => B ≤ b ∧ b < w.heap.size ∧ some b ≠ v.ownBlock) y cs ∧ ∀ j u, cs[j]? = some u → xs[k * E.sz + j]? = some u)
    (hl : xs.length = l.length * E.sz) (hx : E.R w (fun b => B ≤ b ∧ b < w.heap.size ∧ some b ≠ v.ownBlock) x cs) (hs : w.heap.size ≤ W.heap.size)
    (hW : ∀ b, B ≤ b → b < w.heap.size → W.heap[b]? = w.heap[b]?)
    (hown : w'.ownsRow B e E.sz v' (l.length + 1) (xs ++ cs)) (hg : W.grownBy w' v.ownBlock) (hat : v'.ownBlock = v.ownBlock ∨ v'.ownBlock = some W.heap.size) : Own E e w' B v' (l ++ [x]) := by
  have hfr : ∀ b, (B ≤ b ∧ b < w.heap.size ∧ some b ≠ v.ownBlock) → w'.heap[b]? = w.heap[b]? := fun b hb =>
    (hg.block b (by omega) hb.2.2).trans (hW b hb.1 hb.2.1)
  have hsz := hg.size
  have hmo : ∀ b, (B ≤ b ∧ b < w.heap.size ∧ some b ≠ v.ownBlock) → (B ≤ b ∧ b < w'.heap.size ∧ some b ≠ v'.ownBlock) := fun b hb => by
    refine ⟨hb.1, by omega, ?_⟩
    rcases hat with h | h
    · rw [h]; exact hb.2.2
    · rw [h]; intro he; injection he; omega
  refine ⟨xs ++ cs, by simpa using hown, fun k y hy => ?_⟩
  rcases Nat.lt_or_ge k l.length with hk | hk
  · rw [List.getElem?_append_left hk] at hy
    obtain ⟨ds, hr, hc⟩ := hold k y hy
    refine ⟨ds, E.mono hmo (E.frame hfr hr), fun j u hu => ?_⟩
    have := hc j u hu
    have hlt : k * E.sz + j < xs.length := (List.getElem?_eq_some_iff.1 this).1
    rw [List.getElem?_append_left hlt]
    exact this
  · rw [List.getElem?_append_right hk] at hy
    have hk0 : k - l.length = 0 := by
      rcases Nat.eq_zero_or_pos (k - l.length) with h | h
      · exact h
      · rw [List.getElem?_eq_none (by simp; omega)] at hy; cases hy
    rw [hk0] at hy
    simp at hy
    subst hy
    have hk' : k = l.length := by omega
    subst hk'
    refine ⟨cs, E.mono hmo (E.frame hfr hx), fun j u hu => ?_⟩
    rw [List.getElem?_append_right (by omega)]
    rw [show l.length * E.sz + j - xs.length = j by omega]
    exact hu
end

/-- What append asks of a slice type t of elements e. -/
def ElemOk (P : Program) (t e : TypeId) (sz bytes : Nat) : Prop :=
  P.underlying t = some (.slice e) ∧ ∃ i z, P.info? e = some i ∧ i.zero = some z ∧ i.size = sz ∧ i.bytes = bytes ∧ z.cells.size = sz
theorem elemOk {P : Program} {t e : TypeId} {sz bytes : Nat} {z : Value} (ht : P.underlying t = some (.slice e))
    (h : (P.info? e).map (fun i => (i.zero, i.size, i.bytes)) = some (some z, sz, bytes)) (hz : z.cells.size = sz) : ElemOk P t e sz bytes := by
  refine ⟨ht, ?_⟩
  cases hi : P.info? e with
  | none => rw [hi] at h; cases h
  | some i =>
    rw [hi] at h
    simp only [Option.map_some, Option.some.injEq, Prod.mk.injEq] at h
    exact ⟨i, z, rfl, h.1, h.2.1, h.2.2, hz⟩

section
variable {α : Type} {E : Enc α} {w w' : World} {B : Nat} {v : Value} {l : List α} {e : TypeId}
theorem Own.alloc (h : Own E e w B v l) (o : Obj) : Own E e (w.alloc o) B v l := h.kept (by simp) fun b _ hb => Below.heap_alloc w o b hb
theorem Own.ext (h : Own E e w B v l) (he : Ext w w') : Own E e w' B v l := h.kept he.size fun b _ hlt => he.block b hlt
theorem Own.draw (h : Own E e w B v l) : Own E e w.drew B v l := h.kept (Nat.le_refl _) fun _ _ _ => rfl
theorem Own.drewN (h : Own E e w B v l) (n : Nat) : Own E e (w.drewN n) B v l := h.kept (Nat.le_refl _) fun _ _ _ => rfl
theorem Own.drew (h : Own E e w B v l) : Own E e w.drew B v l := h.kept (Nat.le_refl _) fun _ _ _ => rfl

/-- append of one element onto a row of the call's own. -/
theorem run_push {P : Program} {t ty : TypeId} {bytes : Nat} (hok : ElemOk P t e E.sz bytes) (hsz : 0 < E.sz) (hby : bytes ≤ 4096) (h : Own E e w B v l) (hl : l.length ≤ 17179869184) (hB : B ≤ w.heap.size)
    {ad : Addr} {x : α} {cs : List Value} (hx : E.R w (fun b => B ≤ b ∧ b < w.heap.size ∧ some b ≠ v.ownBlock) x cs) (hc : ∀ j u, cs[j]? = some u → w.cell? (ad.add j) = some u) (c : Nat) :
    ∃ v' w', (Builtin.append_ #[t, t] ty #[v, .slice (some ad) 1 c]).run P w = .ok v' w' ∧ Own E e w' B v' (l ++ [x]) ∧ w.grownBy w' v.ownBlock ∧ (v'.ownBlock = v.ownBlock ∨ v'.ownBlock = some w.heap.size) := by
  obtain ⟨ht, i, z, hi, hz, h1, h2, h3⟩ := hok
  obtain ⟨xs, ho, hr⟩ := h
  have hm : (l.length + 1) * bytes ≤ 17179869185 * 4096 := Nat.mul_le_mul (by omega) hby
  obtain ⟨v', w', hrun, hown, hg, _, hat⟩ := run_append_own_at (P := P) w B t ty e i z E.sz bytes ht hi hz h1 h2 h3 hsz v l.length xs ho ad 1 c cs (by rw [E.size hx, Nat.one_mul]) hc (E.one hx)
    (by unfold maxLen; omega) (by omega) hB
  exact ⟨v', w', hrun, Own.snoc hr ho.1 hx (Nat.le_refl _) (fun _ _ _ => rfl) hown hg hat, hg, hat⟩
theorem wp_push {P : Program} {o : Oper} {a : Act} {K : Act → World → Prop} {Q : Exit → Act → World → Prop} (s x : Operand) (t : TypeId)
    (ho : o.op = .call { callee := .builtin .append, args := #[s, x], argTypes := #[t, t] }) {bytes : Nat} (hok : ElemOk P t e E.sz bytes) (hsz : 0 < E.sz) (hby : bytes ≤ 4096)
    (hs : a.eval s = v) (h : Own E e w B v l) (hl : l.length ≤ 17179869184) (hB : B ≤ w.heap.size)
    {ad : Addr} {c : Nat} (hx : a.eval x = .slice (some ad) 1 c) {y : α} {cs : List Value} (hy : E.R w (fun b => B ≤ b ∧ b < w.heap.size ∧ some b ≠ v.ownBlock) y cs) (hc : ∀ j u, cs[j]? = some u → w.cell? (ad.add j) = some u)
    (hk : ∀ v' w', Own E e w' B v' (l ++ [y]) → w.grownBy w' v.ownBlock → (v'.ownBlock = v.ownBlock ∨ v'.ownBlock = some w.heap.size) → K (a.put o.dst v') w') : o.wp P a w K Q := by
  obtain ⟨v', w', hrun, h2, h3, h4⟩ := run_push (P := P) (ty := o.type) hok hsz hby h hl hB hy hc c
  unfold Oper.wp execOp
  simp only [ho, resolve, invoke, builtin, Sem.run_bind, Sem.run_pure, Result.andThen_ok, List.map_toArray, List.map_cons, List.map_nil, hs, hx, hrun]
  exact hk v' w' h2 h3 h4
theorem wpList_push {P : Program} {ops : Array Oper} {rest : List Oper} {o : Oper} {a : Act} {Q : Exit → Act → World → Prop} (hgd : o.guard = none) (s x : Operand) (t : TypeId)
    (ho : o.op = .call { callee := .builtin .append, args := #[s, x], argTypes := #[t, t] }) {bytes : Nat} (hok : ElemOk P t e E.sz bytes) (hsz : 0 < E.sz) (hby : bytes ≤ 4096)
    (hs : a.eval s = v) (h : Own E e w B v l) (hl : l.length ≤ 17179869184) (hB : B ≤ w.heap.size)
    {ad : Addr} {c : Nat} (hx : a.eval x = .slice (some ad) 1 c) {y : α} {cs : List Value} (hy : E.R w (fun b => B ≤ b ∧ b < w.heap.size ∧ some b ≠ v.ownBlock) y cs) (hc : ∀ j u, cs[j]? = some u → w.cell? (ad.add j) = some u)
    (hk : ∀ v' w', Own E e w' B v' (l ++ [y]) → w.grownBy w' v.ownBlock → (v'.ownBlock = v.ownBlock ∨ v'.ownBlock = some w.heap.size) → wpList P ops Q rest (a.put o.dst v') w') : wpList P ops Q (o :: rest) a w :=
  wpList_plain hgd fun _ hK => wp_push s x t ho hok hsz hby hs h hl hB hx hy hc fun v' w' h2 h3 h4 => hK _ _ (hk v' w' h2 h3 h4)
theorem step_push {P : Program} {ops : Array Oper} {o : Oper} {a : Act} {K : Act → World → Prop} {Q : Exit → Act → World → Prop} {X : Prop} (hgd : o.guard = none) (s x : Operand) (t : TypeId)
    (ho : o.op = .call { callee := .builtin .append, args := #[s, x], argTypes := #[t, t] }) {bytes : Nat} (hok : ElemOk P t e E.sz bytes) (hsz : 0 < E.sz) (hby : bytes ≤ 4096)
    (hs : a.eval s = v) (h : Own E e w B v l) (hl : l.length ≤ 17179869184) (hB : B ≤ w.heap.size)
    {ad : Addr} {c : Nat} (hx : a.eval x = .slice (some ad) 1 c) {y : α} {cs : List Value} (hy : E.R w (fun b => B ≤ b ∧ b < w.heap.size ∧ some b ≠ v.ownBlock) y cs) (hc : ∀ j u, cs[j]? = some u → w.cell? (ad.add j) = some u)
    (hk : ∀ v' w', Own E e w' B v' (l ++ [y]) → w.grownBy w' v.ownBlock → (v'.ownBlock = v.ownBlock ∨ v'.ownBlock = some w.heap.size) → K (a.put o.dst v') w') : if Region.wanted o (yielded ops a.tmps) = true then Oper.wp P o a w K Q else X := by
  have hw : Region.wanted o (yielded ops a.tmps) = true := by simp [Region.wanted, hgd]
  rw [if_pos hw]
  exact wp_push s x t ho hok hsz hby hs h hl hB hx hy hc hk
/-- The frame behind such an append. -/
theorem Ext.push {a w w' : World} {v : Value} (h : Ext a w) (hv : ∀ k, v.ownBlock = some k → a.heap.size ≤ k) (hg : w.grownBy w' v.ownBlock) : Ext a w' := h.grown hg hv
/-- The one new cell, or the cells of one new element, of a slice literal. -/
theorem cells_new (w : World) (cs : Array Value) (t : TypeId) : ∀ j u, cs.toList[j]? = some u → (w.alloc (.cells cs t)).cell? ((⟨w.heap.size, 0, none⟩ : Addr).add j) = some u :=
  World.news_of_block (heap_alloc_new w _)
end

/-- A datum of one cell that leads nowhere. -/
def Enc.flat {α : Type} (f : α → Value) (P : α → Prop) (h : ∀ x, (f x).oneCell' = true) : Enc α where
  R _ _ x cs := cs = [f x] ∧ P x
  sz := 1
  size h := by rw [h.1]; rfl
  one := by rintro w S x cs ⟨rfl, _⟩ u hu; simp at hu; subst hu; exact h x
  frame _ h := h
  mono _ h := h
section
variable {α : Type} {f : α → Value} {P : α → Prop} {hf : ∀ x, (f x).oneCell' = true} {w w' : World} {B : Nat} {v : Value} {l : List α} {e : TypeId} {S : Nat → Prop} {a : Option Addr}
theorem add_lit (b off j : Nat) : (⟨b, off, none⟩ : Addr).add j = ⟨b, off + j, none⟩ := by unfold Addr.add; split <;> simp_all
theorem own_flat : Own (Enc.flat f P hf) e w B v l ↔ w.ownsRow B e 1 v l.length (l.map f) ∧ ∀ x ∈ l, P x := by
  constructor
  · rintro ⟨xs, ho, hr⟩
    have hx : xs = l.map f := by
      apply List.ext_getElem
      · rw [ho.1, List.length_map]; exact Nat.mul_one _
      · intro k h1 h2
        have hk : k < l.length := by simpa using h2
        obtain ⟨cs, ⟨rfl, _⟩, hc⟩ := hr k l[k] (List.getElem?_eq_getElem hk)
        have := hc 0 _ rfl
        simp only [Enc.flat, Nat.mul_one, Nat.add_zero] at this
        rw [List.getElem?_eq_getElem h1] at this
        simpa using this
    subst hx
    refine ⟨ho, fun x hx => ?_⟩
    obtain ⟨k, hk, rfl⟩ := List.getElem_of_mem hx
    obtain ⟨cs, ⟨rfl, h⟩, _⟩ := hr k l[k] (List.getElem?_eq_getElem hk)
    exact h
  · rintro ⟨ho, hp⟩
    refine ⟨l.map f, ho, fun k x hx => ⟨[f x], ⟨rfl, hp x (List.mem_of_getElem? hx)⟩, fun j u hu => ?_⟩⟩
    match j, hu with
    | 0, hu =>
      simp at hu
      subst hu
      simp [Enc.flat, hx]
theorem flat_at (h : Sl (Enc.flat f P hf) w S a l) (k : Nat) (hk : k < l.length) : ∃ b off, a = some ⟨b, off, none⟩ ∧ S b ∧ P l[k] ∧ w.cell? ⟨b, off + k, none⟩ = some (f l[k]) := by
  obtain ⟨b, off, cs, rfl, hb, ⟨rfl, hp⟩, hc⟩ := h.at k hk
  have h0 := hc 0 _ rfl
  simp only [Enc.flat, Nat.mul_one, Nat.add_zero] at h0
  exact ⟨b, off, rfl, hb, hp, h0⟩
theorem flat_all (h : Sl (Enc.flat f P hf) w S a l) : ∀ x ∈ l, P x := by
  intro x hx
  obtain ⟨k, hk, rfl⟩ := List.getElem_of_mem hx
  obtain ⟨_, _, _, _, hp, _⟩ := flat_at h k hk
  exact hp
theorem flat_cells {b off : Nat} {sp : Option Nat} (h : Sl (Enc.flat f P hf) w S (some ⟨b, off, sp⟩) l) : ∀ j u, (l.map f)[j]? = some u → w.cell? ((⟨b, off, sp⟩ : Addr).add j) = some u := by
  intro j u hu
  have hj : j < l.length := by
    rcases Nat.lt_or_ge j l.length with h | h
    · exact h
    · rw [List.getElem?_eq_none (by simpa using h)] at hu; cases hu
  obtain ⟨b', off', h1, _, _, h2⟩ := flat_at h j hj
  injection h1 with h1
  injection h1 with h1 h3 h4
  subst h1 h3 h4
  rw [add_lit, h2]
  rw [List.getElem?_map, List.getElem?_eq_getElem hj] at hu
  exact hu
/-- append of a whole slice onto a row of the call's own. -/
theorem run_pushes {Q : Program} {t ty : TypeId} {bytes : Nat} (hok : ElemOk Q t e 1 bytes) (hby : bytes ≤ 4096) (h : Own (Enc.flat f P hf) e w B v l) (hB : B ≤ w.heap.size)
    {l2 : List α} (hl : l.length + l2.length ≤ 34359738368) (h2 : Sl (Enc.flat f P hf) w S a l2) (c : Nat) :
    ∃ v' w', (Builtin.append_ #[t, t] ty #[v, .slice a l2.length c]).run Q w = .ok v' w' ∧ Own (Enc.flat f P hf) e w' B v' (l ++ l2) ∧ w.grownBy w' v.ownBlock ∧ (v'.ownBlock = v.ownBlock ∨ v'.ownBlock = some w.heap.size) := by
  obtain ⟨ht, i, z, hi, hz, h1, hb, h3⟩ := hok
  have hall := flat_all h2
  obtain ⟨ho, hp⟩ := own_flat.1 h
  rcases a with _ | ⟨b, off, sp⟩
  · have hn : l2 = [] := by
      rcases h2 with h2 | ⟨_, _, h2, _⟩
      · exact h2
      · cases h2
    subst hn
    refine ⟨v, w, ?_, by simpa using h, ⟨rfl, rfl, rfl, Nat.le_refl _, fun _ _ _ => rfl⟩, .inl rfl⟩
    rcases ho.2 with ⟨rfl, h0⟩ | ⟨g, cap, cur, rfl, _, _, hnc, _⟩
    · simp [Builtin.append_, run_underlying ht, sizeOf, typeInfo, hi, Builtin.lenOf, Builtin.firstCells]
    · simp [Builtin.append_, run_underlying ht, sizeOf, typeInfo, hi, Builtin.lenOf, Builtin.firstCells, hnc, storeCells]
  · have hm : (l.length + l2.length) * bytes ≤ 34359738368 * 4096 := Nat.mul_le_mul (by omega) hby
    obtain ⟨v', w', hrun, hown, hg, _, hat⟩ := run_append_own_at (P := Q) w B t ty e i z 1 bytes ht hi hz h1 hb h3 (by omega) v l.length (l.map f) ho ⟨b, off, sp⟩ l2.length c (l2.map f) (by simp)
      (flat_cells h2) (by intro u hu; obtain ⟨x, _, rfl⟩ := List.mem_map.1 hu; exact hf x) (by unfold maxLen; omega) (by omega) hB
    refine ⟨v', w', hrun, own_flat.2 ⟨by simpa using hown, fun x hx => ?_⟩, hg, hat⟩
    rcases List.mem_append.1 hx with h | h
    · exact hp x h
    · exact hall x h
theorem wp_pushes {Q : Program} {o : Oper} {ac : Act} {K : Act → World → Prop} {R : Exit → Act → World → Prop} (s x : Operand) (t : TypeId)
    (ho : o.op = .call { callee := .builtin .append, args := #[s, x], argTypes := #[t, t] }) {bytes : Nat} (hok : ElemOk Q t e 1 bytes) (hby : bytes ≤ 4096)
    (hs : ac.eval s = v) (h : Own (Enc.flat f P hf) e w B v l) (hB : B ≤ w.heap.size)
    {l2 : List α} {c : Nat} (hx : ac.eval x = .slice a l2.length c) (hl : l.length + l2.length ≤ 34359738368) (h2 : Sl (Enc.flat f P hf) w S a l2)
    (hk : ∀ v' w', Own (Enc.flat f P hf) e w' B v' (l ++ l2) → w.grownBy w' v.ownBlock → (v'.ownBlock = v.ownBlock ∨ v'.ownBlock = some w.heap.size) → K (ac.put o.dst v') w') : o.wp Q ac w K R := by
  obtain ⟨v', w', hrun, h3, h4, h5⟩ := run_pushes (Q := Q) (ty := o.type) hok hby h hB hl h2 c
  unfold Oper.wp execOp
  simp only [ho, resolve, invoke, builtin, Sem.run_bind, Sem.run_pure, Result.andThen_ok, List.map_toArray, List.map_cons, List.map_nil, hs, hx, hrun]
  exact hk v' w' h3 h4 h5
theorem wpList_pushes {Q : Program} {ops : Array Oper} {rest : List Oper} {o : Oper} {ac : Act} {R : Exit → Act → World → Prop} (hgd : o.guard = none) (s x : Operand) (t : TypeId)
    (ho : o.op = .call { callee := .builtin .append, args := #[s, x], argTypes := #[t, t] }) {bytes : Nat} (hok : ElemOk Q t e 1 bytes) (hby : bytes ≤ 4096)
    (hs : ac.eval s = v) (h : Own (Enc.flat f P hf) e w B v l) (hB : B ≤ w.heap.size)
    {l2 : List α} {c : Nat} (hx : ac.eval x = .slice a l2.length c) (hl : l.length + l2.length ≤ 34359738368) (h2 : Sl (Enc.flat f P hf) w S a l2)
    (hk : ∀ v' w', Own (Enc.flat f P hf) e w' B v' (l ++ l2) → w.grownBy w' v.ownBlock → (v'.ownBlock = v.ownBlock ∨ v'.ownBlock = some w.heap.size) → wpList Q ops R rest (ac.put o.dst v') w') : wpList Q ops R (o :: rest) ac w :=
  wpList_plain hgd fun _ hK => wp_pushes s x t ho hok hby hs h hB hx hl h2 fun v' w' h3 h4 h5 => hK _ _ (hk v' w' h3 h4 h5)
/-- A literal slice, just made, of no element: owned. -/
theorem Own.empty {E : Enc α} (hB : B ≤ w.heap.size) : Own E e (w.alloc (.cells #[] e)) B (.slice (some ⟨w.heap.size, 0, none⟩) 0 0) [] :=
  ⟨[], World.ownsRow_lit w #[] 0 hB (by simp) (by simp), fun k x h => by simp at h⟩
end

def EU32 : Enc UInt32 := Enc.flat (fun x => .int .u32 (x.toNat : Int)) (fun _ => True) (fun _ => rfl)
def EU8 : Enc UInt8 := Enc.flat (fun x => .int .u8 (x.toNat : Int)) (fun _ => True) (fun _ => rfl)
def EStr : Enc ByteArray := Enc.flat (fun x => .string x) (fun x => x.size ≤ maxLen) (fun _ => rfl)
def EI64 : Enc Int := Enc.flat (fun x => .int .i64 x) (fun x => -9223372036854775808 ≤ x ∧ x ≤ 9223372036854775807) (fun _ => rfl)
def Enc.pair {α β : Type} (E : Enc α) (F : Enc β) : Enc (α × β) where
  R w S x cs := ∃ c d, cs = c ++ d ∧ E.R w S x.1 c ∧ F.R w S x.2 d
  sz := E.sz + F.sz
  size := by rintro w S x cs ⟨c, d, rfl, h1, h2⟩; rw [List.length_append, E.size h1, F.size h2]
  one := by
    rintro w S x cs ⟨c, d, rfl, h1, h2⟩ u hu
    rcases List.mem_append.1 hu with h | h
    · exact E.one h1 u h
    · exact F.one h2 u h
  frame := by rintro w w' S x cs hw ⟨c, d, rfl, h1, h2⟩; exact ⟨c, d, rfl, E.frame hw h1, F.frame hw h2⟩
  mono := by rintro w S S' x cs hS ⟨c, d, rfl, h1, h2⟩; exact ⟨c, d, rfl, E.mono hS h1, F.mono hS h2⟩
def Enc.slice {α : Type} (E : Enc α) : Enc (List α) where
  R w S l cs := ∃ a c, cs = [.slice a l.length c] ∧ l.length ≤ 16777216 ∧ Sl E w S a l
  sz := 1
  size := by rintro w S x cs ⟨a, c, rfl, _⟩; rfl
  one := by rintro w S x cs ⟨a, c, rfl, _⟩ u hu; simp at hu; subst hu; rfl
  frame := by rintro w w' S x cs hw ⟨a, c, rfl, hm, h⟩; exact ⟨a, c, rfl, hm, h.frame hw⟩
  mono := by rintro w S S' x cs hS ⟨a, c, rfl, hm, h⟩; exact ⟨a, c, rfl, hm, h.mono hS⟩
def Enc.map {α β : Type} (E : Enc α) (f : β → α) : Enc β where
  R w S x cs := E.R w S (f x) cs
  sz := E.sz
  size h := E.size h
  one h := E.one h
  frame hw h := E.frame hw h
  mono hS h := E.mono hS h

end Go.Proofs.YtiappobhljiknaaGreatDoor
