/- For SetsFind: the parts around its walk. -/
import Derived.Test.YtoghdmoldcjedaaGreatDoorYE
import Derived.Test.YtoghdmoldcjedaaGreatDoorYO
import Derived.Test.YtoghdmoldcjedaaGreatDoorVQ
namespace Go.Proofs.YtoghdmoldcjedaaGreatDoor
open Go.RowKit Go.Sort
set_option linter.unusedVariables false

theorem ESetC.at {w : World} {S : Nat → Prop} {a : Option Addr} {l : List StS} (h : Sl ESetC w S a l) (k : Nat) (hk : k < l.length) :
    ∃ b off a1 c1 a2 c2 a3 c3, a = some ⟨b, off, none⟩ ∧ SetIn w S l[k] a1 a2 a3 ∧ SetCap l[k] c1 c2 c3 ∧ ∀ j u, (setCs l[k] a1 c1 a2 c2 a3 c3)[j]? = some u → w.cell? ⟨b, off + k * 5 + j, none⟩ = some u := by
  obtain ⟨b, off, cs, rfl, hb, hr, hc⟩ := h.at k hk
  obtain ⟨a1, c1, a2, c2, a3, c3, rfl, hi, hcap⟩ := ESetC.iff hr
  exact ⟨b, off, a1, c1, a2, c2, a3, c3, rfl, hi, hcap, hc⟩
theorem sl_weakC {α : Type} {E : Enc α} {w : World} {S : Nat → Prop} {a : Option Addr} {l : List (List α)} (h : Sl E.sliceC w S a l) : Sl E.slice w S a l := by
  rcases h with h | ⟨b, off, rfl, hb, hc⟩
  · exact .inl h
  · refine .inr ⟨b, off, rfl, hb, fun k y hy => ?_⟩
    obtain ⟨cs, ⟨a, c, rfl, h1, _, _, h4⟩, h5⟩ := hc k y hy
    exact ⟨_, ⟨a, c, rfl, h1, h4⟩, h5⟩
/-- What a set's own fields are bound by. -/
structure SetB (x : StS) : Prop where
  name : x.name.length ≤ 1048576
  kind : i64 x.kind
  nItems : x.items.length ≤ 16777216
  nComms : x.comms.length ≤ 16777216
  nPaths : x.paths.length ≤ 16777216
theorem SetIn.b {w : World} {S : Nat → Prop} {x : StS} {a1 a2 a3 : Option Addr} (h : SetIn w S x a1 a2 a3) : SetB x := ⟨h.name, h.kind, h.nItems, h.nComms, h.nPaths⟩
theorem setIn_own {w : World} {B : Nat} {x : StS} {e1 e2 e3 : TypeId} {a1 a2 a3 : Option Addr} {n1 n2 n3 c1 c2 c3 : Nat} (hb : SetB x) (h1 : Own EItm e1 w B (.slice a1 n1 c1) x.items) (h2 : Own EU32 e2 w B (.slice a2 n2 c2) x.comms) (h3 : Own EAtm.sliceC e3 w B (.slice a3 n3 c3) x.paths) : SetIn w (· < w.heap.size) x a1 a2 a3 :=
  ⟨hb.name, hb.kind, hb.nItems, h1.slAt.mono fun _ h => h.2, hb.nComms, h2.slAt.mono fun _ h => h.2, hb.nPaths, (sl_weakC h3.slAt).mono fun _ h => h.2⟩
def gotS (l : List StS) (name : List UInt8) : StS := (findS l name).getD zeroSt
def isS (l : List StS) (name : List UInt8) : Bool := (findS l name).isSome
/-- What sets.Find answers, in one form. -/
theorem FindP.all {l : List StS} {name : List UInt8} {w : World} {e : Ending} {w' : World} (h : FindP l name w e w') :
    ∃ a1 c1 a2 c2 a3 c3, e = .returned (.tuple #[.agg #[.string ⟨(gotS l name).name.toArray⟩, .int .i64 (gotS l name).kind, .slice a1 (gotS l name).items.length c1, .slice a2 (gotS l name).comms.length c2, .slice a3 (gotS l name).paths.length c3], .bool (isS l name)]) ∧ Ext w w' ∧
      Own EItm 36 w' w.heap.size (.slice a1 (gotS l name).items.length c1) (gotS l name).items ∧ Own EU32 37 w' w.heap.size (.slice a2 (gotS l name).comms.length c2) (gotS l name).comms ∧ Own EAtm.sliceC 38 w' w.heap.size (.slice a3 (gotS l name).paths.length c3) (gotS l name).paths ∧
      (∀ b, (Value.slice a3 (gotS l name).paths.length c3).ownBlock = some b → (Value.slice a1 (gotS l name).items.length c1).ownBlock ≠ some b ∧ (Value.slice a2 (gotS l name).comms.length c2).ownBlock ≠ some b) ∧
      ∀ k (hk : k < (gotS l name).paths.length) b a c, (Value.slice a3 (gotS l name).paths.length c3).ownBlock = some b → w'.cell? ⟨b, k, none⟩ = some (.slice a (gotS l name).paths[k].length c) → Own EAtm 40 w' w.heap.size (.slice a (gotS l name).paths[k].length c) (gotS l name).paths[k] := by
  obtain ⟨hE, h⟩ := h
  unfold gotS isS
  cases hf : findS l name with
  | none =>
    rw [hf] at h
    exact ⟨none, 0, none, 0, none, 0, h, hE, Own.nil, Own.nil, Own.nil, (fun b hb => by cases hb), fun k hk => absurd hk (Nat.not_lt_zero k)⟩
  | some x =>
    rw [hf] at h
    obtain ⟨v1, v2, v3, he, h1, h2, h3, h4, h5⟩ := h
    obtain ⟨a1, c1, rfl⟩ := h1.form
    obtain ⟨a2, c2, rfl⟩ := h2.form
    obtain ⟨a3, c3, rfl⟩ := h3.form
    exact ⟨a1, c1, a2, c2, a3, c3, he, hE, h1, h2, h3, h4, h5⟩
theorem FndP.all {l : List StS} {name : List UInt8} {w : World} {e : Ending} {w' : World} (h : FndP l name w e w') :
    ∃ a1 c1 a2 c2 a3 c3, e = .returned (.tuple #[.agg #[.string ⟨(gotS l name).name.toArray⟩, .int .i64 (gotS l name).kind, .slice a1 (gotS l name).items.length c1, .slice a2 (gotS l name).comms.length c2, .slice a3 (gotS l name).paths.length c3], .bool (isS l name)]) ∧ Ext w w' ∧ SetIn w (· < w.heap.size) (gotS l name) a1 a2 a3 := by
  obtain ⟨hE, h⟩ := h
  unfold gotS isS
  cases hf : findS l name with
  | none =>
    rw [hf] at h
    exact ⟨none, 0, none, 0, none, 0, h, hE, ⟨by decide, ⟨by decide, by decide⟩, by decide, Sl.nil, by decide, Sl.nil, by decide, Sl.nil⟩⟩
  | some x =>
    rw [hf] at h
    obtain ⟨a1, c1, a2, c2, a3, c3, he, hi⟩ := h
    exact ⟨a1, c1, a2, c2, a3, c3, he, hE, hi⟩
/-- Only cells of blocks from B up to H, and not of block p, have turned. -/
structure Sp (B H : Nat) (p : Option Nat) (w w' : World) : Prop where
  os : w'.os = w.os
  tape : w'.tape = w.tape
  output : w'.output = w.output
  size : w'.heap.size = w.heap.size
  block : ∀ b, (b < B ∨ H ≤ b ∨ p = some b) → w'.heap[b]? = w.heap[b]?
  there : ∀ b o n, w.there b o n → w'.there b o n
theorem Sp.refl (B H : Nat) (p : Option Nat) (w : World) : Sp B H p w w := ⟨rfl, rfl, rfl, rfl, fun _ _ => rfl, fun _ _ _ h => h⟩
theorem Sp.set {B H : Nat} {p : Option Nat} {w w' : World} (h : Sp B H p w w') {b : Nat} (h1 : B ≤ b) (h2 : b < H) (h3 : p ≠ some b) (o : Nat) (u : Value) : Sp B H p w (w'.setCell ⟨b, o, none⟩ u) :=
  ⟨h.os, h.tape, h.output, by simpa [World.setCell] using h.size, fun k hk => (Below.heap_setCell _ _ _ _ (show k ≠ b from fun e => by
    subst e
    rcases hk with hk | hk | hk
    · omega
    · omega
    · exact h3 hk)).trans (h.block k hk), fun b' o' n hh => World.there_setCells (h.there b' o' n hh) b o [u]⟩
theorem Sp.cell {B H : Nat} {p : Option Nat} {w w' : World} (h : Sp B H p w w') {b : Nat} (hb : b < B ∨ H ≤ b ∨ p = some b) (o : Nat) {u : Value} (hc : w.cell? ⟨b, o, none⟩ = some u) : w'.cell? ⟨b, o, none⟩ = some u :=
  (World.cell?_of_block (a := ⟨b, o, none⟩) (h.block b hb)).trans hc
theorem Sp.own {α : Type} {E : Enc α} {e : TypeId} {B H : Nat} {p : Option Nat} {w w' : World} (h : Sp B H p w w') {B' : Nat} (hB : H ≤ B') {v : Value} {l : List α} (ho : Own E e w B' v l) : Own E e w' B' v l :=
  ho.kept (Nat.le_of_eq h.size.symm) fun b hb _ => h.block b (.inr (.inl (by omega)))
theorem Sp.sl {α : Type} {E : Enc α} {B H : Nat} {p : Option Nat} {w w' : World} (h : Sp B H p w w') {a : Option Addr} {l : List α} (hs : Sl E w (· < B) a l) : Sl E w' (· < B) a l := hs.frame fun b hb => h.block b (.inl hb)
/-- A row of the call's own may be written. -/
theorem Own.thereS {α : Type} {E : Enc α} {e : TypeId} {w : World} {B g n c : Nat} {l : List α} (h : Own E e w B (.slice (some ⟨g, 0, none⟩) n c) l) : w.there g 0 (l.length * E.sz) := by
  obtain ⟨xs, ho, _⟩ := h
  have hn : n = l.length := by
    rcases ho.2 with ⟨h2, _⟩ | ⟨g', cap, cur, h2, _⟩
    · cases h2
    · injection h2
  subst hn
  intro j hj
  have hx : j < xs.length := by rw [ho.1]; exact hj
  have h3 := ho.cells (g := g) rfl j _ (List.getElem?_eq_getElem hx)
  rw [add_lit] at h3
  exact ⟨by rw [h3]; rfl, by have := ho.frozenAt j; rwa [Nat.zero_add]⟩
end Go.Proofs.YtoghdmoldcjedaaGreatDoor
