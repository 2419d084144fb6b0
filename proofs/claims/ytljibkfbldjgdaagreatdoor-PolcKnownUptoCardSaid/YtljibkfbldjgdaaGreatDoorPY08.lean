/- Chapter 16, walks: the term of a text (polc.Term). Walks: chapter 16's example (works). Chapter 16, closed: texts that are no term's, texts of terms. Printed by genkk.py. errors.Is and errors.As at a fault of the program (a pointer to an api.Fault), by their contracts. The law PolcAgain, walked. Walks: slices.Index, slices.Contains at uint32; aspath.Check and its answer by the document; lengths. Walks: aspath.Check, lengths. Walks: are two the same? slices.Equal, slices.EqualFunc, aspath.Same; the document's Same. Walks: paths in memory of one's own. Rows of slices that tell their capacity; an element of such a row stored anew. Arguments of chapter 15 by value, opened, with what their slices' capacities are. Arguments of chapter 16, opened: conditions, actions, terms. Arguments of chapter 16, opened with what their slices' capacities are: terms. Walks: may a set be (sets.Check). -/
import Derived.Lib.SplitLaws
import Derived.Lib.ParseIntB
import Derived.Lib.ParseIntBCases
import Derived.Lib.ItoaNum
import Derived.Lib.Join
import Derived.WalkKit
import Derived.Below
import Derived.Outline
import Derived.LoopTactic
import Derived.Laws.OwnMore
import Derived.Deep.AppendLies
import Derived.Deep.Draws
import Derived.Lib.Hide
import Derived.BigQuiet
import Derived.Deep.QuietTactic
import Derived.WalkSpells
import Derived.WalkLawsBesides
import Derived.Deep.RegionHeld3
import Derived.Deep.DrawnRows
import Derived.Deep.RegionLaw
import Derived.Lib.ConvBytes
import Derived.Lib.Bytealg
import Derived.Lib.Small
import Derived.Test.YtljibkfbldjgdaaGreatDoorRows
import Derived.ProofKit
import Derived.Deep.Slices
import Derived.Shelf.GgClosure.StringsRunes
import Derived.Test.YtljibkfbldjgdaaGreatDoorProg
import Derived.Test.YtljibkfbldjgdaaGreatDoorShelf
import Derived.Test.YtljibkfbldjgdaaGreatDoorShelf2
import Derived.Lib.UnsafeStr
import Derived.Shelf.RegionOpenPlain
import Derived.Laws.StructEq
import Derived.Lib.QuietBelow
import Derived.Lib.ItoaMem
import Derived.Lib.ItoaLen
import Derived.Deep.DeepCutAuto
import Derived.Orders
import Derived.StillTail
import Derived.Defers
import Derived.Recover
import Derived.Maps.OwnSet
import Derived.Maps.Views
import Derived.Maps.Range
import Derived.DeepKeys5
import Derived.Deep.Cut
import Derived.LaidEql
import Derived.Stop.Asserts
import Derived.RowKitTokens
import Derived.Test.YtljibkfbldjgdaaGreatDoorPY01
import Derived.Test.YtljibkfbldjgdaaGreatDoorPY02
import Derived.Test.YtljibkfbldjgdaaGreatDoorPY03
import Derived.Test.YtljibkfbldjgdaaGreatDoorPY04
import Derived.Test.YtljibkfbldjgdaaGreatDoorPY05
import Derived.Test.YtljibkfbldjgdaaGreatDoorPY06
import Derived.Test.YtljibkfbldjgdaaGreatDoorPY07
namespace Go.Proofs.YtljibkfbldjgdaaGreatDoor
section
section
open Go.RowKit
set_option linter.unusedVariables false
set_option linter.unusedSimpArgs false
theorem spl_cnt (c : UInt8) (f : Nat) (s : List UInt8) (h : s.length ≤ f) : (spl c s).length ≤ s.length + 1 := by
 refine spl_ind (P := fun s => (spl c s).length ≤ s.length + 1) c (fun s hs => ?_) (fun a b ha ih => ?_) f s h
 ·rw [spl_no hs]; simp
 ·rw [spl_at ha]
  simp only [List.length_cons, List.length_append]
  omega
/-- What polc.Term answers. -/
def TeP (s : List UInt8) (w : World) (e : Ending) (w' : World) : Prop :=
 (match termO s with
  | some t => ∃ v1 v2, e = .returned (.tuple #[.agg #[v1, v2], .nilIface]) ∧ Own ECond 48 w' w.heap.size v1 t.conds ∧ Own EAct 51 w' w.heap.size v2 t.acts
  | none => ∃ f : Nat, e = .returned (.tuple #[.agg #[.slice none 0 0, .slice none 0 0], .iface 80 (.pointer (some ⟨f, 0, none⟩))]) ∧ w.heap.size ≤ f ∧ Blk w' f 84 #[.int .i64 9, .int .i64 0]) ∧ Ext w w'
theorem TeP.ok {s : List UInt8} {t : TermS} {w w' : World} {v1 v2 : Value} (h : termO s = some t) (o1 : Own ECond 48 w' w.heap.size v1 t.conds) (o2 : Own EAct 51 w' w.heap.size v2 t.acts) (he : Ext w w') : TeP s w (.returned (.tuple #[.agg #[v1, v2], .nilIface])) w' := by
 unfold TeP; rw [h]; exact ⟨⟨v1, v2, rfl, o1, o2⟩, he⟩
theorem TeP.no {s : List UInt8} {w w' : World} {f : Nat} (h : termO s = none) (hf : w.heap.size ≤ f) (hb : Blk w' f 84 #[.int .i64 9, .int .i64 0]) (he : Ext w w') : TeP s w (.returned (.tuple #[.agg #[.slice none 0 0, .slice none 0 0], .iface 80 (.pointer (some ⟨f, 0, none⟩))])) w' := by
 unfold TeP; rw [h]; exact ⟨⟨f, rfl, hf, hb⟩, he⟩
structure TmS (w W : World) (pt pe g B : Nat) (v1 v2 : Value) (l : List (List UInt8)) : Prop where
  E : Ext w W
  P : Blk W pt 25 #[v1, v2]
  Q : Blk W pe 39 #[.nilIface]
  L : WdL W g B l
set_option maxRecDepth 20000 in
set_option maxHeartbeats 2000000 in
theorem term_dies {Post : Ending → World → Prop} {a : Act} {w W : World} {pt pe : Nat} {v1 v2 : Value}
  (hd : a.defers = [{ target := .fn (.func 44) #[.pointer (some ⟨pt, 0, none⟩), .pointer (some ⟨pe, 0, none⟩)], args := #[] }])
  (h2 : a.tmps[2]? = some (.pointer (some ⟨pt, 0, none⟩))) (h3 : a.tmps[3]? = some (.pointer (some ⟨pe, 0, none⟩)))
  (E : Ext w W) (P : Blk W pt 25 #[v1, v2]) (Q : Blk W pe 39 #[.nilIface]) (hne : pt ≠ pe) (hpt : w.heap.size ≤ pt) (hpe : w.heap.size ≤ pe)
  (hp : ∀ W' f, Ext w W' → w.heap.size ≤ f → Blk W' f 84 #[.int .i64 9, .int .i64 0] → Post (.returned (.tuple #[.agg #[.slice none 0 0, .slice none 0 0], .iface 80 (.pointer (some ⟨f, 0, none⟩))])) W') :
  bodyPostD Tryz.prog Tryz.f19 Post (.panic noneP) a W := by
 show Leaves Tryz.prog Tryz.f19 a.tmps Post a.defers (.panicking noneP) W
 rw [hd]
 refine leaves_cons (f := 44) (args := #[.pointer (some ⟨pt, 0, none⟩), .pointer (some ⟨pe, 0, none⟩)]) (by simp) (by simp [go_sem]) ?_
 refine (catch_panicking pt pe v1 v2 .nilIface W P Q hne).mono ?_
 rintro e u' w'' ⟨rfl, rfl, hw⟩
 have F := (Blk.new (W.alloc (.cells #[] 93)) 84 #[.int .i64 9, .int .i64 0])
 have hs1 : (W.alloc (.cells #[] 93)).heap.size = W.heap.size + 1 := by simp
 rw [hs1] at F
 have P2 := (P.alloc (Obj.cells #[] 93)).alloc (Obj.cells #[.int .i64 9, .int .i64 0] 84)
 have Q2 := (Q.alloc (Obj.cells #[] 93)).alloc (Obj.cells #[.int .i64 9, .int .i64 0] 84)
 have E2 := (E.alloc (Obj.cells #[] 93)).alloc (Obj.cells #[.int .i64 9, .int .i64 0] 84)
 have hpl := P.lt
 have hql := Q.lt
 have hEs := E.size
 generalize (W.alloc (.cells #[] 93)).alloc (Obj.cells #[.int .i64 9, .int .i64 0] 84) = W2 at *
 have P3 : Blk _ pt 25 #[.slice none 0 0, .slice none 0 0] := ((P2.set_ 0 (.slice none 0 0)).set_ 1 (.slice none 0 0))
 have P4 := P3.far (p := ⟨pe, 0, none⟩) (show pt ≠ pe from hne) (.iface 80 (.pointer (some ⟨W.heap.size + 1, 0, none⟩)))
 have Q3 := ((Q2.far (p := ⟨pt, 0, none⟩) (show pe ≠ pt from Ne.symm hne) (.slice none 0 0)).far (p := ⟨pt, 1, none⟩) (show pe ≠ pt from Ne.symm hne) (.slice none 0 0))
 have Q4 : Blk _ pe 39 #[.iface 80 (.pointer (some ⟨W.heap.size + 1, 0, none⟩))] := Q3.set_ 0 (.iface 80 (.pointer (some ⟨W.heap.size + 1, 0, none⟩)))
 have F4 := ((F.far (p := ⟨pt, 0, none⟩) (show W.heap.size + 1 ≠ pt by omega) (.slice none 0 0)).far (p := ⟨pt, 1, none⟩) (show W.heap.size + 1 ≠ pt by omega) (.slice none 0 0)).far (p := ⟨pe, 0, none⟩) (show W.heap.size + 1 ≠ pe by omega) (.iface 80 (.pointer (some ⟨W.heap.size + 1, 0, none⟩)))
 have E4 := ((E2.setCell (p := ⟨pt, 0, none⟩) hpt (.slice none 0 0)).setCell (p := ⟨pt, 1, none⟩) hpt (.slice none 0 0)).setCell (p := ⟨pe, 0, none⟩) hpe (.iface 80 (.pointer (some ⟨W.heap.size + 1, 0, none⟩)))
 rw [← hw] at P4 Q4 F4 E4
 clear hw P2 P3 Q2 Q3 F E2
 have y0 : w''.cell? ⟨pt, 0, none⟩ = some (.slice none 0 0) := P4.cell 0
 have y1 : w''.cell? ⟨pt, 1, none⟩ = some (.slice none 0 0) := P4.cell 1
 have y2 : w''.cell? ⟨pe, 0, none⟩ = some (.iface 80 (.pointer (some ⟨W.heap.size + 1, 0, none⟩))) := Q4.cell 0
 have hq := hp w'' (W.heap.size + 1) E4 (by omega) F4
 simp [Leaves, settle, noneR, results, Tryz.results19, go_sem, h2, h3, y0, y1, y2, hq]
set_option maxRecDepth 20000 in
theorem term_returns {Post : Ending → World → Prop} {a : Act} {W : World} {pt pe : Nat} {v1 v2 : Value}
  (hd : a.defers = [{ target := .fn (.func 44) #[.pointer (some ⟨pt, 0, none⟩), .pointer (some ⟨pe, 0, none⟩)], args := #[] }])
  (h2 : a.tmps[2]? = some (.pointer (some ⟨pt, 0, none⟩))) (h3 : a.tmps[3]? = some (.pointer (some ⟨pe, 0, none⟩)))
  (P : Blk W pt 25 #[v1, v2]) (Q : Blk W pe 39 #[.nilIface]) (hp : Post (.returned (.tuple #[.agg #[v1, v2], .nilIface])) W) :
  bodyPostD Tryz.prog Tryz.f19 Post .ret a W := by
 show Leaves Tryz.prog Tryz.f19 a.tmps Post a.defers .returning W
 rw [hd]
 refine leaves_cons (f := 44) (args := #[.pointer (some ⟨pt, 0, none⟩), .pointer (some ⟨pe, 0, none⟩)]) (by simp) (by simp [go_sem]) ?_
 refine (catch_idle pt pe W).mono ?_
 rintro e u' w'' ⟨rfl, rfl, rfl⟩
 have y0 : w''.cell? ⟨pt, 0, none⟩ = some v1 := P.cell 0
 have y1 : w''.cell? ⟨pt, 1, none⟩ = some v2 := P.cell 1
 have y2 : w''.cell? ⟨pe, 0, none⟩ = some .nilIface := Q.cell 0
 simp [Leaves, settle, results, Tryz.results19, go_sem, h2, h3, y0, y1, y2, hp]
theorem tmp_of_eval {a : Act} {t : Tmp} {p : Option Addr} (h : a.eval (.tmp t) = .pointer p) : a.tmps[t]? = some (.pointer p) := by
 cases hq : a.tmps[t]? with
 | none => simp [Act.eval, hq, undef] at h
 | some v => simp [Act.eval, hq] at h; rw [h]
def lenAt (w : World) (g : Nat) : Nat := match w.cell? ⟨g, 0, none⟩ with | some (.slice _ n _) => n | _ => 0
theorem WdL.lenAt {w : World} {g B : Nat} {l : List (List UInt8)} (h : WdL w g B l) : lenAt w g = l.length := by
 obtain ⟨n, lt, up, a, c, h1, h2, h3⟩ := h
 have := h1.cell 0
 unfold Go.Proofs.YtljibkfbldjgdaaGreatDoor.lenAt
 rw [this]
 rfl
theorem TmS.but {w W W' : World} {pt pe g B : Nat} {v1 v2 : Value} {l l' : List (List UInt8)} (h : TmS w W pt pe g B v1 v2 l) (hb : But g W W') (hl : WdL W' g B l') (h1 : pt ≠ g) (h2 : pe ≠ g) (hg : w.heap.size ≤ g) : TmS w W' pt pe g B v1 v2 l' :=
 ⟨But.ext h.E hb hg, hb.blk h.P h1, hb.blk h.Q h2, hl⟩
theorem TmS.draw {w W : World} {pt pe g B : Nat} {v1 v2 : Value} {l : List (List UInt8)} (h : TmS w W pt pe g B v1 v2 l) : TmS w W.drew pt pe g B v1 v2 l :=
 ⟨h.E.drew, h.P.drew, h.Q.drew, h.L.kept (Nat.le_refl _) fun _ _ => rfl⟩
/-- A row of words is not where slices lie. -/
theorem WdL.apart {w : World} {g B p : Nat} {T : TypeId} {a1 a2 : Option Addr} {n1 n2 c1 c2 : Nat} {l : List (List UInt8)} (h : WdL w g B l) (hp : p ≠ g) (P : Blk w p T #[.slice a1 n1 c1, .slice a2 n2 c2]) (i : Nat) (u : Value) : WdL (w.setCell ⟨p, i, none⟩ u) g B l := by
  obtain ⟨n, lt, up, a, c, h1, h2, h3⟩ := h
  refine ⟨n, lt, by simpa [World.setCell] using up, a, c, h1.far (p := ⟨p, i, none⟩) (show g ≠ p from Ne.symm hp) u, h2, ?_⟩
  rcases h3 with h3 | ⟨b, off, rfl, hb, hc⟩
  · exact .inl h3
  · cases l with
    | nil => exact .inl rfl
    | cons x r =>
      have hbp : b ≠ p := by
        rintro rfl
        obtain ⟨cs, ⟨rfl, _⟩, hcs⟩ := hc 0 x rfl
        have h0 := hcs 0 _ rfl
        have := P.cell (off + 0 * EByt.sz + 0)
        rw [this] at h0
        match off, h0 with
        | 0, h0 => simp [EByt, Enc.flat] at h0
        | 1, h0 => simp [EByt, Enc.flat] at h0
        | k + 2, h0 => simp [EByt, Enc.flat] at h0
      refine .inr ⟨b, off, rfl, hb, fun k y hy => ?_⟩
      obtain ⟨cs, hr, hcs⟩ := hc k y hy
      exact ⟨cs, hr, fun j v hv => (World.cell?_of_block (a := ⟨b, off + k * EByt.sz + j, none⟩) (Below.heap_setCell _ _ _ _ (show b ≠ p from hbp))).trans (hcs j v hv)⟩
theorem TmS.set1 {w W : World} {pt pe g B : Nat} {a1 a2 : Option Addr} {n1 n2 c1 c2 : Nat} {l : List (List UInt8)} (h : TmS w W pt pe g B (.slice a1 n1 c1) (.slice a2 n2 c2) l) (hw : w.heap.size ≤ pt) (h1 : pt ≠ pe) (h2 : pt ≠ g) (u : Value) : TmS w (W.setCell ⟨pt, 0, none⟩ u) pt pe g B u (.slice a2 n2 c2) l :=
 ⟨h.E.setCell hw u, h.P.set_ 0 u, h.Q.far (p := ⟨pt, 0, none⟩) (show pe ≠ pt from Ne.symm h1) u, h.L.apart h2 h.P 0 u⟩
theorem TmS.set2 {w W : World} {pt pe g B : Nat} {a1 a2 : Option Addr} {n1 n2 c1 c2 : Nat} {l : List (List UInt8)} (h : TmS w W pt pe g B (.slice a1 n1 c1) (.slice a2 n2 c2) l) (hw : w.heap.size ≤ pt) (h1 : pt ≠ pe) (h2 : pt ≠ g) (u : Value) : TmS w (W.setCell ⟨pt, 1, none⟩ u) pt pe g B (.slice a1 n1 c1) u l :=
 ⟨h.E.setCell hw u, h.P.set_ 1 u, h.Q.far (p := ⟨pt, 1, none⟩) (show pe ≠ pt from Ne.symm h1) u, h.L.apart h2 h.P 1 u⟩
theorem TmS.alloc {w W : World} {pt pe g B : Nat} {v1 v2 : Value} {l : List (List UInt8)} (h : TmS w W pt pe g B v1 v2 l) (o : Obj) : TmS w (W.alloc o) pt pe g B v1 v2 l :=
 ⟨h.E.alloc o, h.P.alloc o, h.Q.alloc o, h.L.alloc o⟩
theorem TmS.grown {w W W' : World} {pt pe g B : Nat} {v1 v2 v : Value} {l : List (List UInt8)} (h : TmS w W pt pe g B v1 v2 l) (hg : W.grownBy W' v.ownBlock) (h1 : pt < B) (h2 : pe < B) (hw : w.heap.size ≤ B) (hv : ∀ k, v.ownBlock = some k → B ≤ k) : TmS w W' pt pe g B v1 v2 l := by
 have hne : ∀ b, b < B → some b ≠ v.ownBlock := fun b hb e => by have := hv b e.symm; omega
 exact ⟨h.E.push (fun k hk => Nat.le_trans hw (hv k hk)) hg, h.P.grown hg (hne _ h1), h.Q.grown hg (hne _ h2), h.L.kept hg.size fun b hb => hg.block b (Nat.lt_of_lt_of_le hb h.L.up) (hne b hb)⟩
/-- The blocks from B on that were there are as they were. -/
structure Kp (W0 W : World) (B : Nat) : Prop where
  size : W0.heap.size ≤ W.heap.size
  block : ∀ b, B ≤ b → b < W0.heap.size → W.heap[b]? = W0.heap[b]?
theorem Kp.refl (W : World) (B : Nat) : Kp W W B := ⟨Nat.le_refl _, fun _ _ _ => rfl⟩
theorem Kp.drawn {W0 W : World} {B : Nat} (h : Kp W0 W B) : Kp W0 W.drew B := ⟨h.size, h.block⟩
theorem Kp.but {W0 W W' : World} {B g : Nat} (h : Kp W0 W B) (b : But g W W') (hg : g < B) : Kp W0 W' B :=
 ⟨Nat.le_trans h.size b.size, fun x h1 h2 => (b.block x (Nat.lt_of_lt_of_le h2 h.size) (by omega)).trans (h.block x h1 h2)⟩
theorem Kp.alloc {W0 W : World} {B : Nat} (h : Kp W0 W B) (o : Obj) : Kp W0 (W.alloc o) B :=
 ⟨by have := h.size; simp; omega, fun x h1 h2 => (Below.heap_alloc W o x (Nat.lt_of_lt_of_le h2 h.size)).trans (h.block x h1 h2)⟩
theorem Kp.set {W0 W : World} {B p : Nat} (h : Kp W0 W B) (hp : p < B) (i : Nat) (u : Value) : Kp W0 (W.setCell ⟨p, i, none⟩ u) B :=
 ⟨by simpa [World.setCell] using h.size, fun x h1 h2 => (Below.heap_setCell _ _ _ _ (show x ≠ p by omega)).trans (h.block x h1 h2)⟩
theorem Kp.grown {W0 W W' : World} {B : Nat} {v : Value} (h : Kp W0 W B) (hg : W.grownBy W' v.ownBlock) (hv : ∀ k, v.ownBlock = some k → W0.heap.size ≤ k) : Kp W0 W' B :=
 ⟨Nat.le_trans h.size hg.size, fun x h1 h2 => (hg.block x (Nat.lt_of_lt_of_le h2 h.size) (fun e => by have := hv x e.symm; omega)).trans (h.block x h1 h2)⟩
theorem okCond : ElemOk Tryz.prog 22 48 ECond.sz 40 := elemOk (z := .agg #[.int .i64 0, .bool false, .string ⟨#[]⟩, .int .i64 0]) Tryz.underlying22 (by kernel_rfl) rfl
theorem okAct : ElemOk Tryz.prog 23 51 EAct.sz 48 := elemOk (z := .agg #[.int .i64 0, .string ⟨#[]⟩, .int .u32 0, .string ⟨#[]⟩]) Tryz.underlying23 (by kernel_rfl) rfl
set_option maxRecDepth 20000 in
set_option maxHeartbeats 4000000 in
theorem PTerm_any (s : List UInt8) (hs : s.length ≤ 1048576) (w : World) (hT : Tab w) (hV : Vars w) (hD : Deb w) :
    Calls Tryz.prog 19 #[.string ⟨s.toArray⟩] w (TeP s w) := by
  have mixed : Tryz.prog.follows Departure.mixedOrders = true := by kernel_rfl
  have hmf : ∀ (fn : Fn) (first cap : Array Value) (w : World), (Instr.makeFunc fn first cap).run Tryz.prog w = .ok (.func fn first cap) w := fun _ _ _ _ => rfl
  have hok := fun t W v1 v2 h o1 o2 he => TeP.ok (s := s) (t := t) (w := w) (w' := W) (v1 := v1) (v2 := v2) h o1 o2 he
  have hno : ∀ (h : readT (spl 32 s) = none) (W : World) (f : Nat), Ext w W → w.heap.size ≤ f → Blk W f 84 #[.int .i64 9, .int .i64 0] → TeP s w (.returned (.tuple #[.agg #[.slice none 0 0, .slice none 0 0], .iface 80 (.pointer (some ⟨f, 0, none⟩))])) W := fun h W f he hf hb => TeP.no (termO_none h) hf hb he
  have hne : ∀ t, readT (spl 32 s) = some t → ¬ termT t = (s, 0) → ∀ (W : World) (f : Nat), Ext w W → w.heap.size ≤ f → Blk W f 84 #[.int .i64 9, .int .i64 0] → TeP s w (.returned (.tuple #[.agg #[.slice none 0 0, .slice none 0 0], .iface 80 (.pointer (some ⟨f, 0, none⟩))])) W := fun t h hn W f he hf hb => TeP.no (by rw [termO_one h, if_neg hn]) hf hb he
  have hyes : ∀ t, readT (spl 32 s) = some t → termT t = (s, 0) → termO s = some t := fun t h hn => by rw [termO_one h, if_pos hn]
  generalize TeP s w = Post at *
  have hcnt := spl_cnt 32 s.length s (Nat.le_refl _)
  have hwl : ∀ y ∈ spl 32 s, y.length ≤ 1048576 := fun y hy => Nat.le_trans (spl_len 32 s y hy) hs
  have hnil := spl_ne 32 s
  have P := (Blk.new w 25 #[.slice none 0 0, .slice none 0 0]).alloc (Obj.cells #[.nilIface] 39)
  have Q : Blk ((w.alloc (Obj.cells #[.slice none 0 0, .slice none 0 0] 25)).alloc (Obj.cells #[.nilIface] 39)) (w.heap.size + 1) 39 #[.nilIface] := by
    have := Blk.new (w.alloc (Obj.cells #[.slice none 0 0, .slice none 0 0] 25)) 39 #[.nilIface]
    simpa using this
  have E := ((Ext.refl w).alloc (Obj.cells #[.slice none 0 0, .slice none 0 0] 25)).alloc (Obj.cells #[.nilIface] 39)
  generalize hW1 : (w.alloc (Obj.cells #[.slice none 0 0, .slice none 0 0] 25)).alloc (Obj.cells #[.nilIface] 39) = W1 at P Q E
  have qs := Split_any s 32 W1 (hV.ext E) hs
  generalize spl 32 s = S at *
  obtain ⟨x, r, rfl⟩ := List.exists_cons_of_ne_nil hnil
  clear hnil
  have hsz1 : w.heap.size + 2 = W1.heap.size := by rw [← hW1]; simp
  replace hok := hide hok
  replace hno := hide hno
  replace hne := hide hne
  replace hyes := hide hyes
  replace hT := hide hT
  replace hV := hide hV
  replace hD := hide hD
  replace P := hide P
  replace Q := hide Q
  replace E := hide E
  replace qs := hide qs
  replace hwl := hide hwl
  replace hcnt := hide hcnt
  replace hsz1 := hide hsz1
  go_enter_defers Tryz.func19, Tryz.ntmps19
  go_wp2_with fail
  clear hW1
  (with_reducible refine qs.out.mono ?_)
  rintro e W2 ⟨d, hd, rfl, he, hc⟩
  clear qs
  have hd' : r.length + 1 ≤ d := hd
  have hr1 : W1.heap.size < W2.heap.size := World.block_lt_of_cell? W2 _ (hc 0 (by simp))
  have K := Blk.new W2 79 #[.slice (some ⟨W1.heap.size, 0, none⟩) (r.length + 1) d]
  have P3 := (P.out.ext he).alloc (Obj.cells #[.slice (some ⟨W1.heap.size, 0, none⟩) (r.length + 1) d] 79)
  have Q3 := (Q.out.ext he).alloc (Obj.cells #[.slice (some ⟨W1.heap.size, 0, none⟩) (r.length + 1) d] 79)
  have E3 := (E.out.trans he).alloc (Obj.cells #[.slice (some ⟨W1.heap.size, 0, none⟩) (r.length + 1) d] 79)
  have L3 : WdL (W2.alloc (Obj.cells #[.slice (some ⟨W1.heap.size, 0, none⟩) (r.length + 1) d] 79)) W2.heap.size (W2.heap.size + 1) (x :: r) := by
    refine ⟨by have := hcnt.out; omega, by omega, by simp, _, _, K, hd, .inr ⟨W1.heap.size, 0, rfl, ⟨by omega, by omega⟩, fun k y hy => ⟨[.string ⟨y.toArray⟩], ⟨rfl, hwl.out y (List.mem_of_getElem? hy)⟩, fun j u hu => ?_⟩⟩⟩
    have hk : k < (x :: r).length := (List.getElem?_eq_some_iff.1 hy).1
    have hyk : (x :: r)[k] = y := (List.getElem?_eq_some_iff.1 hy).2
    match j, hu with
    | 0, hu =>
      obtain rfl : Value.string ⟨y.toArray⟩ = u := by simpa using hu
      have := ((Ext.refl W2).alloc (Obj.cells #[.slice (some ⟨W1.heap.size, 0, none⟩) (r.length + 1) d] 79)).cell (hc k hk)
      rw [hyk] at this
      simpa [EByt, Enc.flat] using this
  generalize hW3 : W2.alloc (Obj.cells #[.slice (some ⟨W1.heap.size, 0, none⟩) (r.length + 1) d] 79) = W3 at P3 Q3 E3 L3
  have M : TmS w W3 w.heap.size (w.heap.size + 1) W2.heap.size (W2.heap.size + 1) (.slice none 0 0) (.slice none 0 0) (x :: r) := ⟨E3, P3, Q3, L3⟩
  have hpg : w.heap.size + 2 < W2.heap.size := by have := hsz1.out; omega
  generalize hg : W2.heap.size = g at M hpg
  have hN : r.length ≤ 1048577 := by have := hcnt.out; simp at this; omega
  clear K P3 Q3 E3 L3 hd hr1 P Q E hc he hcnt hsz1
  replace M := hide M
  go_wp2_with fail
  clear hW3 hg hd'
  refine (next_some g x r _ _ M.out.L).mono ?_
  rintro e W4 ⟨rfl, hb, hL⟩
  replace M := hide (M.out.but hb hL (by omega) (by omega) (by omega))
  clear hb hL
  generalize hpt : w.heap.size = pt at *
  have hpw : (∀ (W : World) (f : Nat), Ext w W → pt ≤ f → Blk W f 84 #[.int .i64 9, .int .i64 0] → Post (.returned (.tuple #[.agg #[.slice none 0 0, .slice none 0 0], .iface 80 (.pointer (some ⟨f, 0, none⟩))])) W) → ∀ (W : World) (v1' v2' : Value) (a : Act), a.defers = [{ target := .fn (.func 44) #[.pointer (some ⟨pt, 0, none⟩), .pointer (some ⟨pt + 1, 0, none⟩)], args := #[] }] → a.tmps[2]? = some (.pointer (some ⟨pt, 0, none⟩)) → a.tmps[3]? = some (.pointer (some ⟨pt + 1, 0, none⟩)) → Ext w W → Blk W pt 25 #[v1', v2'] → Blk W (pt + 1) 39 #[.nilIface] → bodyPostD Tryz.prog Tryz.f19 Post (.panic noneP) a W :=
    fun hbad W v1' v2' a h1 h2 h3 hE hP hQ => term_dies h1 h2 h3 hE hP hQ (by omega) (by omega) (by omega) fun W' f he hf hb => hbad W' f he (by omega) hb
  replace hpw := hide hpw
  go_upto_if 16 with fail
  go_cut [6] from 9 to 72 (fun s6 wx => ∃ (v : List UInt8) (cs : List CondS) (v1 : Value) (q : List (List UInt8)), s6 = .string ⟨v.toArray⟩ ∧ TmS w wx pt (pt + 1) g (g + 1) v1 (.slice none 0 0) q ∧ Own ECond 48 wx (g + 1) v1 cs ∧
    (v = [116, 104, 101, 110] → readT (x :: r) = (rAs q).map fun l => ⟨cs, l⟩) ∧ (v ≠ [116, 104, 101, 110] → readT (x :: r) = none) ∧ (∀ y ∈ q, y ∈ x :: r) ∧ cs.length + q.length ≤ r.length)
  case first =>
    by_cases hif : x = [105, 102]
    · subst hif
      go_wp2_with fail
      go_loopw [6] (fun s6 wx => ∃ (v : List UInt8) (cs : List CondS) (v1 : Value) (q : List (List UInt8)), s6 = .string ⟨v.toArray⟩ ∧ TmS w wx pt (pt + 1) g (g + 1) v1 (.slice none 0 0) q ∧ Own ECond 48 wx (g + 1) v1 cs ∧
        (readT ([105, 102] :: r) = (rCs v q).bind fun p => (rAs p.2).map fun l => ⟨cs ++ p.1, l⟩) ∧ (∀ y ∈ q, y ∈ [105, 102] :: r) ∧ cs.length + q.length ≤ r.length) (fun _ wx => lenAt wx g)
      case atStart => exact ⟨_, [], _, r, rfl, M.out, Own.nil, readT_if r, fun y hy => List.mem_cons_of_mem _ hy, by simp⟩
      case round =>
        clear M
        obtain ⟨v, cs, v1, q, rfl, M, O, hR, hmem, hlen⟩ := hrel
        rename World => wx
        have hlq : ∀ y ∈ q, y.length ≤ 1048576 := fun y hy => hwl.out y (hmem y hy)
        by_cases hv : v = [116, 104, 101, 110]
        · subst hv
          rw [rCs_then] at hR
          have hR2 : readT ([105, 102] :: r) = (rAs q).map fun l => ⟨cs, l⟩ := by rw [hR]; show Option.map _ _ = _; simp
          replace M := hide M
          replace O := hide O
          replace hR2 := hide hR2
          replace hmem := hide hmem
          replace hlq := hide hlq
          clear hR
          go_wp2_with fail
          go_meet
          case rel => exact ⟨_, cs, v1, q, rfl, M.out, O.out, fun _ => hR2.out, fun h => absurd rfl h, hmem.out, hlen⟩
        · have e1 : (v == [116, 104, 101, 110]) = false := beq_eq_false_iff_ne.2 hv
          have e2 : (v != [116, 104, 101, 110]) = true := by simpa using hv
          by_cases hc : v = [105, 102] ∨ v = [97, 110, 100]
          · have hcond := PCond_any g (g + 1) q w wx.drew hT.out hV.out M.E.drew (by omega) M.draw.L hlq
            rcases hrc : readC q with _ | ⟨c, q2⟩
            · have hRn : readT ([105, 102] :: r) = none := by rw [hR, rCs_none hv (.inl hrc)]; rfl
              rw [hrc] at hcond
              replace M := hide M
              replace hRn := hide hRn
              replace hcond := hide hcond
              clear hR hmem hlq hrc O
              rcases hc with rfl | rfl
              all_goals
                go_wp2_with fail
                (with_reducible refine (must_t _).mono ?_)
                rintro e w_ ⟨rfl, rfl⟩
                go_upto_region 8 with fail
                refine wp_region_apd mixed (by kernel_rfl) (by kernel_rfl) (by kernel_rfl) _ _ _ _ _ _ rfl (by kernel_rfl) 26 27 28 29 30 rfl ⟨by simp, by simp, by simp, by simp, by simp⟩ (by kernel_rfl) (.pointer (some ⟨pt, 0, none⟩)) v1 (.func (.func 46) #[] #[.pointer (some ⟨g, 0, none⟩)]) (fun _ _ => False) (fun _ => #[]) 48 (fun W => W.cell? ⟨pt, 0, none⟩ = some v1) ?_ ?_ ?_ ?_ ?_ ?_ ?_ ?_ ?_
                · intro a W A
                  have h : a.eval (.tmp 2) = .pointer (some ⟨pt, 0, none⟩) := A.out 2 (by kernel_rfl)
                  simp [Act.eval] at h
                  go_simp
                · intro a W h hO
                  simp [Act.eval] at h
                  go_simp
                · intro a W A
                  have h : a.eval (.tmp 5) = .func (.func 46) #[] #[.pointer (some ⟨g, 0, none⟩)] := A.out 5 (by kernel_rfl)
                  simp [Act.eval] at h
                  go_simp
                · intro a A h
                  refine wp_called 48 _ _ rfl Tryz.func48 (by kernel_rfl) (by kernel_rfl) #[.func (.func 46) #[] #[.pointer (some ⟨g, 0, none⟩)]] (by simp [h]) hcond.out ?_ ?_ ?_
                  · intro v' w' h9
                    have := h9.1
                    cases this
                  · intro ch w' h9
                    obtain ⟨h9, hb⟩ := h9
                    injection h9 with h9
                    subst h9
                    have M2 := M.out.draw
                    exact hpw.out (hno.out hRn.out) _ _ _ _ A.defers (tmp_of_eval (A.out 2 (by kernel_rfl))) (tmp_of_eval (A.out 3 (by kernel_rfl))) (But.ext M2.E hb (by omega)) (hb.blk M2.P (by omega)) (hb.blk M2.Q (by omega))
                  · intro w' h9
                    have := h9.1
                    cases this
                · intro a W v' _ hR
                  exact hR.elim
                · exact M.out.draw.P.cell 0
                · intro _ _ hR
                  exact hR.elim
                · intro _ _ hR
                  exact hR.elim
                · intro _ _ hR
                  exact hR.elim
            · have hq2 : ∀ y ∈ q2, y ∈ q := fun y hy => readC_mem hrc y hy
              have hlc := readC_len hrc
              rw [hrc] at hcond
              have hcin : CondIn c := readC_in hrc hlq
              have hR1 : q2 = [] → readT ([105, 102] :: r) = none := fun h => by rw [hR, rCs_none hv (.inr ⟨c, by rw [hrc, h]⟩)]; rfl
              have hR2 : ∀ v2 q3, q2 = v2 :: q3 → readT ([105, 102] :: r) = (rCs v2 q3).bind fun p => (rAs p.2).map fun l => ⟨(cs ++ [c]) ++ p.1, l⟩ := fun v2 q3 h => by
                rw [hR, rCs_some hv hc (by rw [hrc, h])]
                cases rCs v2 q3 with
                | none => rfl
                | some p => simp
              have hmem2 : ∀ y ∈ q2, y ∈ [105, 102] :: r := fun y hy => hmem y (hq2 y hy)
              have hlen2 : (cs ++ [c]).length + q2.length ≤ r.length + 1 := by simp; omega
              have hcsl : cs.length ≤ 1048577 := by omega
              have hO2 := O.draw
              replace M := hide M
              replace hcond := hide hcond
              replace hR1 := hide hR1
              replace hR2 := hide hR2
              replace hmem2 := hide hmem2
              replace hO2 := hide hO2
              clear hR hmem hlq hrc O hq2
              rcases hc with rfl | rfl
              all_goals
                go_wp2_with fail
                (with_reducible refine (must_t _).mono ?_)
                rintro e w_ ⟨rfl, rfl⟩
                go_upto_region 8 with fail
                refine wp_region_apd mixed (by kernel_rfl) (by kernel_rfl) (by kernel_rfl) _ _ _ _ _ _ rfl (by kernel_rfl) 26 27 28 29 30 rfl ⟨by simp, by simp, by simp, by simp, by simp⟩ (by kernel_rfl) (.pointer (some ⟨pt, 0, none⟩)) v1 (.func (.func 46) #[] #[.pointer (some ⟨g, 0, none⟩)]) (fun v W => v = .agg (condCs c).toArray ∧ TmS w W pt (pt + 1) g (g + 1) v1 (.slice none 0 0) q2 ∧ Own ECond 48 W (g + 1) v1 cs) (fun _ => (condCs c).toArray) 48 (fun W => W.cell? ⟨pt, 0, none⟩ = some v1) ?_ ?_ ?_ ?_ ?_ ?_ ?_ ?_ ?_
                · intro a W A
                  have h : a.eval (.tmp 2) = .pointer (some ⟨pt, 0, none⟩) := A.out 2 (by kernel_rfl)
                  simp [Act.eval] at h
                  go_simp
                · intro a W h hO
                  simp [Act.eval] at h
                  go_simp
                · intro a W A
                  have h : a.eval (.tmp 5) = .func (.func 46) #[] #[.pointer (some ⟨g, 0, none⟩)] := A.out 5 (by kernel_rfl)
                  simp [Act.eval] at h
                  go_simp
                · intro a A h
                  refine wp_called 48 _ _ rfl Tryz.func48 (by kernel_rfl) (by kernel_rfl) #[.func (.func 46) #[] #[.pointer (some ⟨g, 0, none⟩)]] (by simp [h]) hcond.out ?_ ?_ ?_
                  · intro v' w' h9
                    obtain ⟨⟨h9, hL9⟩, hb⟩ := h9
                    injection h9 with h9
                    subst h9
                    exact ⟨_, rfl, rfl, M.out.draw.but hb hL9 (by omega) (by omega) (by omega), hO2.out.kept hb.size fun b h1 h2 => hb.block b h2 (by omega)⟩
                  · intro ch w' h9
                    have := h9.1.1
                    cases this
                  · intro w' h9
                    have := h9.1.1
                    cases this
                · intro a W v' h hR
                  obtain ⟨rfl, _, _⟩ := hR
                  clear hcond hR1 hR2 hcin
                  obtain ⟨y0, y1, y2, y3⟩ := c
                  simp [Act.eval, condCs] at h
                  go_simp
                  simp [condCs]
                · exact M.out.draw.P.cell 0
                · intro _ _ hR
                  exact hR.2.1.P.cell 0
                · intro _ _ hR
                  exact (hR.2.1.P.alloc _).cell 0
                · rintro _ W ⟨rfl, M9, O9⟩
                  simp only [Act.put, List.setIfInBounds_toArray, List.set_cons_succ, List.set_cons_zero]
                  have hox := O9.alloc (Obj.cells (condCs c).toArray 48)
                  have hup := M9.L.up
                  have hM5 := M9.alloc (Obj.cells (condCs c).toArray 48)
                  refine wpList_push (E := ECond) rfl _ _ _ rfl okCond (by decide) (by decide) rfl hox (by omega) (by simp; omega) rfl (y := c) (cs := condCs c) ⟨rfl, hcin⟩ (cells_new W (condCs c).toArray 48) ?_
                  intro v' w5 hown1 hg5 hat5
                  obtain ⟨va5, vc5, rfl⟩ := hown1.form
                  have M5 := hM5.grown hg5 (by omega) (by omega) (by omega) (fun k hk => (hox.lt k hk).1)
                  clear hM5 hg5 hat5 O9 M9 hup
                  have p0 : w5.cell? ⟨pt, 0, none⟩ = some v1 := M5.P.cell 0
                  have pf := fun i => M5.P.frozen i
                  obtain ⟨va1, vc1, rfl⟩ := hox.form
                  have M6 := M5.set1 (by omega) (by omega) (by omega) (.slice va5 (cs ++ [c]).length vc5)
                  have O6 := hown1.kept (w' := w5.setCell ⟨pt, 0, none⟩ (.slice va5 (cs ++ [c]).length vc5)) (by simp [World.setCell]) fun b h1 h2 => Below.heap_setCell _ _ _ _ (show b ≠ pt by omega)
                  clear M5 hown1 hox
                  have hcl1 : (cs ++ [c]).length = cs.length + 1 := by simp
                  rw [hcl1] at M6 O6
                  replace M6 := hide M6
                  replace O6 := hide O6
                  go_wp2_with fail
                  clear p0 pf
                  generalize w5.setCell ⟨pt, 0, none⟩ (.slice va5 (cs.length + 1) vc5) = W6 at M6 O6 ⊢
                  rcases q2 with _ | ⟨v2, q3⟩
                  · refine (next_none g _ _ M6.out.L).mono ?_
                    rintro e W7 ⟨rfl, he7⟩
                    go_wp2
                    exact hpw.out (hno.out (hR1.out (by trivial))) _ _ _ _ rfl rfl rfl (M6.out.E.trans he7) (M6.out.P.ext he7) (M6.out.Q.ext he7)
                  · refine (next_some g v2 q3 _ _ M6.out.L).mono ?_
                    rintro e W7 ⟨rfl, hb7, hL7⟩
                    have M7 := hide (M6.out.but hb7 hL7 (by omega) (by omega) (by omega))
                    have O7 := hide (O6.out.kept hb7.size fun b h1 h2 => hb7.block b h2 (by omega))
                    clear hb7 hL7
                    go_wp2
                    go_roundw
                    case rel => (repeat apply Exists.intro); exact ⟨⟨v2, cs ++ [c], _, q3, rfl, M7.out, O7.out, hR2.out v2 q3 (by trivial), fun y hy => hmem2.out y (List.mem_cons_of_mem _ hy), by have h1 : (v2 :: q3).length = q3.length + 1 := rfl; rw [hcl1]; omega⟩, rfl⟩
                    case measure => rw [M7.out.L.lenAt, M.out.L.lenAt]; have h1 : (v2 :: q3).length = q3.length + 1 := rfl; omega
          · have f1 : (v == [105, 102]) = false := beq_eq_false_iff_ne.2 fun h => hc (.inl h)
            have f2 : (v == [97, 110, 100]) = false := beq_eq_false_iff_ne.2 fun h => hc (.inr h)
            have hRn : readT ([105, 102] :: r) = none := by rw [hR, rCs_bad q hv (fun h => hc (.inl h)) (fun h => hc (.inr h))]; rfl
            clear hc hv
            replace M := hide M
            replace hRn := hide hRn
            replace hR := hide hR
            replace hmem := hide hmem
            replace hlq := hide hlq
            go_wp2_with fail
            (with_reducible refine (must_f _).mono ?_)
            rintro e w_ ⟨rfl, rfl⟩
            go_wp2_with fail
            exact hpw.out (hno.out hRn.out) _ _ _ _ rfl rfl rfl M.out.E M.out.P M.out.Q
    · have e1 : (x == [105, 102]) = false := beq_eq_false_iff_ne.2 hif
      have hmem : ∀ y ∈ r, y ∈ x :: r := fun y hy => List.mem_cons_of_mem _ hy
      have h1 : x = [116, 104, 101, 110] → readT (x :: r) = (rAs r).map fun l => ⟨[], l⟩ := fun h => by rw [h]; exact readT_then r
      have h2 : x ≠ [116, 104, 101, 110] → readT (x :: r) = none := fun h => readT_bad r h hif
      replace h1 := hide h1
      replace h2 := hide h2
      replace hmem := hide hmem
      rw [e1]
      go_wp2_with fail
      go_meet
      case rel => exact ⟨x, [], _, r, rfl, M.out, Own.nil, h1.out, h2.out, hmem.out, by simp⟩
  case rest =>
    clear M
    obtain ⟨v, cs, v1, q, rfl, M, O, hR1, hR2, hmem, hql⟩ := hcut
    rename World => W9
    by_cases hv : v ≠ [116, 104, 101, 110]
    · have e1 : (v == [116, 104, 101, 110]) = false := beq_eq_false_iff_ne.2 hv
      have hRn := hR2 hv
      clear hv hR1 hR2 hmem
      replace M := hide M
      replace hRn := hide hRn
      replace O := hide O
      go_wp2_with fail
      (with_reducible refine (must_f _).mono ?_)
      rintro e w_ ⟨rfl, rfl⟩
      go_wp2_with fail
      exact hpw.out (hno.out hRn.out) _ _ _ _ rfl rfl rfl M.out.E M.out.P M.out.Q
    replace hv := Classical.not_not.1 hv
    subst hv
    have hR := hR1 rfl
    clear hR1 hR2
    have hK : Kp W9 W9 (g + 1) := Kp.refl _ _
    have hgC : g + 1 ≤ W9.heap.size := M.L.up
    have hO1 := hide O
    clear O
    have hlq : ∀ y ∈ q, y.length ≤ 1048576 := fun y hy => hwl.out y (hmem y hy)
    have hact := PAct_any g (g + 1) q w W9.drew hT.out hV.out hD.out M.E.drew (by omega) M.draw.L hlq
    rcases hrc : readA q with _ | ⟨a, q2⟩
    · have hRn : readT (x :: r) = none := by rw [hR, rAs_none hrc]; rfl
      rw [hrc] at hact
      replace M := hide M
      replace hRn := hide hRn
      replace hact := hide hact
      clear hR hmem hlq hrc hK
      go_wp2_with fail
      (with_reducible refine (must_t _).mono ?_)
      rintro e w_ ⟨rfl, rfl⟩
      go_upto_region 11 with fail
      refine wp_region_apd mixed (by kernel_rfl) (by kernel_rfl) (by kernel_rfl) _ _ _ _ _ _ rfl (by kernel_rfl) 38 39 40 41 42 rfl ⟨by simp, by simp, by simp, by simp, by simp⟩ (by kernel_rfl) (.pointer (some ⟨pt, 1, none⟩)) (.slice none 0 0) (.func (.func 46) #[] #[.pointer (some ⟨g, 0, none⟩)]) (fun _ _ => False) (fun _ => #[]) 51 (fun W => W.cell? ⟨pt, 1, none⟩ = some ((.slice none 0 0))) ?_ ?_ ?_ ?_ ?_ ?_ ?_ ?_ ?_
      · intro a W A
        have h : a.eval (.tmp 2) = .pointer (some ⟨pt, 0, none⟩) := A.out 2 (by kernel_rfl)
        simp [Act.eval] at h
        go_simp
      · intro a W h hO
        simp [Act.eval] at h
        go_simp
      · intro a W A
        have h : a.eval (.tmp 5) = .func (.func 46) #[] #[.pointer (some ⟨g, 0, none⟩)] := A.out 5 (by kernel_rfl)
        simp [Act.eval] at h
        go_simp
      · intro a A h
        refine wp_called 49 _ _ rfl Tryz.func49 (by kernel_rfl) (by kernel_rfl) #[.func (.func 46) #[] #[.pointer (some ⟨g, 0, none⟩)]] (by simp [h]) hact.out ?_ ?_ ?_
        · intro v' w' h9
          have := h9.1
          cases this
        · intro ch w' h9
          obtain ⟨h9, hb⟩ := h9
          injection h9 with h9
          subst h9
          have M2 := M.out.draw
          exact hpw.out (hno.out hRn.out) _ _ _ _ A.defers (tmp_of_eval (A.out 2 (by kernel_rfl))) (tmp_of_eval (A.out 3 (by kernel_rfl))) (But.ext M2.E hb (by omega)) (hb.blk M2.P (by omega)) (hb.blk M2.Q (by omega))
        · intro w' h9
          have := h9.1
          cases this
      · intro a W v' _ hR
        exact hR.elim
      · exact M.out.draw.P.cell 1
      · intro _ _ hR
        exact hR.elim
      · intro _ _ hR
        exact hR.elim
      · intro _ _ hR
        exact hR.elim
    have hain : ActIn a := readA_in hrc hlq
    have hlc := readA_len hrc
    have hq2 : ∀ y ∈ q2, y ∈ x :: r := fun y hy => hmem y (readA_mem hrc y hy)
    have hT2 : readT (x :: r) = (tailA q2).map fun l => ⟨cs, [a] ++ l⟩ := by
      rw [hR, rAs_some hrc]
      cases tailA q2 with
      | none => rfl
      | some p => rfl
    rw [hrc] at hact
    have hO2 : Own EAct 51 W9.drew W9.heap.size (.slice none 0 0) [] := Own.nil
    clear hR hmem hlq hrc
    replace M := hide M
    replace hact := hide hact
    replace hT2 := hide hT2
    replace hq2 := hide hq2
    replace hO2 := hide hO2
    replace hK := hide hK
    go_wp2_with fail
    (with_reducible refine (must_t _).mono ?_)
    rintro e w_ ⟨rfl, rfl⟩
    go_upto_region 11 with fail
    refine wp_region_apd mixed (by kernel_rfl) (by kernel_rfl) (by kernel_rfl) _ _ _ _ _ _ rfl (by kernel_rfl) 38 39 40 41 42 rfl ⟨by simp, by simp, by simp, by simp, by simp⟩ (by kernel_rfl) (.pointer (some ⟨pt, 1, none⟩)) (.slice none 0 0) (.func (.func 46) #[] #[.pointer (some ⟨g, 0, none⟩)]) (fun v W => v = .agg (actCs a).toArray ∧ TmS w W pt (pt + 1) g (g + 1) v1 (.slice none 0 0) q2 ∧ Own EAct 51 W W9.heap.size (.slice none 0 0) [] ∧ Kp W9 W (g + 1)) (fun _ => (actCs a).toArray) 51 (fun W => W.cell? ⟨pt, 1, none⟩ = some ((.slice none 0 0))) ?_ ?_ ?_ ?_ ?_ ?_ ?_ ?_ ?_
    · intro a W A
      have h : a.eval (.tmp 2) = .pointer (some ⟨pt, 0, none⟩) := A.out 2 (by kernel_rfl)
      simp [Act.eval] at h
      go_simp
    · intro a W h hO
      simp [Act.eval] at h
      go_simp
    · intro a W A
      have h : a.eval (.tmp 5) = .func (.func 46) #[] #[.pointer (some ⟨g, 0, none⟩)] := A.out 5 (by kernel_rfl)
      simp [Act.eval] at h
      go_simp
    · intro a A h
      refine wp_called 49 _ _ rfl Tryz.func49 (by kernel_rfl) (by kernel_rfl) #[.func (.func 46) #[] #[.pointer (some ⟨g, 0, none⟩)]] (by simp [h]) hact.out ?_ ?_ ?_
      · intro v' w' h9
        obtain ⟨⟨h9, hL9⟩, hb⟩ := h9
        injection h9 with h9
        subst h9
        exact ⟨_, rfl, rfl, M.out.draw.but hb hL9 (by omega) (by omega) (by omega), hO2.out.kept hb.size fun b h1 h2 => hb.block b h2 (by omega), hK.out.drawn.but hb (by omega)⟩
      · intro ch w' h9
        have := h9.1.1
        cases this
      · intro w' h9
        have := h9.1.1
        cases this
    · intro a' W v' h hR
      obtain ⟨rfl, _, _⟩ := hR
      clear hact hT2 hain
      obtain ⟨y0, y1, y2, y3⟩ := a
      simp [Act.eval, actCs] at h
      go_simp
      simp [actCs]
    · exact M.out.draw.P.cell 1
    · intro _ _ hR
      exact hR.2.1.P.cell 1
    · intro _ _ hR
      exact (hR.2.1.P.alloc _).cell 1
    · rintro _ W ⟨rfl, M9, O9, K9⟩
      simp only [Act.put, List.setIfInBounds_toArray, List.set_cons_succ, List.set_cons_zero]
      have hox := O9.alloc (Obj.cells (actCs a).toArray 51)
      have hup := M9.L.up
      have hKs := K9.size
      have hM5 := M9.alloc (Obj.cells (actCs a).toArray 51)
      have hK5 := K9.alloc (Obj.cells (actCs a).toArray 51)
      refine wpList_push (E := EAct) rfl _ _ _ rfl okAct (by decide) (by decide) rfl hox (by simp) (by simp; omega) rfl (y := a) (cs := actCs a) ⟨rfl, hain⟩ (cells_new W (actCs a).toArray 51) ?_
      intro v' w5 hown1 hg5 hat5
      obtain ⟨va5, vc5, rfl⟩ := hown1.form
      have M5 := hM5.grown hg5 (by omega) (by omega) (by omega) (fun k hk => Nat.le_trans hgC (hox.lt k hk).1)
      have K5 := hK5.grown hg5 (fun k hk => (hox.lt k hk).1)
      clear hM5 hK5 hg5 hat5 O9 K9 M9 hup hKs
      have p0 : w5.cell? ⟨pt, 1, none⟩ = some ((.slice none 0 0)) := M5.P.cell 1
      have pf := fun i => M5.P.frozen i
      obtain ⟨va1, vc1, hv1⟩ := hox.form
      obtain ⟨u1, u1c, hu1⟩ := hO1.out.form
      subst hu1
      have M6 := M5.set2 (by omega) (by omega) (by omega) (.slice va5 ([] ++ [a]).length vc5)
      have O6 := hown1.kept (w' := w5.setCell ⟨pt, 1, none⟩ (.slice va5 ([] ++ [a]).length vc5)) (by simp [World.setCell]) fun b h1 h2 => Below.heap_setCell _ _ _ _ (show b ≠ pt by omega)
      have K6 := K5.set (p := pt) (by omega) 1 (.slice va5 ([] ++ [a]).length vc5)
      clear M5 K5 hown1 hox hv1
      replace M6 := hide M6
      replace O6 := hide O6
      replace K6 := hide K6
      go_wp2_with fail
      clear p0 pf
      go_loopw [45] (fun _ wx => ∃ (al : List ActS) (v2 : Value) (q : List (List UInt8)), TmS w wx pt (pt + 1) g (g + 1) (.slice u1 cs.length u1c) v2 q ∧ Own EAct 51 wx W9.heap.size v2 al ∧ Kp W9 wx (g + 1) ∧ (readT (x :: r) = (tailA q).map fun l => ⟨cs, al ++ l⟩) ∧ (∀ y ∈ q, y ∈ x :: r) ∧ al.length + q.length ≤ r.length + 1) (fun _ wx => lenAt wx g)
      case atStart => exact ⟨[] ++ [a], _, q2, M6.out, O6.out, K6.out, hT2.out, hq2.out, by simp; omega⟩
      case round =>
        clear M6 O6 K6 hT2 hq2 hain hlc hact hO2 M hK
        obtain ⟨al, v2, q, M, O, K, hT3, hmem, hlen⟩ := hrel
        rename World => wx
        obtain ⟨b2, b2c, rfl⟩ := O.form
        obtain ⟨aw, cw, hc0⟩ : ∃ aw cw, wx.cell? ⟨g, 0, none⟩ = some (.slice aw q.length cw) := by
          obtain ⟨n, lt, up, a, c, h1, h2, h3⟩ := M.L
          exact ⟨a, c, h1.cell 0⟩
        rcases q with _ | ⟨wd, q⟩
        · have hRt : readT (x :: r) = some ⟨cs, al⟩ := by rw [hT3]; simp [tailA]
          have O1x := hO1.out.kept K.size fun b h1 h2 => K.block b h1 h2
          obtain ⟨e1, e2, hv1, hcc1, hs1⟩ := O1x.slc
          injection hv1 with k1 _ k3
          subst k1 k3
          obtain ⟨e1, e2, hv2, hcc2, hs2⟩ := O.slc
          injection hv2 with k1 _ k3
          subst k1 k3
          have qtt := PTermText_any u1 u1c b2 b2c ⟨cs, al⟩ wx (by show cs.length ≤ _; omega) (by show al.length ≤ _; omega) hcc2 (hs1.mono fun b hb => hb.2) (hs2.mono fun b hb => hb.2) (hT.out.ext M.E) (hD.out.ext M.E)
          dsimp only at qtt
          have hc1 : wx.cell? ⟨g, 0, none⟩ = some (.slice aw 0 cw) := hc0
          have p0 : wx.cell? ⟨pt, 0, none⟩ = some (.slice u1 cs.length u1c) := M.P.cell 0
          have p1 : wx.cell? ⟨pt, 1, none⟩ = some (.slice b2 al.length b2c) := M.P.cell 1
          have hCg : g + 1 ≤ W9.heap.size := hgC
          clear hc0 hs1 hs2 hcc1 hcc2 hT3 hmem
          replace qtt := hide qtt
          replace M := hide M
          replace O := hide O
          replace O1x := hide O1x
          replace hRt := hide hRt
          replace K := hide K
          go_wp2_with fail
          (with_reducible refine qtt.out.mono ?_)
          rintro e W5 ⟨rfl, he5⟩
          clear hc1 p0 p1 qtt
          have E5 := hide (M.out.E.trans he5)
          have P5 := hide (M.out.P.ext he5)
          have Q5 := hide (M.out.Q.ext he5)
          have O5 := hide (O.out.ext he5)
          have N5 := hide (O1x.out.ext he5)
          clear he5 M O O1x K
          by_cases hyn : termT ⟨cs, al⟩ = (s, 0)
          · have hto := hide (hyes.out _ hRt.out hyn)
            rw [hyn]
            clear hyn
            go_wp2_with fail
            (with_reducible refine (must_t _).mono ?_)
            rintro e w_ ⟨rfl, rfl⟩
            have p0 : W5.cell? ⟨pt, 0, none⟩ = some (.slice u1 cs.length u1c) := P5.out.cell 0
            have p1 : W5.cell? ⟨pt, 1, none⟩ = some (.slice b2 al.length b2c) := P5.out.cell 1
            have p2 : W5.cell? ⟨pt + 1, 0, none⟩ = some .nilIface := Q5.out.cell 0
            have pf := fun i => P5.out.frozen i
            have qf := fun i => Q5.out.frozen i
            go_wp2_with fail
            have P6 := ((P5.out.set_ 0 (.slice u1 cs.length u1c)).set_ 1 (.slice b2 al.length b2c)).far (p := ⟨pt + 1, 0, none⟩) (show pt ≠ pt + 1 by omega) .nilIface
            have Q6 := ((Q5.out.far (p := ⟨pt, 0, none⟩) (show pt + 1 ≠ pt by omega) (.slice u1 cs.length u1c)).far (p := ⟨pt, 1, none⟩) (show pt + 1 ≠ pt by omega) (.slice b2 al.length b2c)).set_ 0 .nilIface
            have hkp : ∀ b, pt + 1 < b → (((W5.setCell ⟨pt, 0, none⟩ (.slice u1 cs.length u1c)).setCell ⟨pt, 1, none⟩ (.slice b2 al.length b2c)).setCell ⟨pt + 1, 0, none⟩ .nilIface).heap[b]? = W5.heap[b]? := fun b hb => ((Below.heap_setCell _ _ _ _ (show b ≠ pt + 1 by omega)).trans (Below.heap_setCell _ _ _ _ (show b ≠ pt by omega))).trans (Below.heap_setCell _ _ _ _ (show b ≠ pt by omega))
            have hsz6 : (((W5.setCell ⟨pt, 0, none⟩ (.slice u1 cs.length u1c)).setCell ⟨pt, 1, none⟩ (.slice b2 al.length b2c)).setCell ⟨pt + 1, 0, none⟩ .nilIface).heap.size = W5.heap.size := by simp [World.setCell]
            have E6 := ((E5.out.setCell (p := ⟨pt, 0, none⟩) (show w.heap.size ≤ pt by omega) (.slice u1 cs.length u1c)).setCell (p := ⟨pt, 1, none⟩) (show w.heap.size ≤ pt by omega) (.slice b2 al.length b2c)).setCell (p := ⟨pt + 1, 0, none⟩) (show w.heap.size ≤ pt + 1 by omega) .nilIface
            have O6 := (O5.out.kept (Nat.le_of_eq hsz6.symm) fun b h1 _ => hkp b (by omega)).low (show w.heap.size ≤ W9.heap.size by omega)
            have N6 := (N5.out.kept (Nat.le_of_eq hsz6.symm) fun b h1 _ => hkp b (by omega)).low (show w.heap.size ≤ g + 1 by omega)
            rw [hpt] at O6 N6
            exact term_returns rfl rfl rfl P6 Q6 (hok.out _ _ _ _ hto.out N6 O6 E6)
          · have hbad := hide (hne.out _ hRt.out hyn)
            by_cases hok2 : termOk ⟨cs, al⟩ = true
            · have htx : termT ⟨cs, al⟩ = (termW ⟨cs, al⟩, 0) := if_pos hok2
              have hnt : ¬ termW ⟨cs, al⟩ = s := fun h => hyn (by rw [htx, h])
              rw [htx]
              generalize termW ⟨cs, al⟩ = tx at *
              have e1 : (tx == s) = false := beq_eq_false_iff_ne.2 hnt
              clear hyn hok2 htx hnt
              go_wp2_with fail
              (with_reducible refine (must_f _).mono ?_)
              rintro e w_ ⟨rfl, rfl⟩
              go_wp2_with fail
              exact hpw.out hbad.out _ _ _ _ rfl rfl rfl E5.out P5.out Q5.out
            · have htx : termT ⟨cs, al⟩ = ([], 2) := if_neg hok2
              rw [htx]
              clear hyn hok2 htx
              go_wp2_with fail
              (with_reducible refine (must_f _).mono ?_)
              rintro e w_ ⟨rfl, rfl⟩
              go_wp2_with fail
              exact hpw.out hbad.out _ _ _ _ rfl rfl rfl E5.out P5.out Q5.out
        have hc1 : wx.cell? ⟨g, 0, none⟩ = some (.slice aw (q.length + 1) cw) := hc0
        clear hc0
        have hlq : ∀ y ∈ q, y.length ≤ 1048576 := fun y hy => hwl.out y (hmem y (List.mem_cons_of_mem _ hy))
        replace M := hide M
        replace O := hide O
        replace K := hide K
        go_wp2_with fail
        clear hc1
        refine (next_some g wd q _ _ M.out.L).mono ?_
        rintro e W4 ⟨rfl, hb, hL⟩
        have M4 := hide (M.out.but hb hL (by omega) (by omega) (by omega))
        have O4 := hide (O.out.kept hb.size fun b h1 h2 => hb.block b h2 (by omega))
        have K4 := hide (K.out.but hb (by omega))
        clear hb hL O K
        by_cases hwa : wd ≠ [97, 110, 100]
        · have e1 : (wd == [97, 110, 100]) = false := beq_eq_false_iff_ne.2 hwa
          have hRn : readT (x :: r) = none := by rw [hT3]; simp [tailA, hwa]
          replace hRn := hide hRn
          clear hwa hT3 hmem hlq
          go_wp2_with fail
          (with_reducible refine (must_f _).mono ?_)
          rintro e w_ ⟨rfl, rfl⟩
          go_wp2_with fail
          exact hpw.out (hno.out hRn.out) _ _ _ _ rfl rfl rfl M4.out.E M4.out.P M4.out.Q
        replace hwa := Classical.not_not.1 hwa
        subst hwa
        have hT4 : readT (x :: r) = (rAs q).map fun l => ⟨cs, al ++ l⟩ := by rw [hT3]; simp [tailA]
        clear hT3
        have hact := PAct_any g (g + 1) q w W4.drew hT.out hV.out hD.out M4.out.E.drew (by omega) M4.out.draw.L hlq
        rcases hrc : readA q with _ | ⟨a, q2⟩
        · have hRn : readT (x :: r) = none := by rw [hT4, rAs_none hrc]; rfl
          rw [hrc] at hact
          replace hRn := hide hRn
          replace hact := hide hact
          clear hT4 hmem hlq hrc
          go_wp2_with fail
          (with_reducible refine (must_t _).mono ?_)
          rintro e w_ ⟨rfl, rfl⟩
          go_upto_region 14 with fail
          refine wp_region_apd mixed (by kernel_rfl) (by kernel_rfl) (by kernel_rfl) _ _ _ _ _ _ rfl (by kernel_rfl) 52 53 54 55 56 rfl ⟨by simp, by simp, by simp, by simp, by simp⟩ (by kernel_rfl) (.pointer (some ⟨pt, 1, none⟩)) (.slice b2 al.length b2c) (.func (.func 46) #[] #[.pointer (some ⟨g, 0, none⟩)]) (fun _ _ => False) (fun _ => #[]) 51 (fun W => W.cell? ⟨pt, 1, none⟩ = some ((.slice b2 al.length b2c))) ?_ ?_ ?_ ?_ ?_ ?_ ?_ ?_ ?_
          · intro a W A
            have h : a.eval (.tmp 2) = .pointer (some ⟨pt, 0, none⟩) := A.out 2 (by kernel_rfl)
            simp [Act.eval] at h
            go_simp
          · intro a W h hO
            simp [Act.eval] at h
            go_simp
          · intro a W A
            have h : a.eval (.tmp 5) = .func (.func 46) #[] #[.pointer (some ⟨g, 0, none⟩)] := A.out 5 (by kernel_rfl)
            simp [Act.eval] at h
            go_simp
          · intro a A h
            refine wp_called 49 _ _ rfl Tryz.func49 (by kernel_rfl) (by kernel_rfl) #[.func (.func 46) #[] #[.pointer (some ⟨g, 0, none⟩)]] (by simp [h]) hact.out ?_ ?_ ?_
            · intro v' w' h9
              have := h9.1
              cases this
            · intro ch w' h9
              obtain ⟨h9, hb⟩ := h9
              injection h9 with h9
              subst h9
              have M2 := M4.out.draw
              exact hpw.out (hno.out hRn.out) _ _ _ _ A.defers (tmp_of_eval (A.out 2 (by kernel_rfl))) (tmp_of_eval (A.out 3 (by kernel_rfl))) (But.ext M2.E hb (by omega)) (hb.blk M2.P (by omega)) (hb.blk M2.Q (by omega))
            · intro w' h9
              have := h9.1
              cases this
          · intro a W v' _ hR
            exact hR.elim
          · exact M4.out.draw.P.cell 1
          · intro _ _ hR
            exact hR.elim
          · intro _ _ hR
            exact hR.elim
          · intro _ _ hR
            exact hR.elim
        have hain : ActIn a := readA_in hrc hlq
        have hlc := readA_len hrc
        have hq2 : ∀ y ∈ q2, y ∈ x :: r := fun y hy => hmem y (List.mem_cons_of_mem _ (readA_mem hrc y hy))
        have hT2 : readT (x :: r) = (tailA q2).map fun l => ⟨cs, (al ++ [a]) ++ l⟩ := by
          rw [hT4, rAs_some hrc]
          cases tailA q2 with
          | none => rfl
          | some p => simp
        rw [hrc] at hact
        have hO2 := O4.out.draw
        have hK := K4
        clear hT4 hmem hlq hrc O4
        replace hact := hide hact
        replace hT2 := hide hT2
        replace hq2 := hide hq2
        replace hO2 := hide hO2
        go_wp2_with fail
        (with_reducible refine (must_t _).mono ?_)
        rintro e w_ ⟨rfl, rfl⟩
        go_upto_region 14 with fail
        refine wp_region_apd mixed (by kernel_rfl) (by kernel_rfl) (by kernel_rfl) _ _ _ _ _ _ rfl (by kernel_rfl) 52 53 54 55 56 rfl ⟨by simp, by simp, by simp, by simp, by simp⟩ (by kernel_rfl) (.pointer (some ⟨pt, 1, none⟩)) (.slice b2 al.length b2c) (.func (.func 46) #[] #[.pointer (some ⟨g, 0, none⟩)]) (fun v W => v = .agg (actCs a).toArray ∧ TmS w W pt (pt + 1) g (g + 1) (.slice u1 cs.length u1c) (.slice b2 al.length b2c) q2 ∧ Own EAct 51 W W9.heap.size (.slice b2 al.length b2c) al ∧ Kp W9 W (g + 1)) (fun _ => (actCs a).toArray) 51 (fun W => W.cell? ⟨pt, 1, none⟩ = some ((.slice b2 al.length b2c))) ?_ ?_ ?_ ?_ ?_ ?_ ?_ ?_ ?_
        · intro a W A
          have h : a.eval (.tmp 2) = .pointer (some ⟨pt, 0, none⟩) := A.out 2 (by kernel_rfl)
          simp [Act.eval] at h
          go_simp
        · intro a W h hO
          simp [Act.eval] at h
          go_simp
        · intro a W A
          have h : a.eval (.tmp 5) = .func (.func 46) #[] #[.pointer (some ⟨g, 0, none⟩)] := A.out 5 (by kernel_rfl)
          simp [Act.eval] at h
          go_simp
        · intro a A h
          refine wp_called 49 _ _ rfl Tryz.func49 (by kernel_rfl) (by kernel_rfl) #[.func (.func 46) #[] #[.pointer (some ⟨g, 0, none⟩)]] (by simp [h]) hact.out ?_ ?_ ?_
          · intro v' w' h9
            obtain ⟨⟨h9, hL9⟩, hb⟩ := h9
            injection h9 with h9
            subst h9
            exact ⟨_, rfl, rfl, M4.out.draw.but hb hL9 (by omega) (by omega) (by omega), hO2.out.kept hb.size fun b h1 h2 => hb.block b h2 (by omega), hK.out.drawn.but hb (by omega)⟩
          · intro ch w' h9
            have := h9.1.1
            cases this
          · intro w' h9
            have := h9.1.1
            cases this
        · intro a' W v' h hR
          obtain ⟨rfl, _, _⟩ := hR
          clear hact hT2 hain
          obtain ⟨y0, y1, y2, y3⟩ := a
          simp [Act.eval, actCs] at h
          go_simp
          simp [actCs]
        · exact M4.out.draw.P.cell 1
        · intro _ _ hR
          exact hR.2.1.P.cell 1
        · intro _ _ hR
          exact (hR.2.1.P.alloc _).cell 1
        · rintro _ W ⟨rfl, M9, O9, K9⟩
          simp only [Act.put, List.setIfInBounds_toArray, List.set_cons_succ, List.set_cons_zero]
          have hox := O9.alloc (Obj.cells (actCs a).toArray 51)
          have hup := M9.L.up
          have hKs := K9.size
          have hM5 := M9.alloc (Obj.cells (actCs a).toArray 51)
          have hK5 := K9.alloc (Obj.cells (actCs a).toArray 51)
          refine wpList_push (E := EAct) rfl _ _ _ rfl okAct (by decide) (by decide) rfl hox (by omega) (by simp; omega) rfl (y := a) (cs := actCs a) ⟨rfl, hain⟩ (cells_new W (actCs a).toArray 51) ?_
          intro v' w5 hown1 hg5 hat5
          obtain ⟨va5, vc5, rfl⟩ := hown1.form
          have M5 := hM5.grown hg5 (by omega) (by omega) (by omega) (fun k hk => Nat.le_trans hgC (hox.lt k hk).1)
          have K5 := hK5.grown hg5 (fun k hk => (hox.lt k hk).1)
          clear hM5 hK5 hg5 hat5 O9 K9 M9 hup hKs
          have p0 : w5.cell? ⟨pt, 1, none⟩ = some ((.slice b2 al.length b2c)) := M5.P.cell 1
          have pf := fun i => M5.P.frozen i
          obtain ⟨va1, vc1, hv1⟩ := hox.form
          obtain ⟨u1, u1c, hu1⟩ := hO1.out.form
          have hcl1 : (al ++ [a]).length = al.length + 1 := by simp
          have M6 := M5.set2 (by omega) (by omega) (by omega) (.slice va5 (al ++ [a]).length vc5)
          have O6 := hown1.kept (w' := w5.setCell ⟨pt, 1, none⟩ (.slice va5 (al ++ [a]).length vc5)) (by simp [World.setCell]) fun b h1 h2 => Below.heap_setCell _ _ _ _ (show b ≠ pt by omega)
          have K6 := K5.set (p := pt) (by omega) 1 (.slice va5 (al ++ [a]).length vc5)
          rw [hcl1] at M6 O6 K6
          clear M5 K5 hown1 hox hv1
          replace M6 := hide M6
          replace O6 := hide O6
          replace K6 := hide K6
          go_wp2_with fail
          clear p0 pf
          go_roundw
          case rel => exact ⟨al ++ [a], _, q2, M6.out, O6.out, K6.out, hT2.out, hq2.out, by rw [hcl1]; have h1 : ([97, 110, 100] :: q).length = q.length + 1 := rfl; omega⟩
          case measure => rw [M6.out.L.lenAt, M.out.L.lenAt]; have h1 : ([97, 110, 100] :: q).length = q.length + 1 := rfl; omega
end
section
open Go.RowKit
set_option linter.unusedVariables false
set_option linter.unusedSimpArgs false
theorem small_o : termO smallText = some smallTerm := by
 have h := termO_text small_ok
 rw [show termW smallTerm = smallText from by decide +kernel] at h
 exact h
set_option maxHeartbeats 4000000 in
theorem PWorks_any (w : World) (hT : Tab w) (hD : Deb w) (hV : Vars w) :
  Calls Tryz.prog 15 #[] w fun e w' => e = .returned (.bool true) ∧ Ext w w' := by
 have q1 := PTerm_any smallText (by decide) w hT hV hD
 unfold TeP at q1
 rw [small_o] at q1
 have q2 := fun a1 c1 a2 c2 W (h : Ext w W) h5 (h6 : Sl ECond W (· < W.heap.size) a1 smallTerm.conds) (h7 : Sl EAct W (· < W.heap.size) a2 smallTerm.acts) => PTermText_any a1 c1 a2 c2 smallTerm W (by decide) (by decide) h5 h6 h7 (hT.ext h) (hD.ext h)
 rw [small_t] at q2
 simp only [smallText] at q1 q2
 replace q1 := hide q1
 replace q2 := hide q2
 clear hT hD hV
 go_enter Tryz.func15, Tryz.ntmps15
 go_wp2_with fail
 refine (q1.out).mono ?_
 rintro e W1 ⟨⟨v1, v2, rfl, o1, o2⟩, E⟩
 obtain ⟨a1, c1, rfl, n1, s1⟩ := o1.slc
 obtain ⟨a2, c2, rfl, n2, s2⟩ := o2.slc
 replace s1 := s1.mono (S' := (· < W1.heap.size)) fun b hb => hb.2
 replace s2 := s2.mono (S' := (· < W1.heap.size)) fun b hb => hb.2
 obtain ⟨b1, i1, rfl, hb1, -, k1⟩ := ECond.at s1 1 (by decide)
 obtain ⟨b2, i2, rfl, hb2, -, k2⟩ := EAct.at s2 0 (by decide)
 have h10 := k1 0 _ rfl
 have h11 := k1 1 _ rfl
 have h12 := k1 2 _ rfl
 have h13 := k1 3 _ rfl
 have h20 := k2 0 _ rfl
 have h21 := k2 1 _ rfl
 have h22 := k2 2 _ rfl
 have h23 := k2 3 _ rfl
 clear o1 o2 k1 k2
 have q := fun W h => q2.out (some ⟨b1, i1, none⟩) c1 (some ⟨b2, i2, none⟩) c2 W h n2
 clear q2
 have e1 : smallTerm.conds.length = 2 := rfl
 have e2 : smallTerm.acts.length = 2 := rfl
 rw [e1] at *
 rw [e2] at *
 replace s1 := hide s1
 replace s2 := hide s2
 replace E := hide E
 replace q := hide q
 replace h10 := hide h10
 replace h11 := hide h11
 replace h12 := hide h12
 replace h13 := hide h13
 replace h20 := hide h20
 replace h21 := hide h21
 replace h22 := hide h22
 replace h23 := hide h23
 have B := Blk.new W1 25 #[.slice (some ⟨b1, i1, none⟩) 2 c1, .slice (some ⟨b2, i2, none⟩) 2 c2]
 have F := (Ext.refl W1).alloc (Obj.cells #[.slice (some ⟨b1, i1, none⟩) 2 c1, .slice (some ⟨b2, i2, none⟩) 2 c2] 25)
 have G := E.out.alloc (Obj.cells #[.slice (some ⟨b1, i1, none⟩) 2 c1, .slice (some ⟨b2, i2, none⟩) 2 c2] 25)
 replace B := hide B
 replace F := hide F
 replace G := hide G
 go_wp2_with fail
 refine (q _ G.out (s1.out.ext F.out) (s2.out.ext F.out)).mono ?_
 rintro e W2 ⟨rfl, he⟩
 have B2 := B.out.ext he
 have x10 := (F.out.trans he).cell h10.out
 have x11 := (F.out.trans he).cell h11.out
 have x12 := (F.out.trans he).cell h12.out
 have x13 := (F.out.trans he).cell h13.out
 have x20 := (F.out.trans he).cell h20.out
 have x21 := (F.out.trans he).cell h21.out
 have x22 := (F.out.trans he).cell h22.out
 have x23 := (F.out.trans he).cell h23.out
 have T := G.out.trans he
 clear q h10 h11 h12 h13 h20 h21 h22 h23 s1 s2 B E F G he
 replace T := hide T
 have y0 := B2.cell 0
 have y1 := B2.cell 1
 clear B2
 simp [smallTerm] at y0 y1 x10 x11 x12 x13 x20 x21 x22 x23
 go_wp2_with fail
 go_ret
 exact ⟨rfl, T.out⟩
end
end
section
open Go.RowKit Go.Sort
set_option linter.unusedVariables false
set_option linter.unusedSimpArgs false
theorem numO_no {s : List UInt8} {m : Nat} (h : ¬ (vf 10 s < m ∧ digS 10 (vf 10 s) = s)) : numO s m = none := by
 unfold numO
 rw [dif_neg]
 rintro ⟨n, hn, rfl⟩
 rw [vf_dig (by decide) (by decide)] at h
 exact h ⟨hn, rfl⟩
theorem numO_yes {s : List UInt8} {n m : Nat} (h : n < m) (hs : digS 10 n = s) : numO s m = some n := by rw [← hs]; exact numO_dig h
theorem commO_no {s : List UInt8} (h1 : s ≠ [110, 111, 45, 101, 120, 112, 111, 114, 116]) (h2 : s ≠ [110, 111, 45, 97, 100, 118, 101, 114, 116, 105, 115, 101]) (h3 : s ≠ [110, 111, 45, 101, 120, 112, 111, 114, 116, 45, 115, 117, 98, 99, 111, 110, 102, 101, 100]) (h4 : (58 : UInt8) ∉ s) : commO s = none := by
 unfold commO
 rw [dif_neg]
 rintro ⟨c, rfl⟩
 unfold commT at h1 h2 h3 h4
 split at h4
 ·rename_i h; rw [if_pos h] at h1; exact h1 rfl
 ·rename_i h
  rw [if_neg h] at h1 h2 h3
  split at h4
  ·rename_i h; rw [if_pos h] at h2; exact h2 rfl
  ·rename_i h
   rw [if_neg h] at h2 h3
   split at h4
   ·rename_i h; rw [if_pos h] at h3; exact h3 rfl
   ·exact h4 (by simp)
theorem readA_x {w x : List UInt8} {q : List (List UInt8)} {a : ActS} {k : Int} (hk : actK w = k) (h0 : k ≠ 0) (h1 : ¬ (k = 1 ∨ k = 2 ∨ k = 5)) (hx : readX k x = some a) : readA (w :: x :: q) = some (a, q) := by
 show (if actK w = 0 then none else if actK w = 1 ∨ actK w = 2 ∨ actK w = 5 then some (⟨actK w, [], 0, []⟩, x :: q) else (readX (actK w) x).map fun a => (a, q)) = _
 rw [hk, if_neg h0, if_neg h1, hx]
 rfl
theorem readA_y {w : List UInt8} {q : List (List UInt8)} {k : Int} (hk : actK w = k) (h0 : k ≠ 0) (h1 : k = 1 ∨ k = 2 ∨ k = 5) : readA (w :: q) = some (⟨k, [], 0, []⟩, q) := by
 unfold readA
 dsimp only
 rw [hk, if_neg h0, if_pos h1]
theorem tail_and (q : List (List UInt8)) : tailA ([97, 110, 100] :: q) = rAs q := by
 unfold tailA
 dsimp only
 rw [if_pos rfl]
theorem readA_n {w x : List UInt8} {q : List (List UInt8)} {k : Int} (hk : actK w = k) (h0 : k ≠ 0) (h1 : ¬ (k = 1 ∨ k = 2 ∨ k = 5)) (hx : readX k x = none) : readA (w :: x :: q) = none := by
 show (if actK w = 0 then none else if actK w = 1 ∨ actK w = 2 ∨ actK w = 5 then some (⟨actK w, [], 0, []⟩, x :: q) else (readX (actK w) x).map fun a => (a, q)) = _
 rw [hk, if_neg h0, if_neg h1, hx]
 rfl
theorem readC_lenK {x : List UInt8} {q : List (List UInt8)} {n : Nat} (h : numO x 4294967296 = some n) : readC ([108, 101, 110, 103, 116, 104] :: x :: q) = some (⟨6, false, [], (n : Int)⟩, q) := by
 unfold readC
 dsimp only
 rw [if_neg (by decide)]
 unfold readV
 dsimp only
 rw [if_neg (by decide), if_neg (by decide), if_neg (by decide), if_neg (by decide), if_neg (by decide), if_pos rfl, h]
 rfl
theorem n1 : numO [49] 4294967296 = some 1 := numO_yes (by decide) (by decide +kernel)
theorem n9 : numO [57] 4294967296 = some 9 := numO_yes (by decide) (by decide +kernel)
theorem n0 : numO [48] 4294967296 = some 0 := numO_yes (by decide) (by decide +kernel)
theorem n65536 : numO [54, 53, 53, 51, 54] 4294967296 = some 65536 := numO_yes (by decide) (by decide +kernel)
theorem nBig : numO [52, 50, 57, 52, 57, 54, 55, 50, 57, 54] 4294967296 = none := numO_no (by decide +kernel)
theorem n01 : numO [48, 49] 4294967296 = none := numO_no (by decide +kernel)
theorem c65000 : commO [54, 53, 48, 48, 48] = none := commO_no (by decide) (by decide) (by decide) (by decide)
theorem a100 : (addrC [49, 48, 46, 48, 46, 48]).2 ≠ 0 := by decide +kernel
def noneK : List (List UInt8) := [[], [116, 104, 101, 110, 32, 97, 99, 99, 101, 112, 116, 32, 97, 110, 100, 32, 109, 101, 100, 32, 49], [105, 102, 32, 116, 104, 101, 110, 32, 97, 99, 99, 101, 112, 116], [116, 104, 101, 110, 32, 112, 114, 101, 112, 101, 110, 100, 32, 57], [116, 104, 101, 110, 32, 112, 114, 101, 112, 101, 110, 100, 32, 48], [116, 104, 101, 110, 32, 32, 114, 101, 106, 101, 99, 116], [116, 104, 101, 110, 32, 114, 101, 106, 101, 99, 116, 32], [105, 102, 32, 108, 101, 110, 103, 116, 104, 32, 54, 53, 53, 51, 54, 32, 116, 104, 101, 110, 32, 97, 99, 99, 101, 112, 116], [105, 102, 32, 102, 97, 109, 32, 118, 53, 32, 116, 104, 101, 110, 32, 97, 99, 99, 101, 112, 116], [116, 104, 101, 110, 32, 112, 114, 101, 102, 32, 52, 50, 57, 52, 57, 54, 55, 50, 57, 54], [116, 104, 101, 110, 32, 112, 114, 101, 102, 32, 48, 49], [105, 102, 32, 110, 111, 116, 32, 110, 111, 116, 32, 111, 114, 105, 103, 105, 110, 32, 105, 103, 112, 32, 116, 104, 101, 110, 32, 97, 99, 99, 101, 112, 116], [105, 102, 32, 112, 101, 101, 114, 32, 116, 104, 101, 110, 32, 97, 99, 99, 101, 112, 116], [116, 104, 101, 110, 32, 110, 101, 120, 116, 32, 49, 48, 46, 48, 46, 48], [97, 99, 99, 101, 112, 116], [105, 102, 32, 112, 114, 101, 102, 105, 120, 32, 65, 32, 116, 104, 101, 110, 32, 97, 99, 99, 101, 112, 116], [116, 104, 101, 110, 32, 97, 100, 100, 32, 54, 53, 48, 48, 48], [116, 104, 101, 110, 32, 114, 101, 106, 101, 99, 116, 32, 97, 110, 100], [105, 102, 32, 112, 101, 101, 114, 32, 97, 32, 97, 110, 100, 32, 116, 104, 101, 110, 32, 97, 99, 99, 101, 112, 116]]
def allK : List (List UInt8) := [[116, 104, 101, 110, 32, 114, 101, 106, 101, 99, 116], [105, 102, 32, 112, 101, 101, 114, 32, 97, 110, 100, 32, 116, 104, 101, 110, 32, 97, 100, 100, 32, 54, 53, 48, 48, 48, 58, 49, 32, 97, 110, 100, 32, 97, 100, 100, 32, 110, 111, 45, 101, 120, 112, 111, 114, 116], [105, 102, 32, 110, 111, 116, 32, 99, 111, 109, 109, 32, 98, 32, 97, 110, 100, 32, 112, 97, 116, 104, 32, 99, 32, 97, 110, 100, 32, 108, 101, 110, 103, 116, 104, 32, 51, 32, 97, 110, 100, 32, 102, 97, 109, 32, 118, 112, 110, 52, 32, 97, 110, 100, 32, 111, 114, 105, 103, 105, 110, 32, 105, 110, 99, 111, 109, 112, 108, 101, 116, 101, 32, 116, 104, 101, 110, 32, 109, 101, 100, 32, 48, 32, 97, 110, 100, 32, 110, 111, 45, 109, 101, 100, 32, 97, 110, 100, 32, 100, 101, 108, 32, 98, 32, 97, 110, 100, 32, 112, 114, 101, 112, 101, 110, 100, 32, 56, 32, 97, 110, 100, 32, 110, 101, 120, 116, 32, 49, 48, 46, 48, 46, 48, 46, 49, 32, 97, 110, 100, 32, 111, 114, 105, 103, 105, 110, 32, 101, 103, 112, 32, 97, 110, 100, 32, 114, 101, 106, 101, 99, 116], [105, 102, 32, 112, 101, 101, 114, 32, 116, 104, 101, 110, 32, 116, 104, 101, 110, 32, 97, 99, 99, 101, 112, 116], [105, 102, 32, 112, 101, 101, 114, 32, 110, 111, 116, 32, 116, 104, 101, 110, 32, 97, 99, 99, 101, 112, 116]]
def termK : List TermS := [⟨[], [⟨2, [], 0, []⟩]⟩, ⟨[⟨4, false, [97, 110, 100], 0⟩], [⟨6, [], 4259840001, []⟩, ⟨6, [], 4294967041, []⟩]⟩, ⟨[⟨2, true, [98], 0⟩, ⟨3, false, [99], 0⟩, ⟨6, false, [], 3⟩, ⟨7, false, [], 4⟩, ⟨5, false, [], 2⟩], [⟨4, [], 0, []⟩, ⟨5, [], 0, []⟩, ⟨7, [98], 0, []⟩, ⟨8, [], 8, []⟩, ⟨9, [], 0, [10, 0, 0, 1]⟩, ⟨10, [], 1, []⟩, ⟨2, [], 0, []⟩]⟩, ⟨[⟨4, false, [116, 104, 101, 110], 0⟩], [⟨1, [], 0, []⟩]⟩, ⟨[⟨4, false, [110, 111, 116], 0⟩], [⟨1, [], 0, []⟩]⟩]
theorem none0 : termO [] = none := by
 have h : spl 32 [] = [[]] := by decide +kernel
 exact termO_none (by rw [h]; simp [readT, readCs, readC, readV, readAs, readA, readX, actK, originN, originT, famN, n1, n9, n0, n65536, nBig, n01, c65000, a100])
theorem none1 : termO [116, 104, 101, 110, 32, 97, 99, 99, 101, 112, 116, 32, 97, 110, 100, 32, 109, 101, 100, 32, 49] = none := by
 have h : spl 32 [116, 104, 101, 110, 32, 97, 99, 99, 101, 112, 116, 32, 97, 110, 100, 32, 109, 101, 100, 32, 49] = [[116, 104, 101, 110], [97, 99, 99, 101, 112, 116], [97, 110, 100], [109, 101, 100], [49]] := by decide +kernel
 obtain ⟨u, hu⟩ : ∃ u : UInt32, u = UInt32.ofNat 1 := ⟨_, rfl⟩
 have hx : readX 4 [49] = some ⟨4, [], u, []⟩ := by
  unfold readX
  rw [if_pos (by decide), n1, hu]
  rfl
 have h2 : rAs [[109, 101, 100], [49]] = some [⟨4, [], u, []⟩] := by
  rw [rAs_some (readA_x (k := 4) (by decide +kernel) (by decide) (by decide) hx)]
  rfl
 have h3 : readA [[97, 99, 99, 101, 112, 116], [97, 110, 100], [109, 101, 100], [49]] = some (⟨1, [], 0, []⟩, [[97, 110, 100], [109, 101, 100], [49]]) := by
  exact readA_y (k := 1) (by decide +kernel) (by decide) (by decide)
 have h4 : tailA [[97, 110, 100], [109, 101, 100], [49]] = some [⟨4, [], u, []⟩] := by
  rw [tail_and, h2]
 have hr : readT [[116, 104, 101, 110], [97, 99, 99, 101, 112, 116], [97, 110, 100], [109, 101, 100], [49]] = some ⟨[], [⟨1, [], 0, []⟩, ⟨4, [], u, []⟩]⟩ := by rw [readT_then, rAs_some h3, h4]; rfl
 have hn : termOk ⟨[], [⟨1, [], 0, []⟩, ⟨4, [], u, []⟩]⟩ = false := by rw [hu]; decide +kernel
 rw [termO_one (t := ⟨[], [⟨1, [], 0, []⟩, ⟨4, [], u, []⟩]⟩) (by rw [h, hr]), if_neg (by unfold termT; rw [hn]; simp)]
theorem none2 : termO [105, 102, 32, 116, 104, 101, 110, 32, 97, 99, 99, 101, 112, 116] = none := by
 have h : spl 32 [105, 102, 32, 116, 104, 101, 110, 32, 97, 99, 99, 101, 112, 116] = [[105, 102], [116, 104, 101, 110], [97, 99, 99, 101, 112, 116]] := by decide +kernel
 exact termO_none (by rw [h]; simp [readT, readCs, readC, readV, readAs, readA, readX, actK, originN, originT, famN, n1, n9, n0, n65536, nBig, n01, c65000, a100])
theorem none3 : termO [116, 104, 101, 110, 32, 112, 114, 101, 112, 101, 110, 100, 32, 57] = none := by
 have h : spl 32 [116, 104, 101, 110, 32, 112, 114, 101, 112, 101, 110, 100, 32, 57] = [[116, 104, 101, 110], [112, 114, 101, 112, 101, 110, 100], [57]] := by decide +kernel
 obtain ⟨u, hu⟩ : ∃ u : UInt32, u = UInt32.ofNat 9 := ⟨_, rfl⟩
 have hx : readX 8 [57] = some ⟨8, [], u, []⟩ := by
  unfold readX
  rw [if_pos (by decide), n9, hu]
  rfl
 have h2 : rAs [[112, 114, 101, 112, 101, 110, 100], [57]] = some [⟨8, [], u, []⟩] := by
  rw [rAs_some (readA_x (k := 8) (by decide +kernel) (by decide) (by decide) hx)]
  rfl
 have hr : readT [[116, 104, 101, 110], [112, 114, 101, 112, 101, 110, 100], [57]] = some ⟨[], [⟨8, [], u, []⟩]⟩ := by rw [readT_then, h2]; rfl
 have hn : termOk ⟨[], [⟨8, [], u, []⟩]⟩ = false := by rw [hu]; decide +kernel
 rw [termO_one (t := ⟨[], [⟨8, [], u, []⟩]⟩) (by rw [h, hr]), if_neg (by unfold termT; rw [hn]; simp)]
theorem none4 : termO [116, 104, 101, 110, 32, 112, 114, 101, 112, 101, 110, 100, 32, 48] = none := by
 have h : spl 32 [116, 104, 101, 110, 32, 112, 114, 101, 112, 101, 110, 100, 32, 48] = [[116, 104, 101, 110], [112, 114, 101, 112, 101, 110, 100], [48]] := by decide +kernel
 obtain ⟨u, hu⟩ : ∃ u : UInt32, u = UInt32.ofNat 0 := ⟨_, rfl⟩
 have hx : readX 8 [48] = some ⟨8, [], u, []⟩ := by
  unfold readX
  rw [if_pos (by decide), n0, hu]
  rfl
 have h2 : rAs [[112, 114, 101, 112, 101, 110, 100], [48]] = some [⟨8, [], u, []⟩] := by
  rw [rAs_some (readA_x (k := 8) (by decide +kernel) (by decide) (by decide) hx)]
  rfl
 have hr : readT [[116, 104, 101, 110], [112, 114, 101, 112, 101, 110, 100], [48]] = some ⟨[], [⟨8, [], u, []⟩]⟩ := by rw [readT_then, h2]; rfl
 have hn : termOk ⟨[], [⟨8, [], u, []⟩]⟩ = false := by rw [hu]; decide +kernel
 rw [termO_one (t := ⟨[], [⟨8, [], u, []⟩]⟩) (by rw [h, hr]), if_neg (by unfold termT; rw [hn]; simp)]
theorem none5 : termO [116, 104, 101, 110, 32, 32, 114, 101, 106, 101, 99, 116] = none := by
 have h : spl 32 [116, 104, 101, 110, 32, 32, 114, 101, 106, 101, 99, 116] = [[116, 104, 101, 110], [], [114, 101, 106, 101, 99, 116]] := by decide +kernel
 exact termO_none (by rw [h]; simp [readT, readCs, readC, readV, readAs, readA, readX, actK, originN, originT, famN, n1, n9, n0, n65536, nBig, n01, c65000, a100])
theorem none6 : termO [116, 104, 101, 110, 32, 114, 101, 106, 101, 99, 116, 32] = none := by
 have h : spl 32 [116, 104, 101, 110, 32, 114, 101, 106, 101, 99, 116, 32] = [[116, 104, 101, 110], [114, 101, 106, 101, 99, 116], []] := by decide +kernel
 exact termO_none (by rw [h]; simp [readT, readCs, readC, readV, readAs, readA, readX, actK, originN, originT, famN, n1, n9, n0, n65536, nBig, n01, c65000, a100])
theorem none7 : termO [105, 102, 32, 108, 101, 110, 103, 116, 104, 32, 54, 53, 53, 51, 54, 32, 116, 104, 101, 110, 32, 97, 99, 99, 101, 112, 116] = none := by
 have h : spl 32 [105, 102, 32, 108, 101, 110, 103, 116, 104, 32, 54, 53, 53, 51, 54, 32, 116, 104, 101, 110, 32, 97, 99, 99, 101, 112, 116] = [[105, 102], [108, 101, 110, 103, 116, 104], [54, 53, 53, 51, 54], [116, 104, 101, 110], [97, 99, 99, 101, 112, 116]] := by decide +kernel
 have hc := readC_lenK (q := [[116, 104, 101, 110], [97, 99, 99, 101, 112, 116]]) n65536
 have h2 : rAs [[97, 99, 99, 101, 112, 116]] = some [⟨1, [], 0, []⟩] := by
  rw [rAs_some (readA_y (k := 1) (by decide +kernel) (by decide) (by decide))]
  rfl
 have h3 : rCs [105, 102] [[108, 101, 110, 103, 116, 104], [54, 53, 53, 51, 54], [116, 104, 101, 110], [97, 99, 99, 101, 112, 116]] = some ([⟨6, false, [], ((65536 : Nat) : Int)⟩], [[97, 99, 99, 101, 112, 116]]) := by
  rw [rCs_some (by decide) (.inl rfl) hc, rCs_then]
  rfl
 have hr : readT [[105, 102], [108, 101, 110, 103, 116, 104], [54, 53, 53, 51, 54], [116, 104, 101, 110], [97, 99, 99, 101, 112, 116]] = some ⟨[] ++ [⟨6, false, [], ((65536 : Nat) : Int)⟩], [⟨1, [], 0, []⟩]⟩ := by
  rw [readT_if, h3]
  show (rAs [[97, 99, 99, 101, 112, 116]]).map _ = _
  rw [h2]
  rfl
 rw [termO_one (t := ⟨[] ++ [⟨6, false, [], ((65536 : Nat) : Int)⟩], [⟨1, [], 0, []⟩]⟩) (by rw [h, hr]), if_neg (by decide +kernel)]
theorem none8 : termO [105, 102, 32, 102, 97, 109, 32, 118, 53, 32, 116, 104, 101, 110, 32, 97, 99, 99, 101, 112, 116] = none := by
 have h : spl 32 [105, 102, 32, 102, 97, 109, 32, 118, 53, 32, 116, 104, 101, 110, 32, 97, 99, 99, 101, 112, 116] = [[105, 102], [102, 97, 109], [118, 53], [116, 104, 101, 110], [97, 99, 99, 101, 112, 116]] := by decide +kernel
 exact termO_none (by rw [h]; simp [readT, readCs, readC, readV, readAs, readA, readX, actK, originN, originT, famN, n1, n9, n0, n65536, nBig, n01, c65000, a100])
theorem none9 : termO [116, 104, 101, 110, 32, 112, 114, 101, 102, 32, 52, 50, 57, 52, 57, 54, 55, 50, 57, 54] = none := by
 have h : spl 32 [116, 104, 101, 110, 32, 112, 114, 101, 102, 32, 52, 50, 57, 52, 57, 54, 55, 50, 57, 54] = [[116, 104, 101, 110], [112, 114, 101, 102], [52, 50, 57, 52, 57, 54, 55, 50, 57, 54]] := by decide +kernel
 have hx : readX 3 [52, 50, 57, 52, 57, 54, 55, 50, 57, 54] = none := by
  unfold readX
  rw [if_pos (by decide), nBig]
  rfl
 exact termO_none (by rw [h, readT_then, rAs_none (readA_n (k := 3) (by decide +kernel) (by decide) (by decide) hx)]; rfl)
theorem none10 : termO [116, 104, 101, 110, 32, 112, 114, 101, 102, 32, 48, 49] = none := by
 have h : spl 32 [116, 104, 101, 110, 32, 112, 114, 101, 102, 32, 48, 49] = [[116, 104, 101, 110], [112, 114, 101, 102], [48, 49]] := by decide +kernel
 have hx : readX 3 [48, 49] = none := by
  unfold readX
  rw [if_pos (by decide), n01]
  rfl
 exact termO_none (by rw [h, readT_then, rAs_none (readA_n (k := 3) (by decide +kernel) (by decide) (by decide) hx)]; rfl)
theorem none11 : termO [105, 102, 32, 110, 111, 116, 32, 110, 111, 116, 32, 111, 114, 105, 103, 105, 110, 32, 105, 103, 112, 32, 116, 104, 101, 110, 32, 97, 99, 99, 101, 112, 116] = none := by
 have h : spl 32 [105, 102, 32, 110, 111, 116, 32, 110, 111, 116, 32, 111, 114, 105, 103, 105, 110, 32, 105, 103, 112, 32, 116, 104, 101, 110, 32, 97, 99, 99, 101, 112, 116] = [[105, 102], [110, 111, 116], [110, 111, 116], [111, 114, 105, 103, 105, 110], [105, 103, 112], [116, 104, 101, 110], [97, 99, 99, 101, 112, 116]] := by decide +kernel
 exact termO_none (by rw [h]; simp [readT, readCs, readC, readV, readAs, readA, readX, actK, originN, originT, famN, n1, n9, n0, n65536, nBig, n01, c65000, a100])
theorem none12 : termO [105, 102, 32, 112, 101, 101, 114, 32, 116, 104, 101, 110, 32, 97, 99, 99, 101, 112, 116] = none := by
 have h : spl 32 [105, 102, 32, 112, 101, 101, 114, 32, 116, 104, 101, 110, 32, 97, 99, 99, 101, 112, 116] = [[105, 102], [112, 101, 101, 114], [116, 104, 101, 110], [97, 99, 99, 101, 112, 116]] := by decide +kernel
 exact termO_none (by rw [h]; simp [readT, readCs, readC, readV, readAs, readA, readX, actK, originN, originT, famN, n1, n9, n0, n65536, nBig, n01, c65000, a100])
theorem none13 : termO [116, 104, 101, 110, 32, 110, 101, 120, 116, 32, 49, 48, 46, 48, 46, 48] = none := by
 have h : spl 32 [116, 104, 101, 110, 32, 110, 101, 120, 116, 32, 49, 48, 46, 48, 46, 48] = [[116, 104, 101, 110], [110, 101, 120, 116], [49, 48, 46, 48, 46, 48]] := by decide +kernel
 exact termO_none (by rw [h]; simp [readT, readCs, readC, readV, readAs, readA, readX, actK, originN, originT, famN, n1, n9, n0, n65536, nBig, n01, c65000, a100])
theorem none14 : termO [97, 99, 99, 101, 112, 116] = none := by
 have h : spl 32 [97, 99, 99, 101, 112, 116] = [[97, 99, 99, 101, 112, 116]] := by decide +kernel
 exact termO_none (by rw [h]; simp [readT, readCs, readC, readV, readAs, readA, readX, actK, originN, originT, famN, n1, n9, n0, n65536, nBig, n01, c65000, a100])
theorem none15 : termO [105, 102, 32, 112, 114, 101, 102, 105, 120, 32, 65, 32, 116, 104, 101, 110, 32, 97, 99, 99, 101, 112, 116] = none := by
 have h : spl 32 [105, 102, 32, 112, 114, 101, 102, 105, 120, 32, 65, 32, 116, 104, 101, 110, 32, 97, 99, 99, 101, 112, 116] = [[105, 102], [112, 114, 101, 102, 105, 120], [65], [116, 104, 101, 110], [97, 99, 99, 101, 112, 116]] := by decide +kernel
 have hr : readT [[105, 102], [112, 114, 101, 102, 105, 120], [65], [116, 104, 101, 110], [97, 99, 99, 101, 112, 116]] = some ⟨[⟨1, false, [65], 0⟩], [⟨1, [], 0, []⟩]⟩ := by simp [readT, readCs, readC, readV, readAs, readA, readX, actK, originN, originT, famN, n1, n9, n0, n65536, nBig, n01, c65000, a100, -UInt32.reduceOfNat]
 rw [termO_one (t := ⟨[⟨1, false, [65], 0⟩], [⟨1, [], 0, []⟩]⟩) (by rw [h, hr]), if_neg (by decide +kernel)]
theorem none16 : termO [116, 104, 101, 110, 32, 97, 100, 100, 32, 54, 53, 48, 48, 48] = none := by
 have h : spl 32 [116, 104, 101, 110, 32, 97, 100, 100, 32, 54, 53, 48, 48, 48] = [[116, 104, 101, 110], [97, 100, 100], [54, 53, 48, 48, 48]] := by decide +kernel
 exact termO_none (by rw [h]; simp [readT, readCs, readC, readV, readAs, readA, readX, actK, originN, originT, famN, n1, n9, n0, n65536, nBig, n01, c65000, a100])
theorem none17 : termO [116, 104, 101, 110, 32, 114, 101, 106, 101, 99, 116, 32, 97, 110, 100] = none := by
 have h : spl 32 [116, 104, 101, 110, 32, 114, 101, 106, 101, 99, 116, 32, 97, 110, 100] = [[116, 104, 101, 110], [114, 101, 106, 101, 99, 116], [97, 110, 100]] := by decide +kernel
 exact termO_none (by rw [h]; simp [readT, readCs, readC, readV, readAs, readA, readX, actK, originN, originT, famN, n1, n9, n0, n65536, nBig, n01, c65000, a100])
theorem none18 : termO [105, 102, 32, 112, 101, 101, 114, 32, 97, 32, 97, 110, 100, 32, 116, 104, 101, 110, 32, 97, 99, 99, 101, 112, 116] = none := by
 have h : spl 32 [105, 102, 32, 112, 101, 101, 114, 32, 97, 32, 97, 110, 100, 32, 116, 104, 101, 110, 32, 97, 99, 99, 101, 112, 116] = [[105, 102], [112, 101, 101, 114], [97], [97, 110, 100], [116, 104, 101, 110], [97, 99, 99, 101, 112, 116]] := by decide +kernel
 exact termO_none (by rw [h]; simp [readT, readCs, readC, readV, readAs, readA, readX, actK, originN, originT, famN, n1, n9, n0, n65536, nBig, n01, c65000, a100])
theorem noneK_no : ∀ s ∈ noneK, termO s = none := by
 intro s hs
 simp only [noneK, List.mem_cons, List.not_mem_nil, or_false] at hs
 rcases hs with rfl | rfl | rfl | rfl | rfl | rfl | rfl | rfl | rfl | rfl | rfl | rfl | rfl | rfl | rfl | rfl | rfl | rfl | rfl
 ·exact none0
 ·exact none1
 ·exact none2
 ·exact none3
 ·exact none4
 ·exact none5
 ·exact none6
 ·exact none7
 ·exact none8
 ·exact none9
 ·exact none10
 ·exact none11
 ·exact none12
 ·exact none13
 ·exact none14
 ·exact none15
 ·exact none16
 ·exact none17
 ·exact none18
theorem noneK_len : ∀ s ∈ noneK, s.length ≤ 1048576 := by decide +kernel
theorem allK_len : ∀ s ∈ allK, s.length ≤ 1048576 := by decide +kernel
theorem termK_ok : ∀ t ∈ termK, termOk t = true := by decide +kernel
theorem termK_t : termK.map termW = allK := by decide +kernel
theorem allK_at {k : Nat} (hk : k < allK.length) : ∃ t, termO allK[k] = some t ∧ termT t = (allK[k], 0) := by
 have hl : allK.length = termK.length := by rw [← termK_t, List.length_map]
 have h1 : termOk (termK[k]'(hl ▸ hk)) = true := termK_ok _ (List.getElem_mem _)
 have h2 : allK[k] = termW (termK[k]'(hl ▸ hk)) := by simp only [← termK_t, List.getElem_map]
 refine ⟨termK[k]'(hl ▸ hk), ?_, ?_⟩
 ·rw [h2]; exact termO_text h1
 ·rw [h2]; exact if_pos h1
end
section
section
open Go.RowKit Go.Extern.Stop Go.Stop Go.Extern
set_option linter.unusedVariables false
set_option linter.unusedSimpArgs false
theorem as_valueOf27 (t : Addr) (w : World) : (ReflectliteValue.unpack (.iface 82 (.pointer (some t)))).run Tryz.prog w
  = .ok (.agg #[.pointer (some ⟨Tryz.prog.globals.size, 82, none⟩), .pointer (some ⟨w.heap.size, 0, none⟩), .int .u64 150]) (w.alloc (.cells #[.pointer (some t)] 82)) := by kernel_rfl
theorem as_type27 (a : Addr) (w : World) : (ReflectliteValue.methodAny (ReflectliteValue.valueError "reflectlite.Value.Type" 0) (fun t _ _ _ => ReflectliteType.toType t) #[.agg #[.pointer (some ⟨Tryz.prog.globals.size, 82, none⟩), .pointer (some a), .int .u64 150]]).run Tryz.prog w
  = .ok (.iface 160 (.agg #[.pointer (some ⟨Tryz.prog.globals.size, 82, none⟩)])) w := by kernel_rfl
theorem as_methodKind (n : Nat) (h : Value) (w : World) : (Go.method (n + 1) 160 (.agg #[h]) "Kind").run Tryz.prog w = .ok (213, h) w := by kernel_rfl
theorem as_kind27 (w : World) : ((ReflectliteType.abiMethod fun t => (fun a : Nat => Value.int IntKind.u8 (a : Int)) <$> Rtype.kind t) #[.pointer (some ⟨Tryz.prog.globals.size, 82, none⟩)]).run Tryz.prog w = .ok (.int .u8 22) w := by kernel_rfl
theorem as_kind25 (w : World) : ((ReflectliteType.abiMethod fun t => (fun a : Nat => Value.int IntKind.u8 (a : Int)) <$> Rtype.kind t) #[.pointer (some ⟨Tryz.prog.globals.size, 80, none⟩)]).run Tryz.prog w = .ok (.int .u8 22) w := by kernel_rfl
theorem as_rlm (z : Sem Value) (f : TypeId → Addr → Nat → Nat → Sem Value) (v : Value) :
  ReflectliteValue.method z f #[v] = (do match ← ReflectliteValue.parts v with | none => z | some (t, a, fl) => f t a fl (fl % 32)) := rfl
theorem as_parts27 (a : Addr) (w : World) : (ReflectliteValue.parts (.agg #[.pointer (some ⟨Tryz.prog.globals.size, 82, none⟩), .pointer (some a), .int .u64 150])).run Tryz.prog w = .ok (some (82, a, 150)) w := by kernel_rfl
/-- (Value).IsNil at the Value of a **p.E that is not nil. -/
theorem as_isNil27 (a p : Addr) (W : World) (ha : W.cell? a = some (.pointer (some p))) :
  (ReflectliteValue.method (ReflectliteValue.valueError "reflectlite.Value.IsNil" 0) ReflectliteValue.isNil #[.agg #[.pointer (some ⟨Tryz.prog.globals.size, 82, none⟩), .pointer (some a), .int .u64 150]]).run Tryz.prog W = .ok (.bool false) W := by
 rw [as_rlm]
 simp only [Sem.run_bind, as_parts27, Result.andThen]
 simp [ReflectliteValue.isNil, loadVar, isAgg, underlying, Tryz.underlying82, ha, Result.andThen]
theorem as_methodElem (n : Nat) (h : Value) (w : World) : (Go.method (n + 1) 160 (.agg #[h]) "Elem").run Tryz.prog w = .ok (226, .agg #[h]) w := by kernel_rfl
theorem as_methodImplements (n : Nat) (h : Value) (w : World) : (Go.method (n + 1) 160 (.agg #[h]) "Implements").run Tryz.prog w = .ok (227, .agg #[h]) w := by kernel_rfl
theorem as_methodAssignableTo (n : Nat) (h : Value) (w : World) : (Go.method (n + 1) 160 (.agg #[h]) "AssignableTo").run Tryz.prog w = .ok (224, .agg #[h]) w := by kernel_rfl
theorem as_elem27 (w : World) : (ReflectliteType.method ReflectliteType.elem #[.agg #[.pointer (some ⟨Tryz.prog.globals.size, 82, none⟩)]]).run Tryz.prog w = .ok (.iface 160 (.agg #[.pointer (some ⟨Tryz.prog.globals.size, 80, none⟩)])) w := by kernel_rfl
theorem as_implements25 (w : World) : (ReflectliteType.relation "Implements" ReflectliteType.implements_ #[.agg #[.pointer (some ⟨Tryz.prog.globals.size, 80, none⟩)], .iface 160 (.agg #[.pointer (some ⟨Tryz.prog.globals.size, 39, none⟩)])]).run Tryz.prog w = .ok (.bool true) w := by kernel_rfl
theorem as_typeOf25 (v : Value) (w : World) : (ReflectliteType.typeOf #[.iface 80 v]).run Tryz.prog w = .ok (.iface 160 (.agg #[.pointer (some ⟨Tryz.prog.globals.size, 80, none⟩)])) w := by kernel_rfl
theorem as_assignable25 (w : World) : (ReflectliteType.relation "AssignableTo" ReflectliteType.assignableTo #[.agg #[.pointer (some ⟨Tryz.prog.globals.size, 80, none⟩)], .iface 160 (.agg #[.pointer (some ⟨Tryz.prog.globals.size, 80, none⟩)])]).run Tryz.prog w = .ok (.bool true) w := by kernel_rfl
theorem as_valueOf25 (e : Addr) (w : World) : (ReflectliteValue.unpack (.iface 80 (.pointer (some e)))).run Tryz.prog w
  = .ok (.agg #[.pointer (some ⟨Tryz.prog.globals.size, 80, none⟩), .pointer (some ⟨w.heap.size, 0, none⟩), .int .u64 150]) (w.alloc (.cells #[.pointer (some e)] 80)) := by kernel_rfl
theorem as_elemOf27 (w : World) : (Rtype.elem? 82).run Tryz.prog w = .ok (some 80) w := by kernel_rfl
theorem as_mk25 (p : Addr) (w : World) : (ReflectliteValue.mk 80 p ReflectliteValue.flagAddr).run Tryz.prog w = .ok (.agg #[.pointer (some ⟨Tryz.prog.globals.size, 80, none⟩), .pointer (some p), .int .u64 406]) w := by kernel_rfl
/-- (Value).Elem at the Value of a **p.E that is not nil: the Value of the *p.E variable that it points to, addressable. -/
theorem as_elemV27 (a p : Addr) (W : World) (ha : W.cell? a = some (.pointer (some p))) :
  (ReflectliteValue.method (ReflectliteValue.valueError "reflectlite.Value.Elem" 0) ReflectliteValue.elem #[.agg #[.pointer (some ⟨Tryz.prog.globals.size, 82, none⟩), .pointer (some a), .int .u64 150]]).run Tryz.prog W
   = .ok (.agg #[.pointer (some ⟨Tryz.prog.globals.size, 80, none⟩), .pointer (some p), .int .u64 406]) W := by
 rw [as_rlm]
 simp only [Sem.run_bind, as_parts27, Result.andThen]
 simp [ReflectliteValue.elem, loadVar, isAgg, underlying, Tryz.underlying82, ha, Result.andThen, as_elemOf27, as_mk25]
theorem as_rls (v x : Value) : ReflectliteValue.set #[v, x] = (do
  let (some (dst, a, fl), some (src, b, _)) := (← ReflectliteValue.parts v, ← ReflectliteValue.parts x)
   | unsupported (.noEntry "extern/(internal/reflectlite.Value).Set.zeroValue")
  if fl / ReflectliteValue.flagAddr % 2 == 0 then unsupported (.noEntry "extern/(internal/reflectlite.Value).Set.unaddressable")
  let val ← loadVar src b
  if ← Rtype.directlyAssignable dst src then storeVar dst a val
  else if ← Rtype.implements dst src then
   if (← Rtype.kind src) == 20 then
    match val with
    | .nilIface => unsupported (.noEntry "extern/reflectlite: a nil value of one interface type handed on as a value of another")
    | _ => storeVar dst a val
   else storeVar dst a (.iface src val)
  else panicString ("reflectlite.Set: value of type " ++ (← Rtype.spelt src) ++ " is not assignable to type " ++ (← Rtype.spelt dst))
  pure (.tuple #[])) := rfl
theorem as_parts25a (a : Addr) (w : World) : (ReflectliteValue.parts (.agg #[.pointer (some ⟨Tryz.prog.globals.size, 80, none⟩), .pointer (some a), .int .u64 406])).run Tryz.prog w = .ok (some (80, a, 406)) w := by kernel_rfl
theorem as_parts25 (a : Addr) (w : World) : (ReflectliteValue.parts (.agg #[.pointer (some ⟨Tryz.prog.globals.size, 80, none⟩), .pointer (some a), .int .u64 150])).run Tryz.prog w = .ok (some (80, a, 150)) w := by kernel_rfl
theorem as_direct25 (w : World) : (Rtype.directlyAssignable 80 80).run Tryz.prog w = .ok true w := by kernel_rfl
/-- (Value).Set: the *p.E variable at 'ta' gets what the Value's own variable 'b' holds. -/
theorem as_set25 (ta b e : Addr) (old : Value) (W : World) (hb : W.cell? b = some (.pointer (some e))) (ht : W.cell? ta = some old) (hf : W.frozen? ta = false) :
  (ReflectliteValue.set #[.agg #[.pointer (some ⟨Tryz.prog.globals.size, 80, none⟩), .pointer (some ta), .int .u64 406], .agg #[.pointer (some ⟨Tryz.prog.globals.size, 80, none⟩), .pointer (some b), .int .u64 150]]).run Tryz.prog W
   = .ok (.tuple #[]) (W.setCell ta (.pointer (some e))) := by
 rw [as_rls]
 simp only [Sem.run_bind, as_parts25a, as_parts25, Result.andThen]
 simp [ReflectliteValue.flagAddr, loadVar, isAgg, underlying, Tryz.underlying80, hb, Result.andThen, as_direct25, storeVar, Value.cells, storeCells, Addr.add]
 rw [run_store Tryz.prog W ta _ _ (by rfl)]
 simp [ht, hf]
def kindF : TypeId → Sem Value := fun t => do pure (.int .u8 (← Rtype.kind t))
theorem as_kd : (fun t => (fun a : Nat => Value.int IntKind.u8 (a : Int)) <$> Rtype.kind t) = kindF := by funext t; simp [kindF]
set_option maxRecDepth 20000 in
set_option maxHeartbeats 8000000 in
theorem asF_hit0 (e t : Addr) (old : Value) (w : World) (hg : w.cell? ⟨0, 0, none⟩ = some (.iface 160 (.agg #[.pointer (some ⟨Tryz.prog.globals.size, 39, none⟩)]))) (ht0 : w.cell? t = some old) (hf0 : w.frozen? t = false) :
  Calls Tryz.prog 31 #[.iface 80 (.pointer (some e)), .iface 82 (.pointer (some t))] w fun ev w' => ev = .returned (.bool true) ∧ w' = ((((w.alloc (.cells #[.pointer (some t)] 82)).alloc (.cells #[.pointer (some ⟨Tryz.prog.globals.size, 82, none⟩), .pointer (some ⟨w.heap.size, 0, none⟩), .int .u64 150] 131)).alloc (.cells #[.pointer (some ⟨Tryz.prog.globals.size, 82, none⟩), .pointer (some ⟨w.heap.size, 0, none⟩), .int .u64 150] 131)).alloc (.cells #[.pointer (some e)] 80)).setCell t (.pointer (some e)) := by
 have h6 := @run_callFunc_extern Tryz.prog 73 _ (fun args => ReflectliteValue.unpack (args.getD 0 (.tuple #[]))) Tryz.func73 (by kernel_rfl) (by kernel_rfl) (by kernel_rfl) (by kernel_rfl)
 have h7 := @run_callFunc_extern Tryz.prog 74 _ (ReflectliteValue.methodAny (ReflectliteValue.valueError "reflectlite.Value.Type" 0) (fun t _ _ _ => ReflectliteType.toType t)) Tryz.func74 (by kernel_rfl) (by kernel_rfl) (by kernel_rfl) (by kernel_rfl)
 have h8 := @run_callFunc_extern Tryz.prog 75 _ (ReflectliteValue.method (ReflectliteValue.valueError "reflectlite.Value.IsNil" 0) ReflectliteValue.isNil) Tryz.func75 (by kernel_rfl) (by kernel_rfl) (by kernel_rfl) (by kernel_rfl)
 have h27 := @run_callFunc_extern Tryz.prog 213 _ (ReflectliteType.abiMethod kindF) Tryz.func213 (by kernel_rfl) (by kernel_rfl) (by kernel_rfl) (by kernel_rfl)
 have h37 := @run_callFunc_extern Tryz.prog 226 _ (ReflectliteType.method ReflectliteType.elem) Tryz.func226 (by kernel_rfl) (by kernel_rfl) (by kernel_rfl) (by kernel_rfl)
 have h38 := @run_callFunc_extern Tryz.prog 227 _ (ReflectliteType.relation "Implements" ReflectliteType.implements_) Tryz.func227 (by kernel_rfl) (by kernel_rfl) (by kernel_rfl) (by kernel_rfl)
 have h10 := @run_callFunc_extern Tryz.prog 50 _ ReflectliteType.typeOf Tryz.func50 (by kernel_rfl) (by kernel_rfl) (by kernel_rfl) (by kernel_rfl)
 have h35 := @run_callFunc_extern Tryz.prog 224 _ (ReflectliteType.relation "AssignableTo" ReflectliteType.assignableTo) Tryz.func224 (by kernel_rfl) (by kernel_rfl) (by kernel_rfl) (by kernel_rfl)
 have h11 := @run_callFunc_extern Tryz.prog 123 _ (ReflectliteValue.method (ReflectliteValue.valueError "reflectlite.Value.Elem" 0) ReflectliteValue.elem) Tryz.func123 (by kernel_rfl) (by kernel_rfl) (by kernel_rfl) (by kernel_rfl)
 have h12 := @run_callFunc_extern Tryz.prog 124 _ ReflectliteValue.set Tryz.func124 (by kernel_rfl) (by kernel_rfl) (by kernel_rfl) (by kernel_rfl)
 have tO := as_typeOf25
 have mA := as_methodAssignableTo 381
 have a25 := as_assignable25
 have v25 := as_valueOf25
 have f6 := as_valueOf27
 have f7 := as_type27
 have mK := as_methodKind 381
 have mE := as_methodElem 381
 have mI := as_methodImplements 381
 simp only [Nat.reduceAdd] at mA mK mE mI
 have k27 := as_kind27
 have k25 := as_kind25
 rw [as_kd] at k27 k25
 have e27 := as_elem27
 have i25 := as_implements25
 have n8 := as_isNil27 ⟨w.heap.size, 0, none⟩ t ((w.alloc (.cells #[.pointer (some t)] 82)).alloc (.cells #[.pointer (some ⟨Tryz.prog.globals.size, 82, none⟩), .pointer (some ⟨w.heap.size, 0, none⟩), .int .u64 150] 131)) (by simp)
 have hlt : 0 < w.heap.size := World.block_lt_of_cell? w ⟨0, 0, none⟩ hg
 have hg2 : ((w.alloc (.cells #[.pointer (some t)] 82)).alloc (.cells #[.pointer (some ⟨Tryz.prog.globals.size, 82, none⟩), .pointer (some ⟨w.heap.size, 0, none⟩), .int .u64 150] 131)).cell? ⟨0, 0, none⟩ = some (.iface 160 (.agg #[.pointer (some ⟨Tryz.prog.globals.size, 39, none⟩)])) := by
  rw [World.cell?_alloc_lt _ _ ⟨0, 0, none⟩ (by first | (simp; done) | (simp; omega)), World.cell?_alloc_lt _ _ ⟨0, 0, none⟩ hlt]; exact hg
 have htl : t.block < w.heap.size := by
  rcases Nat.lt_or_ge t.block w.heap.size with h | h
  ·exact h
  ·simp [World.cell?, Array.getElem?_eq_none h] at ht0
 have el := as_elemV27 ⟨w.heap.size, 0, none⟩ t (((w.alloc (.cells #[.pointer (some t)] 82)).alloc (.cells #[.pointer (some ⟨Tryz.prog.globals.size, 82, none⟩), .pointer (some ⟨w.heap.size, 0, none⟩), .int .u64 150] 131)).alloc (.cells #[.pointer (some ⟨Tryz.prog.globals.size, 82, none⟩), .pointer (some ⟨w.heap.size, 0, none⟩), .int .u64 150] 131)) (by rw [World.cell?_alloc_lt _ _ ⟨w.heap.size, 0, none⟩ (by simp; omega)]; simp)
 have st := as_set25 t ⟨w.heap.size + 1 + 1 + 1, 0, none⟩ e old ((((w.alloc (.cells #[.pointer (some t)] 82)).alloc (.cells #[.pointer (some ⟨Tryz.prog.globals.size, 82, none⟩), .pointer (some ⟨w.heap.size, 0, none⟩), .int .u64 150] 131)).alloc (.cells #[.pointer (some ⟨Tryz.prog.globals.size, 82, none⟩), .pointer (some ⟨w.heap.size, 0, none⟩), .int .u64 150] 131)).alloc (.cells #[.pointer (some e)] 80))
  (by rw [World.cell?_alloc_at _ _ _ _ (by simp)]; rfl)
  (by rw [World.cell?_alloc_lt _ _ t (by simp; omega), World.cell?_alloc_lt _ _ t (by simp; omega), World.cell?_alloc_lt _ _ t (by simp; omega), World.cell?_alloc_lt _ _ t htl]; exact ht0)
  (by rw [World.frozen?_alloc_old _ _ t (by simp; omega), World.frozen?_alloc_old _ _ t (by simp; omega), World.frozen?_alloc_old _ _ t (by simp; omega), World.frozen?_alloc_old _ _ t (Nat.ne_of_lt htl)]; exact hf0)
 clear hg
 generalize Tryz.prog.globals.size = K at *
 go_enter Tryz.func31, Tryz.ntmps31
 go_wp2
 refine wp_loop_rounds 1 ?_
 rw [rounds_succ]
 go_wp2
 go_ret
 exact ⟨rfl, rfl⟩
/-- What the library's variable errors.errorType holds. -/
def ErT (w : World) : Prop := w.cell? ⟨0, 0, none⟩ = some (.iface 160 (.agg #[.pointer (some ⟨Tryz.prog.globals.size, 39, none⟩)]))
theorem ErT.ext {w w' : World} (h : ErT w) (he : Ext w w') : ErT w' := he.cell h
theorem asF_hit (e t : Addr) (old : Value) (w : World) (hg : ErT w) (ht0 : w.cell? t = some old) (hf0 : w.frozen? t = false) :
  Calls Tryz.prog 31 #[.iface 80 (.pointer (some e)), .iface 82 (.pointer (some t))] w fun ev w' => ev = .returned (.bool true) ∧ ∃ w1, Ext w w1 ∧ w' = w1.setCell t (.pointer (some e)) :=
 (asF_hit0 e t old w hg ht0 hf0).mono fun _ _ ⟨h1, h2⟩ => ⟨h1, _, ((((Ext.refl w).alloc _).alloc _).alloc _).alloc _, h2⟩
end
section
open Go.RowKit
set_option linter.unusedVariables false
set_option linter.unusedSimpArgs false
theorem termO_ok {s : List UInt8} {t : TermS} (h : termO s = some t) : termOk t = true ∧ termT t = (s, 0) := by
  have h1 := termO_some h
  refine ⟨?_, h1⟩
  cases hk : termOk t with
  | true => rfl
  | false =>
    unfold termT at h1
    rw [if_neg (by rw [hk]; decide)] at h1
    injection h1 with _ h1
    cases h1
end
end
section
open Go.RowKit
/-- A path at an address in a world, all below its heap's end. -/
def Path (w : World) (a : Option Addr) (l : List Seg) : Prop := Sl ESeg w (· < w.heap.size) a l
theorem Path.ext {w w' : World} {a : Option Addr} {l : List Seg} (h : Path w a l) (he : Ext w w') : Path w' a l := Sl.ext h he
theorem Path.take {w : World} {a : Option Addr} {l : List Seg} (h : Path w a l) (n : Nat) : Path w a (l.take n) := Sl.take h n
set_option linter.unusedVariables false
set_option linter.unusedSimpArgs false
end
section
open Go.RowKit
set_option linter.unusedVariables false
set_option linter.unusedSimpArgs false
def Enc.sliceC {α : Type} (E : Enc α) : Enc (List α) where
 R w S l cs := ∃ a c, cs = [.slice a l.length c] ∧ l.length ≤ 16777216 ∧ l.length ≤ c ∧ c ≤ maxLen ∧ Sl E w S a l
 sz := 1
 size := by rintro w S x cs ⟨a, c, rfl, _⟩; rfl
 one := by rintro w S x cs ⟨a, c, rfl, _⟩ u hu; simp at hu; subst hu; rfl
 frame := by rintro w w' S x cs hw ⟨a, c, rfl, hm, h1, h2, h⟩; exact ⟨a, c, rfl, hm, h1, h2, h.frame hw⟩
 mono := by rintro w S S' x cs hS ⟨a, c, rfl, hm, h1, h2, h⟩; exact ⟨a, c, rfl, hm, h1, h2, h.mono hS⟩
section
variable {α : Type} {E F : Enc α} {w w' : World} {B : Nat} {v : Value} {l : List α} {e : TypeId} {S : Nat → Prop} {a : Option Addr}
theorem sliceC_weak {l : List α} {cs : List Value} (h : E.sliceC.R w S l cs) : E.slice.R w S l cs := by
 obtain ⟨a, c, rfl, hm, _, _, h⟩ := h
 exact ⟨a, c, rfl, hm, h⟩
theorem Sl.of (hsz : E.sz = F.sz) (hEF : ∀ {w : World} {S : Nat → Prop} {x : α} {cs : List Value}, E.R w S x cs → F.R w S x cs) (h : Sl E w S a l) : Sl F w S a l := by
 rcases h with h | ⟨b, off, rfl, hb, h⟩
 ·exact .inl h
 ·refine .inr ⟨b, off, rfl, hb, fun k x hx => ?_⟩
  obtain ⟨cs, hr, hc⟩ := h k x hx
  exact ⟨cs, hEF hr, by rw [← hsz]; exact hc⟩
/-- Own, with what its capacity is at most. -/
theorem Own.slm (h : Own E e w B v l) : ∃ a c, v = .slice a l.length c ∧ l.length ≤ c ∧ c ≤ maxLen ∧ Sl E w (fun b => B ≤ b ∧ b < w.heap.size) a l := by
 obtain ⟨a, c, rfl, hn, hs⟩ := h.slc
 refine ⟨a, c, rfl, hn, ?_, hs⟩
 obtain ⟨xs, h1, _⟩ := h
 rcases h1.2 with ⟨h2, h0⟩ | ⟨g, cap, cur, h2, _, _, _, hm, _⟩
 ·injection h2 with _ _ h2
  subst h2
  exact Nat.zero_le _
 ·injection h2 with _ _ h2
  subst h2
  exact hm
/-- What a row of the call's own is, as an element of another row. -/
theorem Own.asC (h : Own E e w B v l) (hl : l.length ≤ 16777216) : ∃ a c, v = .slice a l.length c ∧ l.length ≤ c ∧ c ≤ maxLen ∧ E.sliceC.R w (fun b => B ≤ b ∧ b < w.heap.size) l [.slice a l.length c] := by
 obtain ⟨a, c, rfl, h1, h2, hs⟩ := h.slm
 exact ⟨a, c, rfl, h1, h2, a, c, rfl, hl, h1, h2, hs⟩
/-- One cell of an element, stored anew. -/
theorem Own.setC {g c n : Nat} (h : Own E e w B (.slice (some ⟨g, 0, none⟩) n c) l) (k j : Nat) (hk : k < l.length) (hj : j < E.sz) {x : α} {u : Value}
  (hx : ∀ cs, E.R w (fun b => B ≤ b ∧ b < w.heap.size ∧ b ≠ g) l[k] cs → E.R w (fun b => B ≤ b ∧ b < w.heap.size ∧ b ≠ g) x (cs.set j u)) : Own E e (w.setCell ⟨g, k * E.sz + j, none⟩ u) B (.slice (some ⟨g, 0, none⟩) n c) (l.set k x) := by
 obtain ⟨xs, ho, hr⟩ := h
 have hn : n = l.length := by
  rcases ho.2 with ⟨h2, _⟩ | ⟨g', cap, cur, h2, _⟩
  ·cases h2
  ·injection h2
 subst hn
 have hst := (ho.stored (k * E.sz + j) u).1
 have hfr : ∀ b, (B ≤ b ∧ b < w.heap.size ∧ b ≠ g) → (w.setCell ⟨g, k * E.sz + j, none⟩ u).heap[b]? = w.heap[b]? := fun b hb => Below.heap_setCell _ _ _ _ (show b ≠ g from hb.2.2)
 have hsz : (w.setCell ⟨g, k * E.sz + j, none⟩ u).heap.size = w.heap.size := by simp [World.setCell]
 have hmo : ∀ b, (B ≤ b ∧ b < w.heap.size ∧ b ≠ g) → (B ≤ b ∧ b < (w.setCell ⟨g, k * E.sz + j, none⟩ u).heap.size ∧ some b ≠ (Value.slice (some ⟨g, 0, none⟩) l.length c).ownBlock) := fun b hb => ⟨hb.1, by rw [hsz]; exact hb.2.1, fun e => hb.2.2 (Option.some.inj e)⟩
 have hmi : ∀ b, (B ≤ b ∧ b < w.heap.size ∧ some b ≠ (Value.slice (some ⟨g, 0, none⟩) l.length c).ownBlock) → (B ≤ b ∧ b < w.heap.size ∧ b ≠ g) := fun b hb => ⟨hb.1, hb.2.1, fun e => hb.2.2 (by rw [e]; rfl)⟩
 refine ⟨xs.set (k * E.sz + j) u, by simpa using hst, fun i y hy => ?_⟩
 by_cases hi : i = k
 ·subst hi
  rw [List.getElem?_set_self hk] at hy
  injection hy with hy
  subst hy
  obtain ⟨cs, hrc, hc⟩ := hr i l[i] (List.getElem?_eq_getElem hk)
  refine ⟨cs.set j u, E.mono hmo (E.frame hfr (hx cs (E.mono hmi hrc))), fun m v hm => ?_⟩
  by_cases hmj : m = j
  ·subst hmj
   have hcj : m < cs.length := by rw [E.size hrc]; exact hj
   rw [List.getElem?_set_self hcj] at hm
   have := hc m _ (List.getElem?_eq_getElem hcj)
   rw [List.getElem?_set_self (List.getElem?_eq_some_iff.1 this).1]
   exact hm
  ·rw [List.getElem?_set_ne (Ne.symm hmj)] at hm
   rw [List.getElem?_set_ne (by omega)]
   exact hc m v hm
 ·rw [List.getElem?_set_ne (Ne.symm hi)] at hy
  obtain ⟨cs, hrc, hc⟩ := hr i y hy
  refine ⟨cs, E.mono hmo (E.frame hfr (E.mono hmi hrc)), fun m v hm => ?_⟩
  have hml : m < E.sz := by rw [← E.size hrc]; exact (List.getElem?_eq_some_iff.1 hm).1
  have hne : k * E.sz + j ≠ i * E.sz + m := by
   intro h
   rcases Nat.lt_or_ge i k with hik | hik
   ·have : (i + 1) * E.sz ≤ k * E.sz := Nat.mul_le_mul_right _ hik
    rw [Nat.add_mul, Nat.one_mul] at this
    omega
   ·have : (k + 1) * E.sz ≤ i * E.sz := Nat.mul_le_mul_right _ (by omega)
    rw [Nat.add_mul, Nat.one_mul] at this
    omega
  rw [List.getElem?_set_ne hne]
  exact hc m v hm
end
def ESegC : Enc Seg := (EI64.pair EU32.sliceC).map fun s => (s.kind, s.as)
theorem ESegC.weak {w : World} {S : Nat → Prop} {x : Seg} {cs : List Value} (h : ESegC.R w S x cs) : ESeg.R w S x cs := by
 obtain ⟨c, d, rfl, h1, h2⟩ := h
 exact ⟨c, _, rfl, h1, sliceC_weak h2⟩
section
variable {α : Type} {f : α → List Value} {P : α → Prop} {n : Nat} {hn : ∀ x, (f x).length = n} {h1 : ∀ x, ∀ u ∈ f x, u.oneCell' = true} {w w' : World} {B : Nat} {v : Value} {l : List α} {e : TypeId} {S : Nat → Prop} {a : Option Addr}
end
section
variable {α : Type} {f : α → Value} {P : α → Prop} {hf : ∀ x, (f x).oneCell' = true} {w w' : World} {B : Nat} {v : Value} {l : List α} {e : TypeId} {S : Nat → Prop} {a : Option Addr}
end
theorem EAtm_oneZ : ∀ x : Atm, ∀ u ∈ atmCs x, u.oneCell' = true := fun x u hu => by
 simp only [atmCs, List.mem_cons, List.not_mem_nil, or_false] at hu
 rcases hu with rfl | rfl <;> rfl
set_option maxRecDepth 20000 in
theorem okAtmZ : ElemOk Tryz.prog 73 75 EAtm.sz 16 := elemOk (z := .agg #[.int .i64 0, .int .u32 0]) Tryz.underlying73 (by kernel_rfl) rfl
theorem Own.only {α : Type} {E : Enc α} {e : TypeId} {w w' : World} {B : Nat} {v : Value} {l : List α} {g : Nat} (h : Own E e w B v l) (ho : OnlyAt g w w') (hg : g < B) : Own E e w' B v l :=
 h.kept (Nat.le_of_eq ho.size.symm) fun b hb _ => ho.block b (by omega)
theorem Own.formNe {α : Type} {E : Enc α} {e : TypeId} {w : World} {B : Nat} {v : Value} {l : List α} (h : Own E e w B v l) (hl : l ≠ []) : ∃ g c, v = .slice (some ⟨g, 0, none⟩) l.length c ∧ B ≤ g ∧ g < w.heap.size := by
 obtain ⟨xs, h1, _⟩ := h
 rcases h1.2 with ⟨_, h0⟩ | ⟨g, cap, cur, rfl, hb, hh, _⟩
 ·exact absurd (List.eq_nil_of_length_eq_zero h0) hl
 ·exact ⟨g, cap, rfl, hb, (Array.getElem?_eq_some_iff.1 hh).1⟩
theorem grown_cellZ (w : World) (g o : Nat) (u : Value) : w.grownBy (w.setCell ⟨g, o, none⟩ u) (some g) :=
 ⟨rfl, rfl, rfl, by simp [World.setCell], fun k _ hk => Below.heap_setCell _ _ _ _ (show k ≠ g from fun e => hk (by rw [e]))⟩
/-- An element of a row of slices, with its capacity. -/
theorem Own.atC {α : Type} {E : Enc α} {e : TypeId} {w : World} {B g n c : Nat} {l : List (List α)} (h : Own E.sliceC e w B (.slice (some ⟨g, 0, none⟩) n c) l) (k : Nat) (hk : k < l.length) :
  ∃ ak ck, w.cell? ⟨g, k, none⟩ = some (.slice ak l[k].length ck) ∧ w.frozen? ⟨g, k, none⟩ = false ∧ l[k].length ≤ 16777216 ∧ l[k].length ≤ ck ∧ ck ≤ maxLen ∧ Sl E w (fun b => B ≤ b ∧ b < w.heap.size ∧ b ≠ g) ak l[k] := by
 obtain ⟨xs, ho, hr⟩ := h
 obtain ⟨cs, ⟨ak, ck, rfl, hm, h1, h2, hs⟩, hc⟩ := hr k l[k] (List.getElem?_eq_getElem hk)
 have hn : n = l.length := by
  rcases ho.2 with ⟨h2, _⟩ | ⟨g', cap, cur, h2, _⟩
  ·cases h2
  ·injection h2
 subst hn
 have h0 := hc 0 _ rfl
 have hz : E.sliceC.sz = 1 := rfl
 rw [hz, Nat.mul_one, Nat.add_zero] at h0
 have h3 := ho.cells (g := g) rfl k _ h0
 rw [add_lit, Nat.zero_add] at h3
 exact ⟨ak, ck, h3, ho.frozenAt k, hm, h1, h2, hs.mono fun b hb => ⟨hb.1, hb.2.1, fun e => hb.2.2 (by rw [e]; rfl)⟩⟩
theorem maxLen_le {c : Nat} (h : c ≤ maxLen) : c ≤ 9223372036854775807 := by unfold maxLen at h; omega
end
section
open Go.RowKit Go.ChangeShapes Go.WideShapes Go.Deep
set_option linter.unusedVariables false
set_option linter.unusedSimpArgs false
section
variable {P : Program} {T : TypeId}
end
def ESetC : Enc StS := (EByt.pair (EI64.pair (EItm.sliceC.pair (EU32.sliceC.pair EAtm.slice.sliceC)))).map fun s => (s.name, s.kind, s.items, s.comms, s.paths)
structure SetCap (s : StS) (c1 c2 c3 : Nat) : Prop where
  h1 : s.items.length ≤ c1
  m1 : c1 ≤ 9223372036854775807
  h2 : s.comms.length ≤ c2
  m2 : c2 ≤ 9223372036854775807
  h3 : s.paths.length ≤ c3
  m3 : c3 ≤ 9223372036854775807
theorem ESetC.iff {w : World} {S : Nat → Prop} {s : StS} {cs : List Value} (h : ESetC.R w S s cs) : ∃ a1 c1 a2 c2 a3 c3, cs = setCs s a1 c1 a2 c2 a3 c3 ∧ SetIn w S s a1 a2 a3 ∧ SetCap s c1 c2 c3 := by
 obtain ⟨c, d, rfl, ⟨rfl, h1⟩, c, d, rfl, ⟨rfl, h2⟩, c, d, rfl, ⟨a1, c1, rfl, n1, u1, v1, s1⟩, c, d, rfl, ⟨a2, c2, rfl, n2, u2, v2, s2⟩, a3, c3, rfl, n3, u3, v3, s3⟩ := h
 exact ⟨a1, c1, a2, c2, a3, c3, rfl, ⟨h1, h2, n1, s1, n2, s2, n3, s3⟩, u1, maxLen_le v1, u2, maxLen_le v2, u3, maxLen_le v3⟩
theorem ESetC.weak {w : World} {S : Nat → Prop} {s : StS} {cs : List Value} (h : ESetC.R w S s cs) : ESet.R w S s cs := by
 obtain ⟨a1, c1, a2, c2, a3, c3, rfl, hi, _⟩ := ESetC.iff h
 exact ESet.iff.2 ⟨a1, c1, a2, c2, a3, c3, rfl, hi⟩
end
section
section
open Go.RowKit Go.ChangeShapes Go.WideShapes Go.Deep
set_option linter.unusedVariables false
set_option linter.unusedSimpArgs false
end
section
open Go.RowKit Go.ChangeShapes Go.WideShapes Go.Deep
set_option linter.unusedVariables false
set_option linter.unusedSimpArgs false
def ETermC : Enc TermS := (ECond.sliceC.pair EAct.sliceC).map fun t => (t.conds, t.acts)
end
section
open Go.RowKit Go.Sort
set_option linter.unusedVariables false
set_option linter.unusedSimpArgs false
theorem ETermC.at {w : World} {S : Nat → Prop} {a : Option Addr} {l : List TermS} (h : Sl ETermC w S a l) (k : Nat) (hk : k < l.length) :
    ∃ b off a1 c1 a2 c2, a = some ⟨b, off, none⟩ ∧ S b ∧ w.cell? ⟨b, off + k * 2, none⟩ = some (.slice a1 l[k].conds.length c1) ∧ w.cell? ⟨b, off + k * 2 + 1, none⟩ = some (.slice a2 l[k].acts.length c2) ∧
      l[k].conds.length ≤ 16777216 ∧ Sl ECond w S a1 l[k].conds ∧ l[k].acts.length ≤ 16777216 ∧ Sl EAct w S a2 l[k].acts ∧ l[k].conds.length ≤ c1 ∧ l[k].acts.length ≤ c2 := by
  obtain ⟨b, off, cs, rfl, hb, ⟨c, d, rfl, ⟨a1, c1, rfl, n1, u1, _, s1⟩, ⟨a2, c2, rfl, n2, u2, _, s2⟩⟩, hc⟩ := h.at k hk
  exact ⟨b, off, a1, c1, a2, c2, rfl, hb, hc 0 _ rfl, hc 1 _ rfl, n1, s1, n2, s2, u1, u2⟩
theorem ETermC.weak {w : World} {S : Nat → Prop} {x : TermS} {cs : List Value} (h : ETermC.R w S x cs) : ETerm.R w S x cs := by
 obtain ⟨c, d, rfl, h1, h2⟩ := h
 exact ⟨c, d, rfl, sliceC_weak h1, sliceC_weak h2⟩
theorem Sl.weakT {w : World} {S : Nat → Prop} {a : Option Addr} {l : List TermS} (h : Sl ETermC w S a l) : Sl ETerm w S a l := Sl.of (E := ETermC) (F := ETerm) rfl (fun h => ETermC.weak h) h
theorem okTermC : ElemOk Tryz.prog 33 25 ETermC.sz 48 := elemOk (z := .agg #[.slice none 0 0, .slice none 0 0]) Tryz.underlying33 (by kernel_rfl) rfl
end
section
open Go.RowKit Go.ChangeShapes Go.WideShapes Go.Deep
set_option linter.unusedVariables false
set_option linter.unusedSimpArgs false
end
end
section
open Go.RowKit Go.Sort
set_option linter.unusedVariables false
set_option linter.unusedSimpArgs false
theorem all_not {α : Type} (l : List α) (f : α → Bool) : (l.any fun x => !f x) = !l.all f := by
 induction l with
 | nil => rfl
 | cons x r ih => rw [List.any_cons, List.all_cons, ih]; cases f x <;> rfl
theorem empty_dec {α : Type} (l : List α) : l.isEmpty = !decide (0 < l.length) := by cases l <;> rfl
theorem setOk_cases (s : StS) : ∃ nm b1 b2 b3 c1 c3 bi bp co r : Bool, nameOk s.name = nm ∧ decide (0 < s.items.length) = b1 ∧ decide (0 < s.comms.length) = b2 ∧ decide (0 < s.paths.length) = b3 ∧ decide ((s.items.length : Int) ≤ 64) = c1 ∧ decide ((s.paths.length : Int) ≤ 64) = c3 ∧
  (s.items.any fun x => !decide (itmOk x)) = bi ∧ (s.paths.any fun x => !atmsOk x) = bp ∧ commsOk s.comms = co ∧ setOk s = r ∧
  ((s.kind = 1 ∧ (nm && ((!b2 && !b3) && (c1 && !bi))) = r) ∨ (s.kind = 2 ∧ (nm && ((!b1 && !b3) && co)) = r) ∨ (s.kind = 3 ∧ (nm && ((!b1 && !b2) && (c3 && !bp))) = r) ∨ ((s.kind == 1) = false ∧ (s.kind == 2) = false ∧ (s.kind == 3) = false ∧ false = r)) := by
 refine ⟨_, _, _, _, _, _, _, _, _, _, rfl, rfl, rfl, rfl, rfl, rfl, rfl, rfl, rfl, rfl, ?_⟩
 unfold setOk itmsOk pathsOk
 rw [all_not, all_not, empty_dec, empty_dec, empty_dec, Bool.not_not, Bool.not_not]
 rw [show decide ((s.items.length : Int) ≤ 64) = decide (s.items.length ≤ 64) from decide_eq_decide.2 (by omega), show decide ((s.paths.length : Int) ≤ 64) = decide (s.paths.length ≤ 64) from decide_eq_decide.2 (by omega)]
 by_cases h1 : s.kind = 1
 ·refine .inl ⟨h1, ?_⟩
  rw [if_pos h1]
  generalize nameOk s.name = a
  generalize decide (0 < s.comms.length) = b
  generalize decide (0 < s.paths.length) = c
  generalize decide (s.items.length ≤ 64) = d
  generalize (s.items.all fun x => decide (itmOk x)) = e
  revert a b c d e
  decide
 ·rw [if_neg h1]
  by_cases h2 : s.kind = 2
  ·refine .inr (.inl ⟨h2, ?_⟩)
   rw [if_pos h2]
   generalize nameOk s.name = a
   generalize decide (0 < s.items.length) = b
   generalize decide (0 < s.paths.length) = c
   generalize commsOk s.comms = d
   revert a b c d
   decide
  ·rw [if_neg h2]
   by_cases h3 : s.kind = 3
   ·refine .inr (.inr (.inl ⟨h3, ?_⟩))
    rw [if_pos h3]
    generalize nameOk s.name = a
    generalize decide (0 < s.items.length) = b
    generalize decide (0 < s.comms.length) = c
    generalize decide (s.paths.length ≤ 64) = d
    generalize (s.paths.all fun x => atmsOk x) = e
    revert a b c d e
    decide
   ·rw [if_neg h3, Bool.and_false]
    exact .inr (.inr (.inr ⟨beq_eq_false_iff_ne.2 h1, beq_eq_false_iff_ne.2 h2, beq_eq_false_iff_ne.2 h3, rfl⟩))
set_option maxRecDepth 20000 in
set_option maxHeartbeats 8000000 in
theorem SCheck_any (s : StS) (a1 : Option Addr) (c1 : Nat) (a2 : Option Addr) (c2 : Nat) (a3 : Option Addr) (c3 : Nat) (w : World) (hs : SetIn w (· < w.heap.size) s a1 a2 a3) :
    Calls Tryz.prog 68 #[.agg #[.string ⟨s.name.toArray⟩, .int .i64 s.kind, .slice a1 s.items.length c1, .slice a2 s.comms.length c2, .slice a3 s.paths.length c3]] w fun e w' => e = .returned (.int .i64 (errOf (setOk s))) ∧ Ext w w' := by
  have mixed : Tryz.prog.follows Departure.mixedOrders = true := by kernel_rfl
  obtain ⟨nm, b1, b2, b3, d1, d3, bi, bp, co, r, e0, e1, e2, e3, f1, f3, ei, ep, ec, er, hcs⟩ := setOk_cases s
  have qn := fun W => Named_any s.name W
  rw [e0] at qn
  have qi := fun W (h : Ext w W) => HasItm_any 115 #[] (fun _ _ => rfl) (fun x => !decide (itmOk x)) a1 c1 s.items W hs.nItems (hs.items.ext h) (fun x _ hx W _ => Check1_any x hx.p.addr W)
  rw [ei] at qi
  have qp := fun W (h : Ext w W) => HasPat_any 119 #[] (fun _ _ => rfl) (fun x => !atmsOk x) a3 c3 s.paths W hs.nPaths (hs.paths.ext h) (fun x _ W b d _ hl hx => Check2_any b d x W hl hx)
  rw [ep] at qp
  have qc := fun W (h : Ext w W) => Encode_any a2 c2 s.comms W hs.nComms (hs.comms.ext h)
  rw [ec] at qc
  rw [er]
  clear hs e0 ei ep ec er
  obtain ⟨nm0, kd, items, comms, paths⟩ := s
  dsimp only at *
  generalize items.length = n1 at *
  generalize comms.length = n2 at *
  generalize paths.length = n3 at *
  replace qn := hide qn
  replace qi := hide qi
  replace qp := hide qp
  replace qc := hide qc
  replace hcs := hide hcs
  go_enter Tryz.func68, Tryz.ntmps68
  have S := Blk.new w 67 #[.string ⟨nm0.toArray⟩, .int .i64 kd, .slice a1 n1 c1, .slice a2 n2 c2, .slice a3 n3 c3]
  have E := (Ext.refl w).alloc (Obj.cells #[.string ⟨nm0.toArray⟩, .int .i64 kd, .slice a1 n1 c1, .slice a2 n2 c2, .slice a3 n3 c3] 67)
  generalize hW0 : w.alloc (Obj.cells #[.string ⟨nm0.toArray⟩, .int .i64 kd, .slice a1 n1 c1, .slice a2 n2 c2, .slice a3 n3 c3] 67) = W0 at S E
  generalize hg0 : w.heap.size = g0 at S
  replace S := hide S
  replace E := hide E
  have S_0 : W0.cell? ⟨g0, 0, none⟩ = some (.string ⟨nm0.toArray⟩) := S.out.cell 0
  have S_1 : W0.cell? ⟨g0, 1, none⟩ = some (.int .i64 kd) := S.out.cell 1
  have S_2 : W0.cell? ⟨g0, 2, none⟩ = some (.slice a1 n1 c1) := S.out.cell 2
  have S_3 : W0.cell? ⟨g0, 3, none⟩ = some (.slice a2 n2 c2) := S.out.cell 3
  have S_4 : W0.cell? ⟨g0, 4, none⟩ = some (.slice a3 n3 c3) := S.out.cell 4
  cases b1 <;> cases b2 <;> cases b3 <;> (
    go_wp2_with fail
    refine (qn.out _).mono ?_
    rintro e W1 ⟨rfl, he_⟩
    clear S_0 S_1 S_2 S_3 S_4
    replace E := hide (E.out.trans he_)
    replace S := hide (S.out.ext he_)
    clear he_
    have S_0 : W1.cell? ⟨g0, 0, none⟩ = some (.string ⟨nm0.toArray⟩) := S.out.cell 0
    have S_1 : W1.cell? ⟨g0, 1, none⟩ = some (.int .i64 kd) := S.out.cell 1
    have S_2 : W1.cell? ⟨g0, 2, none⟩ = some (.slice a1 n1 c1) := S.out.cell 2
    have S_3 : W1.cell? ⟨g0, 3, none⟩ = some (.slice a2 n2 c2) := S.out.cell 3
    have S_4 : W1.cell? ⟨g0, 4, none⟩ = some (.slice a3 n3 c3) := S.out.cell 4
    clear hW0 hg0
    rcases hcs.out with ⟨rfl, hr⟩ | ⟨rfl, hr⟩ | ⟨rfl, hr⟩ | ⟨k1, k2, k3, hr⟩
    · subst hr
      clear hcs qp qc
      cases nm <;> first
        | (go_wp2; go_ret; exact ⟨rfl, E.out⟩)
        | (cases d1 <;> first
          | (go_wp2; go_ret; exact ⟨rfl, E.out⟩)
          | (cases bi <;> (go_wp2_with (go_at_call 114; refine (qi.out _ E.out).mono ?_; rintro e W2 ⟨rfl, he2⟩; replace E := hide (E.out.trans he2)); go_ret; exact ⟨rfl, E.out⟩)))
    · subst hr
      clear hcs qp qi
      cases co <;> (
        have qc' := qc.out
        simp only [show errOf true = 0 from rfl, show errOf false = 2 from rfl] at qc'
        clear qc
        replace qc' := hide qc'
        cases nm <;> (go_wp2_with (go_at_call 117; refine (qc'.out _ E.out).mono ?_; rintro e W2 ⟨⟨t, rfl⟩, he2⟩; replace E := hide (E.out.trans he2)); go_ret; exact ⟨rfl, E.out⟩))
    · subst hr
      clear hcs qi qc
      cases nm <;> first
        | (go_wp2; go_ret; exact ⟨rfl, E.out⟩)
        | (cases d3 <;> first
          | (go_wp2; go_ret; exact ⟨rfl, E.out⟩)
          | (cases bp <;> (go_wp2_with (go_at_call 118; refine (qp.out _ E.out).mono ?_; rintro e W2 ⟨rfl, he2⟩; replace E := hide (E.out.trans he2)); go_ret; exact ⟨rfl, E.out⟩)))
    · subst hr
      clear hcs qi qc qp
      go_wp2
      go_ret
      exact ⟨rfl, E.out⟩)
end
end Go.Proofs.YtljibkfbldjgdaaGreatDoor
