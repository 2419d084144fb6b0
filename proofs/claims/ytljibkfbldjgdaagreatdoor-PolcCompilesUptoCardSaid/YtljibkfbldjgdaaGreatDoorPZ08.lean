/- Chapter 16, walks: the term of a text (polc.Term). Walks: chapter 16's example (works). Walks: may a set be (sets.Check). Chapter 16, walks: polc.Check's parts: all terms may be; what a policy needs. Chapter 16, walks: what a policy needs. Chapter 16: a map of the call's own from texts to numbers, by what it holds at each text; which kinds sets have, plain. Chapter 16, walks: polc.Check. -/
import Derived.Lib.SplitLaws
import Derived.Lib.ParseIntB
import Derived.Lib.ParseIntBCases
import Derived.Lib.ItoaNum
import Derived.Lib.Join
import Derived.WalkKit
import Derived.Below
import Derived.Outline
import Derived.LoopTactic
import Derived.Laws.OwnMore
import Derived.Deep.AppendLies
import Derived.Deep.Draws
import Derived.Lib.Hide
import Derived.BigQuiet
import Derived.Deep.QuietTactic
import Derived.WalkSpells
import Derived.WalkLawsBesides
import Derived.Deep.RegionHeld3
import Derived.Deep.DrawnRows
import Derived.Deep.RegionLaw
import Derived.Lib.ConvBytes
import Derived.Lib.Bytealg
import Derived.Lib.Small
import Derived.Test.YtljibkfbldjgdaaGreatDoorRows
import Derived.ProofKit
import Derived.Deep.Slices
import Derived.Shelf.GgClosure.StringsRunes
import Derived.Test.YtljibkfbldjgdaaGreatDoorProg
import Derived.Test.YtljibkfbldjgdaaGreatDoorShelf
import Derived.Orders
import Derived.StillTail
import Derived.Test.YtljibkfbldjgdaaGreatDoorShelf2
import Derived.Lib.UnsafeStr
import Derived.Shelf.RegionOpenPlain
import Derived.Laws.StructEq
import Derived.Lib.QuietBelow
import Derived.Lib.ItoaMem
import Derived.Lib.ItoaLen
import Derived.Deep.DeepCutAuto
import Derived.Defers
import Derived.Recover
import Derived.Maps.OwnSet
import Derived.Maps.Views
import Derived.Maps.Range
import Derived.DeepKeys5
import Derived.Deep.Cut
import Derived.Test.YtljibkfbldjgdaaGreatDoorPZ01
import Derived.Test.YtljibkfbldjgdaaGreatDoorPZ02
import Derived.Test.YtljibkfbldjgdaaGreatDoorPZ03
import Derived.Test.YtljibkfbldjgdaaGreatDoorPZ04
import Derived.Test.YtljibkfbldjgdaaGreatDoorPZ05
import Derived.Test.YtljibkfbldjgdaaGreatDoorPZ06
import Derived.Test.YtljibkfbldjgdaaGreatDoorPZ07
namespace Go.Proofs.YtljibkfbldjgdaaGreatDoor
section
section
open Go.RowKit
set_option linter.unusedVariables false
theorem spl_cnt (c : UInt8) (f : Nat) (s : List UInt8) (h : s.length ≤ f) : (spl c s).length ≤ s.length + 1 := by
 refine spl_ind (P := fun s => (spl c s).length ≤ s.length + 1) c (fun s hs => ?_) (fun a b ha ih => ?_) f s h
 ·rw [spl_no hs]; simp
 ·rw [spl_at ha]
  simp only [List.length_cons, List.length_append]
  omega
/-- What polc.Term answers. -/
def TeP (s : List UInt8) (w : World) (e : Ending) (w' : World) : Prop :=
 (match termO s with
  | some t => ∃ v1 v2, e = .returned (.tuple #[.agg #[v1, v2], .nilIface]) ∧ Own ECond 48 w' w.heap.size v1 t.conds ∧ Own EAct 51 w' w.heap.size v2 t.acts
  | none => ∃ f : Nat, e = .returned (.tuple #[.agg #[.slice none 0 0, .slice none 0 0], .iface 80 (.pointer (some ⟨f, 0, none⟩))]) ∧ w.heap.size ≤ f ∧ Blk w' f 84 #[.int .i64 9, .int .i64 0]) ∧ Ext w w'
theorem TeP.ok {s : List UInt8} {t : TermS} {w w' : World} {v1 v2 : Value} (h : termO s = some t) (o1 : Own ECond 48 w' w.heap.size v1 t.conds) (o2 : Own EAct 51 w' w.heap.size v2 t.acts) (he : Ext w w') : TeP s w (.returned (.tuple #[.agg #[v1, v2], .nilIface])) w' := by
 unfold TeP; rw [h]; exact ⟨⟨v1, v2, rfl, o1, o2⟩, he⟩
theorem TeP.no {s : List UInt8} {w w' : World} {f : Nat} (h : termO s = none) (hf : w.heap.size ≤ f) (hb : Blk w' f 84 #[.int .i64 9, .int .i64 0]) (he : Ext w w') : TeP s w (.returned (.tuple #[.agg #[.slice none 0 0, .slice none 0 0], .iface 80 (.pointer (some ⟨f, 0, none⟩))])) w' := by
 unfold TeP; rw [h]; exact ⟨⟨f, rfl, hf, hb⟩, he⟩
structure TmS (w W : World) (pt pe g B : Nat) (v1 v2 : Value) (l : List (List UInt8)) : Prop where
  E : Ext w W
  P : Blk W pt 25 #[v1, v2]
  Q : Blk W pe 39 #[.nilIface]
  L : WdL W g B l
set_option maxRecDepth 20000 in
set_option maxHeartbeats 2000000 in
theorem term_dies {Post : Ending → World → Prop} {a : Act} {w W : World} {pt pe : Nat} {v1 v2 : Value}
  (hd : a.defers = [{ target := .fn (.func 44) #[.pointer (some ⟨pt, 0, none⟩), .pointer (some ⟨pe, 0, none⟩)], args := #[] }])
  (h2 : a.tmps[2]? = some (.pointer (some ⟨pt, 0, none⟩))) (h3 : a.tmps[3]? = some (.pointer (some ⟨pe, 0, none⟩)))
  (E : Ext w W) (P : Blk W pt 25 #[v1, v2]) (Q : Blk W pe 39 #[.nilIface]) (hne : pt ≠ pe) (hpt : w.heap.size ≤ pt) (hpe : w.heap.size ≤ pe)
  (hp : ∀ W' f, Ext w W' → w.heap.size ≤ f → Blk W' f 84 #[.int .i64 9, .int .i64 0] → Post (.returned (.tuple #[.agg #[.slice none 0 0, .slice none 0 0], .iface 80 (.pointer (some ⟨f, 0, none⟩))])) W') :
  bodyPostD Tryz.prog Tryz.f19 Post (.panic noneP) a W := by
 show Leaves Tryz.prog Tryz.f19 a.tmps Post a.defers (.panicking noneP) W
 rw [hd]
 refine leaves_cons (f := 44) (args := #[.pointer (some ⟨pt, 0, none⟩), .pointer (some ⟨pe, 0, none⟩)]) (by simp) (by simp [go_sem]) ?_
 refine (catch_panicking pt pe v1 v2 .nilIface W P Q hne).mono ?_
 rintro e u' w'' ⟨rfl, rfl, hw⟩
 have F := (Blk.new (W.alloc (.cells #[] 93)) 84 #[.int .i64 9, .int .i64 0])
 have hs1 : (W.alloc (.cells #[] 93)).heap.size = W.heap.size + 1 := by simp
 rw [hs1] at F
 have P2 := (P.alloc (Obj.cells #[] 93)).alloc (Obj.cells #[.int .i64 9, .int .i64 0] 84)
 have Q2 := (Q.alloc (Obj.cells #[] 93)).alloc (Obj.cells #[.int .i64 9, .int .i64 0] 84)
 have E2 := (E.alloc (Obj.cells #[] 93)).alloc (Obj.cells #[.int .i64 9, .int .i64 0] 84)
 have hpl := P.lt
 have hql := Q.lt
 have hEs := E.size
 generalize (W.alloc (.cells #[] 93)).alloc (Obj.cells #[.int .i64 9, .int .i64 0] 84) = W2 at *
 have P3 : Blk _ pt 25 #[.slice none 0 0, .slice none 0 0] := ((P2.set_ 0 (.slice none 0 0)).set_ 1 (.slice none 0 0))
 have P4 := P3.far (p := ⟨pe, 0, none⟩) (show pt ≠ pe from hne) (.iface 80 (.pointer (some ⟨W.heap.size + 1, 0, none⟩)))
 have Q3 := ((Q2.far (p := ⟨pt, 0, none⟩) (show pe ≠ pt from Ne.symm hne) (.slice none 0 0)).far (p := ⟨pt, 1, none⟩) (show pe ≠ pt from Ne.symm hne) (.slice none 0 0))
 have Q4 : Blk _ pe 39 #[.iface 80 (.pointer (some ⟨W.heap.size + 1, 0, none⟩))] := Q3.set_ 0 (.iface 80 (.pointer (some ⟨W.heap.size + 1, 0, none⟩)))
 have F4 := ((F.far (p := ⟨pt, 0, none⟩) (show W.heap.size + 1 ≠ pt by omega) (.slice none 0 0)).far (p := ⟨pt, 1, none⟩) (show W.heap.size + 1 ≠ pt by omega) (.slice none 0 0)).far (p := ⟨pe, 0, none⟩) (show W.heap.size + 1 ≠ pe by omega) (.iface 80 (.pointer (some ⟨W.heap.size + 1, 0, none⟩)))
 have E4 := ((E2.setCell (p := ⟨pt, 0, none⟩) hpt (.slice none 0 0)).setCell (p := ⟨pt, 1, none⟩) hpt (.slice none 0 0)).setCell (p := ⟨pe, 0, none⟩) hpe (.iface 80 (.pointer (some ⟨W.heap.size + 1, 0, none⟩)))
 rw [← hw] at P4 Q4 F4 E4
 clear hw P2 P3 Q2 Q3 F E2
 have y0 : w''.cell? ⟨pt, 0, none⟩ = some (.slice none 0 0) := P4.cell 0
 have y1 : w''.cell? ⟨pt, 1, none⟩ = some (.slice none 0 0) := P4.cell 1
 have y2 : w''.cell? ⟨pe, 0, none⟩ = some (.iface 80 (.pointer (some ⟨W.heap.size + 1, 0, none⟩))) := Q4.cell 0
 have hq := hp w'' (W.heap.size + 1) E4 (by omega) F4
 simp [Leaves, settle, noneR, results, Tryz.results19, go_sem, h2, h3, y0, y1, y2, hq]
set_option maxRecDepth 20000 in
theorem term_returns {Post : Ending → World → Prop} {a : Act} {W : World} {pt pe : Nat} {v1 v2 : Value}
  (hd : a.defers = [{ target := .fn (.func 44) #[.pointer (some ⟨pt, 0, none⟩), .pointer (some ⟨pe, 0, none⟩)], args := #[] }])
  (h2 : a.tmps[2]? = some (.pointer (some ⟨pt, 0, none⟩))) (h3 : a.tmps[3]? = some (.pointer (some ⟨pe, 0, none⟩)))
  (P : Blk W pt 25 #[v1, v2]) (Q : Blk W pe 39 #[.nilIface]) (hp : Post (.returned (.tuple #[.agg #[v1, v2], .nilIface])) W) :
  bodyPostD Tryz.prog Tryz.f19 Post .ret a W := by
 show Leaves Tryz.prog Tryz.f19 a.tmps Post a.defers .returning W
 rw [hd]
 refine leaves_cons (f := 44) (args := #[.pointer (some ⟨pt, 0, none⟩), .pointer (some ⟨pe, 0, none⟩)]) (by simp) (by simp [go_sem]) ?_
 refine (catch_idle pt pe W).mono ?_
 rintro e u' w'' ⟨rfl, rfl, rfl⟩
 have y0 : w''.cell? ⟨pt, 0, none⟩ = some v1 := P.cell 0
 have y1 : w''.cell? ⟨pt, 1, none⟩ = some v2 := P.cell 1
 have y2 : w''.cell? ⟨pe, 0, none⟩ = some .nilIface := Q.cell 0
 simp [Leaves, settle, results, Tryz.results19, go_sem, h2, h3, y0, y1, y2, hp]
theorem tmp_of_eval {a : Act} {t : Tmp} {p : Option Addr} (h : a.eval (.tmp t) = .pointer p) : a.tmps[t]? = some (.pointer p) := by
 cases hq : a.tmps[t]? with
 | none => simp [Act.eval, hq, undef] at h
 | some v => simp [Act.eval, hq] at h; rw [h]
def lenAt (w : World) (g : Nat) : Nat := match w.cell? ⟨g, 0, none⟩ with | some (.slice _ n _) => n | _ => 0
theorem WdL.lenAt {w : World} {g B : Nat} {l : List (List UInt8)} (h : WdL w g B l) : lenAt w g = l.length := by
 obtain ⟨n, lt, up, a, c, h1, h2, h3⟩ := h
 have := h1.cell 0
 unfold Go.Proofs.YtljibkfbldjgdaaGreatDoor.lenAt
 rw [this]
 rfl
theorem TmS.but {w W W' : World} {pt pe g B : Nat} {v1 v2 : Value} {l l' : List (List UInt8)} (h : TmS w W pt pe g B v1 v2 l) (hb : But g W W') (hl : WdL W' g B l') (h1 : pt ≠ g) (h2 : pe ≠ g) (hg : w.heap.size ≤ g) : TmS w W' pt pe g B v1 v2 l' :=
 ⟨But.ext h.E hb hg, hb.blk h.P h1, hb.blk h.Q h2, hl⟩
theorem TmS.draw {w W : World} {pt pe g B : Nat} {v1 v2 : Value} {l : List (List UInt8)} (h : TmS w W pt pe g B v1 v2 l) : TmS w W.drew pt pe g B v1 v2 l :=
 ⟨h.E.drew, h.P.drew, h.Q.drew, h.L.kept (Nat.le_refl _) fun _ _ => rfl⟩
/-- A row of words is not where slices lie. -/
theorem WdL.apart {w : World} {g B p : Nat} {T : TypeId} {a1 a2 : Option Addr} {n1 n2 c1 c2 : Nat} {l : List (List UInt8)} (h : WdL w g B l) (hp : p ≠ g) (P : Blk w p T #[.slice a1 n1 c1, .slice a2 n2 c2]) (i : Nat) (u : Value) : WdL (w.setCell ⟨p, i, none⟩ u) g B l := by
  obtain ⟨n, lt, up, a, c, h1, h2, h3⟩ := h
  refine ⟨n, lt, by simpa [World.setCell] using up, a, c, h1.far (p := ⟨p, i, none⟩) (show g ≠ p from Ne.symm hp) u, h2, ?_⟩
  rcases h3 with h3 | ⟨b, off, rfl, hb, hc⟩
  · exact .inl h3
  · cases l with
    | nil => exact .inl rfl
    | cons x r =>
      have hbp : b ≠ p := by
        rintro rfl
        obtain ⟨cs, ⟨rfl, _⟩, hcs⟩ := hc 0 x rfl
        have h0 := hcs 0 _ rfl
        have := P.cell (off + 0 * EByt.sz + 0)
        rw [this] at h0
        match off, h0 with
        | 0, h0 => simp [EByt, Enc.flat] at h0
        | 1, h0 => simp [EByt, Enc.flat] at h0
        | k + 2, h0 => simp [EByt, Enc.flat] at h0
      refine .inr ⟨b, off, rfl, hb, fun k y hy => ?_⟩
      obtain ⟨cs, hr, hcs⟩ := hc k y hy
      exact ⟨cs, hr, fun j v hv => (World.cell?_of_block (a := ⟨b, off + k * EByt.sz + j, none⟩) (Below.heap_setCell _ _ _ _ (show b ≠ p from hbp))).trans (hcs j v hv)⟩
theorem TmS.set1 {w W : World} {pt pe g B : Nat} {a1 a2 : Option Addr} {n1 n2 c1 c2 : Nat} {l : List (List UInt8)} (h : TmS w W pt pe g B (.slice a1 n1 c1) (.slice a2 n2 c2) l) (hw : w.heap.size ≤ pt) (h1 : pt ≠ pe) (h2 : pt ≠ g) (u : Value) : TmS w (W.setCell ⟨pt, 0, none⟩ u) pt pe g B u (.slice a2 n2 c2) l :=
 ⟨h.E.setCell hw u, h.P.set_ 0 u, h.Q.far (p := ⟨pt, 0, none⟩) (show pe ≠ pt from Ne.symm h1) u, h.L.apart h2 h.P 0 u⟩
theorem TmS.set2 {w W : World} {pt pe g B : Nat} {a1 a2 : Option Addr} {n1 n2 c1 c2 : Nat} {l : List (List UInt8)} (h : TmS w W pt pe g B (.slice a1 n1 c1) (.slice a2 n2 c2) l) (hw : w.heap.size ≤ pt) (h1 : pt ≠ pe) (h2 : pt ≠ g) (u : Value) : TmS w (W.setCell ⟨pt, 1, none⟩ u) pt pe g B (.slice a1 n1 c1) u l :=
 ⟨h.E.setCell hw u, h.P.set_ 1 u, h.Q.far (p := ⟨pt, 1, none⟩) (show pe ≠ pt from Ne.symm h1) u, h.L.apart h2 h.P 1 u⟩
theorem TmS.alloc {w W : World} {pt pe g B : Nat} {v1 v2 : Value} {l : List (List UInt8)} (h : TmS w W pt pe g B v1 v2 l) (o : Obj) : TmS w (W.alloc o) pt pe g B v1 v2 l :=
 ⟨h.E.alloc o, h.P.alloc o, h.Q.alloc o, h.L.alloc o⟩
theorem TmS.grown {w W W' : World} {pt pe g B : Nat} {v1 v2 v : Value} {l : List (List UInt8)} (h : TmS w W pt pe g B v1 v2 l) (hg : W.grownBy W' v.ownBlock) (h1 : pt < B) (h2 : pe < B) (hw : w.heap.size ≤ B) (hv : ∀ k, v.ownBlock = some k → B ≤ k) : TmS w W' pt pe g B v1 v2 l := by
 have hne : ∀ b, b < B → some b ≠ v.ownBlock := fun b hb e => by have := hv b e.symm; omega
 exact ⟨h.E.push (fun k hk => Nat.le_trans hw (hv k hk)) hg, h.P.grown hg (hne _ h1), h.Q.grown hg (hne _ h2), h.L.kept hg.size fun b hb => hg.block b (Nat.lt_of_lt_of_le hb h.L.up) (hne b hb)⟩
/-- The blocks from B on that were there are as they were. -/
structure Kp (W0 W : World) (B : Nat) : Prop where
  size : W0.heap.size ≤ W.heap.size
  block : ∀ b, B ≤ b → b < W0.heap.size → W.heap[b]? = W0.heap[b]?
theorem Kp.refl (W : World) (B : Nat) : Kp W W B := ⟨Nat.le_refl _, fun _ _ _ => rfl⟩
theorem Kp.drawn {W0 W : World} {B : Nat} (h : Kp W0 W B) : Kp W0 W.drew B := ⟨h.size, h.block⟩
theorem Kp.but {W0 W W' : World} {B g : Nat} (h : Kp W0 W B) (b : But g W W') (hg : g < B) : Kp W0 W' B :=
 ⟨Nat.le_trans h.size b.size, fun x h1 h2 => (b.block x (Nat.lt_of_lt_of_le h2 h.size) (by omega)).trans (h.block x h1 h2)⟩
theorem Kp.alloc {W0 W : World} {B : Nat} (h : Kp W0 W B) (o : Obj) : Kp W0 (W.alloc o) B :=
 ⟨by have := h.size; simp; omega, fun x h1 h2 => (Below.heap_alloc W o x (Nat.lt_of_lt_of_le h2 h.size)).trans (h.block x h1 h2)⟩
theorem Kp.set {W0 W : World} {B p : Nat} (h : Kp W0 W B) (hp : p < B) (i : Nat) (u : Value) : Kp W0 (W.setCell ⟨p, i, none⟩ u) B :=
 ⟨by simpa [World.setCell] using h.size, fun x h1 h2 => (Below.heap_setCell _ _ _ _ (show x ≠ p by omega)).trans (h.block x h1 h2)⟩
theorem Kp.grown {W0 W W' : World} {B : Nat} {v : Value} (h : Kp W0 W B) (hg : W.grownBy W' v.ownBlock) (hv : ∀ k, v.ownBlock = some k → W0.heap.size ≤ k) : Kp W0 W' B :=
 ⟨Nat.le_trans h.size hg.size, fun x h1 h2 => (hg.block x (Nat.lt_of_lt_of_le h2 h.size) (fun e => by have := hv x e.symm; omega)).trans (h.block x h1 h2)⟩
theorem okCond : ElemOk Tryz.prog 22 48 ECond.sz 40 := elemOk (z := .agg #[.int .i64 0, .bool false, .string ⟨#[]⟩, .int .i64 0]) Tryz.underlying22 (by kernel_rfl) rfl
theorem okAct : ElemOk Tryz.prog 23 51 EAct.sz 48 := elemOk (z := .agg #[.int .i64 0, .string ⟨#[]⟩, .int .u32 0, .string ⟨#[]⟩]) Tryz.underlying23 (by kernel_rfl) rfl
set_option maxRecDepth 20000 in
set_option maxHeartbeats 4000000 in
theorem PTerm_any (s : List UInt8) (hs : s.length ≤ 1048576) (w : World) (hT : Tab w) (hV : Vars w) (hD : Deb w) :
    Calls Tryz.prog 19 #[.string ⟨s.toArray⟩] w (TeP s w) := by
  have mixed : Tryz.prog.follows Departure.mixedOrders = true := by kernel_rfl
  have hmf : ∀ (fn : Fn) (first cap : Array Value) (w : World), (Instr.makeFunc fn first cap).run Tryz.prog w = .ok (.func fn first cap) w := fun _ _ _ _ => rfl
  have hok := fun t W v1 v2 h o1 o2 he => TeP.ok (s := s) (t := t) (w := w) (w' := W) (v1 := v1) (v2 := v2) h o1 o2 he
  have hno : ∀ (h : readT (spl 32 s) = none) (W : World) (f : Nat), Ext w W → w.heap.size ≤ f → Blk W f 84 #[.int .i64 9, .int .i64 0] → TeP s w (.returned (.tuple #[.agg #[.slice none 0 0, .slice none 0 0], .iface 80 (.pointer (some ⟨f, 0, none⟩))])) W := fun h W f he hf hb => TeP.no (termO_none h) hf hb he
  have hne : ∀ t, readT (spl 32 s) = some t → ¬ termT t = (s, 0) → ∀ (W : World) (f : Nat), Ext w W → w.heap.size ≤ f → Blk W f 84 #[.int .i64 9, .int .i64 0] → TeP s w (.returned (.tuple #[.agg #[.slice none 0 0, .slice none 0 0], .iface 80 (.pointer (some ⟨f, 0, none⟩))])) W := fun t h hn W f he hf hb => TeP.no (by rw [termO_one h, if_neg hn]) hf hb he
  have hyes : ∀ t, readT (spl 32 s) = some t → termT t = (s, 0) → termO s = some t := fun t h hn => by rw [termO_one h, if_pos hn]
  generalize TeP s w = Post at *
  have hcnt := spl_cnt 32 s.length s (Nat.le_refl _)
  have hwl : ∀ y ∈ spl 32 s, y.length ≤ 1048576 := fun y hy => Nat.le_trans (spl_len 32 s y hy) hs
  have hnil := spl_ne 32 s
  have P := (Blk.new w 25 #[.slice none 0 0, .slice none 0 0]).alloc (Obj.cells #[.nilIface] 39)
  have Q : Blk ((w.alloc (Obj.cells #[.slice none 0 0, .slice none 0 0] 25)).alloc (Obj.cells #[.nilIface] 39)) (w.heap.size + 1) 39 #[.nilIface] := by
    have := Blk.new (w.alloc (Obj.cells #[.slice none 0 0, .slice none 0 0] 25)) 39 #[.nilIface]
    simpa using this
  have E := ((Ext.refl w).alloc (Obj.cells #[.slice none 0 0, .slice none 0 0] 25)).alloc (Obj.cells #[.nilIface] 39)
  generalize hW1 : (w.alloc (Obj.cells #[.slice none 0 0, .slice none 0 0] 25)).alloc (Obj.cells #[.nilIface] 39) = W1 at P Q E
  have qs := Split_any s 32 W1 (hV.ext E) hs
  generalize spl 32 s = S at *
  obtain ⟨x, r, rfl⟩ := List.exists_cons_of_ne_nil hnil
  clear hnil
  have hsz1 : w.heap.size + 2 = W1.heap.size := by rw [← hW1]; simp
  replace hok := hide hok
  replace hno := hide hno
  replace hne := hide hne
  replace hyes := hide hyes
  replace hT := hide hT
  replace hV := hide hV
  replace hD := hide hD
  replace P := hide P
  replace Q := hide Q
  replace E := hide E
  replace qs := hide qs
  replace hwl := hide hwl
  replace hcnt := hide hcnt
  replace hsz1 := hide hsz1
  go_enter_defers Tryz.func19, Tryz.ntmps19
  go_wp2_with fail
  clear hW1
  (with_reducible refine qs.out.mono ?_)
  rintro e W2 ⟨d, hd, rfl, he, hc⟩
  clear qs
  have hd' : r.length + 1 ≤ d := hd
  have hr1 : W1.heap.size < W2.heap.size := World.block_lt_of_cell? W2 _ (hc 0 (by simp))
  have K := Blk.new W2 79 #[.slice (some ⟨W1.heap.size, 0, none⟩) (r.length + 1) d]
  have P3 := (P.out.ext he).alloc (Obj.cells #[.slice (some ⟨W1.heap.size, 0, none⟩) (r.length + 1) d] 79)
  have Q3 := (Q.out.ext he).alloc (Obj.cells #[.slice (some ⟨W1.heap.size, 0, none⟩) (r.length + 1) d] 79)
  have E3 := (E.out.trans he).alloc (Obj.cells #[.slice (some ⟨W1.heap.size, 0, none⟩) (r.length + 1) d] 79)
  have L3 : WdL (W2.alloc (Obj.cells #[.slice (some ⟨W1.heap.size, 0, none⟩) (r.length + 1) d] 79)) W2.heap.size (W2.heap.size + 1) (x :: r) := by
    refine ⟨by have := hcnt.out; omega, by omega, by simp, _, _, K, hd, .inr ⟨W1.heap.size, 0, rfl, ⟨by omega, by omega⟩, fun k y hy => ⟨[.string ⟨y.toArray⟩], ⟨rfl, hwl.out y (List.mem_of_getElem? hy)⟩, fun j u hu => ?_⟩⟩⟩
    have hk : k < (x :: r).length := (List.getElem?_eq_some_iff.1 hy).1
    have hyk : (x :: r)[k] = y := (List.getElem?_eq_some_iff.1 hy).2
    match j, hu with
    | 0, hu =>
      obtain rfl : Value.string ⟨y.toArray⟩ = u := by simpa using hu
      have := ((Ext.refl W2).alloc (Obj.cells #[.slice (some ⟨W1.heap.size, 0, none⟩) (r.length + 1) d] 79)).cell (hc k hk)
      rw [hyk] at this
      simpa [EByt, Enc.flat] using this
  generalize hW3 : W2.alloc (Obj.cells #[.slice (some ⟨W1.heap.size, 0, none⟩) (r.length + 1) d] 79) = W3 at P3 Q3 E3 L3
  have M : TmS w W3 w.heap.size (w.heap.size + 1) W2.heap.size (W2.heap.size + 1) (.slice none 0 0) (.slice none 0 0) (x :: r) := ⟨E3, P3, Q3, L3⟩
  have hpg : w.heap.size + 2 < W2.heap.size := by have := hsz1.out; omega
  generalize hg : W2.heap.size = g at M hpg
  have hN : r.length ≤ 1048577 := by have := hcnt.out; simp at this; omega
  clear K P3 Q3 E3 L3 hd hr1 P Q E hc he hcnt hsz1
  replace M := hide M
  go_wp2_with fail
  clear hW3 hg hd'
  refine (next_some g x r _ _ M.out.L).mono ?_
  rintro e W4 ⟨rfl, hb, hL⟩
  replace M := hide (M.out.but hb hL (by omega) (by omega) (by omega))
  clear hb hL
  generalize hpt : w.heap.size = pt at *
  have hpw : (∀ (W : World) (f : Nat), Ext w W → pt ≤ f → Blk W f 84 #[.int .i64 9, .int .i64 0] → Post (.returned (.tuple #[.agg #[.slice none 0 0, .slice none 0 0], .iface 80 (.pointer (some ⟨f, 0, none⟩))])) W) → ∀ (W : World) (v1' v2' : Value) (a : Act), a.defers = [{ target := .fn (.func 44) #[.pointer (some ⟨pt, 0, none⟩), .pointer (some ⟨pt + 1, 0, none⟩)], args := #[] }] → a.tmps[2]? = some (.pointer (some ⟨pt, 0, none⟩)) → a.tmps[3]? = some (.pointer (some ⟨pt + 1, 0, none⟩)) → Ext w W → Blk W pt 25 #[v1', v2'] → Blk W (pt + 1) 39 #[.nilIface] → bodyPostD Tryz.prog Tryz.f19 Post (.panic noneP) a W :=
    fun hbad W v1' v2' a h1 h2 h3 hE hP hQ => term_dies h1 h2 h3 hE hP hQ (by omega) (by omega) (by omega) fun W' f he hf hb => hbad W' f he (by omega) hb
  replace hpw := hide hpw
  go_upto_if 16 with fail
  go_cut [6] from 9 to 72 (fun s6 wx => ∃ (v : List UInt8) (cs : List CondS) (v1 : Value) (q : List (List UInt8)), s6 = .string ⟨v.toArray⟩ ∧ TmS w wx pt (pt + 1) g (g + 1) v1 (.slice none 0 0) q ∧ Own ECond 48 wx (g + 1) v1 cs ∧
    (v = [116, 104, 101, 110] → readT (x :: r) = (rAs q).map fun l => ⟨cs, l⟩) ∧ (v ≠ [116, 104, 101, 110] → readT (x :: r) = none) ∧ (∀ y ∈ q, y ∈ x :: r) ∧ cs.length + q.length ≤ r.length)
  case first =>
    by_cases hif : x = [105, 102]
    · subst hif
      go_wp2_with fail
      go_loopw [6] (fun s6 wx => ∃ (v : List UInt8) (cs : List CondS) (v1 : Value) (q : List (List UInt8)), s6 = .string ⟨v.toArray⟩ ∧ TmS w wx pt (pt + 1) g (g + 1) v1 (.slice none 0 0) q ∧ Own ECond 48 wx (g + 1) v1 cs ∧
        (readT ([105, 102] :: r) = (rCs v q).bind fun p => (rAs p.2).map fun l => ⟨cs ++ p.1, l⟩) ∧ (∀ y ∈ q, y ∈ [105, 102] :: r) ∧ cs.length + q.length ≤ r.length) (fun _ wx => lenAt wx g)
      case atStart => exact ⟨_, [], _, r, rfl, M.out, Own.nil, readT_if r, fun y hy => List.mem_cons_of_mem _ hy, by simp⟩
      case round =>
        clear M
        obtain ⟨v, cs, v1, q, rfl, M, O, hR, hmem, hlen⟩ := hrel
        rename World => wx
        have hlq : ∀ y ∈ q, y.length ≤ 1048576 := fun y hy => hwl.out y (hmem y hy)
        by_cases hv : v = [116, 104, 101, 110]
        · subst hv
          rw [rCs_then] at hR
          have hR2 : readT ([105, 102] :: r) = (rAs q).map fun l => ⟨cs, l⟩ := by rw [hR]; show Option.map _ _ = _; simp
          replace M := hide M
          replace O := hide O
          replace hR2 := hide hR2
          replace hmem := hide hmem
          replace hlq := hide hlq
          clear hR
          go_wp2_with fail
          go_meet
          case rel => exact ⟨_, cs, v1, q, rfl, M.out, O.out, fun _ => hR2.out, fun h => absurd rfl h, hmem.out, hlen⟩
        · have e1 : (v == [116, 104, 101, 110]) = false := beq_eq_false_iff_ne.2 hv
          have e2 : (v != [116, 104, 101, 110]) = true := by simpa using hv
          by_cases hc : v = [105, 102] ∨ v = [97, 110, 100]
          · have hcond := PCond_any g (g + 1) q w wx.drew hT.out hV.out M.E.drew (by omega) M.draw.L hlq
            rcases hrc : readC q with _ | ⟨c, q2⟩
            · have hRn : readT ([105, 102] :: r) = none := by rw [hR, rCs_none hv (.inl hrc)]; rfl
              rw [hrc] at hcond
              replace M := hide M
              replace hRn := hide hRn
              replace hcond := hide hcond
              clear hR hmem hlq hrc O
              rcases hc with rfl | rfl
              all_goals
                go_wp2_with fail
                (with_reducible refine (must_t _).mono ?_)
                rintro e w_ ⟨rfl, rfl⟩
                go_upto_region 8 with fail
                refine wp_region_apd mixed (by kernel_rfl) (by kernel_rfl) (by kernel_rfl) _ _ _ _ _ _ rfl (by kernel_rfl) 26 27 28 29 30 rfl ⟨by simp, by simp, by simp, by simp, by simp⟩ (by kernel_rfl) (.pointer (some ⟨pt, 0, none⟩)) v1 (.func (.func 46) #[] #[.pointer (some ⟨g, 0, none⟩)]) (fun _ _ => False) (fun _ => #[]) 48 (fun W => W.cell? ⟨pt, 0, none⟩ = some v1) ?_ ?_ ?_ ?_ ?_ ?_ ?_ ?_ ?_
                · intro a W A
                  have h : a.eval (.tmp 2) = .pointer (some ⟨pt, 0, none⟩) := A.out 2 (by kernel_rfl)
                  simp [Act.eval] at h
                  go_simp
                · intro a W h hO
                  simp [Act.eval] at h
                  go_simp
                · intro a W A
                  have h : a.eval (.tmp 5) = .func (.func 46) #[] #[.pointer (some ⟨g, 0, none⟩)] := A.out 5 (by kernel_rfl)
                  simp [Act.eval] at h
                  go_simp
                · intro a A h
                  refine wp_called 48 _ _ rfl Tryz.func48 (by kernel_rfl) (by kernel_rfl) #[.func (.func 46) #[] #[.pointer (some ⟨g, 0, none⟩)]] (by simp [h]) hcond.out ?_ ?_ ?_
                  · intro v' w' h9
                    have := h9.1
                    cases this
                  · intro ch w' h9
                    obtain ⟨h9, hb⟩ := h9
                    injection h9 with h9
                    subst h9
                    have M2 := M.out.draw
                    exact hpw.out (hno.out hRn.out) _ _ _ _ A.defers (tmp_of_eval (A.out 2 (by kernel_rfl))) (tmp_of_eval (A.out 3 (by kernel_rfl))) (But.ext M2.E hb (by omega)) (hb.blk M2.P (by omega)) (hb.blk M2.Q (by omega))
                  · intro w' h9
                    have := h9.1
                    cases this
                · intro a W v' _ hR
                  exact hR.elim
                · exact M.out.draw.P.cell 0
                · intro _ _ hR
                  exact hR.elim
                · intro _ _ hR
                  exact hR.elim
                · intro _ _ hR
                  exact hR.elim
            · have hq2 : ∀ y ∈ q2, y ∈ q := fun y hy => readC_mem hrc y hy
              have hlc := readC_len hrc
              rw [hrc] at hcond
              have hcin : CondIn c := readC_in hrc hlq
              have hR1 : q2 = [] → readT ([105, 102] :: r) = none := fun h => by rw [hR, rCs_none hv (.inr ⟨c, by rw [hrc, h]⟩)]; rfl
              have hR2 : ∀ v2 q3, q2 = v2 :: q3 → readT ([105, 102] :: r) = (rCs v2 q3).bind fun p => (rAs p.2).map fun l => ⟨(cs ++ [c]) ++ p.1, l⟩ := fun v2 q3 h => by
                rw [hR, rCs_some hv hc (by rw [hrc, h])]
                cases rCs v2 q3 with
                | none => rfl
                | some p => simp
              have hmem2 : ∀ y ∈ q2, y ∈ [105, 102] :: r := fun y hy => hmem y (hq2 y hy)
              have hlen2 : (cs ++ [c]).length + q2.length ≤ r.length + 1 := by simp; omega
              have hcsl : cs.length ≤ 1048577 := by omega
              have hO2 := O.draw
              replace M := hide M
              replace hcond := hide hcond
              replace hR1 := hide hR1
              replace hR2 := hide hR2
              replace hmem2 := hide hmem2
              replace hO2 := hide hO2
              clear hR hmem hlq hrc O hq2
              rcases hc with rfl | rfl
              all_goals
                go_wp2_with fail
                (with_reducible refine (must_t _).mono ?_)
                rintro e w_ ⟨rfl, rfl⟩
                go_upto_region 8 with fail
                refine wp_region_apd mixed (by kernel_rfl) (by kernel_rfl) (by kernel_rfl) _ _ _ _ _ _ rfl (by kernel_rfl) 26 27 28 29 30 rfl ⟨by simp, by simp, by simp, by simp, by simp⟩ (by kernel_rfl) (.pointer (some ⟨pt, 0, none⟩)) v1 (.func (.func 46) #[] #[.pointer (some ⟨g, 0, none⟩)]) (fun v W => v = .agg (condCs c).toArray ∧ TmS w W pt (pt + 1) g (g + 1) v1 (.slice none 0 0) q2 ∧ Own ECond 48 W (g + 1) v1 cs) (fun _ => (condCs c).toArray) 48 (fun W => W.cell? ⟨pt, 0, none⟩ = some v1) ?_ ?_ ?_ ?_ ?_ ?_ ?_ ?_ ?_
                · intro a W A
                  have h : a.eval (.tmp 2) = .pointer (some ⟨pt, 0, none⟩) := A.out 2 (by kernel_rfl)
                  simp [Act.eval] at h
                  go_simp
                · intro a W h hO
                  simp [Act.eval] at h
                  go_simp
                · intro a W A
                  have h : a.eval (.tmp 5) = .func (.func 46) #[] #[.pointer (some ⟨g, 0, none⟩)] := A.out 5 (by kernel_rfl)
                  simp [Act.eval] at h
                  go_simp
                · intro a A h
                  refine wp_called 48 _ _ rfl Tryz.func48 (by kernel_rfl) (by kernel_rfl) #[.func (.func 46) #[] #[.pointer (some ⟨g, 0, none⟩)]] (by simp [h]) hcond.out ?_ ?_ ?_
                  · intro v' w' h9
                    obtain ⟨⟨h9, hL9⟩, hb⟩ := h9
                    injection h9 with h9
                    subst h9
                    exact ⟨_, rfl, rfl, M.out.draw.but hb hL9 (by omega) (by omega) (by omega), hO2.out.kept hb.size fun b h1 h2 => hb.block b h2 (by omega)⟩
                  · intro ch w' h9
                    have := h9.1.1
                    cases this
                  · intro w' h9
                    have := h9.1.1
                    cases this
                · intro a W v' h hR
                  obtain ⟨rfl, _, _⟩ := hR
                  clear hcond hR1 hR2 hcin
                  obtain ⟨y0, y1, y2, y3⟩ := c
                  simp [Act.eval, condCs] at h
                  go_simp
                  simp [condCs]
                · exact M.out.draw.P.cell 0
                · intro _ _ hR
                  exact hR.2.1.P.cell 0
                · intro _ _ hR
                  exact (hR.2.1.P.alloc _).cell 0
                · rintro _ W ⟨rfl, M9, O9⟩
                  simp only [Act.put, List.setIfInBounds_toArray, List.set_cons_succ, List.set_cons_zero]
                  have hox := O9.alloc (Obj.cells (condCs c).toArray 48)
                  have hup := M9.L.up
                  have hM5 := M9.alloc (Obj.cells (condCs c).toArray 48)
                  refine wpList_push (E := ECond) rfl _ _ _ rfl okCond (by decide) (by decide) rfl hox (by omega) (by simp; omega) rfl (y := c) (cs := condCs c) ⟨rfl, hcin⟩ (cells_new W (condCs c).toArray 48) ?_
                  intro v' w5 hown1 hg5 hat5
                  obtain ⟨va5, vc5, rfl⟩ := hown1.form
                  have M5 := hM5.grown hg5 (by omega) (by omega) (by omega) (fun k hk => (hox.lt k hk).1)
                  clear hM5 hg5 hat5 O9 M9 hup
                  have p0 : w5.cell? ⟨pt, 0, none⟩ = some v1 := M5.P.cell 0
                  have pf := fun i => M5.P.frozen i
                  obtain ⟨va1, vc1, rfl⟩ := hox.form
                  have M6 := M5.set1 (by omega) (by omega) (by omega) (.slice va5 (cs ++ [c]).length vc5)
                  have O6 := hown1.kept (w' := w5.setCell ⟨pt, 0, none⟩ (.slice va5 (cs ++ [c]).length vc5)) (by simp [World.setCell]) fun b h1 h2 => Below.heap_setCell _ _ _ _ (show b ≠ pt by omega)
                  clear M5 hown1 hox
                  have hcl1 : (cs ++ [c]).length = cs.length + 1 := by simp
                  rw [hcl1] at M6 O6
                  replace M6 := hide M6
                  replace O6 := hide O6
                  go_wp2_with fail
                  clear p0 pf
                  generalize w5.setCell ⟨pt, 0, none⟩ (.slice va5 (cs.length + 1) vc5) = W6 at M6 O6 ⊢
                  rcases q2 with _ | ⟨v2, q3⟩
                  · refine (next_none g _ _ M6.out.L).mono ?_
                    rintro e W7 ⟨rfl, he7⟩
                    go_wp2
                    exact hpw.out (hno.out (hR1.out (by trivial))) _ _ _ _ rfl rfl rfl (M6.out.E.trans he7) (M6.out.P.ext he7) (M6.out.Q.ext he7)
                  · refine (next_some g v2 q3 _ _ M6.out.L).mono ?_
                    rintro e W7 ⟨rfl, hb7, hL7⟩
                    have M7 := hide (M6.out.but hb7 hL7 (by omega) (by omega) (by omega))
                    have O7 := hide (O6.out.kept hb7.size fun b h1 h2 => hb7.block b h2 (by omega))
                    clear hb7 hL7
                    go_wp2
                    go_roundw
                    case rel => (repeat apply Exists.intro); exact ⟨⟨v2, cs ++ [c], _, q3, rfl, M7.out, O7.out, hR2.out v2 q3 (by trivial), fun y hy => hmem2.out y (List.mem_cons_of_mem _ hy), by have h1 : (v2 :: q3).length = q3.length + 1 := rfl; rw [hcl1]; omega⟩, rfl⟩
                    case measure => rw [M7.out.L.lenAt, M.out.L.lenAt]; have h1 : (v2 :: q3).length = q3.length + 1 := rfl; omega
          · have f1 : (v == [105, 102]) = false := beq_eq_false_iff_ne.2 fun h => hc (.inl h)
            have f2 : (v == [97, 110, 100]) = false := beq_eq_false_iff_ne.2 fun h => hc (.inr h)
            have hRn : readT ([105, 102] :: r) = none := by rw [hR, rCs_bad q hv (fun h => hc (.inl h)) (fun h => hc (.inr h))]; rfl
            clear hc hv
            replace M := hide M
            replace hRn := hide hRn
            replace hR := hide hR
            replace hmem := hide hmem
            replace hlq := hide hlq
            go_wp2_with fail
            (with_reducible refine (must_f _).mono ?_)
            rintro e w_ ⟨rfl, rfl⟩
            go_wp2_with fail
            exact hpw.out (hno.out hRn.out) _ _ _ _ rfl rfl rfl M.out.E M.out.P M.out.Q
    · have e1 : (x == [105, 102]) = false := beq_eq_false_iff_ne.2 hif
      have hmem : ∀ y ∈ r, y ∈ x :: r := fun y hy => List.mem_cons_of_mem _ hy
      have h1 : x = [116, 104, 101, 110] → readT (x :: r) = (rAs r).map fun l => ⟨[], l⟩ := fun h => by rw [h]; exact readT_then r
      have h2 : x ≠ [116, 104, 101, 110] → readT (x :: r) = none := fun h => readT_bad r h hif
      replace h1 := hide h1
      replace h2 := hide h2
      replace hmem := hide hmem
      rw [e1]
      go_wp2_with fail
      go_meet
      case rel => exact ⟨x, [], _, r, rfl, M.out, Own.nil, h1.out, h2.out, hmem.out, by simp⟩
  case rest =>
    clear M
    obtain ⟨v, cs, v1, q, rfl, M, O, hR1, hR2, hmem, hql⟩ := hcut
    rename World => W9
    by_cases hv : v ≠ [116, 104, 101, 110]
    · have e1 : (v == [116, 104, 101, 110]) = false := beq_eq_false_iff_ne.2 hv
      have hRn := hR2 hv
      clear hv hR1 hR2 hmem
      replace M := hide M
      replace hRn := hide hRn
      replace O := hide O
      go_wp2_with fail
      (with_reducible refine (must_f _).mono ?_)
      rintro e w_ ⟨rfl, rfl⟩
      go_wp2_with fail
      exact hpw.out (hno.out hRn.out) _ _ _ _ rfl rfl rfl M.out.E M.out.P M.out.Q
    replace hv := Classical.not_not.1 hv
    subst hv
    have hR := hR1 rfl
    clear hR1 hR2
    have hK : Kp W9 W9 (g + 1) := Kp.refl _ _
    have hgC : g + 1 ≤ W9.heap.size := M.L.up
    have hO1 := hide O
    clear O
    have hlq : ∀ y ∈ q, y.length ≤ 1048576 := fun y hy => hwl.out y (hmem y hy)
    have hact := PAct_any g (g + 1) q w W9.drew hT.out hV.out hD.out M.E.drew (by omega) M.draw.L hlq
    rcases hrc : readA q with _ | ⟨a, q2⟩
    · have hRn : readT (x :: r) = none := by rw [hR, rAs_none hrc]; rfl
      rw [hrc] at hact
      replace M := hide M
      replace hRn := hide hRn
      replace hact := hide hact
      clear hR hmem hlq hrc hK
      go_wp2_with fail
      (with_reducible refine (must_t _).mono ?_)
      rintro e w_ ⟨rfl, rfl⟩
      go_upto_region 11 with fail
      refine wp_region_apd mixed (by kernel_rfl) (by kernel_rfl) (by kernel_rfl) _ _ _ _ _ _ rfl (by kernel_rfl) 38 39 40 41 42 rfl ⟨by simp, by simp, by simp, by simp, by simp⟩ (by kernel_rfl) (.pointer (some ⟨pt, 1, none⟩)) (.slice none 0 0) (.func (.func 46) #[] #[.pointer (some ⟨g, 0, none⟩)]) (fun _ _ => False) (fun _ => #[]) 51 (fun W => W.cell? ⟨pt, 1, none⟩ = some ((.slice none 0 0))) ?_ ?_ ?_ ?_ ?_ ?_ ?_ ?_ ?_
      · intro a W A
        have h : a.eval (.tmp 2) = .pointer (some ⟨pt, 0, none⟩) := A.out 2 (by kernel_rfl)
        simp [Act.eval] at h
        go_simp
      · intro a W h hO
        simp [Act.eval] at h
        go_simp
      · intro a W A
        have h : a.eval (.tmp 5) = .func (.func 46) #[] #[.pointer (some ⟨g, 0, none⟩)] := A.out 5 (by kernel_rfl)
        simp [Act.eval] at h
        go_simp
      · intro a A h
        refine wp_called 49 _ _ rfl Tryz.func49 (by kernel_rfl) (by kernel_rfl) #[.func (.func 46) #[] #[.pointer (some ⟨g, 0, none⟩)]] (by simp [h]) hact.out ?_ ?_ ?_
        · intro v' w' h9
          have := h9.1
          cases this
        · intro ch w' h9
          obtain ⟨h9, hb⟩ := h9
          injection h9 with h9
          subst h9
          have M2 := M.out.draw
          exact hpw.out (hno.out hRn.out) _ _ _ _ A.defers (tmp_of_eval (A.out 2 (by kernel_rfl))) (tmp_of_eval (A.out 3 (by kernel_rfl))) (But.ext M2.E hb (by omega)) (hb.blk M2.P (by omega)) (hb.blk M2.Q (by omega))
        · intro w' h9
          have := h9.1
          cases this
      · intro a W v' _ hR
        exact hR.elim
      · exact M.out.draw.P.cell 1
      · intro _ _ hR
        exact hR.elim
      · intro _ _ hR
        exact hR.elim
      · intro _ _ hR
        exact hR.elim
    have hain : ActIn a := readA_in hrc hlq
    have hlc := readA_len hrc
    have hq2 : ∀ y ∈ q2, y ∈ x :: r := fun y hy => hmem y (readA_mem hrc y hy)
    have hT2 : readT (x :: r) = (tailA q2).map fun l => ⟨cs, [a] ++ l⟩ := by
      rw [hR, rAs_some hrc]
      cases tailA q2 with
      | none => rfl
      | some p => rfl
    rw [hrc] at hact
    have hO2 : Own EAct 51 W9.drew W9.heap.size (.slice none 0 0) [] := Own.nil
    clear hR hmem hlq hrc
    replace M := hide M
    replace hact := hide hact
    replace hT2 := hide hT2
    replace hq2 := hide hq2
    replace hO2 := hide hO2
    replace hK := hide hK
    go_wp2_with fail
    (with_reducible refine (must_t _).mono ?_)
    rintro e w_ ⟨rfl, rfl⟩
    go_upto_region 11 with fail
    refine wp_region_apd mixed (by kernel_rfl) (by kernel_rfl) (by kernel_rfl) _ _ _ _ _ _ rfl (by kernel_rfl) 38 39 40 41 42 rfl ⟨by simp, by simp, by simp, by simp, by simp⟩ (by kernel_rfl) (.pointer (some ⟨pt, 1, none⟩)) (.slice none 0 0) (.func (.func 46) #[] #[.pointer (some ⟨g, 0, none⟩)]) (fun v W => v = .agg (actCs a).toArray ∧ TmS w W pt (pt + 1) g (g + 1) v1 (.slice none 0 0) q2 ∧ Own EAct 51 W W9.heap.size (.slice none 0 0) [] ∧ Kp W9 W (g + 1)) (fun _ => (actCs a).toArray) 51 (fun W => W.cell? ⟨pt, 1, none⟩ = some ((.slice none 0 0))) ?_ ?_ ?_ ?_ ?_ ?_ ?_ ?_ ?_
    · intro a W A
      have h : a.eval (.tmp 2) = .pointer (some ⟨pt, 0, none⟩) := A.out 2 (by kernel_rfl)
      simp [Act.eval] at h
      go_simp
    · intro a W h hO
      simp [Act.eval] at h
      go_simp
    · intro a W A
      have h : a.eval (.tmp 5) = .func (.func 46) #[] #[.pointer (some ⟨g, 0, none⟩)] := A.out 5 (by kernel_rfl)
      simp [Act.eval] at h
      go_simp
    · intro a A h
      refine wp_called 49 _ _ rfl Tryz.func49 (by kernel_rfl) (by kernel_rfl) #[.func (.func 46) #[] #[.pointer (some ⟨g, 0, none⟩)]] (by simp [h]) hact.out ?_ ?_ ?_
      · intro v' w' h9
        obtain ⟨⟨h9, hL9⟩, hb⟩ := h9
        injection h9 with h9
        subst h9
        exact ⟨_, rfl, rfl, M.out.draw.but hb hL9 (by omega) (by omega) (by omega), hO2.out.kept hb.size fun b h1 h2 => hb.block b h2 (by omega), hK.out.drawn.but hb (by omega)⟩
      · intro ch w' h9
        have := h9.1.1
        cases this
      · intro w' h9
        have := h9.1.1
        cases this
    · intro a' W v' h hR
      obtain ⟨rfl, _, _⟩ := hR
      clear hact hT2 hain
      obtain ⟨y0, y1, y2, y3⟩ := a
      simp [Act.eval, actCs] at h
      go_simp
      simp [actCs]
    · exact M.out.draw.P.cell 1
    · intro _ _ hR
      exact hR.2.1.P.cell 1
    · intro _ _ hR
      exact (hR.2.1.P.alloc _).cell 1
    · rintro _ W ⟨rfl, M9, O9, K9⟩
      simp only [Act.put, List.setIfInBounds_toArray, List.set_cons_succ, List.set_cons_zero]
      have hox := O9.alloc (Obj.cells (actCs a).toArray 51)
      have hup := M9.L.up
      have hKs := K9.size
      have hM5 := M9.alloc (Obj.cells (actCs a).toArray 51)
      have hK5 := K9.alloc (Obj.cells (actCs a).toArray 51)
      refine wpList_push (E := EAct) rfl _ _ _ rfl okAct (by decide) (by decide) rfl hox (by simp) (by simp; omega) rfl (y := a) (cs := actCs a) ⟨rfl, hain⟩ (cells_new W (actCs a).toArray 51) ?_
      intro v' w5 hown1 hg5 hat5
      obtain ⟨va5, vc5, rfl⟩ := hown1.form
      have M5 := hM5.grown hg5 (by omega) (by omega) (by omega) (fun k hk => Nat.le_trans hgC (hox.lt k hk).1)
      have K5 := hK5.grown hg5 (fun k hk => (hox.lt k hk).1)
      clear hM5 hK5 hg5 hat5 O9 K9 M9 hup hKs
      have p0 : w5.cell? ⟨pt, 1, none⟩ = some ((.slice none 0 0)) := M5.P.cell 1
      have pf := fun i => M5.P.frozen i
      obtain ⟨va1, vc1, hv1⟩ := hox.form
      obtain ⟨u1, u1c, hu1⟩ := hO1.out.form
      subst hu1
      have M6 := M5.set2 (by omega) (by omega) (by omega) (.slice va5 ([] ++ [a]).length vc5)
      have O6 := hown1.kept (w' := w5.setCell ⟨pt, 1, none⟩ (.slice va5 ([] ++ [a]).length vc5)) (by simp [World.setCell]) fun b h1 h2 => Below.heap_setCell _ _ _ _ (show b ≠ pt by omega)
      have K6 := K5.set (p := pt) (by omega) 1 (.slice va5 ([] ++ [a]).length vc5)
      clear M5 K5 hown1 hox hv1
      replace M6 := hide M6
      replace O6 := hide O6
      replace K6 := hide K6
      go_wp2_with fail
      clear p0 pf
      go_loopw [45] (fun _ wx => ∃ (al : List ActS) (v2 : Value) (q : List (List UInt8)), TmS w wx pt (pt + 1) g (g + 1) (.slice u1 cs.length u1c) v2 q ∧ Own EAct 51 wx W9.heap.size v2 al ∧ Kp W9 wx (g + 1) ∧ (readT (x :: r) = (tailA q).map fun l => ⟨cs, al ++ l⟩) ∧ (∀ y ∈ q, y ∈ x :: r) ∧ al.length + q.length ≤ r.length + 1) (fun _ wx => lenAt wx g)
      case atStart => exact ⟨[] ++ [a], _, q2, M6.out, O6.out, K6.out, hT2.out, hq2.out, by simp; omega⟩
      case round =>
        clear M6 O6 K6 hT2 hq2 hain hlc hact hO2 M hK
        obtain ⟨al, v2, q, M, O, K, hT3, hmem, hlen⟩ := hrel
        rename World => wx
        obtain ⟨b2, b2c, rfl⟩ := O.form
        obtain ⟨aw, cw, hc0⟩ : ∃ aw cw, wx.cell? ⟨g, 0, none⟩ = some (.slice aw q.length cw) := by
          obtain ⟨n, lt, up, a, c, h1, h2, h3⟩ := M.L
          exact ⟨a, c, h1.cell 0⟩
        rcases q with _ | ⟨wd, q⟩
        · have hRt : readT (x :: r) = some ⟨cs, al⟩ := by rw [hT3]; simp [tailA]
          have O1x := hO1.out.kept K.size fun b h1 h2 => K.block b h1 h2
          obtain ⟨e1, e2, hv1, hcc1, hs1⟩ := O1x.slc
          injection hv1 with k1 _ k3
          subst k1 k3
          obtain ⟨e1, e2, hv2, hcc2, hs2⟩ := O.slc
          injection hv2 with k1 _ k3
          subst k1 k3
          have qtt := PTermText_any u1 u1c b2 b2c ⟨cs, al⟩ wx (by show cs.length ≤ _; omega) (by show al.length ≤ _; omega) hcc2 (hs1.mono fun b hb => hb.2) (hs2.mono fun b hb => hb.2) (hT.out.ext M.E) (hD.out.ext M.E)
          dsimp only at qtt
          have hc1 : wx.cell? ⟨g, 0, none⟩ = some (.slice aw 0 cw) := hc0
          have p0 : wx.cell? ⟨pt, 0, none⟩ = some (.slice u1 cs.length u1c) := M.P.cell 0
          have p1 : wx.cell? ⟨pt, 1, none⟩ = some (.slice b2 al.length b2c) := M.P.cell 1
          have hCg : g + 1 ≤ W9.heap.size := hgC
          clear hc0 hs1 hs2 hcc1 hcc2 hT3 hmem
          replace qtt := hide qtt
          replace M := hide M
          replace O := hide O
          replace O1x := hide O1x
          replace hRt := hide hRt
          replace K := hide K
          go_wp2_with fail
          (with_reducible refine qtt.out.mono ?_)
          rintro e W5 ⟨rfl, he5⟩
          clear hc1 p0 p1 qtt
          have E5 := hide (M.out.E.trans he5)
          have P5 := hide (M.out.P.ext he5)
          have Q5 := hide (M.out.Q.ext he5)
          have O5 := hide (O.out.ext he5)
          have N5 := hide (O1x.out.ext he5)
          clear he5 M O O1x K
          by_cases hyn : termT ⟨cs, al⟩ = (s, 0)
          · have hto := hide (hyes.out _ hRt.out hyn)
            rw [hyn]
            clear hyn
            go_wp2_with fail
            (with_reducible refine (must_t _).mono ?_)
            rintro e w_ ⟨rfl, rfl⟩
            have p0 : W5.cell? ⟨pt, 0, none⟩ = some (.slice u1 cs.length u1c) := P5.out.cell 0
            have p1 : W5.cell? ⟨pt, 1, none⟩ = some (.slice b2 al.length b2c) := P5.out.cell 1
            have p2 : W5.cell? ⟨pt + 1, 0, none⟩ = some .nilIface := Q5.out.cell 0
            have pf := fun i => P5.out.frozen i
            have qf := fun i => Q5.out.frozen i
            go_wp2_with fail
            have P6 := ((P5.out.set_ 0 (.slice u1 cs.length u1c)).set_ 1 (.slice b2 al.length b2c)).far (p := ⟨pt + 1, 0, none⟩) (show pt ≠ pt + 1 by omega) .nilIface
            have Q6 := ((Q5.out.far (p := ⟨pt, 0, none⟩) (show pt + 1 ≠ pt by omega) (.slice u1 cs.length u1c)).far (p := ⟨pt, 1, none⟩) (show pt + 1 ≠ pt by omega) (.slice b2 al.length b2c)).set_ 0 .nilIface
            have hkp : ∀ b, pt + 1 < b → (((W5.setCell ⟨pt, 0, none⟩ (.slice u1 cs.length u1c)).setCell ⟨pt, 1, none⟩ (.slice b2 al.length b2c)).setCell ⟨pt + 1, 0, none⟩ .nilIface).heap[b]? = W5.heap[b]? := fun b hb => ((Below.heap_setCell _ _ _ _ (show b ≠ pt + 1 by omega)).trans (Below.heap_setCell _ _ _ _ (show b ≠ pt by omega))).trans (Below.heap_setCell _ _ _ _ (show b ≠ pt by omega))
            have hsz6 : (((W5.setCell ⟨pt, 0, none⟩ (.slice u1 cs.length u1c)).setCell ⟨pt, 1, none⟩ (.slice b2 al.length b2c)).setCell ⟨pt + 1, 0, none⟩ .nilIface).heap.size = W5.heap.size := by simp [World.setCell]
            have E6 := ((E5.out.setCell (p := ⟨pt, 0, none⟩) (show w.heap.size ≤ pt by omega) (.slice u1 cs.length u1c)).setCell (p := ⟨pt, 1, none⟩) (show w.heap.size ≤ pt by omega) (.slice b2 al.length b2c)).setCell (p := ⟨pt + 1, 0, none⟩) (show w.heap.size ≤ pt + 1 by omega) .nilIface
            have O6 := (O5.out.kept (Nat.le_of_eq hsz6.symm) fun b h1 _ => hkp b (by omega)).low (show w.heap.size ≤ W9.heap.size by omega)
            have N6 := (N5.out.kept (Nat.le_of_eq hsz6.symm) fun b h1 _ => hkp b (by omega)).low (show w.heap.size ≤ g + 1 by omega)
            rw [hpt] at O6 N6
            exact term_returns rfl rfl rfl P6 Q6 (hok.out _ _ _ _ hto.out N6 O6 E6)
          · have hbad := hide (hne.out _ hRt.out hyn)
            by_cases hok2 : termOk ⟨cs, al⟩ = true
            · have htx : termT ⟨cs, al⟩ = (termW ⟨cs, al⟩, 0) := if_pos hok2
              have hnt : ¬ termW ⟨cs, al⟩ = s := fun h => hyn (by rw [htx, h])
              rw [htx]
              generalize termW ⟨cs, al⟩ = tx at *
              have e1 : (tx == s) = false := beq_eq_false_iff_ne.2 hnt
              clear hyn hok2 htx hnt
              go_wp2_with fail
              (with_reducible refine (must_f _).mono ?_)
              rintro e w_ ⟨rfl, rfl⟩
              go_wp2_with fail
              exact hpw.out hbad.out _ _ _ _ rfl rfl rfl E5.out P5.out Q5.out
            · have htx : termT ⟨cs, al⟩ = ([], 2) := if_neg hok2
              rw [htx]
              clear hyn hok2 htx
              go_wp2_with fail
              (with_reducible refine (must_f _).mono ?_)
              rintro e w_ ⟨rfl, rfl⟩
              go_wp2_with fail
              exact hpw.out hbad.out _ _ _ _ rfl rfl rfl E5.out P5.out Q5.out
        have hc1 : wx.cell? ⟨g, 0, none⟩ = some (.slice aw (q.length + 1) cw) := hc0
        clear hc0
        have hlq : ∀ y ∈ q, y.length ≤ 1048576 := fun y hy => hwl.out y (hmem y (List.mem_cons_of_mem _ hy))
        replace M := hide M
        replace O := hide O
        replace K := hide K
        go_wp2_with fail
        clear hc1
        refine (next_some g wd q _ _ M.out.L).mono ?_
        rintro e W4 ⟨rfl, hb, hL⟩
        have M4 := hide (M.out.but hb hL (by omega) (by omega) (by omega))
        have O4 := hide (O.out.kept hb.size fun b h1 h2 => hb.block b h2 (by omega))
        have K4 := hide (K.out.but hb (by omega))
        clear hb hL O K
        by_cases hwa : wd ≠ [97, 110, 100]
        · have e1 : (wd == [97, 110, 100]) = false := beq_eq_false_iff_ne.2 hwa
          have hRn : readT (x :: r) = none := by rw [hT3]; simp [tailA, hwa]
          replace hRn := hide hRn
          clear hwa hT3 hmem hlq
          go_wp2_with fail
          (with_reducible refine (must_f _).mono ?_)
          rintro e w_ ⟨rfl, rfl⟩
          go_wp2_with fail
          exact hpw.out (hno.out hRn.out) _ _ _ _ rfl rfl rfl M4.out.E M4.out.P M4.out.Q
        replace hwa := Classical.not_not.1 hwa
        subst hwa
        have hT4 : readT (x :: r) = (rAs q).map fun l => ⟨cs, al ++ l⟩ := by rw [hT3]; simp [tailA]
        clear hT3
        have hact := PAct_any g (g + 1) q w W4.drew hT.out hV.out hD.out M4.out.E.drew (by omega) M4.out.draw.L hlq
        rcases hrc : readA q with _ | ⟨a, q2⟩
        · have hRn : readT (x :: r) = none := by rw [hT4, rAs_none hrc]; rfl
          rw [hrc] at hact
          replace hRn := hide hRn
          replace hact := hide hact
          clear hT4 hmem hlq hrc
          go_wp2_with fail
          (with_reducible refine (must_t _).mono ?_)
          rintro e w_ ⟨rfl, rfl⟩
          go_upto_region 14 with fail
          refine wp_region_apd mixed (by kernel_rfl) (by kernel_rfl) (by kernel_rfl) _ _ _ _ _ _ rfl (by kernel_rfl) 52 53 54 55 56 rfl ⟨by simp, by simp, by simp, by simp, by simp⟩ (by kernel_rfl) (.pointer (some ⟨pt, 1, none⟩)) (.slice b2 al.length b2c) (.func (.func 46) #[] #[.pointer (some ⟨g, 0, none⟩)]) (fun _ _ => False) (fun _ => #[]) 51 (fun W => W.cell? ⟨pt, 1, none⟩ = some ((.slice b2 al.length b2c))) ?_ ?_ ?_ ?_ ?_ ?_ ?_ ?_ ?_
          · intro a W A
            have h : a.eval (.tmp 2) = .pointer (some ⟨pt, 0, none⟩) := A.out 2 (by kernel_rfl)
            simp [Act.eval] at h
            go_simp
          · intro a W h hO
            simp [Act.eval] at h
            go_simp
          · intro a W A
            have h : a.eval (.tmp 5) = .func (.func 46) #[] #[.pointer (some ⟨g, 0, none⟩)] := A.out 5 (by kernel_rfl)
            simp [Act.eval] at h
            go_simp
          · intro a A h
            refine wp_called 49 _ _ rfl Tryz.func49 (by kernel_rfl) (by kernel_rfl) #[.func (.func 46) #[] #[.pointer (some ⟨g, 0, none⟩)]] (by simp [h]) hact.out ?_ ?_ ?_
            · intro v' w' h9
              have := h9.1
              cases this
            · intro ch w' h9
              obtain ⟨h9, hb⟩ := h9
              injection h9 with h9
              subst h9
              have M2 := M4.out.draw
              exact hpw.out (hno.out hRn.out) _ _ _ _ A.defers (tmp_of_eval (A.out 2 (by kernel_rfl))) (tmp_of_eval (A.out 3 (by kernel_rfl))) (But.ext M2.E hb (by omega)) (hb.blk M2.P (by omega)) (hb.blk M2.Q (by omega))
            · intro w' h9
              have := h9.1
              cases this
          · intro a W v' _ hR
            exact hR.elim
          · exact M4.out.draw.P.cell 1
          · intro _ _ hR
            exact hR.elim
          · intro _ _ hR
            exact hR.elim
          · intro _ _ hR
            exact hR.elim
        have hain : ActIn a := readA_in hrc hlq
        have hlc := readA_len hrc
        have hq2 : ∀ y ∈ q2, y ∈ x :: r := fun y hy => hmem y (List.mem_cons_of_mem _ (readA_mem hrc y hy))
        have hT2 : readT (x :: r) = (tailA q2).map fun l => ⟨cs, (al ++ [a]) ++ l⟩ := by
          rw [hT4, rAs_some hrc]
          cases tailA q2 with
          | none => rfl
          | some p => simp
        rw [hrc] at hact
        have hO2 := O4.out.draw
        have hK := K4
        clear hT4 hmem hlq hrc O4
        replace hact := hide hact
        replace hT2 := hide hT2
        replace hq2 := hide hq2
        replace hO2 := hide hO2
        go_wp2_with fail
        (with_reducible refine (must_t _).mono ?_)
        rintro e w_ ⟨rfl, rfl⟩
        go_upto_region 14 with fail
        refine wp_region_apd mixed (by kernel_rfl) (by kernel_rfl) (by kernel_rfl) _ _ _ _ _ _ rfl (by kernel_rfl) 52 53 54 55 56 rfl ⟨by simp, by simp, by simp, by simp, by simp⟩ (by kernel_rfl) (.pointer (some ⟨pt, 1, none⟩)) (.slice b2 al.length b2c) (.func (.func 46) #[] #[.pointer (some ⟨g, 0, none⟩)]) (fun v W => v = .agg (actCs a).toArray ∧ TmS w W pt (pt + 1) g (g + 1) (.slice u1 cs.length u1c) (.slice b2 al.length b2c) q2 ∧ Own EAct 51 W W9.heap.size (.slice b2 al.length b2c) al ∧ Kp W9 W (g + 1)) (fun _ => (actCs a).toArray) 51 (fun W => W.cell? ⟨pt, 1, none⟩ = some ((.slice b2 al.length b2c))) ?_ ?_ ?_ ?_ ?_ ?_ ?_ ?_ ?_
        · intro a W A
          have h : a.eval (.tmp 2) = .pointer (some ⟨pt, 0, none⟩) := A.out 2 (by kernel_rfl)
          simp [Act.eval] at h
          go_simp
        · intro a W h hO
          simp [Act.eval] at h
          go_simp
        · intro a W A
          have h : a.eval (.tmp 5) = .func (.func 46) #[] #[.pointer (some ⟨g, 0, none⟩)] := A.out 5 (by kernel_rfl)
          simp [Act.eval] at h
          go_simp
        · intro a A h
          refine wp_called 49 _ _ rfl Tryz.func49 (by kernel_rfl) (by kernel_rfl) #[.func (.func 46) #[] #[.pointer (some ⟨g, 0, none⟩)]] (by simp [h]) hact.out ?_ ?_ ?_
          · intro v' w' h9
            obtain ⟨⟨h9, hL9⟩, hb⟩ := h9
            injection h9 with h9
            subst h9
            exact ⟨_, rfl, rfl, M4.out.draw.but hb hL9 (by omega) (by omega) (by omega), hO2.out.kept hb.size fun b h1 h2 => hb.block b h2 (by omega), hK.out.drawn.but hb (by omega)⟩
          · intro ch w' h9
            have := h9.1.1
            cases this
          · intro w' h9
            have := h9.1.1
            cases this
        · intro a' W v' h hR
          obtain ⟨rfl, _, _⟩ := hR
          clear hact hT2 hain
          obtain ⟨y0, y1, y2, y3⟩ := a
          simp [Act.eval, actCs] at h
          go_simp
          simp [actCs]
        · exact M4.out.draw.P.cell 1
        · intro _ _ hR
          exact hR.2.1.P.cell 1
        · intro _ _ hR
          exact (hR.2.1.P.alloc _).cell 1
        · rintro _ W ⟨rfl, M9, O9, K9⟩
          simp only [Act.put, List.setIfInBounds_toArray, List.set_cons_succ, List.set_cons_zero]
          have hox := O9.alloc (Obj.cells (actCs a).toArray 51)
          have hup := M9.L.up
          have hKs := K9.size
          have hM5 := M9.alloc (Obj.cells (actCs a).toArray 51)
          have hK5 := K9.alloc (Obj.cells (actCs a).toArray 51)
          refine wpList_push (E := EAct) rfl _ _ _ rfl okAct (by decide) (by decide) rfl hox (by omega) (by simp; omega) rfl (y := a) (cs := actCs a) ⟨rfl, hain⟩ (cells_new W (actCs a).toArray 51) ?_
          intro v' w5 hown1 hg5 hat5
          obtain ⟨va5, vc5, rfl⟩ := hown1.form
          have M5 := hM5.grown hg5 (by omega) (by omega) (by omega) (fun k hk => Nat.le_trans hgC (hox.lt k hk).1)
          have K5 := hK5.grown hg5 (fun k hk => (hox.lt k hk).1)
          clear hM5 hK5 hg5 hat5 O9 K9 M9 hup hKs
          have p0 : w5.cell? ⟨pt, 1, none⟩ = some ((.slice b2 al.length b2c)) := M5.P.cell 1
          have pf := fun i => M5.P.frozen i
          obtain ⟨va1, vc1, hv1⟩ := hox.form
          obtain ⟨u1, u1c, hu1⟩ := hO1.out.form
          have hcl1 : (al ++ [a]).length = al.length + 1 := by simp
          have M6 := M5.set2 (by omega) (by omega) (by omega) (.slice va5 (al ++ [a]).length vc5)
          have O6 := hown1.kept (w' := w5.setCell ⟨pt, 1, none⟩ (.slice va5 (al ++ [a]).length vc5)) (by simp [World.setCell]) fun b h1 h2 => Below.heap_setCell _ _ _ _ (show b ≠ pt by omega)
          have K6 := K5.set (p := pt) (by omega) 1 (.slice va5 (al ++ [a]).length vc5)
          rw [hcl1] at M6 O6 K6
          clear M5 K5 hown1 hox hv1
          replace M6 := hide M6
          replace O6 := hide O6
          replace K6 := hide K6
          go_wp2_with fail
          clear p0 pf
          go_roundw
          case rel => exact ⟨al ++ [a], _, q2, M6.out, O6.out, K6.out, hT2.out, hq2.out, by rw [hcl1]; have h1 : ([97, 110, 100] :: q).length = q.length + 1 := rfl; omega⟩
          case measure => rw [M6.out.L.lenAt, M.out.L.lenAt]; have h1 : ([97, 110, 100] :: q).length = q.length + 1 := rfl; omega
end
section
open Go.RowKit
set_option linter.unusedVariables false
theorem small_o : termO smallText = some smallTerm := by
 have h := termO_text small_ok
 rw [show termW smallTerm = smallText from by decide +kernel] at h
 exact h
set_option maxHeartbeats 4000000 in
theorem PWorks_any (w : World) (hT : Tab w) (hD : Deb w) (hV : Vars w) :
  Calls Tryz.prog 15 #[] w fun e w' => e = .returned (.bool true) ∧ Ext w w' := by
 have q1 := PTerm_any smallText (by decide) w hT hV hD
 unfold TeP at q1
 rw [small_o] at q1
 have q2 := fun a1 c1 a2 c2 W (h : Ext w W) h5 (h6 : Sl ECond W (· < W.heap.size) a1 smallTerm.conds) (h7 : Sl EAct W (· < W.heap.size) a2 smallTerm.acts) => PTermText_any a1 c1 a2 c2 smallTerm W (by decide) (by decide) h5 h6 h7 (hT.ext h) (hD.ext h)
 rw [small_t] at q2
 simp only [smallText] at q1 q2
 replace q1 := hide q1
 replace q2 := hide q2
 clear hT hD hV
 go_enter Tryz.func15, Tryz.ntmps15
 go_wp2_with fail
 refine (q1.out).mono ?_
 rintro e W1 ⟨⟨v1, v2, rfl, o1, o2⟩, E⟩
 obtain ⟨a1, c1, rfl, n1, s1⟩ := o1.slc
 obtain ⟨a2, c2, rfl, n2, s2⟩ := o2.slc
 replace s1 := s1.mono (S' := (· < W1.heap.size)) fun b hb => hb.2
 replace s2 := s2.mono (S' := (· < W1.heap.size)) fun b hb => hb.2
 obtain ⟨b1, i1, rfl, hb1, -, k1⟩ := ECond.at s1 1 (by decide)
 obtain ⟨b2, i2, rfl, hb2, -, k2⟩ := EAct.at s2 0 (by decide)
 have h10 := k1 0 _ rfl
 have h11 := k1 1 _ rfl
 have h12 := k1 2 _ rfl
 have h13 := k1 3 _ rfl
 have h20 := k2 0 _ rfl
 have h21 := k2 1 _ rfl
 have h22 := k2 2 _ rfl
 have h23 := k2 3 _ rfl
 clear o1 o2 k1 k2
 have q := fun W h => q2.out (some ⟨b1, i1, none⟩) c1 (some ⟨b2, i2, none⟩) c2 W h n2
 clear q2
 have e1 : smallTerm.conds.length = 2 := rfl
 have e2 : smallTerm.acts.length = 2 := rfl
 rw [e1] at *
 rw [e2] at *
 replace s1 := hide s1
 replace s2 := hide s2
 replace E := hide E
 replace q := hide q
 replace h10 := hide h10
 replace h11 := hide h11
 replace h12 := hide h12
 replace h13 := hide h13
 replace h20 := hide h20
 replace h21 := hide h21
 replace h22 := hide h22
 replace h23 := hide h23
 have B := Blk.new W1 25 #[.slice (some ⟨b1, i1, none⟩) 2 c1, .slice (some ⟨b2, i2, none⟩) 2 c2]
 have F := (Ext.refl W1).alloc (Obj.cells #[.slice (some ⟨b1, i1, none⟩) 2 c1, .slice (some ⟨b2, i2, none⟩) 2 c2] 25)
 have G := E.out.alloc (Obj.cells #[.slice (some ⟨b1, i1, none⟩) 2 c1, .slice (some ⟨b2, i2, none⟩) 2 c2] 25)
 replace B := hide B
 replace F := hide F
 replace G := hide G
 go_wp2_with fail
 refine (q _ G.out (s1.out.ext F.out) (s2.out.ext F.out)).mono ?_
 rintro e W2 ⟨rfl, he⟩
 have B2 := B.out.ext he
 have x10 := (F.out.trans he).cell h10.out
 have x11 := (F.out.trans he).cell h11.out
 have x12 := (F.out.trans he).cell h12.out
 have x13 := (F.out.trans he).cell h13.out
 have x20 := (F.out.trans he).cell h20.out
 have x21 := (F.out.trans he).cell h21.out
 have x22 := (F.out.trans he).cell h22.out
 have x23 := (F.out.trans he).cell h23.out
 have T := G.out.trans he
 clear q h10 h11 h12 h13 h20 h21 h22 h23 s1 s2 B E F G he
 replace T := hide T
 have y0 := B2.cell 0
 have y1 := B2.cell 1
 clear B2
 simp [smallTerm] at y0 y1 x10 x11 x12 x13 x20 x21 x22 x23
 go_wp2_with fail
 go_ret
 exact ⟨rfl, T.out⟩
end
end
section
open Go.RowKit Go.Sort
set_option linter.unusedVariables false
theorem all_not {α : Type} (l : List α) (f : α → Bool) : (l.any fun x => !f x) = !l.all f := by
 induction l with
 | nil => rfl
 | cons x r ih => rw [List.any_cons, List.all_cons, ih]; cases f x <;> rfl
theorem empty_dec {α : Type} (l : List α) : l.isEmpty = !decide (0 < l.length) := by cases l <;> rfl
theorem setOk_cases (s : StS) : ∃ nm b1 b2 b3 c1 c3 bi bp co r : Bool, nameOk s.name = nm ∧ decide (0 < s.items.length) = b1 ∧ decide (0 < s.comms.length) = b2 ∧ decide (0 < s.paths.length) = b3 ∧ decide ((s.items.length : Int) ≤ 64) = c1 ∧ decide ((s.paths.length : Int) ≤ 64) = c3 ∧
  (s.items.any fun x => !decide (itmOk x)) = bi ∧ (s.paths.any fun x => !atmsOk x) = bp ∧ commsOk s.comms = co ∧ setOk s = r ∧
  ((s.kind = 1 ∧ (nm && ((!b2 && !b3) && (c1 && !bi))) = r) ∨ (s.kind = 2 ∧ (nm && ((!b1 && !b3) && co)) = r) ∨ (s.kind = 3 ∧ (nm && ((!b1 && !b2) && (c3 && !bp))) = r) ∨ ((s.kind == 1) = false ∧ (s.kind == 2) = false ∧ (s.kind == 3) = false ∧ false = r)) := by
 refine ⟨_, _, _, _, _, _, _, _, _, _, rfl, rfl, rfl, rfl, rfl, rfl, rfl, rfl, rfl, rfl, ?_⟩
 unfold setOk itmsOk pathsOk
 rw [all_not, all_not, empty_dec, empty_dec, empty_dec, Bool.not_not, Bool.not_not]
 rw [show decide ((s.items.length : Int) ≤ 64) = decide (s.items.length ≤ 64) from decide_eq_decide.2 (by omega), show decide ((s.paths.length : Int) ≤ 64) = decide (s.paths.length ≤ 64) from decide_eq_decide.2 (by omega)]
 by_cases h1 : s.kind = 1
 ·refine .inl ⟨h1, ?_⟩
  rw [if_pos h1]
  generalize nameOk s.name = a
  generalize decide (0 < s.comms.length) = b
  generalize decide (0 < s.paths.length) = c
  generalize decide (s.items.length ≤ 64) = d
  generalize (s.items.all fun x => decide (itmOk x)) = e
  revert a b c d e
  decide
 ·rw [if_neg h1]
  by_cases h2 : s.kind = 2
  ·refine .inr (.inl ⟨h2, ?_⟩)
   rw [if_pos h2]
   generalize nameOk s.name = a
   generalize decide (0 < s.items.length) = b
   generalize decide (0 < s.paths.length) = c
   generalize commsOk s.comms = d
   revert a b c d
   decide
  ·rw [if_neg h2]
   by_cases h3 : s.kind = 3
   ·refine .inr (.inr (.inl ⟨h3, ?_⟩))
    rw [if_pos h3]
    generalize nameOk s.name = a
    generalize decide (0 < s.items.length) = b
    generalize decide (0 < s.comms.length) = c
    generalize decide (s.paths.length ≤ 64) = d
    generalize (s.paths.all fun x => atmsOk x) = e
    revert a b c d e
    decide
   ·rw [if_neg h3, Bool.and_false]
    exact .inr (.inr (.inr ⟨beq_eq_false_iff_ne.2 h1, beq_eq_false_iff_ne.2 h2, beq_eq_false_iff_ne.2 h3, rfl⟩))
set_option maxRecDepth 20000 in
set_option maxHeartbeats 8000000 in
theorem SCheck_any (s : StS) (a1 : Option Addr) (c1 : Nat) (a2 : Option Addr) (c2 : Nat) (a3 : Option Addr) (c3 : Nat) (w : World) (hs : SetIn w (· < w.heap.size) s a1 a2 a3) :
    Calls Tryz.prog 68 #[.agg #[.string ⟨s.name.toArray⟩, .int .i64 s.kind, .slice a1 s.items.length c1, .slice a2 s.comms.length c2, .slice a3 s.paths.length c3]] w fun e w' => e = .returned (.int .i64 (errOf (setOk s))) ∧ Ext w w' := by
  have mixed : Tryz.prog.follows Departure.mixedOrders = true := by kernel_rfl
  obtain ⟨nm, b1, b2, b3, d1, d3, bi, bp, co, r, e0, e1, e2, e3, f1, f3, ei, ep, ec, er, hcs⟩ := setOk_cases s
  have qn := fun W => Named_any s.name W
  rw [e0] at qn
  have qi := fun W (h : Ext w W) => HasItm_any 115 #[] (fun _ _ => rfl) (fun x => !decide (itmOk x)) a1 c1 s.items W hs.nItems (hs.items.ext h) (fun x _ hx W _ => Check1_any x hx.p.addr W)
  rw [ei] at qi
  have qp := fun W (h : Ext w W) => HasPat_any 119 #[] (fun _ _ => rfl) (fun x => !atmsOk x) a3 c3 s.paths W hs.nPaths (hs.paths.ext h) (fun x _ W b d _ hl hx => Check2_any b d x W hl hx)
  rw [ep] at qp
  have qc := fun W (h : Ext w W) => Encode_any a2 c2 s.comms W hs.nComms (hs.comms.ext h)
  rw [ec] at qc
  rw [er]
  clear hs e0 ei ep ec er
  obtain ⟨nm0, kd, items, comms, paths⟩ := s
  dsimp only at *
  generalize items.length = n1 at *
  generalize comms.length = n2 at *
  generalize paths.length = n3 at *
  replace qn := hide qn
  replace qi := hide qi
  replace qp := hide qp
  replace qc := hide qc
  replace hcs := hide hcs
  go_enter Tryz.func68, Tryz.ntmps68
  have S := Blk.new w 67 #[.string ⟨nm0.toArray⟩, .int .i64 kd, .slice a1 n1 c1, .slice a2 n2 c2, .slice a3 n3 c3]
  have E := (Ext.refl w).alloc (Obj.cells #[.string ⟨nm0.toArray⟩, .int .i64 kd, .slice a1 n1 c1, .slice a2 n2 c2, .slice a3 n3 c3] 67)
  generalize hW0 : w.alloc (Obj.cells #[.string ⟨nm0.toArray⟩, .int .i64 kd, .slice a1 n1 c1, .slice a2 n2 c2, .slice a3 n3 c3] 67) = W0 at S E
  generalize hg0 : w.heap.size = g0 at S
  replace S := hide S
  replace E := hide E
  have S_0 : W0.cell? ⟨g0, 0, none⟩ = some (.string ⟨nm0.toArray⟩) := S.out.cell 0
  have S_1 : W0.cell? ⟨g0, 1, none⟩ = some (.int .i64 kd) := S.out.cell 1
  have S_2 : W0.cell? ⟨g0, 2, none⟩ = some (.slice a1 n1 c1) := S.out.cell 2
  have S_3 : W0.cell? ⟨g0, 3, none⟩ = some (.slice a2 n2 c2) := S.out.cell 3
  have S_4 : W0.cell? ⟨g0, 4, none⟩ = some (.slice a3 n3 c3) := S.out.cell 4
  cases b1 <;> cases b2 <;> cases b3 <;> (
    go_wp2_with fail
    refine (qn.out _).mono ?_
    rintro e W1 ⟨rfl, he_⟩
    clear S_0 S_1 S_2 S_3 S_4
    replace E := hide (E.out.trans he_)
    replace S := hide (S.out.ext he_)
    clear he_
    have S_0 : W1.cell? ⟨g0, 0, none⟩ = some (.string ⟨nm0.toArray⟩) := S.out.cell 0
    have S_1 : W1.cell? ⟨g0, 1, none⟩ = some (.int .i64 kd) := S.out.cell 1
    have S_2 : W1.cell? ⟨g0, 2, none⟩ = some (.slice a1 n1 c1) := S.out.cell 2
    have S_3 : W1.cell? ⟨g0, 3, none⟩ = some (.slice a2 n2 c2) := S.out.cell 3
    have S_4 : W1.cell? ⟨g0, 4, none⟩ = some (.slice a3 n3 c3) := S.out.cell 4
    clear hW0 hg0
    rcases hcs.out with ⟨rfl, hr⟩ | ⟨rfl, hr⟩ | ⟨rfl, hr⟩ | ⟨k1, k2, k3, hr⟩
    · subst hr
      clear hcs qp qc
      cases nm <;> first
        | (go_wp2; go_ret; exact ⟨rfl, E.out⟩)
        | (cases d1 <;> first
          | (go_wp2; go_ret; exact ⟨rfl, E.out⟩)
          | (cases bi <;> (go_wp2_with (go_at_call 114; refine (qi.out _ E.out).mono ?_; rintro e W2 ⟨rfl, he2⟩; replace E := hide (E.out.trans he2)); go_ret; exact ⟨rfl, E.out⟩)))
    · subst hr
      clear hcs qp qi
      cases co <;> (
        have qc' := qc.out
        simp only [show errOf true = 0 from rfl, show errOf false = 2 from rfl] at qc'
        clear qc
        replace qc' := hide qc'
        cases nm <;> (go_wp2_with (go_at_call 117; refine (qc'.out _ E.out).mono ?_; rintro e W2 ⟨⟨t, rfl⟩, he2⟩; replace E := hide (E.out.trans he2)); go_ret; exact ⟨rfl, E.out⟩))
    · subst hr
      clear hcs qi qc
      cases nm <;> first
        | (go_wp2; go_ret; exact ⟨rfl, E.out⟩)
        | (cases d3 <;> first
          | (go_wp2; go_ret; exact ⟨rfl, E.out⟩)
          | (cases bp <;> (go_wp2_with (go_at_call 118; refine (qp.out _ E.out).mono ?_; rintro e W2 ⟨rfl, he2⟩; replace E := hide (E.out.trans he2)); go_ret; exact ⟨rfl, E.out⟩)))
    · subst hr
      clear hcs qi qc qp
      go_wp2
      go_ret
      exact ⟨rfl, E.out⟩)
end
section
section
open Go.RowKit Go.Sort
set_option linter.unusedVariables false
set_option maxRecDepth 20000 in
set_option maxHeartbeats 4000000 in
theorem PChk1_any (a1 : Option Addr) (c1 : Nat) (a2 : Option Addr) (c2 : Nat) (t : TermS) (w : World) (h1 : t.conds.length ≤ 16777216) (h2 : t.acts.length ≤ 16777216) (hc2 : t.acts.length ≤ c2) (s1 : Sl ECond w (· < w.heap.size) a1 t.conds) (s2 : Sl EAct w (· < w.heap.size) a2 t.acts) :
  Calls Tryz.prog 67 #[.agg #[.slice a1 t.conds.length c1, .slice a2 t.acts.length c2]] w fun e w' => e = .returned (.bool (!termOk t)) ∧ Ext w w' := by
 have q := fun W (h : Ext w W) => PMayTerm_any a1 c1 a2 c2 t W h1 h2 hc2 (s1.ext h) (s2.ext h)
 generalize termOk t = r at *
 have E := (Ext.refl w).alloc (Obj.cells #[.slice a1 t.conds.length c1, .slice a2 t.acts.length c2] 25)
 clear s1 s2 h1 h2 hc2
 generalize t.conds.length = n1 at *
 generalize t.acts.length = n2 at *
 replace q := hide q
 replace E := hide E
 go_enter Tryz.func67, Tryz.ntmps67
 go_wp2_with fail
 (with_reducible refine (q.out _ E.out).mono ?_)
 rintro e W1 ⟨rfl, he⟩
 replace E := hide (E.out.trans he)
 clear he
 go_wp2_with fail
 go_ret
 exact ⟨rfl, E.out⟩
def badT (l : List TermS) : Bool := l.any fun t => !termOk t
theorem badT_take {l : List TermS} {k : Nat} (h : k < l.length) (h1 : badT (l.take k) = false) (h2 : termOk l[k] = true) : badT (l.take (k + 1)) = false := by
 unfold badT at *
 rw [List.take_succ_eq_append_getElem h, List.any_append, h1]
 simp [h2]
theorem badT_at {l : List TermS} {k : Nat} (h : k < l.length) (h2 : termOk l[k] = false) : badT l = true := by
 unfold badT
 exact List.any_eq_true.2 ⟨l[k], List.getElem_mem h, by rw [h2]; rfl⟩
set_option maxRecDepth 20000 in
set_option maxHeartbeats 4000000 in
theorem IdxTerm_any (a : Option Addr) (c : Nat) (l : List TermS) (w : World) (hl : l.length ≤ 16777216) (s1 : Sl ETermC w (· < w.heap.size) a l) :
    Calls Tryz.prog 112 #[.slice a l.length c, .func (.func 67) #[] #[]] w fun e w' => (∃ i : Int, e = .returned (.int .i64 i) ∧ ((badT l = true ∧ 0 ≤ i ∧ i ≤ 16777216) ∨ (badT l = false ∧ i = -1))) ∧ Ext w w' := by
  replace s1 := hide s1
  go_enter Tryz.func112, Tryz.ntmps112
  go_wp2_with fail
  go_loopw [8] (fun i wr => ∃ k : Nat, k ≤ l.length ∧ i = .int .i64 k ∧ Ext w wr ∧ badT (l.take k) = false) (fun i _ => l.length - (intOf i).toNat)
  case atStart => exact ⟨0, Nat.zero_le _, rfl, Ext.refl _, rfl⟩
  case round =>
    obtain ⟨k, hk, rfl, hE, htk⟩ := hrel
    by_cases hlt : k < l.length
    · obtain ⟨b1, o1, x1, p1, x2, p2, rfl, _, e1, e2, n1, r1, n2, r2, u1, u2⟩ := ETermC.at (s1.out.ext hE) k hlt
      have hst := badT_take hlt htk
      have hne := badT_at (l := l) hlt
      generalize l[k] = x at *
      have qs := fun W (h : Ext wr W) => PChk1_any x1 p1 x2 p2 x W n1 n2 u2 (r1.ext h) (r2.ext h)
      generalize termOk x = bb at *
      clear n1 n2 r1 r2 u1 u2
      replace hE := hide hE
      replace hst := hide hst
      replace hne := hide hne
      replace htk := hide htk
      replace qs := hide qs
      go_wp2_with fail
      (with_reducible refine (qs.out _ (Ext.refl _)).mono ?_)
      rintro e W2 ⟨rfl, he⟩
      replace hE := hide (hE.out.trans he)
      clear he qs e1 e2
      cases bb with
      | false =>
        have hr := hide (hne.out rfl)
        clear hst hne
        go_wp2_with fail
        go_ret
        exact ⟨⟨_, rfl, .inl ⟨hr.out, by omega, by omega⟩⟩, hE.out⟩
      | true =>
        have hs := hide (hst.out rfl)
        clear hst hne
        go_wp2_with fail
        go_roundw
        case rel => exact ⟨k + 1, by omega, by go_num, hE.out, hs.out⟩
        case measure => simp [intOf]; omega
    · obtain rfl : k = l.length := by omega
      rw [List.take_length] at htk
      clear hlt hk
      replace hE := hide hE
      replace htk := hide htk
      go_wp2_with fail
      go_ret
      exact ⟨⟨_, rfl, .inr ⟨htk.out, rfl⟩⟩, hE.out⟩
set_option maxRecDepth 20000 in
set_option maxHeartbeats 4000000 in
theorem HasTerm_any (a : Option Addr) (c : Nat) (l : List TermS) (w : World) (hl : l.length ≤ 16777216) (s1 : Sl ETermC w (· < w.heap.size) a l) :
  Calls Tryz.prog 66 #[.slice a l.length c, .func (.func 67) #[] #[]] w fun e w' => e = .returned (.bool (badT l)) ∧ Ext w w' := by
 have q := IdxTerm_any a c l w hl s1
 clear s1 hl
 generalize badT l = r at *
 generalize l.length = n at *
 replace q := hide q
 go_enter Tryz.func66, Tryz.ntmps66
 go_wp2_with fail
 (with_reducible refine (q.out).mono ?_)
 rintro e W1 ⟨⟨i, rfl, hi⟩, he⟩
 replace he := hide he
 rcases hi with ⟨rfl, h1, h2⟩ | ⟨rfl, rfl⟩
 ·go_wp2_with fail
  go_ret
  exact ⟨ret_bool (by simp), he.out⟩
 ·go_wp2_with fail
  go_ret
  exact ⟨rfl, he.out⟩
/-- A need: a name, and of which kind. -/
def ENeed : Enc (List UInt8 × Int) := EByt.pair EI64
theorem ENeed.of {w : World} {S : Nat → Prop} {x : List UInt8} {k : Int} (h : x.length ≤ 1048576) (hk : i64 k) : ENeed.R w S (x, k) [.string ⟨x.toArray⟩, .int .i64 k] := ⟨[_], [_], rfl, ⟨rfl, h⟩, ⟨rfl, hk⟩⟩
theorem okNeed : ElemOk Tryz.prog 110 114 ENeed.sz 24 := elemOk (z := .agg #[.string ⟨#[]⟩, .int .i64 0]) Tryz.underlying110 (by kernel_rfl) rfl
theorem ENeed.at {w : World} {S : Nat → Prop} {a : Option Addr} {l : List (List UInt8 × Int)} (h : Sl ENeed w S a l) (k : Nat) (hk : k < l.length) :
  ∃ b off, a = some ⟨b, off, none⟩ ∧ S b ∧ l[k].1.length ≤ 1048576 ∧ i64 l[k].2 ∧ w.cell? ⟨b, off + k * 2, none⟩ = some (.string ⟨l[k].1.toArray⟩) ∧ w.cell? ⟨b, off + k * 2 + 1, none⟩ = some (.int .i64 l[k].2) := by
 obtain ⟨b, off, cs, rfl, hb, ⟨c, d, rfl, ⟨rfl, h1⟩, ⟨rfl, h2⟩⟩, hc⟩ := h.at k hk
 exact ⟨b, off, rfl, hb, h1, h2, hc 0 _ rfl, hc 1 _ rfl⟩
theorem ECond.atC {w : World} {S : Nat → Prop} {a : Option Addr} {l : List CondS} (h : Sl ECond w S a l) (k : Nat) (hk : k < l.length) :
  ∃ b off, a = some ⟨b, off, none⟩ ∧ S b ∧ CondIn l[k] ∧ w.cell? ⟨b, off + k * 4, none⟩ = some (.int .i64 l[k].kind) ∧ w.cell? ⟨b, off + k * 4 + 1, none⟩ = some (.bool l[k].neg) ∧ w.cell? ⟨b, off + k * 4 + 2, none⟩ = some (.string ⟨l[k].name.toArray⟩) ∧ w.cell? ⟨b, off + k * 4 + 3, none⟩ = some (.int .i64 l[k].n) := by
 obtain ⟨b, off, rfl, hb, hin, hx⟩ := ECond.at h k hk
 exact ⟨b, off, rfl, hb, hin, hx 0 _ rfl, hx 1 _ rfl, hx 2 _ rfl, hx 3 _ rfl⟩
theorem EAct.atC {w : World} {S : Nat → Prop} {a : Option Addr} {l : List ActS} (h : Sl EAct w S a l) (k : Nat) (hk : k < l.length) :
  ∃ b off, a = some ⟨b, off, none⟩ ∧ S b ∧ ActIn l[k] ∧ w.cell? ⟨b, off + k * 4, none⟩ = some (.int .i64 l[k].kind) ∧ w.cell? ⟨b, off + k * 4 + 1, none⟩ = some (.string ⟨l[k].name.toArray⟩) ∧ w.cell? ⟨b, off + k * 4 + 2, none⟩ = some (.int .u32 (l[k].n.toNat : Int)) ∧ w.cell? ⟨b, off + k * 4 + 3, none⟩ = some (.string ⟨l[k].addr.toArray⟩) := by
 obtain ⟨b, off, rfl, hb, hin, hx⟩ := EAct.at h k hk
 exact ⟨b, off, rfl, hb, hin, hx 0 _ rfl, hx 1 _ rfl, hx 2 _ rfl, hx 3 _ rfl⟩
end
section
open Go.RowKit Go.Sort
set_option linter.unusedVariables false
theorem fm_step {α β : Type} (f : α → Option β) {l : List α} {j : Nat} (h : j < l.length) : (l.take (j + 1)).filterMap f = (l.take j).filterMap f ++ (f l[j]).toList := by
 rw [List.take_succ_eq_append_getElem h, List.filterMap_append]
 cases hf : f l[j] <;> simp [hf]
theorem fm_len {α β : Type} (f : α → Option β) (l : List α) : (l.filterMap f).length ≤ l.length := List.length_filterMap_le f l
theorem fl_step (l : List TermS) {k : Nat} (h : k < l.length) : (l.take (k + 1)).flatMap needsT = (l.take k).flatMap needsT ++ (l[k].conds.filterMap needC ++ l[k].acts.filterMap needA) := by
 rw [List.take_succ_eq_append_getElem h, List.flatMap_append]
 simp [needsT]
structure PolB (p : PolS) : Prop where
  n : p.terms.length ≤ 64
  c : ∀ t ∈ p.terms, t.conds.length ≤ 64 ∧ t.acts.length ≤ 64
theorem PolB.of {p : PolS} (h : polOk p = true) : PolB p := by
 unfold polOk at h
 simp only [Bool.and_eq_true, decide_eq_true_eq, List.all_eq_true] at h
 refine ⟨h.2.1, fun t ht => ?_⟩
 have h2 := h.2.2 t ht
 unfold termOk at h2
 simp only [Bool.and_eq_true, decide_eq_true_eq] at h2
 exact ⟨h2.1, h2.2.1.2⟩
set_option maxRecDepth 20000 in
set_option maxHeartbeats 8000000 in
theorem PNeeds_any (p : PolS) (a : Option Addr) (ca : Nat) (w : World) (hb : PolB p) (s1 : Sl ETerm w (· < w.heap.size) a p.terms) :
  Calls Tryz.prog 56 #[.agg #[.string ⟨p.name.toArray⟩, .slice a p.terms.length ca, .bool p.els]] w fun e w' => ∃ v, e = .returned v ∧ Ext w w' ∧ Own ENeed 114 w' w.heap.size v (needsP p) := by
 have S := Blk.new w 35 #[.string ⟨p.name.toArray⟩, .slice a p.terms.length ca, .bool p.els]
 have E := (Ext.refl w).alloc (Obj.cells #[.string ⟨p.name.toArray⟩, .slice a p.terms.length ca, .bool p.els] 35)
 have hbc := hb.c
 have hbn := hb.n
 unfold needsP
 generalize p.terms = l at *
 generalize hW0 : w.alloc (Obj.cells #[.string ⟨p.name.toArray⟩, .slice a l.length ca, .bool p.els] 35) = W0 at S E
 have s2 := s1.ext E
 generalize hg0 : w.heap.size = g0 at S ⊢
 have hgw : g0 ≤ w.heap.size := by omega
 clear s1 hb
 replace S := hide S
 replace E := hide E
 replace s2 := hide s2
 replace hbc := hide hbc
 replace hgw := hide hgw
 go_enter Tryz.func56, Tryz.ntmps56
 have S_0 : W0.cell? ⟨g0, 0, none⟩ = some (.string ⟨p.name.toArray⟩) := S.out.cell 0
 have S_1 : W0.cell? ⟨g0, 1, none⟩ = some (.slice a l.length ca) := S.out.cell 1
 have S_2 : W0.cell? ⟨g0, 2, none⟩ = some (.bool p.els) := S.out.cell 2
 go_wp2_with fail
 clear S_0 S_1 S_2
 clear hW0 hg0 S
 go_loopw [3, 13] (fun v i wr => ∃ k : Nat, k ≤ l.length ∧ i = .int .i64 k ∧ Own ENeed 114 wr W0.heap.size v ((l.take k).flatMap needsT) ∧ ((l.take k).flatMap needsT).length ≤ 128 * k ∧ Ext W0 wr) (fun _ i _ => l.length - (intOf i).toNat)
 case atStart => exact ⟨0, Nat.zero_le _, rfl, Own.nil, Nat.le_refl _, Ext.refl _⟩
 case round =>
  obtain ⟨k, hk, rfl, hown, hln, hE⟩ := hrel
  by_cases hlt : k < l.length
  ·obtain ⟨b1, o1, x1, p1, x2, p2, ha, _, i1, i2, n3, r1, n4, r2⟩ := ETerm.at s2.out k hlt
   subst ha
   obtain ⟨hc1, hc2⟩ := hbc.out _ (List.getElem_mem hlt)
   have hfs := fl_step l hlt
   generalize l[k] = t at *
   generalize hL : (l.take k).flatMap needsT = L at *
   replace i1 := hE.cell i1
   replace i2 := hE.cell i2
   have T := Blk.new wr 25 #[.slice x1 t.conds.length p1, .slice x2 t.acts.length p2]
   have ET := (Ext.refl wr).alloc (Obj.cells #[.slice x1 t.conds.length p1, .slice x2 t.acts.length p2] 25)
   have hlb : ∀ q, u3.ownBlock = some q → q ≠ wr.heap.size := fun q hq => by have := (hown.lt q hq).2; omega
   replace hown := hown.ext ET
   replace hE := hE.trans ET
   clear ET n3 n4 hL
   replace T := hide T
   replace hown := hide hown
   replace r1 := hide r1
   replace r2 := hide r2
   replace hE := hide hE
   replace hfs := hide hfs
   replace hln := hide hln
   replace hlb := hide hlb
   go_upto_region 5 with fail
   generalize wr.alloc (Obj.cells #[.slice x1 t.conds.length p1, .slice x2 t.acts.length p2] 25) = W2 at T hown hE ⊢
   generalize wr.heap.size = bt at T hlb ⊢
   clear i1 i2
   have T_0 : W2.cell? ⟨bt, 0, none⟩ = some (.slice x1 t.conds.length p1) := T.out.cell 0
   have T_1 : W2.cell? ⟨bt, 1, none⟩ = some (.slice x2 t.acts.length p2) := T.out.cell 1
   go_wp2_with fail
   clear T_0 T_1
   go_loopw [3, 20] (fun v i wq => ∃ j : Nat, j ≤ t.conds.length ∧ i = .int .i64 j ∧ Own ENeed 114 wq W0.heap.size v (L ++ (t.conds.take j).filterMap needC) ∧ Ext W0 wq ∧ Blk wq bt 25 #[.slice x1 t.conds.length p1, .slice x2 t.acts.length p2] ∧ ∀ q, v.ownBlock = some q → q ≠ bt) (fun _ i _ => t.conds.length - (intOf i).toNat)
   case atStart => exact ⟨0, Nat.zero_le _, rfl, by simpa using hown.out, hE.out, T.out, hlb.out⟩
   case round =>
    rename World => wq
    clear hown hlb T hE
    obtain ⟨j, hj, rfl, hown, hF, T, hlb⟩ := hrel
    by_cases hlj : j < t.conds.length
    ·obtain ⟨bc, oc, rfl, _, hin, c0, c1, c2, c3⟩ := ECond.atC (r1.out.ext hF) j hlj
     have hst := fm_step needC hlj
     have hll : (L ++ (t.conds.take j).filterMap needC).length ≤ 128 * k + 64 := by
      have := fm_len needC (t.conds.take j)
      rw [List.length_append]
      rw [List.length_take] at this
      have := hln.out
      omega
     generalize t.conds[j] = cc at *
     obtain ⟨ck, cn, cm, cv⟩ := cc
     dsimp only at c0 c1 c2 c3
     have hnm : cm.length ≤ 1048576 := hin.name
     have hkd : i64 ck := hin.kind
     have hB0 : W0.heap.size ≤ wq.heap.size := hF.size
     have hbt := T.lt
     generalize hM : L ++ (t.conds.take j).filterMap needC = M at *
     clear hin
     by_cases hk1 : ck = 1
     ·subst hk1
      have hnd : L ++ (t.conds.take (j + 1)).filterMap needC = M ++ [(cm, 1)] := by rw [hst, ← hM, List.append_assoc]; rfl
      have hox := (hown.alloc (Obj.cells #[.int .i64 1, .bool cn, .string ⟨cm.toArray⟩, .int .i64 cv] 48)).alloc (Obj.cells #[.string ⟨cm.toArray⟩, .int .i64 1] 114)
      have F5 := (hF.alloc (Obj.cells #[.int .i64 1, .bool cn, .string ⟨cm.toArray⟩, .int .i64 cv] 48)).alloc (Obj.cells #[.string ⟨cm.toArray⟩, .int .i64 1] 114)
      have T5 := (T.alloc (Obj.cells #[.int .i64 1, .bool cn, .string ⟨cm.toArray⟩, .int .i64 cv] 48)).alloc (Obj.cells #[.string ⟨cm.toArray⟩, .int .i64 1] 114)
      have hcell := cells_new (wq.alloc (Obj.cells #[.int .i64 1, .bool cn, .string ⟨cm.toArray⟩, .int .i64 cv] 48)) #[.string ⟨cm.toArray⟩, .int .i64 1] 114
      rw [show (wq.alloc (Obj.cells #[.int .i64 1, .bool cn, .string ⟨cm.toArray⟩, .int .i64 cv] 48)).heap.size = wq.heap.size + 1 by simp] at hcell
      replace hcell : ∀ (j : Nat) (u : Value), ([.string ⟨cm.toArray⟩, .int .i64 1] : List Value)[j]? = some u → _ := hcell
      have hW5 : W0.heap.size ≤ ((wq.alloc (Obj.cells #[.int .i64 1, .bool cn, .string ⟨cm.toArray⟩, .int .i64 cv] 48)).alloc (Obj.cells #[.string ⟨cm.toArray⟩, .int .i64 1] 114)).heap.size := by simp; omega
      have hbt5 : bt < ((wq.alloc (Obj.cells #[.int .i64 1, .bool cn, .string ⟨cm.toArray⟩, .int .i64 cv] 48)).alloc (Obj.cells #[.string ⟨cm.toArray⟩, .int .i64 1] 114)).heap.size := by simp; omega
      have hER : ENeed.R ((wq.alloc (Obj.cells #[.int .i64 1, .bool cn, .string ⟨cm.toArray⟩, .int .i64 cv] 48)).alloc (Obj.cells #[.string ⟨cm.toArray⟩, .int .i64 1] 114)) (fun b => W0.heap.size ≤ b ∧ b < ((wq.alloc (Obj.cells #[.int .i64 1, .bool cn, .string ⟨cm.toArray⟩, .int .i64 cv] 48)).alloc (Obj.cells #[.string ⟨cm.toArray⟩, .int .i64 1] 114)).heap.size ∧ some b ≠ u3.ownBlock) (cm, 1) [.string ⟨cm.toArray⟩, .int .i64 1] := ENeed.of hnm (⟨by decide, by decide⟩ : i64 1)
      clear hown hM hst hnm hkd hF T hbt
      replace hox := hide hox
      replace F5 := hide F5
      replace T5 := hide T5
      replace hcell := hide hcell
      replace hW5 := hide hW5
      replace hbt5 := hide hbt5
      replace hER := hide hER
      replace hnd := hide hnd
      replace hlb := hide hlb
      go_wp2_with (
       at_builtin
       go_must (refine wpList_push (E := ENeed) rfl _ _ _ rfl okNeed (by decide) (by decide) rfl hox.out (by omega) hW5.out rfl hER.out hcell.out ?_)
       intro v' w5 hown1 hg5 hat5)
      clear c0 c1 c2 c3
      have hlb2 : ∀ q, v'.ownBlock = some q → q ≠ bt := fun q hq => by
       rcases hat5 with h | h
       ·exact hlb.out q (h ▸ hq)
       ·rw [h] at hq
        injection hq with hq
        have := hbt5.out
        omega
      go_roundw
      case rel => exact ⟨j + 1, by omega, by go_num, by rw [hnd.out]; exact hown1, F5.out.push (fun q hq => (hox.out.lt q hq).1) hg5, T5.out.grown hg5 (fun h => hlb.out bt h.symm rfl), hlb2⟩
      case measure => simp [intOf]; omega
     by_cases hk2 : ck = 2
     ·subst hk2
      have hnd : L ++ (t.conds.take (j + 1)).filterMap needC = M ++ [(cm, 2)] := by rw [hst, ← hM, List.append_assoc]; rfl
      have hox := (hown.alloc (Obj.cells #[.int .i64 2, .bool cn, .string ⟨cm.toArray⟩, .int .i64 cv] 48)).alloc (Obj.cells #[.string ⟨cm.toArray⟩, .int .i64 2] 114)
      have F5 := (hF.alloc (Obj.cells #[.int .i64 2, .bool cn, .string ⟨cm.toArray⟩, .int .i64 cv] 48)).alloc (Obj.cells #[.string ⟨cm.toArray⟩, .int .i64 2] 114)
      have T5 := (T.alloc (Obj.cells #[.int .i64 2, .bool cn, .string ⟨cm.toArray⟩, .int .i64 cv] 48)).alloc (Obj.cells #[.string ⟨cm.toArray⟩, .int .i64 2] 114)
      have hcell := cells_new (wq.alloc (Obj.cells #[.int .i64 2, .bool cn, .string ⟨cm.toArray⟩, .int .i64 cv] 48)) #[.string ⟨cm.toArray⟩, .int .i64 2] 114
      rw [show (wq.alloc (Obj.cells #[.int .i64 2, .bool cn, .string ⟨cm.toArray⟩, .int .i64 cv] 48)).heap.size = wq.heap.size + 1 by simp] at hcell
      replace hcell : ∀ (j : Nat) (u : Value), ([.string ⟨cm.toArray⟩, .int .i64 2] : List Value)[j]? = some u → _ := hcell
      have hW5 : W0.heap.size ≤ ((wq.alloc (Obj.cells #[.int .i64 2, .bool cn, .string ⟨cm.toArray⟩, .int .i64 cv] 48)).alloc (Obj.cells #[.string ⟨cm.toArray⟩, .int .i64 2] 114)).heap.size := by simp; omega
      have hbt5 : bt < ((wq.alloc (Obj.cells #[.int .i64 2, .bool cn, .string ⟨cm.toArray⟩, .int .i64 cv] 48)).alloc (Obj.cells #[.string ⟨cm.toArray⟩, .int .i64 2] 114)).heap.size := by simp; omega
      have hER : ENeed.R ((wq.alloc (Obj.cells #[.int .i64 2, .bool cn, .string ⟨cm.toArray⟩, .int .i64 cv] 48)).alloc (Obj.cells #[.string ⟨cm.toArray⟩, .int .i64 2] 114)) (fun b => W0.heap.size ≤ b ∧ b < ((wq.alloc (Obj.cells #[.int .i64 2, .bool cn, .string ⟨cm.toArray⟩, .int .i64 cv] 48)).alloc (Obj.cells #[.string ⟨cm.toArray⟩, .int .i64 2] 114)).heap.size ∧ some b ≠ u3.ownBlock) (cm, 2) [.string ⟨cm.toArray⟩, .int .i64 2] := ENeed.of hnm (⟨by decide, by decide⟩ : i64 2)
      clear hown hM hst hnm hkd hF T hbt
      replace hox := hide hox
      replace F5 := hide F5
      replace T5 := hide T5
      replace hcell := hide hcell
      replace hW5 := hide hW5
      replace hbt5 := hide hbt5
      replace hER := hide hER
      replace hnd := hide hnd
      replace hlb := hide hlb
      go_wp2_with (
       at_builtin
       go_must (refine wpList_push (E := ENeed) rfl _ _ _ rfl okNeed (by decide) (by decide) rfl hox.out (by omega) hW5.out rfl hER.out hcell.out ?_)
       intro v' w5 hown1 hg5 hat5)
      clear c0 c1 c2 c3
      have hlb2 : ∀ q, v'.ownBlock = some q → q ≠ bt := fun q hq => by
       rcases hat5 with h | h
       ·exact hlb.out q (h ▸ hq)
       ·rw [h] at hq
        injection hq with hq
        have := hbt5.out
        omega
      go_roundw
      case rel => exact ⟨j + 1, by omega, by go_num, by rw [hnd.out]; exact hown1, F5.out.push (fun q hq => (hox.out.lt q hq).1) hg5, T5.out.grown hg5 (fun h => hlb.out bt h.symm rfl), hlb2⟩
      case measure => simp [intOf]; omega
     by_cases hk3 : ck = 3
     ·subst hk3
      have hnd : L ++ (t.conds.take (j + 1)).filterMap needC = M ++ [(cm, 3)] := by rw [hst, ← hM, List.append_assoc]; rfl
      have hox := (hown.alloc (Obj.cells #[.int .i64 3, .bool cn, .string ⟨cm.toArray⟩, .int .i64 cv] 48)).alloc (Obj.cells #[.string ⟨cm.toArray⟩, .int .i64 3] 114)
      have F5 := (hF.alloc (Obj.cells #[.int .i64 3, .bool cn, .string ⟨cm.toArray⟩, .int .i64 cv] 48)).alloc (Obj.cells #[.string ⟨cm.toArray⟩, .int .i64 3] 114)
      have T5 := (T.alloc (Obj.cells #[.int .i64 3, .bool cn, .string ⟨cm.toArray⟩, .int .i64 cv] 48)).alloc (Obj.cells #[.string ⟨cm.toArray⟩, .int .i64 3] 114)
      have hcell := cells_new (wq.alloc (Obj.cells #[.int .i64 3, .bool cn, .string ⟨cm.toArray⟩, .int .i64 cv] 48)) #[.string ⟨cm.toArray⟩, .int .i64 3] 114
      rw [show (wq.alloc (Obj.cells #[.int .i64 3, .bool cn, .string ⟨cm.toArray⟩, .int .i64 cv] 48)).heap.size = wq.heap.size + 1 by simp] at hcell
      replace hcell : ∀ (j : Nat) (u : Value), ([.string ⟨cm.toArray⟩, .int .i64 3] : List Value)[j]? = some u → _ := hcell
      have hW5 : W0.heap.size ≤ ((wq.alloc (Obj.cells #[.int .i64 3, .bool cn, .string ⟨cm.toArray⟩, .int .i64 cv] 48)).alloc (Obj.cells #[.string ⟨cm.toArray⟩, .int .i64 3] 114)).heap.size := by simp; omega
      have hbt5 : bt < ((wq.alloc (Obj.cells #[.int .i64 3, .bool cn, .string ⟨cm.toArray⟩, .int .i64 cv] 48)).alloc (Obj.cells #[.string ⟨cm.toArray⟩, .int .i64 3] 114)).heap.size := by simp; omega
      have hER : ENeed.R ((wq.alloc (Obj.cells #[.int .i64 3, .bool cn, .string ⟨cm.toArray⟩, .int .i64 cv] 48)).alloc (Obj.cells #[.string ⟨cm.toArray⟩, .int .i64 3] 114)) (fun b => W0.heap.size ≤ b ∧ b < ((wq.alloc (Obj.cells #[.int .i64 3, .bool cn, .string ⟨cm.toArray⟩, .int .i64 cv] 48)).alloc (Obj.cells #[.string ⟨cm.toArray⟩, .int .i64 3] 114)).heap.size ∧ some b ≠ u3.ownBlock) (cm, 3) [.string ⟨cm.toArray⟩, .int .i64 3] := ENeed.of hnm (⟨by decide, by decide⟩ : i64 3)
      clear hown hM hst hnm hkd hF T hbt
      replace hox := hide hox
      replace F5 := hide F5
      replace T5 := hide T5
      replace hcell := hide hcell
      replace hW5 := hide hW5
      replace hbt5 := hide hbt5
      replace hER := hide hER
      replace hnd := hide hnd
      replace hlb := hide hlb
      go_wp2_with (
       at_builtin
       go_must (refine wpList_push (E := ENeed) rfl _ _ _ rfl okNeed (by decide) (by decide) rfl hox.out (by omega) hW5.out rfl hER.out hcell.out ?_)
       intro v' w5 hown1 hg5 hat5)
      clear c0 c1 c2 c3
      have hlb2 : ∀ q, v'.ownBlock = some q → q ≠ bt := fun q hq => by
       rcases hat5 with h | h
       ·exact hlb.out q (h ▸ hq)
       ·rw [h] at hq
        injection hq with hq
        have := hbt5.out
        omega
      go_roundw
      case rel => exact ⟨j + 1, by omega, by go_num, by rw [hnd.out]; exact hown1, F5.out.push (fun q hq => (hox.out.lt q hq).1) hg5, T5.out.grown hg5 (fun h => hlb.out bt h.symm rfl), hlb2⟩
      case measure => simp [intOf]; omega
     ·have hnd : L ++ (t.conds.take (j + 1)).filterMap needC = M := by
       rw [hst, ← hM]
       have : needC ⟨ck, cn, cm, cv⟩ = none := if_neg (by rintro (h | h | h); exact hk1 h; exact hk2 h; exact hk3 h)
       rw [this]
       simp
      have d1 : (ck == 1) = false := beq_eq_false_iff_ne.2 hk1
      have d2 : (ck == 2) = false := beq_eq_false_iff_ne.2 hk2
      have d3 : (ck == 3) = false := beq_eq_false_iff_ne.2 hk3
      have hox := hown.alloc (Obj.cells #[.int .i64 ck, .bool cn, .string ⟨cm.toArray⟩, .int .i64 cv] 48)
      have F5 := hF.alloc (Obj.cells #[.int .i64 ck, .bool cn, .string ⟨cm.toArray⟩, .int .i64 cv] 48)
      have T5 := T.alloc (Obj.cells #[.int .i64 ck, .bool cn, .string ⟨cm.toArray⟩, .int .i64 cv] 48)
      clear hown hM hst hnm hkd hF T hbt hk1 hk2 hk3
      replace hox := hide hox
      replace F5 := hide F5
      replace T5 := hide T5
      replace hnd := hide hnd
      replace hlb := hide hlb
      go_wp2_with fail
      go_roundw
      case rel => exact ⟨j + 1, by omega, by go_num, by rw [hnd.out]; exact hox.out, F5.out, T5.out, hlb.out⟩
      case measure => simp [intOf]; omega
    ·obtain rfl : j = t.conds.length := by omega
     rw [List.take_length] at hown
     have hll : (L ++ t.conds.filterMap needC).length ≤ 128 * k + 64 := by
      have := fm_len needC t.conds
      rw [List.length_append]
      have := hln.out
      omega
     have hfs2 := hfs.out
     rw [← List.append_assoc] at hfs2
     clear hfs
     generalize L ++ t.conds.filterMap needC = N at *
     clear hlj hj
     replace hown := hide hown
     replace hF := hide hF
     replace T := hide T
     replace hlb := hide hlb
     replace hll := hide hll
     replace hfs2 := hide hfs2
     have T_0 : wq.cell? ⟨bt, 0, none⟩ = some (.slice x1 t.conds.length p1) := T.out.cell 0
     have T_1 : wq.cell? ⟨bt, 1, none⟩ = some (.slice x2 t.acts.length p2) := T.out.cell 1
     go_wp2_with fail
     clear T_0 T_1
     go_loopw [3, 54] (fun v i wq => ∃ j : Nat, j ≤ t.acts.length ∧ i = .int .i64 j ∧ Own ENeed 114 wq W0.heap.size v (N ++ (t.acts.take j).filterMap needA) ∧ Ext W0 wq) (fun _ i _ => t.acts.length - (intOf i).toNat)
     case atStart => exact ⟨0, Nat.zero_le _, rfl, by simpa using hown.out, hF.out⟩
     case round =>
      clear hown hlb T hF
      obtain ⟨j, hj, rfl, hown, hF⟩ := hrel
      rename World => wx
      by_cases hlj : j < t.acts.length
      ·obtain ⟨bc, oc, rfl, _, hin, c0, c1, c2, c3⟩ := EAct.atC (r2.out.ext hF) j hlj
       have hst := fm_step needA hlj
       have hll2 : (N ++ (t.acts.take j).filterMap needA).length ≤ 128 * k + 128 := by
        have := fm_len needA (t.acts.take j)
        rw [List.length_append]
        rw [List.length_take] at this
        have := hll.out
        omega
       generalize t.acts[j] = cc at *
       obtain ⟨ck, cm, cn, cv⟩ := cc
       dsimp only at c0 c1 c2 c3
       have hnm : cm.length ≤ 1048576 := hin.name
       have hB0 : W0.heap.size ≤ wx.heap.size := hF.size
       generalize hM : N ++ (t.acts.take j).filterMap needA = M at *
       clear hin
       by_cases hk7 : ck = 7
       ·subst hk7
        have hnd : N ++ (t.acts.take (j + 1)).filterMap needA = M ++ [(cm, 2)] := by rw [hst, ← hM, List.append_assoc]; rfl
        have hox := (hown.alloc (Obj.cells #[.int .i64 7, .string ⟨cm.toArray⟩, .int .u32 (cn.toNat : Int), .string ⟨cv.toArray⟩] 51)).alloc (Obj.cells #[.string ⟨cm.toArray⟩, .int .i64 2] 114)
        have F5 := (hF.alloc (Obj.cells #[.int .i64 7, .string ⟨cm.toArray⟩, .int .u32 (cn.toNat : Int), .string ⟨cv.toArray⟩] 51)).alloc (Obj.cells #[.string ⟨cm.toArray⟩, .int .i64 2] 114)
        have hcell := cells_new (wx.alloc (Obj.cells #[.int .i64 7, .string ⟨cm.toArray⟩, .int .u32 (cn.toNat : Int), .string ⟨cv.toArray⟩] 51)) #[.string ⟨cm.toArray⟩, .int .i64 2] 114
        rw [show (wx.alloc (Obj.cells #[.int .i64 7, .string ⟨cm.toArray⟩, .int .u32 (cn.toNat : Int), .string ⟨cv.toArray⟩] 51)).heap.size = wx.heap.size + 1 by simp] at hcell
        replace hcell : ∀ (j : Nat) (u : Value), ([.string ⟨cm.toArray⟩, .int .i64 2] : List Value)[j]? = some u → _ := hcell
        have hW5 : W0.heap.size ≤ ((wx.alloc (Obj.cells #[.int .i64 7, .string ⟨cm.toArray⟩, .int .u32 (cn.toNat : Int), .string ⟨cv.toArray⟩] 51)).alloc (Obj.cells #[.string ⟨cm.toArray⟩, .int .i64 2] 114)).heap.size := by simp; omega
        have hER : ENeed.R ((wx.alloc (Obj.cells #[.int .i64 7, .string ⟨cm.toArray⟩, .int .u32 (cn.toNat : Int), .string ⟨cv.toArray⟩] 51)).alloc (Obj.cells #[.string ⟨cm.toArray⟩, .int .i64 2] 114)) (fun b => W0.heap.size ≤ b ∧ b < ((wx.alloc (Obj.cells #[.int .i64 7, .string ⟨cm.toArray⟩, .int .u32 (cn.toNat : Int), .string ⟨cv.toArray⟩] 51)).alloc (Obj.cells #[.string ⟨cm.toArray⟩, .int .i64 2] 114)).heap.size ∧ some b ≠ u3.ownBlock) (cm, 2) [.string ⟨cm.toArray⟩, .int .i64 2] := ENeed.of hnm (⟨by decide, by decide⟩ : i64 2)
        clear hown hM hst hnm hF
        replace hox := hide hox
        replace F5 := hide F5
        replace hcell := hide hcell
        replace hW5 := hide hW5
        replace hER := hide hER
        replace hnd := hide hnd
        go_wp2_with (
         at_builtin
         go_must (refine wpList_push (E := ENeed) rfl _ _ _ rfl okNeed (by decide) (by decide) rfl hox.out (by omega) hW5.out rfl hER.out hcell.out ?_)
         intro v' w5 hown1 hg5 hat5)
        clear c0 c1 c2 c3
        go_roundw
        case rel => exact ⟨j + 1, by omega, by go_num, by rw [hnd.out]; exact hown1, F5.out.push (fun q hq => (hox.out.lt q hq).1) hg5⟩
        case measure => simp [intOf]; omega
       ·have hnd : N ++ (t.acts.take (j + 1)).filterMap needA = M := by
         rw [hst, ← hM]
         have : needA ⟨ck, cm, cn, cv⟩ = none := if_neg hk7
         rw [this]
         simp
        have d1 : (ck == 7) = false := beq_eq_false_iff_ne.2 hk7
        have hox := hown.alloc (Obj.cells #[.int .i64 ck, .string ⟨cm.toArray⟩, .int .u32 (cn.toNat : Int), .string ⟨cv.toArray⟩] 51)
        have F5 := hF.alloc (Obj.cells #[.int .i64 ck, .string ⟨cm.toArray⟩, .int .u32 (cn.toNat : Int), .string ⟨cv.toArray⟩] 51)
        clear hown hM hst hnm hF hk7
        replace hox := hide hox
        replace F5 := hide F5
        replace hnd := hide hnd
        go_wp2_with fail
        go_roundw
        case rel => exact ⟨j + 1, by omega, by go_num, by rw [hnd.out]; exact hox.out, F5.out⟩
        case measure => simp [intOf]; omega
      ·obtain rfl : j = t.acts.length := by omega
       rw [List.take_length] at hown
       have hll2 : (N ++ t.acts.filterMap needA).length ≤ 128 * (k + 1) := by
        have := fm_len needA t.acts
        rw [List.length_append]
        have := hll.out
        omega
       clear hlj hj
       replace hown := hide hown
       replace hF := hide hF
       replace hll2 := hide hll2
       go_wp2_with fail
       go_roundw
       case rel => exact ⟨k + 1, by omega, by go_num, by rw [hfs2.out]; exact hown.out, by rw [hfs2.out]; exact hll2.out, hF.out⟩
       case measure => simp [intOf]; omega
  ·obtain rfl : k = l.length := by omega
   rw [List.take_length] at hown
   have EE := E.out.trans hE
   have hfin := hown.low (B' := g0) (by have := hgw.out; have := E.out.size; omega)
   clear hlt hk hown hE
   replace EE := hide EE
   replace hfin := hide hfin
   go_wp2_with fail
   go_ret
   exact ⟨_, rfl, EE.out, hfin.out⟩
end
section
open Go.RowKit Go.WideMaps Go.Maps
set_option linter.unusedVariables false
theorem keyedS : Keyed Tryz.prog 9 := string_keyed Tryz.underlying9
theorem zeroI (w : World) : (zeroValue 3).run Tryz.prog w = .ok (.int .i64 0) w := by kernel_rfl
/-- The map at block b holds f. -/
def MapIs (w : World) (b n : Nat) (f : List UInt8 → Int) : Prop :=
 ∃ D : DataW Unit, w.ownsMap Tryz.prog 9 (plainElem Tryz.prog 3) b n D ∧ ∀ s : List UInt8, D.atKey (.string s) (.lit (.int .i64 0)) = .lit (.int .i64 (f s))
theorem MapIs.made (w : World) : MapIs (w.alloc (.map #[] 0)) w.heap.size 0 (fun _ => 0) := ⟨_, World.ownsMap_made _ _ _ _, fun _ => rfl⟩
theorem MapIs.lt {w : World} {b n : Nat} {f : List UInt8 → Int} (h : MapIs w b n f) : b < w.heap.size := by
 obtain ⟨D, h, _⟩ := h
 exact h.lt
theorem MapIs.grown {w w' : World} {b n : Nat} {f : List UInt8 → Int} (h : MapIs w b n f) {row : Option Nat} (hg : w.grownBy w' row) (hne : some b ≠ row) : MapIs w' b n f := by
 obtain ⟨D, h, hf⟩ := h
 exact ⟨D, h.kept hg hne, hf⟩
theorem MapIs.ext {w w' : World} {b n : Nat} {f : List UInt8 → Int} (h : MapIs w b n f) (he : Ext w w') : MapIs w' b n f := by
 have hlt := h.lt
 obtain ⟨D, ⟨es, clock, hb, F, hs, hD⟩, hf⟩ := h
 exact ⟨D, ⟨es, clock, (he.block b hlt).trans hb, F, hs, hD⟩, hf⟩
set_option maxRecDepth 20000 in
theorem MapIs.look {w : World} {b n : Nat} {f : List UInt8 → Int} (h : MapIs w b n f) (s : List UInt8) (hs : s.length ≤ 1048576) :
  (Instr.lookup 123 (.map (some b)) (.string ⟨s.toArray⟩) false).run Tryz.prog w = .ok (.int .i64 (f s)) w := by
 obtain ⟨D, h, hf⟩ := h
 have hk : keyOf Tryz.prog 9 (.string ⟨s.toArray⟩) = some (.string s) := by
  have := keyOf_string_mk (P := Tryz.prog) Tryz.underlying9 (s := ⟨s.toArray⟩) (by unfold maxLen; simp [ByteArray.size]; omega)
  simpa using this
 obtain ⟨c, h1, h2, _⟩ := h.lookup_int keyedS Tryz.underlying123 Tryz.underlying3 (zeroI w) hk
 rw [hf] at h2
 injection h2 with h2
 injection h2 with _ h2
 rw [h1, h2]
def updM (f : List UInt8 → Int) (s : List UInt8) (k : Int) : List UInt8 → Int := fun x => if x = s then k else f x
set_option maxRecDepth 20000 in
theorem MapIs.put {w : World} {b n : Nat} {f : List UInt8 → Int} (h : MapIs w b n f) (hn : n ≤ 16777216) (s : List UInt8) (hs : s.length ≤ 1048576) (k : Int) (hk : i64 k) :
  ∃ w', (Instr.mapUpdate 123 (.map (some b)) (.string ⟨s.toArray⟩) (.int .i64 k)).run Tryz.prog w = .ok () w' ∧ MapIs w' b (n + 1) (updM f s k) ∧ w.grownBy w' (some b) := by
 obtain ⟨D, h, hf⟩ := h
 have hkey : keyOf Tryz.prog 9 (.string ⟨s.toArray⟩) = some (.string s) := by
  have := keyOf_string_mk (P := Tryz.prog) Tryz.underlying9 (s := ⟨s.toArray⟩) (by unfold maxLen; simp [ByteArray.size]; omega)
  simpa using this
 have hval : plainElem (H := Unit) Tryz.prog 3 (.int .i64 k) = some (.lit (.int .i64 k), []) := plainElem_int Tryz.underlying3 (by obtain ⟨h1, h2⟩ := hk; simp [Lit.wf, IntKind.min, IntKind.max, IntKind.signed, IntKind.bits]; omega)
 obtain ⟨w', h1, h2, h3⟩ := h.update keyedS Tryz.underlying123 (by unfold maxLen; omega) hkey hval
 refine ⟨w', h1, ⟨_, h2, fun x => ?_⟩, h3⟩
 unfold updM
 by_cases hx : x = s
 ·subst hx
  rw [if_pos rfl]
  exact atKey_put_same (k := .string x) h.isMap (show WideAt.IsKeyLit (.string x) from trivial) _ _
 ·rw [if_neg hx, atKey_put_other (fun e => hx (by injection e)), hf]
/-- The kind of the last set of a name; 0: there is none. -/
def kindL (l : List StS) : List UInt8 → Int := l.foldl (fun f s => updM f s.name s.kind) fun _ => 0
theorem kindL_snoc (l : List StS) (s : StS) : kindL (l ++ [s]) = updM (kindL l) s.name s.kind := by unfold kindL; rw [List.foldl_append]; rfl
theorem setOk_kind {s : StS} (h : setOk s = true) : s.kind = 1 ∨ s.kind = 2 ∨ s.kind = 3 := by
 unfold setOk at h
 rw [Bool.and_eq_true] at h
 obtain ⟨_, h⟩ := h
 by_cases h1 : s.kind = 1
 ·exact .inl h1
 ·rw [if_neg h1] at h
  by_cases h2 : s.kind = 2
  ·exact .inr (.inl h2)
  ·rw [if_neg h2] at h
   by_cases h3 : s.kind = 3
   ·exact .inr (.inr h3)
   ·rw [if_neg h3] at h; cases h
theorem setsOk_app (l m : List StS) (seen : List (List UInt8)) : setsOk (l ++ m) seen = (setsOk l seen && setsOk m ((l.map (·.name)).reverse ++ seen)) := by
  induction l generalizing seen with
  | nil => simp [setsOk]
  | cons x r ih =>
    show (setOk x && (!seen.contains x.name && setsOk (r ++ m) (x.name :: seen))) = ((setOk x && (!seen.contains x.name && setsOk r (x.name :: seen))) && _)
    rw [ih, List.map_cons, List.reverse_cons, List.append_assoc, Bool.and_assoc, Bool.and_assoc]
    rfl
theorem setsOk_step {l : List StS} {k : Nat} (h : k < l.length) (h1 : setsOk (l.take k) [] = true) : setsOk (l.take (k + 1)) [] = (setOk l[k] && !((l.take k).map (·.name)).contains l[k].name) := by
 rw [List.take_succ_eq_append_getElem h, setsOk_app, h1, Bool.true_and]
 simp [setsOk]
theorem setsOk_bad {l : List StS} {k : Nat} (h1 : setsOk (l.take k) [] = false) : setsOk l [] = false := by
 have := setsOk_app (l.take k) (l.drop k) []
 rw [List.take_append_drop, h1, Bool.false_and] at this
 exact this
theorem setsOk_all : ∀ (l : List StS) (seen : List (List UInt8)), setsOk l seen = true → ∀ s ∈ l, setOk s = true
  | [], _, _, s, h => by cases h
  | x :: r, seen, h, s, hs => by
    unfold setsOk at h
    simp only [Bool.and_eq_true] at h
    rcases List.mem_cons.1 hs with rfl | hs
    · exact h.1
    · exact setsOk_all r _ h.2.2 s hs
theorem rev_ind {α : Type} {P : List α → Prop} (h0 : P []) (h1 : ∀ l x, P l → P (l ++ [x])) (l : List α) : P l := by
 have h : ∀ m : List α, P m.reverse := fun m => by
  induction m with
  | nil => exact h0
  | cons x m ih => rw [List.reverse_cons]; exact h1 _ _ ih
 have := h l.reverse
 rwa [List.reverse_reverse] at this
/-- Of sets that may be: no name has kind 0; a name has the kind of its set. -/
theorem kindL_zero : ∀ (l : List StS) (n : List UInt8), (∀ s ∈ l, setOk s = true) → ((kindL l n = 0) ↔ (l.map (·.name)).contains n = false) := by
 intro l
 refine rev_ind (P := fun l => ∀ n, (∀ s ∈ l, setOk s = true) → ((kindL l n = 0) ↔ (l.map (·.name)).contains n = false)) ?_ ?_ l
 ·intro n _; simp [kindL]
 ·intro l x ih n h
  rw [kindL_snoc, List.map_append]
  unfold updM
  have hx := setOk_kind (h x (by simp))
  have ih := ih n fun s hs => h s (by simp [hs])
  by_cases hn : n = x.name
  ·subst hn
   rw [if_pos rfl]
   constructor
   ·intro h0; omega
   ·intro hc; simp at hc
  ·rw [if_neg hn, ih]
   simp [hn]
theorem kindL_there : ∀ (l : List StS) (n : List UInt8) (k : Int), setsOk l [] = true → k ≠ 0 → ((kindL l n = k) ↔ thereS l (n, k) = true) := by
 intro l
 refine rev_ind (P := fun l => ∀ (n : List UInt8) (k : Int), setsOk l [] = true → k ≠ 0 → ((kindL l n = k) ↔ thereS l (n, k) = true)) ?_ ?_ l
 ·intro n k _ hk
  simp [kindL, thereS]
  omega
 ·intro l x ih n k h hk
  rw [setsOk_app, Bool.and_eq_true] at h
  obtain ⟨h1, h2⟩ := h
  have hx : setOk x = true ∧ ((l.map (·.name))).contains x.name = false := by
   unfold setsOk at h2
   simp only [Bool.and_eq_true, Bool.not_eq_true', List.append_nil] at h2
   refine ⟨h2.1, ?_⟩
   have h3 := h2.2.1
   rw [Bool.eq_false_iff] at h3 ⊢
   intro hc
   exact h3 (by simpa using hc)
  have ih := ih n k h1 hk
  rw [kindL_snoc]
  unfold updM
  by_cases hn : n = x.name
  ·subst hn
   rw [if_pos rfl]
   unfold thereS
   rw [List.any_append]
   have hno : (l.any fun s => s.name == x.name && decide (s.kind = k)) = false := by
    rw [List.any_eq_false]
    intro s hs
    have : (s.name == x.name) = false := by
     rw [beq_eq_false_iff_ne]
     intro e
     have : ((l.map (·.name))).contains x.name = true := List.contains_iff_mem.2 (List.mem_map.2 ⟨s, hs, e⟩)
     rw [this] at hx
     exact Bool.noConfusion hx.2
    rw [this]; simp
   rw [hno]
   simp
  ·rw [if_neg hn, ih]
   unfold thereS
   rw [List.any_append]
   have : (x.name == n) = false := beq_eq_false_iff_ne.2 fun e => hn e.symm
   simp [this]
theorem needs_kind {p : PolS} {n : List UInt8 × Int} (h : n ∈ needsP p) : n.2 ≠ 0 := by
 unfold needsP at h
 obtain ⟨t, _, h⟩ := List.mem_flatMap.1 h
 unfold needsT at h
 rcases List.mem_append.1 h with h | h
 ·obtain ⟨c, _, h⟩ := List.mem_filterMap.1 h
  unfold needC at h
  split at h
  ·injection h with h
   subst h
   rename_i h1
   show c.kind ≠ 0
   omega
  ·cases h
 ·obtain ⟨a, _, h⟩ := List.mem_filterMap.1 h
  unfold needA at h
  split at h
  ·injection h with h
   subst h
   show (2 : Int) ≠ 0
   decide
  ·cases h
end
section
open Go.RowKit Go.Sort
set_option linter.unusedVariables false
theorem ESet.at16 {w : World} {S : Nat → Prop} {a : Option Addr} {l : List StS} (h : Sl ESet w S a l) (k : Nat) (hk : k < l.length) :
  ∃ b off a1 c1 a2 c2 a3 c3, a = some ⟨b, off, none⟩ ∧ SetIn w S l[k] a1 a2 a3 ∧ w.cell? ⟨b, off + k * 5, none⟩ = some (.string ⟨l[k].name.toArray⟩) ∧ w.cell? ⟨b, off + k * 5 + 1, none⟩ = some (.int .i64 l[k].kind) ∧ w.cell? ⟨b, off + k * 5 + 2, none⟩ = some (.slice a1 l[k].items.length c1) ∧ w.cell? ⟨b, off + k * 5 + 3, none⟩ = some (.slice a2 l[k].comms.length c2) ∧ w.cell? ⟨b, off + k * 5 + 4, none⟩ = some (.slice a3 l[k].paths.length c3) := by
 obtain ⟨b, off, cs, rfl, hb, hr, hc⟩ := h.at k hk
 obtain ⟨a1, c1, a2, c2, a3, c3, rfl, hi⟩ := ESet.iff.1 hr
 exact ⟨b, off, a1, c1, a2, c2, a3, c3, rfl, hi, hc 0 _ rfl, hc 1 _ rfl, hc 2 _ rfl, hc 3 _ rfl, hc 4 _ rfl⟩
theorem needs_len' : ∀ (l : List TermS), (∀ t ∈ l, t.conds.length ≤ 64 ∧ t.acts.length ≤ 64) → (l.flatMap needsT).length ≤ 128 * l.length
  | [], _ => Nat.le_refl _
  | t :: l, h => by
    have ih := needs_len' l fun x hx => h x (by simp [hx])
    have h1 := h t (by simp)
    have h2 := fm_len needC t.conds
    have h3 := fm_len needA t.acts
    rw [List.flatMap_cons, List.length_append]
    unfold needsT at *
    rw [List.length_append, List.length_cons]
    omega
theorem needs_len {p : PolS} (h : PolB p) : (needsP p).length ≤ 8192 := by
 have h1 := needs_len' p.terms h.c
 have h2 := h.n
 unfold needsP
 omega
theorem polOk_bad {p : PolS} : polOk p = (nameOk p.name && (decide (p.terms.length ≤ 64) && !badT p.terms)) := by
 unfold polOk badT
 congr 2
 induction p.terms with
 | nil => rfl
 | cons t r ih => rw [List.all_cons, List.any_cons, ih]; simp
theorem checkP_bad {p : PolS} {l : List StS} (h : polOk p = false) : checkP p l = 2 := if_pos h
theorem checkP_sets {p : PolS} {l : List StS} (h : polOk p = true) (h2 : setsOk l [] = false) : checkP p l = 2 := by
 unfold checkP
 rw [if_neg (by rw [h]; decide), if_pos h2]
theorem checkP_need {p : PolS} {l : List StS} (h : polOk p = true) (h2 : setsOk l [] = true) (h3 : (needsP p).all (thereS l) = false) : checkP p l = 8 := by
 unfold checkP
 rw [if_neg (by rw [h]; decide), if_neg (by rw [h2]; decide), if_pos h3]
theorem checkP_ok {p : PolS} {l : List StS} (h : polOk p = true) (h2 : setsOk l [] = true) (h3 : (needsP p).all (thereS l) = true) : checkP p l = 0 := by
 unfold checkP
 rw [if_neg (by rw [h]; decide), if_neg (by rw [h2]; decide), if_neg (by rw [h3]; decide)]
theorem all_step {α : Type} {f : α → Bool} {l : List α} {k : Nat} (h : k < l.length) (h1 : (l.take k).all f = true) (h2 : f l[k] = true) : (l.take (k + 1)).all f = true := by
 rw [List.take_succ_eq_append_getElem h, List.all_append, h1]
 simp [h2]
theorem all_bad {α : Type} {f : α → Bool} {l : List α} {k : Nat} (h : k < l.length) (h2 : f l[k] = false) : l.all f = false := by
 rw [List.all_eq_false]
 exact ⟨l[k], List.getElem_mem h, by rw [h2]; decide⟩
set_option maxRecDepth 20000 in
set_option maxHeartbeats 8000000 in
theorem PCheck_any (p : PolS) (a : Option Addr) (ca : Nat) (l : List StS) (b : Option Addr) (cb : Nat) (w : World) (hl : p.terms.length ≤ 16777216) (hm : l.length ≤ 16777216)
    (s1 : Sl ETermC w (· < w.heap.size) a p.terms) (s2 : Sl ESet w (· < w.heap.size) b l) :
    Calls Tryz.prog 28 #[.agg #[.string ⟨p.name.toArray⟩, .slice a p.terms.length ca, .bool p.els], .slice b l.length cb] w fun e w' => e = .returned (.int .i64 (checkP p l)) ∧ Ext w w' := by
  have S := Blk.new w 35 #[.string ⟨p.name.toArray⟩, .slice a p.terms.length ca, .bool p.els]
  have E := (Ext.refl w).alloc (Obj.cells #[.string ⟨p.name.toArray⟩, .slice a p.terms.length ca, .bool p.els] 35)
  have hmm := @run_makeMap Tryz.prog
  have qn := IsName_any p.name
  have qh := fun W (h : Ext w W) => HasTerm_any a ca p.terms W hl (s1.ext h)
  have qe := fun hb W (h : Ext w W) => PNeeds_any p a ca W hb (s1.ext h).weakT
  have hpo := polOk_bad (p := p)
  have hbad := checkP_bad (p := p) (l := l)
  have hset := checkP_sets (p := p) (l := l)
  have hned := checkP_need (p := p) (l := l)
  have hfin := checkP_ok (p := p) (l := l)
  have hnk := fun n (h : n ∈ needsP p) => needs_kind h
  have hpb := PolB.of (p := p)
  have hNl := needs_len (p := p)
  generalize needsP p = N at *
  generalize checkP p l = r at *
  generalize polOk p = po at *
  generalize hW0 : w.alloc (Obj.cells #[.string ⟨p.name.toArray⟩, .slice a p.terms.length ca, .bool p.els] 35) = W0 at S E
  generalize hg0 : w.heap.size = g0 at S
  clear s1
  generalize nameOk p.name = bn at *
  replace qn := hide qn
  replace qh := hide qh
  replace qe := hide qe
  replace hbad := hide hbad
  replace hset := hide hset
  replace hned := hide hned
  replace hfin := hide hfin
  replace hnk := hide hnk
  replace hpb := hide hpb
  replace hmm := hide hmm
  replace s2 := hide s2
  replace S := hide S
  replace E := hide E
  cases bn with
  | false =>
    rw [Bool.false_and] at hpo
    obtain rfl := hbad.out hpo
    clear hpo hbad hset hned hfin hpb qe hNl
    go_enter Tryz.func28, Tryz.ntmps28
    have S_0 : W0.cell? ⟨g0, 0, none⟩ = some (.string ⟨p.name.toArray⟩) := S.out.cell 0
    have S_1 : W0.cell? ⟨g0, 1, none⟩ = some (.slice a p.terms.length ca) := S.out.cell 1
    have S_2 : W0.cell? ⟨g0, 2, none⟩ = some (.bool p.els) := S.out.cell 2
    go_wp2_with fail
    (with_reducible refine (qn.out _).mono ?_)
    rintro e W1 ⟨rfl, he⟩
    replace E := hide (E.out.trans he)
    clear S_0 S_1 S_2
    clear he
    go_wp2_with fail
    go_ret
    exact ⟨rfl, E.out⟩
  | true =>
    rw [Bool.true_and] at hpo
    by_cases h64 : p.terms.length ≤ 64
    case neg =>
      rw [decide_eq_false h64, Bool.false_and] at hpo
      obtain rfl := hbad.out hpo
      have hd := decide_eq_true (show (p.terms.length : Int) > 64 by omega)
      clear hpo hbad hset hned hfin hpb qe hNl
      go_enter Tryz.func28, Tryz.ntmps28
      have S_0 : W0.cell? ⟨g0, 0, none⟩ = some (.string ⟨p.name.toArray⟩) := S.out.cell 0
      have S_1 : W0.cell? ⟨g0, 1, none⟩ = some (.slice a p.terms.length ca) := S.out.cell 1
      have S_2 : W0.cell? ⟨g0, 2, none⟩ = some (.bool p.els) := S.out.cell 2
      go_wp2_with fail
      (with_reducible refine (qn.out _).mono ?_)
      rintro e W1 ⟨rfl, he⟩
      replace E := hide (E.out.trans he)
      replace S := hide (S.out.ext he)
      clear he hW0 hg0
      clear S_0 S_1 S_2
      have S_0 : W1.cell? ⟨g0, 0, none⟩ = some (.string ⟨p.name.toArray⟩) := S.out.cell 0
      have S_1 : W1.cell? ⟨g0, 1, none⟩ = some (.slice a p.terms.length ca) := S.out.cell 1
      have S_2 : W1.cell? ⟨g0, 2, none⟩ = some (.bool p.els) := S.out.cell 2
      go_wp2_with fail
      clear S_0 S_1 S_2
      go_ret
      exact ⟨rfl, E.out⟩
    rw [decide_eq_true h64, Bool.true_and] at hpo
    generalize badT p.terms = bt at *
    cases bt with
    | true =>
      obtain rfl := hbad.out hpo
      clear hpo hbad hset hned hfin hpb qe hNl
      go_enter Tryz.func28, Tryz.ntmps28
      have S_0 : W0.cell? ⟨g0, 0, none⟩ = some (.string ⟨p.name.toArray⟩) := S.out.cell 0
      have S_1 : W0.cell? ⟨g0, 1, none⟩ = some (.slice a p.terms.length ca) := S.out.cell 1
      have S_2 : W0.cell? ⟨g0, 2, none⟩ = some (.bool p.els) := S.out.cell 2
      go_wp2_with fail
      (with_reducible refine (qn.out _).mono ?_)
      rintro e W1 ⟨rfl, he⟩
      replace E := hide (E.out.trans he)
      replace S := hide (S.out.ext he)
      clear he hW0 hg0
      clear S_0 S_1 S_2
      have S_0 : W1.cell? ⟨g0, 0, none⟩ = some (.string ⟨p.name.toArray⟩) := S.out.cell 0
      have S_1 : W1.cell? ⟨g0, 1, none⟩ = some (.slice a p.terms.length ca) := S.out.cell 1
      have S_2 : W1.cell? ⟨g0, 2, none⟩ = some (.bool p.els) := S.out.cell 2
      go_wp2_with fail
      (with_reducible refine (qh.out _ E.out).mono ?_)
      rintro e W2 ⟨rfl, he⟩
      replace E := hide (E.out.trans he)
      clear he
      clear S_0 S_1 S_2
      go_wp2_with fail
      go_ret
      exact ⟨rfl, E.out⟩
    | false =>
      have hpo1 : po = true := hpo
      subst hpo1
      have hset' := hset.out rfl
      have hned' := hned.out rfl
      have hfin' := hfin.out rfl
      have qe' := qe.out (hpb.out rfl)
      have hN := hNl (hpb.out rfl)
      clear hpo hbad hset hned hfin hpb qe hNl
      replace hset' := hide hset'
      replace hned' := hide hned'
      replace hfin' := hide hfin'
      replace qe' := hide qe'
      go_enter Tryz.func28, Tryz.ntmps28
      have S_0 : W0.cell? ⟨g0, 0, none⟩ = some (.string ⟨p.name.toArray⟩) := S.out.cell 0
      have S_1 : W0.cell? ⟨g0, 1, none⟩ = some (.slice a p.terms.length ca) := S.out.cell 1
      have S_2 : W0.cell? ⟨g0, 2, none⟩ = some (.bool p.els) := S.out.cell 2
      go_wp2_with fail
      (with_reducible refine (qn.out _).mono ?_)
      rintro e W1 ⟨rfl, he⟩
      replace E := hide (E.out.trans he)
      replace S := hide (S.out.ext he)
      clear he hW0 hg0 qn
      clear S_0 S_1 S_2
      have S_0 : W1.cell? ⟨g0, 0, none⟩ = some (.string ⟨p.name.toArray⟩) := S.out.cell 0
      have S_1 : W1.cell? ⟨g0, 1, none⟩ = some (.slice a p.terms.length ca) := S.out.cell 1
      have S_2 : W1.cell? ⟨g0, 2, none⟩ = some (.bool p.els) := S.out.cell 2
      go_wp2_with fail
      (with_reducible refine (qh.out _ E.out).mono ?_)
      rintro e W2 ⟨rfl, he⟩
      replace E := hide (E.out.trans he)
      replace S := hide (S.out.ext he)
      clear he qh
      clear S_0 S_1 S_2
      have hmk := hmm.out
      go_wp2_with fail
      clear hmk
      have M := MapIs.made W2
      have F := (Ext.refl W2).alloc (.map #[] 0)
      generalize W2.alloc (.map #[] 0) = W3 at M F ⊢
      have hmb : W2.heap.size ≤ W2.heap.size := Nat.le_refl _
      generalize hmbe : W2.heap.size = mb at M hmb ⊢
      replace hmb : W2.heap.size ≤ mb := by omega
      clear hmbe
      replace M := hide M
      replace F := hide F
      replace hmb := hide hmb
      go_loopw [28] (fun i wr => ∃ k : Nat, k ≤ l.length ∧ i = .int .i64 k ∧ Ext W2 wr ∧ MapIs wr mb k (kindL (l.take k)) ∧ setsOk (l.take k) [] = true) (fun i _ => l.length - (intOf i).toNat)
      case atStart => exact ⟨0, Nat.zero_le _, rfl, F.out, M.out, rfl⟩
      case round =>
        clear M F
        obtain ⟨k, hk, rfl, F, M, hso⟩ := hrel
        by_cases hlt : k < l.length
        · obtain ⟨bs, os, a1, c1, a2, c2, a3, c3, rfl, hi, i0, i1, i2, i3, i4⟩ := ESet.at16 (s2.out.ext (E.out.trans F)) k hlt
          have hstep := setsOk_step hlt hso
          have hbd := fun h => hset'.out (setsOk_bad (k := k + 1) h)
          have hkz := kindL_zero (l.take k) l[k].name fun x hx => setsOk_all _ _ hso x hx
          have hkn : kindL (l.take (k + 1)) = updM (kindL (l.take k)) l[k].name l[k].kind := by rw [List.take_succ_eq_append_getElem hlt, kindL_snoc]
          generalize hso1 : setsOk (l.take (k + 1)) [] = so1 at *
          replace hso1 := hide hso1
          generalize l[k] = x at *
          have qc := fun W (h : Ext wr W) => SCheck_any x a1 c1 a2 c2 a3 c3 W (hi.ext h)
          have hnm : x.name.length ≤ 1048576 := hi.name
          have hkd : i64 x.kind := hi.kind
          generalize setOk x = sx at *
          generalize x.name = nm at *
          generalize x.kind = kd at *
          generalize x.items.length = z1 at *
          generalize x.comms.length = z2 at *
          generalize x.paths.length = z3 at *
          have X := Blk.new wr 67 #[.string ⟨nm.toArray⟩, .int .i64 kd, .slice a1 z1 c1, .slice a2 z2 c2, .slice a3 z3 c3]
          have eX := (Ext.refl wr).alloc (Obj.cells #[.string ⟨nm.toArray⟩, .int .i64 kd, .slice a1 z1 c1, .slice a2 z2 c2, .slice a3 z3 c3] 67)
          replace M := M.ext eX
          have F1 := F.trans eX
          replace X := hide X
          replace eX := hide eX
          replace M := hide M
          replace F1 := hide F1
          replace hstep := hide hstep
          replace hbd := hide hbd
          replace hkz := hide hkz
          replace hkn := hide hkn
          replace qc := hide qc
          go_upto_region 7 with fail
          generalize wr.alloc (Obj.cells #[.string ⟨nm.toArray⟩, .int .i64 kd, .slice a1 z1 c1, .slice a2 z2 c2, .slice a3 z3 c3] 67) = W4 at X eX M F1 ⊢
          generalize wr.heap.size = xb at X ⊢
          clear i0 i1 i2 i3 i4
          have X_0 : W4.cell? ⟨xb, 0, none⟩ = some (.string ⟨nm.toArray⟩) := X.out.cell 0
          have X_1 : W4.cell? ⟨xb, 1, none⟩ = some (.int .i64 kd) := X.out.cell 1
          have X_2 : W4.cell? ⟨xb, 2, none⟩ = some (.slice a1 z1 c1) := X.out.cell 2
          have X_3 : W4.cell? ⟨xb, 3, none⟩ = some (.slice a2 z2 c2) := X.out.cell 3
          have X_4 : W4.cell? ⟨xb, 4, none⟩ = some (.slice a3 z3 c3) := X.out.cell 4
          go_wp2_with fail
          (with_reducible refine (qc.out _ eX.out).mono ?_)
          rintro e W5 ⟨rfl, he⟩
          clear X_0 X_1 X_2 X_3 X_4
          replace X := hide (X.out.ext he)
          have M5 := M.out.ext he
          replace F1 := hide (F1.out.trans he)
          clear he qc eX M
          cases sx with
          | false =>
            have h2 := hbd.out (by rw [hstep.out]; rfl)
            subst h2
            clear M5
            simp only [errOf, Bool.false_eq_true, if_false]
            go_wp2_with fail
            go_ret
            exact ⟨rfl, E.out.trans F1.out⟩
          | true =>
            simp only [errOf, if_true]
            have hlook := M5.look nm hnm
            have hst := hstep.out
            rw [Bool.true_and] at hst
            by_cases hz : kindL (l.take k) nm = 0
            · rw [hz] at hlook
              have hs1 : so1 = true := by rw [hst, hkz.out.1 hz]; rfl
              obtain ⟨w6, hrun, M6, hg6⟩ := M5.put (by omega) nm hnm kd hkd
              have F6 := F1.out.grown hg6 (fun q hq => by injection hq with hq; subst hq; exact hmb.out)
              rw [← hkn.out] at M6
              subst hs1
              clear M5 hz hst hkz hstep hbd hkd hnm hg6
              replace M6 := hide M6
              replace F6 := hide F6
              have X_0 : W5.cell? ⟨xb, 0, none⟩ = some (.string ⟨nm.toArray⟩) := X.out.cell 0
              have X_1 : W5.cell? ⟨xb, 1, none⟩ = some (.int .i64 kd) := X.out.cell 1
              have X_2 : W5.cell? ⟨xb, 2, none⟩ = some (.slice a1 z1 c1) := X.out.cell 2
              have X_3 : W5.cell? ⟨xb, 3, none⟩ = some (.slice a2 z2 c2) := X.out.cell 3
              have X_4 : W5.cell? ⟨xb, 4, none⟩ = some (.slice a3 z3 c3) := X.out.cell 4
              go_wp2_with fail
              clear X_0 X_1 X_2 X_3 X_4
              go_roundw
              case rel => exact ⟨k + 1, by omega, by go_num, F6.out, M6.out, hso1.out⟩
              case measure => simp [intOf]; omega
            · have hs1 : so1 = false := by
                rw [hst]
                have : ((l.take k).map (·.name)).contains nm = true := by
                  rw [← Bool.not_eq_false]
                  exact fun h => hz (hkz.out.2 h)
                rw [this]; rfl
              have h2 := hbd.out hs1
              subst h2
              have hzz : (kindL (l.take k) nm == 0) = false := beq_eq_false_iff_ne.2 hz
              have hzn : (kindL (l.take k) nm != 0) = true := by simp [bne, hzz]
              clear hz hst hkz hstep hbd M5 hs1
              generalize kindL (l.take k) nm = zz at *
              have X_0 : W5.cell? ⟨xb, 0, none⟩ = some (.string ⟨nm.toArray⟩) := X.out.cell 0
              have X_1 : W5.cell? ⟨xb, 1, none⟩ = some (.int .i64 kd) := X.out.cell 1
              have X_2 : W5.cell? ⟨xb, 2, none⟩ = some (.slice a1 z1 c1) := X.out.cell 2
              have X_3 : W5.cell? ⟨xb, 3, none⟩ = some (.slice a2 z2 c2) := X.out.cell 3
              have X_4 : W5.cell? ⟨xb, 4, none⟩ = some (.slice a3 z3 c3) := X.out.cell 4
              go_wp2_with fail
              clear X_0 X_1 X_2 X_3 X_4
              go_ret
              exact ⟨rfl, E.out.trans F1.out⟩
        · obtain rfl : k = l.length := by omega
          rw [List.take_length] at hso M
          have S5 := S.out.ext F
          have EF := E.out.trans F
          have q := qe'.out wr EF
          have hth := fun n k hn => kindL_there l n k hso hn
          have hn8 := hned'.out hso
          have hf8 := hfin'.out hso
          clear hlt hk hso F qe' hned' hfin' S s2 hset'
          replace S5 := hide S5
          replace M := hide M
          replace EF := hide EF
          replace q := hide q
          replace hth := hide hth
          replace hn8 := hide hn8
          replace hf8 := hide hf8
          have S5_0 : wr.cell? ⟨g0, 0, none⟩ = some (.string ⟨p.name.toArray⟩) := S5.out.cell 0
          have S5_1 : wr.cell? ⟨g0, 1, none⟩ = some (.slice a p.terms.length ca) := S5.out.cell 1
          have S5_2 : wr.cell? ⟨g0, 2, none⟩ = some (.bool p.els) := S5.out.cell 2
          go_wp2_with fail
          clear S5_0 S5_1 S5_2
          (with_reducible refine q.out.mono ?_)
          rintro e W6 ⟨v, rfl, he, O⟩
          obtain ⟨ba, bc, rfl, O2⟩ := O.sl
          replace O2 := O2.mono (S' := (· < W6.heap.size)) fun _ h => h.2
          replace EF := hide (EF.out.trans he)
          replace M := hide (M.out.ext he)
          clear he q O S5
          replace O2 := hide O2
          go_wp2_with fail
          go_loopw [51] (fun i wx => ∃ k : Nat, k ≤ N.length ∧ i = .int .i64 k ∧ Ext W6 wx ∧ (N.take k).all (thereS l) = true) (fun i _ => N.length - (intOf i).toNat)
          case atStart => exact ⟨0, Nat.zero_le _, rfl, Ext.refl _, rfl⟩
          case round =>
            rename World => wx
            obtain ⟨k, hk, rfl, G, hal⟩ := hrel
            by_cases hlt : k < N.length
            · obtain ⟨bb, ob, rfl, _, hn1, hn2, i0, i1⟩ := ENeed.at (O2.out.ext G) k hlt
              have hst := all_step (f := thereS l) hlt hal
              have hbd := all_bad (f := thereS l) hlt
              have hne := hnk.out N[k] (List.getElem_mem hlt)
              have htt := hth.out N[k].1 N[k].2 hne
              generalize N[k] = x at *
              obtain ⟨nm, kd⟩ := x
              dsimp only at hn1 hn2 i0 i1 hne htt
              have X := Blk.new wx 114 #[.string ⟨nm.toArray⟩, .int .i64 kd]
              have G1 := G.alloc (Obj.cells #[.string ⟨nm.toArray⟩, .int .i64 kd] 114)
              have hlook := (M.out.ext G1).look nm hn1
              replace X := hide X
              replace G1 := hide G1
              replace hst := hide hst
              replace hbd := hide hbd
              replace htt := hide htt
              go_upto_region 14 with fail
              generalize wx.alloc (Obj.cells #[.string ⟨nm.toArray⟩, .int .i64 kd] 114) = W7 at X G1 hlook ⊢
              generalize wx.heap.size = xb at X ⊢
              clear i0 i1 hn2
              have X_0 : W7.cell? ⟨xb, 0, none⟩ = some (.string ⟨nm.toArray⟩) := X.out.cell 0
              have X_1 : W7.cell? ⟨xb, 1, none⟩ = some (.int .i64 kd) := X.out.cell 1
              by_cases hz : kindL l nm = kd
              · rw [hz] at hlook
                have h1 := htt.out.1 hz
                have h2 := hide (hst.out h1)
                have hkk : (kd != kd) = false := by simp
                clear hz hst hbd htt hal
                go_wp2_with fail
                clear X_0 X_1
                go_roundw
                case rel => exact ⟨k + 1, by omega, by go_num, G1.out, h2.out⟩
                case measure => simp [intOf]; omega
              · have h1 : thereS l (nm, kd) = false := by
                  rw [← Bool.not_eq_true]
                  exact fun h => hz (htt.out.2 h)
                have h2 := hn8.out (hbd.out h1)
                subst h2
                have hzz : (kindL l nm == kd) = false := beq_eq_false_iff_ne.2 hz
                have hzn : (kindL l nm != kd) = true := by simp [bne, hzz]
                clear hz hst hbd htt hal h1
                generalize kindL l nm = zz at *
                go_wp2_with fail
                go_ret
                exact ⟨rfl, EF.out.trans G1.out⟩
            · obtain rfl : k = N.length := by omega
              rw [List.take_length] at hal
              have h2 := hf8.out hal
              subst h2
              clear hlt hk hal
              replace G := hide G
              go_wp2_with fail
              go_ret
              exact ⟨rfl, EF.out.trans G.out⟩
end
end
end Go.Proofs.YtljibkfbldjgdaaGreatDoor
