/- Chapter 35, walks: a script read of its text (script.Parse). Chapter 35, walks: a script of its text (script.Parse). Chapter 35, walks: a script's text (script.Print). errors.Is and errors.As at a fault of the program (a pointer to an api.Fault), by their contracts. Chapter 35, walks: the example of the law (works). Walks: a prefix cut: the document's. Chapter 35: for the closed law: a text that is too long; rows of events made and turned; bytes made. Chapter 35, walks: an event by small numbers (the law's of). Printed by genof.py. The law ScriptTold, walked. The law ScriptKnown, walked. Printed by genkn35.py. -/
import Derived.Lib.SplitLaws
import Derived.Lib.ParseIntB
import Derived.Lib.ParseIntBCases
import Derived.Lib.ItoaNum
import Derived.Lib.Join
import Derived.WalkKit
import Derived.Below
import Derived.Outline
import Derived.LoopTactic
import Derived.Laws.OwnMore
import Derived.Deep.AppendLies
import Derived.Deep.Draws
import Derived.Lib.Hide
import Derived.BigQuiet
import Derived.Deep.QuietTactic
import Derived.WalkSpells
import Derived.WalkLawsBesides
import Derived.Deep.RegionHeld3
import Derived.Deep.DrawnRows
import Derived.Deep.RegionLaw
import Derived.Lib.ConvBytes
import Derived.Lib.Bytealg
import Derived.Lib.Small
import Derived.Test.YtkinghadgmbhbaaGreatDoorRows
import Derived.ProofKit
import Derived.Deep.Slices
import Derived.Shelf.GgClosure.StringsRunes
import Derived.Test.YtkinghadgmbhbaaGreatDoorProg
import Derived.Test.YtkinghadgmbhbaaGreatDoorShelf
import Derived.Shelf.RegionOpenPlain
import Derived.Laws.StructEq
import Derived.Lib.QuietBelow
import Derived.Test.YtkinghadgmbhbaaGreatDoorShelf2
import Derived.Lib.UnsafeStr
import Derived.Lib.ItoaMem
import Derived.Lib.ItoaLen
import Derived.Shelf.Strings.Builder1
import Derived.Orders
import Derived.StillTail
import Derived.Defers
import Derived.Recover
import Derived.Laws.EntriesVeiled
import Derived.Deep.DeepCutAuto
import Derived.Deep.RegionWith
import Derived.OpenShut
import Derived.Maps.OwnSet
import Derived.Maps.Views
import Derived.Maps.Range
import Derived.DeepKeys5
import Derived.Deep.Cut
import Derived.LaidEql
import Derived.Stop.Asserts
import Derived.RowKitTokens
import Derived.Deep.MidRow
import Derived.Test.YtkinghadgmbhbaaGreatDoorPF01
import Derived.Test.YtkinghadgmbhbaaGreatDoorPF02
import Derived.Test.YtkinghadgmbhbaaGreatDoorPF03
import Derived.Test.YtkinghadgmbhbaaGreatDoorPF04
namespace Go.Proofs.YtkinghadgmbhbaaGreatDoor
section
open Go.RowKit
set_option linter.unusedVariables false
set_option linter.unusedSimpArgs false
def EEv : Enc EvS := Enc.cells evCs EvIn 7 (fun _ => rfl) (fun x u hu => by simp only [evCs, List.mem_cons, List.not_mem_nil, or_false] at hu; rcases hu with rfl | rfl | rfl | rfl | rfl | rfl | rfl <;> rfl)
theorem EEv.at {w : World} {S : Nat → Prop} {a : Option Addr} {l : List EvS} (h : Sl EEv w S a l) (k : Nat) (hk : k < l.length) :
  ∃ b off, a = some ⟨b, off, none⟩ ∧ S b ∧ EvIn l[k] ∧ ∀ j u, (evCs l[k])[j]? = some u → w.cell? ⟨b, off + k * 7 + j, none⟩ = some u := by
 obtain ⟨b, off, cs, rfl, hb, ⟨rfl, hi⟩, hc⟩ := h.at k hk
 exact ⟨b, off, rfl, hb, hi, hc⟩
theorem okEv : ElemOk Tryz.prog 22 31 EEv.sz 80 := elemOk (z := .agg #[.int .i64 0, .int .i64 0, .string ⟨#[]⟩, .string ⟨#[]⟩, .string ⟨#[]⟩, .int .i64 0, .int .u32 0]) Tryz.underlying22 (by kernel_rfl) rfl
theorem i64_of {x : Int} (h1 : 0 ≤ x) (h2 : x ≤ 1048576) : i64 x := by unfold i64; omega
theorem nameOk_len {s : List UInt8} (h : nameOk s = true) : s.length ≤ 16 := by
 unfold nameOk at h
 simp only [Bool.and_eq_true, decide_eq_true_eq] at h
 exact h.2.1
theorem EvIn.mk' {e : EvS} (k c : Int) (a p b : List UInt8) (t : Int) (d : UInt32) (he : e = ⟨k, c, a, p, b, t, d⟩) (h1 : 0 ≤ k ∧ k ≤ 10) (h2 : 0 ≤ c ∧ c ≤ 64) (h3 : a.length ≤ 16) (h4 : p.length ≤ 16) (h5 : b.length ≤ 65536) (h6 : 0 ≤ t ∧ t ≤ 4096) : EvIn e := by
 subst he
 exact ⟨i64_of h1.1 (by show k ≤ _; omega), i64_of h2.1 (by show c ≤ _; omega), by show a.length ≤ _; omega, by show p.length ≤ _; omega, by show b.length ≤ _; omega, i64_of h6.1 (by show t ≤ _; omega)⟩
theorem evOk_in {e : EvS} (h : evOk e = true) : EvIn e := by
 unfold evOk connOk at h
 by_cases k1 : e.kind = 1
 ·rw [if_pos k1] at h
  simp only [Bool.and_eq_true, decide_eq_true_eq] at h
  obtain ⟨he, hc, ha⟩ := h
  exact EvIn.mk' _ _ _ _ _ _ _ he (by decide) ⟨by omega, by omega⟩ (by rcases ha with h | h <;> omega) (by simp) (by simp) (by simp)
 rw [if_neg k1] at h
 by_cases k2 : e.kind = 2
 ·rw [if_pos k2] at h
  simp only [Bool.and_eq_true, decide_eq_true_eq] at h
  obtain ⟨he, hc, ha⟩ := h
  exact EvIn.mk' _ _ _ _ _ _ _ he (by decide) ⟨by omega, by omega⟩ (by simp) (nameOk_len ha) (by simp) (by simp)
 rw [if_neg k2] at h
 by_cases k3 : e.kind = 3
 ·rw [if_pos k3] at h
  simp only [Bool.and_eq_true, decide_eq_true_eq] at h
  obtain ⟨he, ha⟩ := h
  exact EvIn.mk' _ _ _ _ _ _ _ he (by decide) (by decide) (by simp) (nameOk_len ha) (by simp) (by simp)
 rw [if_neg k3] at h
 by_cases k4 : e.kind = 4
 ·rw [if_pos k4] at h
  simp only [Bool.and_eq_true, decide_eq_true_eq] at h
  obtain ⟨he, hc, ha⟩ := h
  exact EvIn.mk' _ _ _ _ _ _ _ he (by decide) ⟨by omega, by omega⟩ (by simp) (by simp) (by omega) (by simp)
 rw [if_neg k4] at h
 by_cases k5 : e.kind = 5
 ·rw [if_pos k5] at h
  simp only [Bool.and_eq_true, decide_eq_true_eq] at h
  obtain ⟨he, hc⟩ := h
  exact EvIn.mk' _ _ _ _ _ _ _ he (by decide) ⟨by omega, by omega⟩ (by simp) (by simp) (by simp) (by simp)
 rw [if_neg k5] at h
 by_cases k6 : e.kind = 6
 ·rw [if_pos k6] at h
  simp only [Bool.and_eq_true, decide_eq_true_eq] at h
  obtain ⟨he, ht⟩ := h
  exact EvIn.mk' _ _ _ _ _ _ _ he (by decide) (by decide) (by simp) (by simp) (by simp) (⟨by omega, by omega⟩)
 rw [if_neg k6] at h
 by_cases k7 : e.kind = 7
 ·rw [if_pos k7] at h
  simp only [Bool.and_eq_true, decide_eq_true_eq] at h
  obtain ⟨he, hb⟩ := h
  exact EvIn.mk' _ _ _ _ _ _ _ he (by decide) (by decide) (by simp) (by simp) (hb) (by simp)
 rw [if_neg k7] at h
 by_cases k8 : e.kind = 8
 ·rw [if_pos k8] at h
  simp only [Bool.and_eq_true, decide_eq_true_eq] at h
  obtain ⟨he, hb⟩ := h
  exact EvIn.mk' _ _ _ _ _ _ _ he (by decide) (by decide) (by simp) (by simp) (by omega) (by simp)
 rw [if_neg k8] at h
 by_cases k9 : e.kind = 9
 ·rw [if_pos k9] at h
  simp only [Bool.and_eq_true, decide_eq_true_eq] at h
  have he := h
  exact EvIn.mk' _ _ _ _ _ _ _ he (by decide) (by decide) (by simp) (by simp) (by simp) (by simp)
 rw [if_neg k9] at h
 by_cases k10 : e.kind = 10
 ·rw [if_pos k10] at h
  simp only [Bool.and_eq_true, decide_eq_true_eq] at h
  have he := h
  exact EvIn.mk' _ _ _ _ _ _ _ he (by decide) (by decide) (by simp) (by simp) (by simp) (by simp)
 rw [if_neg k10] at h
 cases h
/-- The lines of a text, in a variable. -/
def LinesP (W : World) (p : Nat) (L : List (List UInt8)) : Prop := ∃ b c, Blk W p 63 #[.slice (some ⟨b, 0, none⟩) L.length c] ∧ b < p ∧ ∀ (j : Nat) (hj : j < L.length), W.cell? ⟨b, j, none⟩ = some (.string ⟨L[j].toArray⟩)
theorem LinesP.keep {W W' : World} {p : Nat} {L : List (List UInt8)} (h : LinesP W p L) (hb : ∀ x, x ≤ p → W'.heap[x]? = W.heap[x]?) : LinesP W' p L := by
 obtain ⟨b, c, h1, h2, h3⟩ := h
 exact ⟨b, c, (hb p (by omega)).trans h1, h2, fun j hj => (World.cell?_of_block (a := ⟨b, j, none⟩) (hb b (by omega))).trans (h3 j hj)⟩
/-- What lies in the variables of script.Parse: the lines, the last one's place, the place, the configuration's size, the events; behind them the guard's code. -/
structure PS (w W : World) (p m : Nat) (L : List (List UInt8)) (k cf : Nat) (v : Value) (out : List EvS) : Prop where
  lo : w.heap.size ≤ p
  up : p + 6 ≤ W.heap.size
  ext : Ext w W
  len : L.length = m + 1
  few : m ≤ 1048576
  lines : LinesP W p L
  last : Blk W (p + 1) 3 #[.int .i64 (m : Int)]
  at_ : Blk W (p + 2) 3 #[.int .i64 (k : Int)]
  cfb : Blk W (p + 3) 3 #[.int .i64 (cf : Int)]
  ob : Blk W (p + 4) 22 #[v]
  pe : Blk W (p + 5) 23 #[.int .i64 0]
  own : Own EEv 31 W (p + 6) v out
section
variable {w W W' : World} {p m k cf : Nat} {L : List (List UInt8)} {v : Value} {out : List EvS}
theorem PS.setAt (h : PS w W p m L k cf v out) (k' : Nat) : PS w (W.setCell ⟨p + 2, 0, none⟩ (.int .i64 (k' : Int))) p m L k' cf v out := by
 have h1 := h.lo
 exact ⟨h1, by simpa [World.setCell] using h.up, h.ext.setCell (p := ⟨p + 2, 0, none⟩) (show w.heap.size ≤ p + 2 by omega) _, h.len, h.few, h.lines.keep fun x hx => Below.heap_setCell _ _ _ _ (show x ≠ p + 2 by omega),
  h.last.far (p := ⟨p + 2, 0, none⟩) (show p + 1 ≠ p + 2 by omega) _, by simpa using h.at_.set_ 0 (.int .i64 (k' : Int)), h.cfb.far (p := ⟨p + 2, 0, none⟩) (show p + 3 ≠ p + 2 by omega) _, h.ob.far (p := ⟨p + 2, 0, none⟩) (show p + 4 ≠ p + 2 by omega) _, h.pe.far (p := ⟨p + 2, 0, none⟩) (show p + 5 ≠ p + 2 by omega) _,
  h.own.kept (by simp [World.setCell]) fun b h1 h2 => Below.heap_setCell _ _ _ _ (show b ≠ p + 2 by omega)⟩
theorem PS.setCf (h : PS w W p m L k cf v out) (c' : Nat) : PS w (W.setCell ⟨p + 3, 0, none⟩ (.int .i64 (c' : Int))) p m L k c' v out := by
 have h1 := h.lo
 exact ⟨h1, by simpa [World.setCell] using h.up, h.ext.setCell (p := ⟨p + 3, 0, none⟩) (show w.heap.size ≤ p + 3 by omega) _, h.len, h.few, h.lines.keep fun x hx => Below.heap_setCell _ _ _ _ (show x ≠ p + 3 by omega),
  h.last.far (p := ⟨p + 3, 0, none⟩) (show p + 1 ≠ p + 3 by omega) _, h.at_.far (p := ⟨p + 3, 0, none⟩) (show p + 2 ≠ p + 3 by omega) _, by simpa using h.cfb.set_ 0 (.int .i64 (c' : Int)), h.ob.far (p := ⟨p + 3, 0, none⟩) (show p + 4 ≠ p + 3 by omega) _, h.pe.far (p := ⟨p + 3, 0, none⟩) (show p + 5 ≠ p + 3 by omega) _,
  h.own.kept (by simp [World.setCell]) fun b h1 h2 => Below.heap_setCell _ _ _ _ (show b ≠ p + 3 by omega)⟩
theorem PS.ext' (h : PS w W p m L k cf v out) (he : Ext W W') : PS w W' p m L k cf v out := by
 have hu := h.up
 exact ⟨h.lo, Nat.le_trans hu he.size, h.ext.trans he, h.len, h.few, h.lines.keep fun x hx => he.block x (by omega), h.last.ext he, h.at_.ext he, h.cfb.ext he, h.ob.ext he, h.pe.ext he, h.own.ext he⟩
/-- The events' row, grown, and laid into its variable. -/
theorem PS.pushed {v' : Value} {out' : List EvS} (h : PS w W p m L k cf v out) (hg : W.grownBy W' v.ownBlock) (ho : Own EEv 31 W' (p + 6) v' out') :
  PS w (W'.setCell ⟨p + 4, 0, none⟩ v') p m L k cf v' out' := by
 have h1 := h.lo
 have hu := h.up
 have hn : ∀ x, x < p + 6 → some x ≠ v.ownBlock := fun x hx e => by have := (h.own.lt x e.symm).1; omega
 have hx : Ext w W' := h.ext.push (fun j hj => Nat.le_trans (by omega) (h.own.lt j hj).1) hg
 have hgu := hg.size
 refine ⟨h1, by simp [World.setCell]; omega, hx.setCell (p := ⟨p + 4, 0, none⟩) (show w.heap.size ≤ p + 4 by omega) _, h.len, h.few, (h.lines.keep fun x hx => hg.block x (by omega) (hn x (by omega))).keep fun x hx => Below.heap_setCell _ _ _ _ (show x ≠ p + 4 by omega),
  (h.last.grown hg (hn _ (by omega))).far (p := ⟨p + 4, 0, none⟩) (show p + 1 ≠ p + 4 by omega) _, (h.at_.grown hg (hn _ (by omega))).far (p := ⟨p + 4, 0, none⟩) (show p + 2 ≠ p + 4 by omega) _, (h.cfb.grown hg (hn _ (by omega))).far (p := ⟨p + 4, 0, none⟩) (show p + 3 ≠ p + 4 by omega) _, by simpa using (h.ob.grown hg (hn _ (by omega))).set_ 0 v', (h.pe.grown hg (hn _ (by omega))).far (p := ⟨p + 4, 0, none⟩) (show p + 5 ≠ p + 4 by omega) _,
  ho.kept (by simp [World.setCell]) fun b h1 h2 => Below.heap_setCell _ _ _ _ (show b ≠ p + 4 by omega)⟩
end
def atOf (W : World) (p : Nat) : Nat := match W.cell? ⟨p + 2, 0, none⟩ with | some (.int _ n) => n.toNat | _ => 0
theorem PS.atOf {w W : World} {p m k cf : Nat} {L : List (List UInt8)} {v : Value} {out : List EvS} (h : PS w W p m L k cf v out) : atOf W p = k := by
 have := h.at_.cell 0
 unfold Go.Proofs.YtkinghadgmbhbaaGreatDoor.atOf
 rw [this]
 rfl
/-- What the reading of a script leaves. -/
def ParD (s : List UInt8) (w : World) (p m : Nat) (L : List (List UInt8)) (e : Ending) (W' : World) : Prop :=
 (∃ k cf v out, e = .returned (.tuple #[]) ∧ PS w W' p m L k cf v out ∧ restC s 0 0 L = (s.take cf, out, 0, 0) ∧ cf ≤ s.length) ∨
 (∃ (c : Int) (k cf : Nat) (v : Value) (out : List EvS), e = .panicked (wrongP c) ∧ PS w W' p m L k cf v out ∧ restC s 0 0 L = ([], [], c, k) ∧ c ≠ 0)
theorem sum_drop (L : List (List UInt8)) (k : Nat) (hk : k < L.length) : ((L.drop k).map fun x => x.length + 1).sum = L[k].length + 1 + ((L.drop (k + 1)).map fun x => x.length + 1).sum := by
 rw [List.drop_eq_getElem_cons hk, List.map_cons, List.sum_cons]
set_option maxRecDepth 20000 in
set_option maxHeartbeats 4000000 in
theorem Parse1_any (s : List UInt8) (hs : s.length ≤ 1048576) (w W0 : World) (p m : Nat) (L : List (List UInt8)) (hT : Tab w) (hV : Vars w) (hD : Deb w) (h0 : PS w W0 p m L 0 0 (.slice none 0 0) [])
    (hL : ∀ y ∈ L, y.length ≤ 1048576) (hsum : (L.map fun x => x.length + 1).sum = s.length + 1) :
    Calls Tryz.prog 36 #[.pointer (some ⟨p + 2, 0, none⟩), .pointer (some ⟨p + 1, 0, none⟩), .pointer (some ⟨p, 0, none⟩), .pointer (some ⟨p + 3, 0, none⟩), .pointer (some ⟨p + 4, 0, none⟩)] W0 (ParD s w p m L) := by
  have mixed : Tryz.prog.follows Departure.mixedOrders = true := by kernel_rfl
  have hok : ∀ W k cf v out, PS w W p m L k cf v out → restC s 0 0 L = (s.take cf, out, 0, 0) → cf ≤ s.length → ParD s w p m L (.returned (.tuple #[])) W := fun W k cf v out h1 h2 h3 => .inl ⟨k, cf, v, out, rfl, h1, h2, h3⟩
  have hno : ∀ W c k cf v out, PS w W p m L k cf v out → restC s 0 0 L = ([], [], c, k) → c ≠ 0 → ParD s w p m L (.panicked (wrongP c)) W := fun W c k cf v out h1 h2 h3 => .inr ⟨c, k, cf, v, out, rfl, h1, h2, h3⟩
  generalize ParD s w p m L = Post at *
  replace hok := hide hok
  replace hno := hide hno
  replace hT := hide hT
  replace hV := hide hV
  replace hD := hide hD
  replace h0 := hide h0
  replace hs := hide hs
  replace hL := hide hL
  go_enter Tryz.func36, Tryz.ntmps36
  go_wp2_with fail
  go_loopw [6] (fun s6 wr => ∃ k cf : Nat, PS w wr p m L k cf (.slice none 0 0) [] ∧ k < L.length ∧ restC s 0 0 L = restC s k cf (L.drop k) ∧ cf + ((L.drop k).map fun x => x.length + 1).sum = s.length + 1) (fun _ wr => L.length - atOf wr p)
  case atStart => exact ⟨0, 0, h0.out, by rw [h0.out.len]; omega, rfl, by simpa using hsum⟩
  case round =>
    clear h0
    obtain ⟨k, cf, S, hk, hr, hsm⟩ := hrel
    rw [sum_drop L k hk] at hsm
    have hlen := S.len
    have hfew := S.few
    obtain ⟨b, c, hb, hbp, hlx⟩ := S.lines
    have c0 : wr.cell? ⟨p + 2, 0, none⟩ = some (.int .i64 (k : Int)) := S.at_.cell 0
    have c1 : wr.cell? ⟨p + 1, 0, none⟩ = some (.int .i64 (m : Int)) := S.last.cell 0
    have c2 : wr.cell? ⟨p, 0, none⟩ = some (.slice (some ⟨b, 0, none⟩) L.length c) := hb.cell 0
    have c3 : wr.cell? ⟨p + 3, 0, none⟩ = some (.int .i64 (cf : Int)) := S.cfb.cell 0
    have c4 : wr.cell? ⟨b, k, none⟩ = some (.string ⟨L[k].toArray⟩) := hlx k hk
    have f2 := fun i => S.at_.frozen i
    have f3 := fun i => S.cfb.frozen i
    rw [hlen] at c2
    clear hb hlx
    have hd : L.drop k = L[k] :: L.drop (k + 1) := List.drop_eq_getElem_cons hk
    have hxl := hL.out _ (List.getElem_mem hk)
    have hcfs : cf ≤ s.length := by omega
    generalize L[k] = x at *
    by_cases hkm : k = m
    · subst hkm
      have hd0 : L.drop (k + 1) = [] := List.drop_eq_nil_of_le (by omega)
      rw [hd, hd0, restC_end] at hr
      clear hd hd0 hsm hlen hfew hk hbp hxl hcfs hsum
      replace S := hide S
      replace hr := hide hr
      go_wp2_with fail
      refine (give_any _ _).mono ?_
      rintro e w3 ⟨rfl, rfl⟩
      go_wp2
      exact ⟨rfl, hno.out _ _ _ _ _ _ S.out hr.out (by decide)⟩
    have hkm2 : k < m := by omega
    obtain ⟨y, r, hyr⟩ : ∃ y r, L.drop (k + 1) = y :: r := ⟨_, _, List.drop_eq_getElem_cons (show k + 1 < L.length by omega)⟩
    obtain ⟨k2, hk2⟩ : ∃ n : Nat, n = k + 1 := ⟨_, rfl⟩
    have w1 : IntKind.i64.wrap ((k : Int) + 1) = (k2 : Int) := by rw [IntKind.wrap_i64]; omega
    have b1 : decide (k < m) = true := decide_eq_true hkm2
    have b2 : (k == m) = false := beq_eq_false_iff_ne.2 hkm
    have b3 : decide (k = m) = false := decide_eq_false hkm
    have b4 : ((k : Int) == (m : Int)) = false := beq_eq_false_iff_ne.2 (by omega)
    have hkm3 : k < m + 1 := by omega
    rw [hd, hyr] at hr
    by_cases hxr : x = [114, 117, 110]
    · rw [restC_run s k cf hxr, ← hyr, ← hk2] at hr
      subst hxr
      have S2 := S.setAt k2
      have hkl : k2 < L.length := by omega
      rw [← hk2] at hyr
      clear hd hsm hfew hk hxl hkm hkm2 hsum
      replace S := hide S
      replace S2 := hide S2
      replace hr := hide hr
      replace hcfs := hide hcfs
      replace hk2 := hide hk2
      replace hyr := hide hyr
      replace hkl := hide hkl
      replace hlen := hide hlen
      go_wp2_with fail
      generalize wr.setCell ⟨p + 2, 0, none⟩ (.int .i64 (k2 : Int)) = wa at S2 ⊢
      try simp only [b4]
      clear c0 c1 c2 c3 c4 f2 f3 w1 b1 b2 b3 b4 hkm3 S
      go_loopw [32] (fun s32 wx => ∃ (k : Nat) (v : Value) (out : List EvS), PS w wx p m L k cf v out ∧ k < L.length ∧ restC s 0 0 L = restE s cf k out (L.drop k) ∧ out.length ≤ k) (fun _ wx => L.length - atOf wx p)
      case atStart => exact ⟨k2, _, [], S2.out, hkl.out, by rw [hr.out, hyr.out], Nat.zero_le _⟩
      case round =>
        clear S2 hr hyr hk2 hkl
        obtain ⟨k, v, out, S, hk, hr, hol⟩ := hrel
        rename World => wx
        have hlen := S.len
        have hfew := S.few
        obtain ⟨b, c, hb, hbp, hlx⟩ := S.lines
        have c0 : wx.cell? ⟨p + 2, 0, none⟩ = some (.int .i64 (k : Int)) := S.at_.cell 0
        have c1 : wx.cell? ⟨p + 1, 0, none⟩ = some (.int .i64 (m : Int)) := S.last.cell 0
        have c2 : wx.cell? ⟨p, 0, none⟩ = some (.slice (some ⟨b, 0, none⟩) L.length c) := hb.cell 0
        have c4 : wx.cell? ⟨b, k, none⟩ = some (.string ⟨L[k].toArray⟩) := hlx k hk
        rw [hlen] at c2
        clear hb hlx
        have hd : L.drop k = L[k] :: L.drop (k + 1) := List.drop_eq_getElem_cons hk
        have hxl := hL.out _ (List.getElem_mem hk)
        generalize L[k] = x at *
        by_cases hkm : k = m
        · subst hkm
          have hd0 : L.drop (k + 1) = [] := List.drop_eq_nil_of_le (by omega)
          rw [hd, hd0, restE_end] at hr
          have hkk : k < k + 1 := Nat.lt_succ_self k
          clear hd hd0 hlen hfew hk hbp hxl hol
          by_cases hx0 : x = []
          · subst hx0
            rw [if_pos rfl] at hr
            replace S := hide S
            replace hr := hide hr
            go_wp2_with fail
            go_end0
            exact hok.out _ _ _ _ _ S.out hr.out hcfs.out
          · have e1 : (x == []) = false := beq_eq_false_iff_ne.2 hx0
            have e2 : (x != []) = true := by simpa using hx0
            rw [if_neg hx0] at hr
            replace S := hide S
            replace hr := hide hr
            replace hx0 := hide hx0
            go_wp2_with fail
            refine (give_any _ _).mono ?_
            rintro e w3 ⟨rfl, rfl⟩
            go_wp2
            exact ⟨rfl, hno.out _ _ _ _ _ _ S.out hr.out (by decide)⟩
        have hkm2 : k < m := by omega
        obtain ⟨y, r, hyr⟩ : ∃ y r, L.drop (k + 1) = y :: r := ⟨_, _, List.drop_eq_getElem_cons (show k + 1 < L.length by omega)⟩
        obtain ⟨k2, hk2⟩ : ∃ n : Nat, n = k + 1 := ⟨_, rfl⟩
        have w1 : IntKind.i64.wrap ((k : Int) + 1) = (k2 : Int) := by rw [IntKind.wrap_i64]; omega
        have b1 : decide (k < m) = true := decide_eq_true hkm2
        have hkm3 : k < m + 1 := by omega
        rw [hd, hyr] at hr
        have q := SRead_any x (Nat.le_trans hxl (by decide)) (.inl hxl) wx (hT.out.ext S.ext) (hV.out.ext S.ext) (hD.out.ext S.ext)
        unfold ReadP at q
        cases ho : evO x with
        | none =>
          rw [ho] at q
          rw [restE_bad s cf k out ho] at hr
          clear hd hyr hlen hfew hk hbp hxl hol hkm hkm2 ho
          replace S := hide S
          replace hr := hide hr
          replace q := hide q
          go_wp2_with fail
          refine q.out.mono ?_
          rintro e w3 ⟨rfl, he⟩
          go_wp2
          exact ⟨rfl, hno.out _ _ _ _ _ _ (S.out.ext' he) hr.out (by decide)⟩
        | some ev =>
          rw [ho] at q
          have hein := evOk_in (evO_some ho).1
          have hlong := fun h : out.length = 512 => restE_long s cf k (y := y) (r := r) ho h
          have hon := fun h : out.length ≠ 512 => restE_on s cf k (y := y) (r := r) ho h
          obtain ⟨va, vc, rfl⟩ := S.own.form
          obtain ⟨kd, cn, ad, pr, by_, tk, dr⟩ := ev
          simp only [evCs] at q
          have hkm4 := hide hkm2
          clear hd hfew hbp hxl hkm hkm2 ho
          replace S := hide S
          replace q := hide q
          replace hlong := hide hlong
          replace hon := hide hon
          replace hr := hide hr
          replace hein := hide hein
          replace hyr := hide hyr
          replace hlen := hide hlen
          replace hk := hide hk
          replace hk2 := hide hk2
          replace hol := hide hol
          go_wp2_with fail
          refine q.out.mono ?_
          rintro e W2 ⟨rfl, he⟩
          have N := Blk.new W2 31 #[.int .i64 kd, .int .i64 cn, .string ⟨ad.toArray⟩, .string ⟨pr.toArray⟩, .string ⟨by_.toArray⟩, .int .i64 tk, .int .u32 (dr.toNat : Int)]
          have S3 := (S.out.ext' he).ext' ((Ext.refl W2).alloc (Obj.cells #[.int .i64 kd, .int .i64 cn, .string ⟨ad.toArray⟩, .string ⟨pr.toArray⟩, .string ⟨by_.toArray⟩, .int .i64 tk, .int .u32 (dr.toNat : Int)] 31))
          clear q c0 c1 c2 c4 he b1 hkm3
          go_upto_region 9 with fail
          generalize W2.alloc (Obj.cells #[.int .i64 kd, .int .i64 cn, .string ⟨ad.toArray⟩, .string ⟨pr.toArray⟩, .string ⟨by_.toArray⟩, .int .i64 tk, .int .u32 (dr.toNat : Int)] 31) = W3 at N S3 ⊢
          generalize W2.heap.size = n2 at N ⊢
          have c5 : W3.cell? ⟨p + 4, 0, none⟩ = some (.slice va out.length vc) := S3.ob.cell 0
          have d0 : W3.cell? ⟨n2, 0, none⟩ = some (.int .i64 kd) := N.cell 0
          have d1 : W3.cell? ⟨n2, 1, none⟩ = some (.int .i64 cn) := N.cell 1
          have d2 : W3.cell? ⟨n2, 2, none⟩ = some (.string ⟨ad.toArray⟩) := N.cell 2
          have d3 : W3.cell? ⟨n2, 3, none⟩ = some (.string ⟨pr.toArray⟩) := N.cell 3
          have d4 : W3.cell? ⟨n2, 4, none⟩ = some (.string ⟨by_.toArray⟩) := N.cell 4
          have d5 : W3.cell? ⟨n2, 5, none⟩ = some (.int .i64 tk) := N.cell 5
          have d6 : W3.cell? ⟨n2, 6, none⟩ = some (.int .u32 (dr.toNat : Int)) := N.cell 6
          by_cases hl : out.length = 512
          · have e1 : (out.length == 512) = true := beq_iff_eq.2 hl
            have e2 : decide (out.length = 512) = true := decide_eq_true hl
            have h9 := hr.out.trans (hlong.out hl)
            clear hl N
            replace S3 := hide S3
            replace h9 := hide h9
            go_wp2_with fail
            refine (give_any _ _).mono ?_
            rintro e w3 ⟨rfl, rfl⟩
            go_wp2
            exact ⟨rfl, hno.out _ _ _ _ _ _ S3.out h9.out (by decide)⟩
          · have e1 : (out.length == 512) = false := beq_eq_false_iff_ne.2 hl
            have e2 : decide (out.length = 512) = false := decide_eq_false hl
            have h9 := hr.out.trans (hon.out hl)
            have hol2 : out.length ≤ 1048576 := by have := hol.out; have := hk.out; have := S3.len; have := S3.few; omega
            have S4 := S3.ext' ((Ext.refl W3).alloc (Obj.cells #[.int .i64 kd, .int .i64 cn, .string ⟨ad.toArray⟩, .string ⟨pr.toArray⟩, .string ⟨by_.toArray⟩, .int .i64 tk, .int .u32 (dr.toNat : Int)] 31))
            clear hl N
            replace S3 := hide S3
            replace h9 := hide h9
            replace S4 := hide S4
            replace hol2 := hide hol2
            go_upto_region 11 with fail
            go_wp2_with
              (at_builtin
               go_must (refine wpList_push (E := EEv) (l := out) rfl _ _ _ rfl okEv (by decide) (by decide) rfl S4.out.own (by have := hol2.out; omega) S4.out.up rfl (y := ⟨kd, cn, ad, pr, by_, tk, dr⟩) (cs := evCs ⟨kd, cn, ad, pr, by_, tk, dr⟩) ⟨rfl, hein.out⟩ (cells_new W3 (evCs ⟨kd, cn, ad, pr, by_, tk, dr⟩).toArray _) ?_)
               intro v' w5 hown1 hg5 hat5
               have S5 := S4.out.pushed hg5 hown1
               have hn4 : ∀ x, x < p + 6 → some x ≠ (Value.slice va out.length vc).ownBlock := fun x hx e => by have := (S4.out.own.lt x e.symm).1; omega
               have c6 : w5.cell? ⟨p + 4, 0, none⟩ = some (.slice va out.length vc) := (S4.out.ob.grown hg5 (hn4 _ (by omega))).cell 0
               have f6 := fun i => (S4.out.ob.grown hg5 (hn4 _ (by omega))).frozen i
               have c7 : w5.cell? ⟨p + 2, 0, none⟩ = some (.int .i64 (k : Int)) := (S4.out.at_.grown hg5 (hn4 _ (by omega))).cell 0
               have f7 := fun i => (S4.out.at_.grown hg5 (hn4 _ (by omega))).frozen i
               obtain ⟨va5, vc5, rfl⟩ := hown1.form
               have S6 := S5.setAt k2
               clear hown1 hg5 hat5 hn4 S5
               simp only [List.length_append, List.length_cons, List.length_nil, Nat.zero_add] at S6 ⊢
               replace S6 := hide S6)
            go_roundw
            case rel =>
              have r1 : k2 < L.length := by have := S6.out.len; have := hlen.out; have := hk2.out; have := hkm4.out; omega
              have r2 := h9.out
              rw [← hk2.out, ← hyr.out, ← hk2.out] at r2
              have r3 : (out ++ [(⟨kd, cn, ad, pr, by_, tk, dr⟩ : EvS)]).length ≤ k2 := by have := hol.out; have := hk2.out; simp; omega
              (repeat apply Exists.intro); exact ⟨S6.out, r1, r2, r3⟩
            case measure => rw [S6.out.atOf, S.out.atOf]; have := hk2.out; have := hk.out; omega
    · have hw1 : x ≠ runW := hxr
      obtain ⟨cf2, hcf2⟩ : ∃ n : Nat, n = cf + x.length + 1 := ⟨_, rfl⟩
      rw [restC_on s k cf hw1, ← hyr, ← hk2, ← hcf2] at hr
      have e1 : (x == [114, 117, 110]) = false := beq_eq_false_iff_ne.2 hxr
      have e2 : (x != [114, 117, 110]) = true := by simpa using hxr
      have w2 : IntKind.i64.wrap ((x.length : Int) + 1) = (x.length : Int) + 1 := by rw [IntKind.wrap_i64]; omega
      have hsl := hs.out
      have w3 : IntKind.i64.wrap ((cf : Int) + ((x.length : Int) + 1)) = (cf2 : Int) := by rw [IntKind.wrap_i64]; omega
      have S2 := ((S.setCf cf2).setAt k2).ext' (Ext.refl _).drew
      have hkl : k2 < L.length := by omega
      have hsm2 : cf2 + ((L.drop k2).map fun x => x.length + 1).sum = s.length + 1 := by rw [hk2, hcf2]; omega
      clear hd hsm hfew hxl hkm hkm2 hsum hxr hw1 hsl hyr y r hcfs hcf2 hbp hlen
      replace S := hide S
      replace S2 := hide S2
      replace hr := hide hr
      replace hk2 := hide hk2
      replace hkl := hide hkl
      replace hsm2 := hide hsm2
      replace hk := hide hk
      go_upto_region 2 with fail
      go_region
      go_wp2_with fail
      go_roundw
      case rel => exact ⟨k2, cf2, S2.out, hkl.out, hr.out, hsm2.out⟩
      case measure => rw [S2.out.atOf, S.out.atOf]; have := hk2.out; have := hk.out; omega
end
section
open Go.RowKit
set_option linter.unusedVariables false
set_option linter.unusedSimpArgs false
/-- What is left of the variables behind the guard. -/
structure PS2 (w W : World) (p k cf : Nat) (v : Value) (out : List EvS) : Prop where
  ext : Ext w W
  at_ : Blk W (p + 2) 3 #[.int .i64 (k : Int)]
  cfb : Blk W (p + 3) 3 #[.int .i64 (cf : Int)]
  ob : Blk W (p + 4) 22 #[v]
  own : Own EEv 31 W (p + 6) v out
theorem PS.two {w W W' : World} {p m k cf : Nat} {L : List (List UInt8)} {v : Value} {out : List EvS} (h : PS w W p m L k cf v out) (hb : But (p + 5) W W') : PS2 w W' p k cf v out :=
 have h1 := h.lo
 ⟨But.ext h.ext hb (by omega), h.at_.but hb (by omega), h.cfb.but hb (by omega), h.ob.but hb (by omega), h.own.kept hb.size fun b h1 h2 => hb.block b h2 (by omega)⟩
theorem parse_mem (w W2 : World) (L : List (List UInt8)) (m d : Nat) (E : Ext w W2) (hL : L.length = m + 1) (hm : m ≤ 1048576) (hb : w.heap.size < W2.heap.size) (hc : ∀ (j : Nat) (hj : j < L.length), W2.cell? ⟨w.heap.size, j, none⟩ = some (.string ⟨L[j].toArray⟩)) :
  ∃ W3 : World, (((((W2.alloc (Obj.cells #[.slice (some ⟨w.heap.size, 0, none⟩) (m + 1) d] 63)).alloc (Obj.cells #[.int .i64 (m : Int)] 3)).alloc (Obj.cells #[.int .i64 0] 3)).alloc (Obj.cells #[.int .i64 0] 3)).alloc (Obj.cells #[.slice none 0 0] 22)) = W3 ∧ W3.heap.size = W2.heap.size + 5 ∧ Ext w W3 ∧ PS w (W3.alloc (Obj.cells #[.int .i64 0] 23)) W2.heap.size m L 0 0 (.slice none 0 0) [] := by
 refine ⟨_, rfl, ?_⟩
 have z0 : W2.heap.size = W2.heap.size + 0 := rfl
 have a0 := Blk.new W2 63 #[.slice (some ⟨w.heap.size, 0, none⟩) (m + 1) d]
 have e0 := (Ext.refl W2).alloc (Obj.cells #[.slice (some ⟨w.heap.size, 0, none⟩) (m + 1) d] 63)
 have z1 : (W2.alloc (Obj.cells #[.slice (some ⟨w.heap.size, 0, none⟩) (m + 1) d] 63)).heap.size = W2.heap.size + 1 := by simp
 generalize W2.alloc (Obj.cells #[.slice (some ⟨w.heap.size, 0, none⟩) (m + 1) d] 63) = V1 at *
 have a1 := Blk.new V1 3 #[.int .i64 (m : Int)]
 have e1 := e0.alloc (Obj.cells #[.int .i64 (m : Int)] 3)
 replace a0 := a0.alloc (Obj.cells #[.int .i64 (m : Int)] 3)
 have z2 : (V1.alloc (Obj.cells #[.int .i64 (m : Int)] 3)).heap.size = W2.heap.size + 2 := by simp [z1]
 rw [z1] at a1
 generalize V1.alloc (Obj.cells #[.int .i64 (m : Int)] 3) = V2 at *
 have a2 := Blk.new V2 3 #[.int .i64 0]
 have e2 := e1.alloc (Obj.cells #[.int .i64 0] 3)
 replace a0 := a0.alloc (Obj.cells #[.int .i64 0] 3)
 replace a1 := a1.alloc (Obj.cells #[.int .i64 0] 3)
 have z3 : (V2.alloc (Obj.cells #[.int .i64 0] 3)).heap.size = W2.heap.size + 3 := by simp [z2]
 rw [z2] at a2
 generalize V2.alloc (Obj.cells #[.int .i64 0] 3) = V3 at *
 have a3 := Blk.new V3 3 #[.int .i64 0]
 have e3 := e2.alloc (Obj.cells #[.int .i64 0] 3)
 replace a0 := a0.alloc (Obj.cells #[.int .i64 0] 3)
 replace a1 := a1.alloc (Obj.cells #[.int .i64 0] 3)
 replace a2 := a2.alloc (Obj.cells #[.int .i64 0] 3)
 have z4 : (V3.alloc (Obj.cells #[.int .i64 0] 3)).heap.size = W2.heap.size + 4 := by simp [z3]
 rw [z3] at a3
 generalize V3.alloc (Obj.cells #[.int .i64 0] 3) = V4 at *
 have a4 := Blk.new V4 22 #[.slice none 0 0]
 have e4 := e3.alloc (Obj.cells #[.slice none 0 0] 22)
 replace a0 := a0.alloc (Obj.cells #[.slice none 0 0] 22)
 replace a1 := a1.alloc (Obj.cells #[.slice none 0 0] 22)
 replace a2 := a2.alloc (Obj.cells #[.slice none 0 0] 22)
 replace a3 := a3.alloc (Obj.cells #[.slice none 0 0] 22)
 have z5 : (V4.alloc (Obj.cells #[.slice none 0 0] 22)).heap.size = W2.heap.size + 5 := by simp [z4]
 rw [z4] at a4
 generalize V4.alloc (Obj.cells #[.slice none 0 0] 22) = V5 at *
 have a5 := Blk.new V5 23 #[.int .i64 0]
 have e5 := e4.alloc (Obj.cells #[.int .i64 0] 23)
 replace a0 := a0.alloc (Obj.cells #[.int .i64 0] 23)
 replace a1 := a1.alloc (Obj.cells #[.int .i64 0] 23)
 replace a2 := a2.alloc (Obj.cells #[.int .i64 0] 23)
 replace a3 := a3.alloc (Obj.cells #[.int .i64 0] 23)
 replace a4 := a4.alloc (Obj.cells #[.int .i64 0] 23)
 rw [z5] at a5
 refine ⟨z5, E.trans e4, ⟨by omega, by simp [z5], E.trans e5, hL, hm, ⟨w.heap.size, d, by rw [hL]; exact a0, hb, fun j hj => e5.cell (hc j hj)⟩, a1, a2, a3, a4, a5, Own.nil⟩⟩
/-- What script.Parse answers. -/
def ParP (s : List UInt8) (w : World) (e : Ending) (w' : World) : Prop :=
  ((∃ cfg evs v, parseS s = (cfg, evs, 0, 0) ∧ e = .returned (.tuple #[.string ⟨cfg.toArray⟩, v, .nilIface]) ∧ Own EEv 31 w' w.heap.size v evs) ∨
   (∃ (c : Int) (k f : Nat), c ≠ 0 ∧ parseS s = ([], [], c, k) ∧ e = .returned (.tuple #[.string ⟨#[]⟩, .slice none 0 0, .iface 44 (.pointer (some ⟨f, 0, none⟩))]) ∧ w.heap.size ≤ f ∧ Blk w' f 48 #[.int .i64 c, .int .i64 (k : Int)])) ∧ Ext w w'
set_option maxRecDepth 20000 in
set_option maxHeartbeats 4000000 in
theorem SParse_any (s : List UInt8) (hs : s.length ≤ 1048576) (w : World) (hT : Tab w) (hV : Vars w) (hD : Deb w) : Calls Tryz.prog 15 #[.string ⟨s.toArray⟩] w (ParP s w) := by
 have hmf : ∀ (fn : Fn) (first cap : Array Value) (w : World), (Instr.makeFunc fn first cap).run Tryz.prog w = .ok (.func fn first cap) w := fun _ _ _ _ => rfl
 have hps := parse_rest hs
 have hok : ∀ W cfg evs v, parseS s = (cfg, evs, 0, 0) → Own EEv 31 W w.heap.size v evs → Ext w W → ParP s w (.returned (.tuple #[.string ⟨cfg.toArray⟩, v, .nilIface])) W := fun W cfg evs v h1 h2 h3 => ⟨.inl ⟨cfg, evs, v, h1, rfl, h2⟩, h3⟩
 have hno : ∀ W c k f, c ≠ 0 → parseS s = ([], [], c, k) → w.heap.size ≤ f → Blk W f 48 #[.int .i64 c, .int .i64 (k : Int)] → Ext w W → ParP s w (.returned (.tuple #[.string ⟨#[]⟩, .slice none 0 0, .iface 44 (.pointer (some ⟨f, 0, none⟩))])) W := fun W c k f h1 h2 h3 h4 h5 => ⟨.inr ⟨c, k, f, h1, h2, rfl, h3, h4⟩, h5⟩
 generalize ParP s w = Post at *
 rw [hps] at hok hno
 have hsum := spl_size s
 have hwl : ∀ y ∈ spl 10 s, y.length ≤ 1048576 := fun y hy => Nat.le_trans (spl_len 10 s y hy) hs
 have hcnt := spl_cnt 10 s.length s (Nat.le_refl _)
 have qs := Split_any s 10 w hV hs
 obtain ⟨m, hm⟩ : ∃ m, (spl 10 s).length = m + 1 := ⟨(spl 10 s).length - 1, by have := List.length_pos_iff.2 (spl_ne 10 s); omega⟩
 have hq1 := fun W0 p h0 => Parse1_any s hs w W0 p m (spl 10 s) hT hV hD h0 hwl hsum
 have hm2 : m ≤ 1048576 := by omega
 have b1 : decide ((1048576 : Int) < (s.length : Int)) = false := decide_eq_false (by omega)
 generalize spl 10 s = L at *
 clear hT hV hD hwl hcnt hsum hps
 have w1 : IntKind.i64.wrap ((L.length : Int) - 1) = (m : Int) := by rw [IntKind.wrap_i64]; omega
 replace qs := hide qs
 replace hok := hide hok
 replace hno := hide hno
 replace hq1 := hide hq1
 replace hs := hide hs
 replace hm2 := hide hm2
 go_enter Tryz.func15, Tryz.ntmps15
 go_wp2_with fail
 refine qs.out.mono ?_
 rintro e W2 ⟨d, hd, rfl, he, hc⟩
 rw [hm] at hd ⊢
 clear w1
 have w2 : wrap64 (m : Int) = (m : Int) := wrap64_id (m : Int) (by omega) (by have := hm2.out; omega)
 have hb : w.heap.size < W2.heap.size := World.block_lt_of_cell? W2 _ (hc 0 (by omega))
 obtain ⟨W3, hW3, hz, E3, P3⟩ := parse_mem w W2 L m d he hm hm2.out hb hc
 have q1 := hq1.out _ _ P3
 have q := Guard_any 36 _ (fun _ _ => rfl) W3 (fun W => ∃ k cf v out, PS w W W2.heap.size m L k cf v out ∧ restC s 0 0 L = (s.take cf, out, 0, 0) ∧ cf ≤ s.length) (fun c W => ∃ k cf v out, PS w W W2.heap.size m L k cf v out ∧ restC s 0 0 L = ([], [], c, k) ∧ c ≠ 0)
  (q1.mono fun e W h => by
   rcases h with ⟨k, cf, v, out, h1, h2⟩ | ⟨c, k, cf, v, out, h1, h2⟩
   ·exact .inl ⟨h1, k, cf, v, out, h2⟩
   ·exact .inr ⟨c, h1, k, cf, v, out, h2⟩)
  (fun W ⟨k, cf, v, out, h, _⟩ => by rw [hz]; exact h.pe) (fun c W ⟨k, cf, v, out, h, _⟩ => by rw [hz]; exact h.pe)
  (fun e W => (∃ k cf v out, e = .returned (.int .i64 0) ∧ PS2 w W W2.heap.size k cf v out ∧ restC s 0 0 L = (s.take cf, out, 0, 0) ∧ cf ≤ s.length) ∨ (∃ (c : Int) (k cf : Nat) (v : Value) (out : List EvS), e = .returned (.int .i64 c) ∧ PS2 w W W2.heap.size k cf v out ∧ restC s 0 0 L = ([], [], c, k) ∧ c ≠ 0))
  (fun W W' ⟨k, cf, v, out, h, h2⟩ hb => .inl ⟨k, cf, v, out, rfl, h.two (hz ▸ hb), h2⟩) (fun c W W' ⟨k, cf, v, out, h, h2⟩ hb => .inr ⟨c, k, cf, v, out, rfl, h.two (hz ▸ hb), h2⟩)
 have hp : w.heap.size ≤ W2.heap.size := by omega
 clear q1 hq1 P3 hc he hd hb
 replace q := hide q
 replace E3 := hide E3
 replace hz := hide hz
 go_wp2_with fail
 refine q.out.mono ?_
 rintro e W4 (⟨k, cf, v, out, rfl, S, hr, hcf⟩ | ⟨c, k, cf, v, out, rfl, S, hr, hc⟩)
 ·have c0 : W4.cell? ⟨W2.heap.size + 3, 0, none⟩ = some (.int .i64 (cf : Int)) := S.cfb.cell 0
  have c1 : W4.cell? ⟨W2.heap.size + 4, 0, none⟩ = some v := S.ob.cell 0
  have hfin := fun n => hok.out (W4.drewN n) _ out v hr ((S.own.low (by omega)).drewN n) (S.ext.drewN n)
  have hx : (ByteArray.mk s.toArray).extract 0 cf = ⟨(s.take cf).toArray⟩ := by rw [ba_extract]; simp
  obtain ⟨va, vc, rfl⟩ := S.own.form
  clear S hr hok hno q
  generalize s.take cf = tk at *
  replace hfin := hide hfin
  go_upto_region 10 with fail
  go_quiet (fail)
  go_wp2
  exact bodyPost_ret (v := .tuple #[.string ⟨tk.toArray⟩, .slice va out.length vc, .nilIface]) (by simp [results, Tryz.results15, go_sem]) rfl (hfin.out _)
 ·have hFB := Blk.new W4 48 #[.int .i64 c, .int .i64 (k : Int)]
  have E5 := S.ext.alloc (Obj.cells #[.int .i64 c, .int .i64 (k : Int)] 48)
  have c0 : W4.cell? ⟨W2.heap.size + 2, 0, none⟩ = some (.int .i64 (k : Int)) := S.at_.cell 0
  have hsz := S.ext.size
  have hfin := hno.out _ c k W4.heap.size hc hr hsz hFB.drew E5.drew
  have e1 : (c == 0) = false := beq_eq_false_iff_ne.2 hc
  have e2 : (c != 0) = true := by simpa using hc
  have e3 : decide (c = 0) = false := decide_eq_false hc
  clear S hr hok hno q hFB E5 hsz hc
  replace hfin := hide hfin
  go_upto_region 9 with fail
  go_region
  all_goals go_wp2
  exact bodyPost_ret (v := .tuple #[.string ⟨#[]⟩, .slice none 0 0, .iface 44 (.pointer (some ⟨W4.heap.size, 0, none⟩))]) (by simp [results, Tryz.results15, go_sem]) rfl hfin.out
end
section
open Go.RowKit
set_option linter.unusedVariables false
set_option linter.unusedSimpArgs false
theorem Bd.ext {B b : Nat} {l : List UInt8} {w w' : World} (h : Bd B b l w) (he : Ext w w') : Bd B b l w' := by
 have key : ∀ p, Lib.BuilderAt 69 5 B b p (Lib.byteCells l) w → Lib.BuilderAt 69 5 B b p (Lib.byteCells l) w' := fun p h => by
  have hlt := h.lt
  obtain ⟨hB, v, hbk, ⟨hl, h3⟩, hne⟩ := h
  refine ⟨hB, v, (he.block b hlt).trans hbk, ⟨hl, ?_⟩, hne⟩
  rcases h3 with h3 | ⟨g, cap, cur, rfl, hg, hh, r⟩
  ·exact .inl h3
  ·exact .inr ⟨g, cap, cur, rfl, hg, by rw [he.block g (Array.getElem?_eq_some_iff.1 hh).1]; exact hh, r⟩
 rcases h with h | h
 ·exact .inl (key _ h)
 ·exact .inr (key _ h)
theorem meas_step {n k : Nat} (h : k < n) : n - (intOf (.int .i64 ((k : Int) + 1))).toNat < n - (intOf (.int .i64 (k : Int))).toNat := by
 show n - ((k : Int) + 1).toNat < n - ((k : Int)).toNat
 omega
set_option maxRecDepth 20000 in
set_option maxHeartbeats 4000000 in
theorem SPrint_any (c : List UInt8) (hc : c.length ≤ 1048576) (l : List EvS) (a : Option Addr) (cp : Nat) (hl : l.length ≤ 16777216) (w : World) (hT : Tab w) (hV : Vars w) (hD : Deb w) (hs : Sl EEv w (· < w.heap.size) a l) :
    Calls Tryz.prog 9 #[.string ⟨c.toArray⟩, .slice a l.length cp] w fun e w' => e = .returned (.tuple #[.string ⟨(printS c l).1.toArray⟩, .int .i64 (printS c l).2]) ∧ Ext w w' := by
  have hR : ∀ s (x : Int) W, printS c l = (s, x) → Ext w W → (Ending.returned (.tuple #[.string ⟨s.toArray⟩, .int .i64 x]) = Ending.returned (.tuple #[.string ⟨(printS c l).1.toArray⟩, .int .i64 (printS c l).2]) ∧ Ext w W) := fun s x W h he => ⟨by rw [h], he⟩
  generalize hQ : (fun e w' => e = Ending.returned (.tuple #[.string ⟨(printS c l).1.toArray⟩, .int .i64 (printS c l).2]) ∧ Ext w w') = Post
  replace hR : ∀ s (x : Int) W, printS c l = (s, x) → Ext w W → Post (.returned (.tuple #[.string ⟨s.toArray⟩, .int .i64 x])) W := by rw [← hQ]; exact hR
  clear hQ
  obtain ⟨mx, hmx⟩ := hV.max
  have q1 := Tryz.strings_HasSuffix ⟨c.toArray⟩ ⟨#[10]⟩ w (by simp [ByteArray.size]; omega)
  have g1 : ((ByteArray.mk #[10]) ++ ⟨c.toArray⟩).data.toList = 10 :: c := by simp
  have g2 : (ByteArray.mk #[10, 114, 117, 110, 10]).data.toList = nlRun := rfl
  have g3 : (ByteArray.mk #[10]).data.toList = [10] := rfl
  have g4 : (ByteArray.mk c.toArray).data.toList = c := rfl
  have q2 := Tryz.strings_Contains ((ByteArray.mk #[10]) ++ ⟨c.toArray⟩) ⟨#[10, 114, 117, 110, 10]⟩ mx w (by simp [ByteArray.size]; omega) hmx
  rw [g1, g2] at q2
  rw [g3, g4] at q1
  have hcp := cfgOk_prog c
  have hp1 : cfgOk c = false → printS c l = ([], 2) := fun h => by unfold printS; rw [if_pos h]
  have z1 : ¬ 9223372036854775807 < 1 + c.length := by omega
  have z2 : ¬ 9223372036854775807 < c.length + 3 := by omega
  have z3 : ¬ 9223372036854775807 < c.length + 3 + 1 := by omega
  clear g1 g2 g3 g4 hmx
  generalize Lib.contains (10 :: c) nlRun = bc at *
  generalize Lib.hasSuffix c [10] = bs at *
  replace hR := hide hR
  replace hT := hide hT
  replace hV := hide hV
  replace hD := hide hD
  replace hs := hide hs
  replace hp1 := hide hp1
  replace q1 := hide q1
  replace q2 := hide q2
  replace hc := hide hc
  replace hcp := hide hcp
  go_enter Tryz.func9, Tryz.ntmps9
  go_upto_region 1 with fail
  go_cut [22] (fun s22 wx => s22 = .bool (!cfgOk c) ∧ w = wx)
  case first =>
    by_cases hc0 : c = []
    · have e0 : c.isEmpty = true := by simpa using hc0
      have e1 : (c == []) = true := beq_iff_eq.2 hc0
      have hk : cfgOk c = !bc := by rw [hcp.out, decide_eq_true hc0]; simp
      clear hc0
      replace hk := hide hk
      go_wp2_with (first | (go_at_call 25; refine q1.out.mono ?_; rintro e w1 ⟨rfl, rfl⟩) | (go_at_call 26; refine q2.out.mono ?_; rintro e w1 ⟨rfl, rfl⟩))
      go_meet
      case rel => exact ⟨by rw [hk.out, Bool.not_not], rfl⟩
    · have e0 : c.isEmpty = false := by simpa using hc0
      have e1 : (c == []) = false := beq_eq_false_iff_ne.2 hc0
      have hk : cfgOk c = (bs && !bc) := by rw [hcp.out, decide_eq_false hc0]; simp
      clear hc0
      replace hk := hide hk
      cases bs
      · go_wp2_with (first | (go_at_call 25; refine q1.out.mono ?_; rintro e w1 ⟨rfl, rfl⟩) | (go_at_call 26; refine q2.out.mono ?_; rintro e w1 ⟨rfl, rfl⟩))
        go_meet
        case rel => exact ⟨by rw [hk.out]; rfl, rfl⟩
      · go_wp2_with (first | (go_at_call 25; refine q1.out.mono ?_; rintro e w1 ⟨rfl, rfl⟩) | (go_at_call 26; refine q2.out.mono ?_; rintro e w1 ⟨rfl, rfl⟩))
        go_meet
        case rel => exact ⟨by rw [hk.out, Bool.true_and, Bool.not_not], rfl⟩
  case rest =>
    obtain ⟨rfl, rfl⟩ := hcut
    cases hk : cfgOk c with
    | false =>
      have hf := hide (hp1.out hk)
      clear hk
      go_wp2
      try go_ret2
      exact hR.out _ _ _ hf.out (Ext.refl _)
    | true =>
      by_cases hl5 : 512 < l.length
      · have b1 : decide ((512 : Int) < (l.length : Int)) = true := decide_eq_true (by omega)
        have hf : printS c l = ([], 3) := by unfold printS; rw [if_neg (by rw [hk]; decide), if_pos hl5]
        clear hk hl5 hl z1 z2 z3
        replace hf := hide hf
        go_wp2
        try go_ret2
        exact hR.out _ _ _ hf.out (Ext.refl _)
      have b1 : decide ((512 : Int) < (l.length : Int)) = false := decide_eq_false (by omega)
      have hpr : printS c l = if l.all evOk = false then ([], 2) else if 1048576 < (textScr c l).length then ([], 3) else (textScr c l, 0) := by unfold printS; rw [if_neg (by rw [hk]; decide), if_neg hl5]
      have hl6 : l.length ≤ 512 := by omega
      clear hl5 hl
      have hB0 : Bd w.heap.size w.heap.size [] (w.alloc (Obj.cells #[.pointer none, .slice none 0 0] 69)) := .inl ⟨Nat.le_refl _, _, Array.getElem?_push_size, World.ownsRow_nil _ _ _ _, by simp [Value.ownBlock]⟩
      have hs6 : ((ByteArray.mk c.toArray) ++ ⟨#[114, 117, 110]⟩) ++ ⟨#[10]⟩ = (⟨(c ++ (runW ++ [10])).toArray⟩ : ByteArray) := by apply ByteArray.ext; simp [runW]
      have qW := BWriteString_any w.heap.size w.heap.size [] (c ++ (runW ++ [10])) _ hB0 (by have := hc.out; simp [runW]; omega) (by simp)
      replace hpr := hide hpr
      replace hl6 := hide hl6
      replace qW := hide qW
      replace hs6 := hide hs6
      go_wp2_with (go_at_call 27; rw [hs6.out]; refine qW.out.mono ?_; rintro e W1 ⟨rfl, hB1, hE1⟩)
      have E1 : Ext w W1 := Below.trans ((Ext.refl w).alloc _) hE1
      rw [List.nil_append] at hB1
      clear hE1 qW hs6 hB0 hp1 hcp q1 q2 z1 z2 z3 b1 bc bs
      generalize hT0 : c ++ (runW ++ [10]) = T0 at *
      have hT0l : T0.length ≤ 1048580 := by have := hc.out; rw [← hT0]; simp [runW]; omega
      have htx : textScr c l = T0 ++ tellL l := by rw [← hT0]; simp [textScr]
      rw [htx] at hpr
      clear htx hT0 hk
      replace hT0l := hide hT0l
      go_loopw [32] (fun i wr => ∃ k : Nat, k ≤ l.length ∧ i = .int .i64 k ∧ Bd w.heap.size w.heap.size (T0 ++ tellL (l.take k)) wr ∧ Ext w wr ∧ (l.take k).all evOk = true) (fun i _ => l.length - (intOf i).toNat)
      case atStart => exact ⟨0, Nat.zero_le _, rfl, by simpa [tellL] using hB1, E1, rfl⟩
      case round =>
        clear hB1 E1
        obtain ⟨k, hk, rfl, hB, E, hall⟩ := hrel
        have hsz := E.size
        have hlen : (T0 ++ tellL (l.take k)).length ≤ 1048580 + 131113 * 512 := by
          have h1 := tellL_len _ hall
          have h2 : (l.take k).length ≤ 512 := by rw [List.length_take]; have := hl6.out; omega
          rw [List.length_append]
          have := Nat.mul_le_mul_left 131113 h2
          have := hT0l.out
          omega
        by_cases hlt : k < l.length
        · obtain ⟨b, off, rfl, _, hin, hcell⟩ := EEv.at (hs.out.ext E) k hlt
          have hsn : l.take (k + 1) = l.take k ++ [l[k]] := List.take_succ_eq_append_getElem hlt
          have q := fun W (h : Ext w W) => SLineE_any l[k] hin W (hT.out.ext h) (hV.out.ext h) (hD.out.ext h)
          have hbad : evOk l[k] = false → printS c l = ([], 2) := fun h => by
            rw [hpr.out, if_pos]
            rw [← Bool.not_eq_true, List.all_eq_true]
            intro h9
            rw [h9 _ (List.getElem_mem hlt)] at h
            cases h
          have hgd : evOk l[k] = true → (l.take (k + 1)).all evOk = true := fun h => by rw [hsn, List.all_append, hall]; simp [h]
          have htl : tellL (l.take (k + 1)) = tellL (l.take k) ++ (evW l[k] ++ [10]) := by rw [hsn, tellL_snoc]
          have hwl := fun h : evOk l[k] = true => evW_len h
          generalize hX : T0 ++ tellL (l.take k) = X at *
          generalize l[k] = e at *
          obtain ⟨kd, cn, ad, pr, by_, tk, dr⟩ := e
          have x0 : wr.cell? ⟨b, off + k * 7, none⟩ = some (.int .i64 kd) := hcell 0 _ rfl
          have x1 : wr.cell? ⟨b, off + k * 7 + 1, none⟩ = some (.int .i64 cn) := hcell 1 _ rfl
          have x2 : wr.cell? ⟨b, off + k * 7 + 2, none⟩ = some (.string ⟨ad.toArray⟩) := hcell 2 _ rfl
          have x3 : wr.cell? ⟨b, off + k * 7 + 3, none⟩ = some (.string ⟨pr.toArray⟩) := hcell 3 _ rfl
          have x4 : wr.cell? ⟨b, off + k * 7 + 4, none⟩ = some (.string ⟨by_.toArray⟩) := hcell 4 _ rfl
          have x5 : wr.cell? ⟨b, off + k * 7 + 5, none⟩ = some (.int .i64 tk) := hcell 5 _ rfl
          have x6 : wr.cell? ⟨b, off + k * 7 + 6, none⟩ = some (.int .u32 (dr.toNat : Int)) := hcell 6 _ rfl
          simp only [evCs] at q
          have E2 := E.alloc (Obj.cells #[.int .i64 kd, .int .i64 cn, .string ⟨ad.toArray⟩, .string ⟨pr.toArray⟩, .string ⟨by_.toArray⟩, .int .i64 tk, .int .u32 (dr.toNat : Int)] 31)
          replace q := q _ E2
          unfold evT at q
          clear hcell hin
          cases hok : evOk ⟨kd, cn, ad, pr, by_, tk, dr⟩ with
          | false =>
            rw [if_neg (by rw [hok]; decide)] at q
            have hf := hbad hok
            clear hbad hgd htl hwl hok hsn hX hlen hall hB hk
            replace q := hide q
            replace hf := hide hf
            replace E := hide E
            replace E2 := hide E2
            go_wp2_with fail
            refine q.out.mono ?_
            rintro e1 W3 ⟨rfl, he⟩
            have E3 := E2.out.trans he
            clear q he
            replace E3 := hide E3
            go_wp2
            try go_ret2
            exact hR.out _ _ _ hf.out E3.out
          | true =>
            rw [if_pos hok] at q
            have hwl2 := hwl hok
            have hgd2 := hgd hok
            have hB2 : Bd w.heap.size w.heap.size X (wr.alloc (Obj.cells #[.int .i64 kd, .int .i64 cn, .string ⟨ad.toArray⟩, .string ⟨pr.toArray⟩, .string ⟨by_.toArray⟩, .int .i64 tk, .int .u32 (dr.toNat : Int)] 31)) := hB.ext ((Ext.refl wr).alloc _)
            clear hbad hgd hwl hok hsn hall hB
            have w9 : wrap64 ((k : Int) + 1) = (k : Int) + 1 := wrap64_id _ (by omega) (by have := hl6.out; omega)
            generalize evW ⟨kd, cn, ad, pr, by_, tk, dr⟩ = tw at *
            have z9 : ¬ 9223372036854775807 < tw.length + 1 := by omega
            have hs9 : (ByteArray.mk tw.toArray) ++ ⟨#[10]⟩ = (⟨(tw ++ [10]).toArray⟩ : ByteArray) := by apply ByteArray.ext; simp
            replace q := hide q
            replace E := hide E
            replace E2 := hide E2
            replace hwl2 := hide hwl2
            replace hgd2 := hide hgd2
            replace hB2 := hide hB2
            replace htl := hide htl
            replace hX := hide hX
            replace hlen := hide hlen
            replace hs9 := hide hs9
            go_wp2_with fail
            refine q.out.mono ?_
            rintro e1 W3 ⟨rfl, he⟩
            have E3 := E2.out.trans he
            have hB3 : Bd w.heap.size w.heap.size X W3 := hB2.out.ext he
            have hsz3 := E3.size
            have qW := BWriteString_any w.heap.size w.heap.size X (tw ++ [10]) W3 hB3 (by have := hlen.out; have := hwl2.out; simp; omega) hsz3
            clear q he
            replace E3 := hide E3
            replace qW := hide qW
            replace hB3 := hide hB3
            go_wp2_with (go_at_call 27; rw [hs9.out]; refine qW.out.mono ?_; rintro e W4 ⟨rfl, hB4, hE4⟩; have E4 := hide (Below.trans E3.out hE4 : Ext w W4); replace hB4 := hide hB4; clear hE4)
            go_roundw
            case rel => exact ⟨k + 1, by omega, by go_num, by rw [htl.out, ← List.append_assoc, hX.out]; exact hB4.out, E4.out, hgd2.out⟩
            case measure => rw [w9]; exact meas_step hlt
        · obtain rfl : k = l.length := by omega
          rw [List.take_length] at hB hall hlen
          have hpr2 := hpr.out
          rw [if_neg (by rw [hall]; decide)] at hpr2
          generalize T0 ++ tellL l = X at *
          have q := Tryz.Builder_Len w.heap.size w.heap.size (Lib.byteCells X) wr hB
          rw [byteCells_len] at q
          have q2 := Tryz.Builder_String_any w.heap.size w.heap.size X wr hB hsz
          by_cases hx : 1048576 < X.length
          · have b1 : decide ((1048576 : Int) < (X.length : Int)) = true := decide_eq_true (by omega)
            rw [if_pos hx] at hpr2
            clear hall hlen hB hx hk q2
            replace q := hide q
            replace hpr2 := hide hpr2
            replace E := hide E
            go_wp2_with (go_at_call 28; refine q.out.mono ?_; rintro e W2 ⟨rfl, rfl⟩)
            try go_ret2
            exact hR.out _ _ _ hpr2.out E.out
          · have b1 : decide ((1048576 : Int) < (X.length : Int)) = false := decide_eq_false (by omega)
            rw [if_neg hx] at hpr2
            clear hall hlen hB hx hk
            replace q := hide q
            replace q2 := hide q2
            replace hpr2 := hide hpr2
            replace E := hide E
            go_wp2_with (first | (go_at_call 28; refine q.out.mono ?_; rintro e W2 ⟨rfl, rfl⟩) | (go_at_call 29; refine q2.out.mono ?_; rintro e W3 ⟨rfl, hE3⟩; have E3 := hide (Below.trans E.out hE3 : Ext w W3); clear hE3))
            try go_ret2
            exact hR.out _ _ _ hpr2.out E3.out
end
section
section
open Go.RowKit Go.Extern.Stop Go.Stop Go.Extern
set_option linter.unusedVariables false
theorem isx_typeOf (v : Value) (w : World) : (ReflectliteType.typeOf #[.iface 23 v]).run Tryz.prog w = .ok (.iface 113 (.agg #[.pointer (some ⟨Tryz.prog.globals.size, 23, none⟩)])) w := by kernel_rfl
def cmpF : TypeId → Sem Value := fun t => do Rtype.noPackHeld "Comparable" t; pure (.bool (← typeInfo t).comparable)
theorem isx_comparable (w : World) : (ReflectliteType.method cmpF #[.agg #[.pointer (some ⟨Tryz.prog.globals.size, 23, none⟩)]]).run Tryz.prog w = .ok (.bool true) w := by kernel_rfl
theorem isx_mcomparable (n : Nat) (v : Value) (w : World) : (Go.method (n + 1) 113 v "Comparable").run Tryz.prog w = .ok (162, v) w := by kernel_rfl
theorem isx_munwrap (n : Nat) (v : Value) (w : World) : (Go.method (n + 1) 44 v "Unwrap").run Tryz.prog w = .ok (155, v) w := by kernel_rfl
theorem isx_noIsF (v : Value) (xT : TypeId) (w : World) : (Instr.typeAssert (.iface 44 v) xT 125 true).run Tryz.prog w = .ok (.tuple #[.nilIface, .bool false]) w := run_typeAssert_lacksB Tryz.underlying125 (by kernel_rfl) (by kernel_rfl) v xT w
theorem isx_hasUnwrapF (v : Value) (xT : TypeId) (w : World) : (Instr.typeAssert (.iface 44 v) xT 120 true).run Tryz.prog w = .ok (.tuple #[.iface 44 v, .bool true]) w := run_typeAssert_hasB Tryz.underlying120 (by kernel_rfl) v xT w
theorem isx_noIsE (v : Value) (xT : TypeId) (w : World) : (Instr.typeAssert (.iface 23 v) xT 125 true).run Tryz.prog w = .ok (.tuple #[.nilIface, .bool false]) w := run_typeAssert_lacksB Tryz.underlying125 (by kernel_rfl) (by kernel_rfl) v xT w
theorem isx_noUnwrapE (v : Value) (xT : TypeId) (w : World) : (Instr.typeAssert (.iface 23 v) xT 120 true).run Tryz.prog w = .ok (.tuple #[.nilIface, .bool false]) w := run_typeAssert_lacksB Tryz.underlying120 (by kernel_rfl) (by kernel_rfl) v xT w
theorem isx_noUnwrapsE (v : Value) (xT : TypeId) (w : World) : (Instr.typeAssert (.iface 23 v) xT 122 true).run Tryz.prog w = .ok (.tuple #[.nilIface, .bool false]) w := run_typeAssert_lacksB Tryz.underlying122 (by kernel_rfl) (by kernel_rfl) v xT w
/-- '==' of two errors that are numbers. -/
theorem run_eql_errno (w : World) (x y : Int) : (binOp .eql 39 (.iface 23 (.int .i64 x)) (.iface 23 (.int .i64 y))).run Tryz.prog w = .ok (.bool (x == y)) w := by
 have hi := Tryz.underlying39
 have hn := Tryz.underlying23
 have hc : (Tryz.prog.info? 23).map (·.comparable) = some true := by kernel_rfl
 obtain ⟨i, hi1, hi2⟩ := Option.map_eq_some_iff.1 hc
 have h : ∀ d : Nat, (Op.equalIn (d + 1 + 1) 39 (.iface 23 (.int .i64 x)) (.iface 23 (.int .i64 y))).run Tryz.prog w = .ok (x == y) w := fun d => by
  simp [Op.equalIn, run_underlying hi, run_underlying hn, typeInfo, hi1, hi2]
 simp only [binOp]
 simp [Op.equal, Op.maxDepth, h 9998]
set_option maxRecDepth 20000 in
set_option maxHeartbeats 4000000 in
theorem isF_any (a : Addr) (c d : Int) (w : World) (h : w.cell? a = some (.int .i64 c)) :
  Calls Tryz.prog 20 #[.iface 44 (.pointer (some a)), .iface 23 (.int .i64 d)] w fun e w' => e = .returned (.bool (c == d)) ∧ w = w' := by
 have h8 := @run_callFunc_extern Tryz.prog 42 _ ReflectliteType.typeOf Tryz.func42 (by kernel_rfl) (by kernel_rfl) (by kernel_rfl) (by kernel_rfl)
 have h32 := @run_callFunc_extern Tryz.prog 162 _ (ReflectliteType.method cmpF) Tryz.func162 (by kernel_rfl) (by kernel_rfl) (by kernel_rfl) (by kernel_rfl)
 have tT := isx_typeOf
 have cT := isx_comparable
 generalize Tryz.prog.globals.size = K at *
 have mR := fun v w => isx_mcomparable 312 v w
 have mU := fun v w => isx_munwrap 312 v w
 simp only [Nat.reduceAdd] at mR mU
 have nF := isx_noIsF
 have uF := isx_hasUnwrapF
 have nE := isx_noIsE
 have uE := isx_noUnwrapE
 have vE := isx_noUnwrapsE
 have q1 := fun w => run_eql_iface_types (P := Tryz.prog) 44 23 (.pointer (some a)) (.int .i64 d) Tryz.underlying39 (by decide) w
 have q2 := fun w => run_eql_errno w c d
 obtain ⟨b, o, pp⟩ := a
 by_cases hcd : c = d
 ·have hb : (c == d) = true := by rw [beq_iff_eq]; exact hcd
  rw [hb]
  simp only [hb] at q2
  clear hcd hb
  go_enter Tryz.func20, Tryz.ntmps20
  go_wp2
  refine wp_loop_rounds 2 ?_
  rw [rounds_succ]
  go_wp2
  rw [rounds_succ]
  go_wp2
  go_ret
  exact ⟨rfl, rfl⟩
 ·have hb : (c == d) = false := by rw [beq_eq_false_iff_ne]; exact hcd
  rw [hb]
  simp only [hb] at q2
  clear hcd hb
  go_enter Tryz.func20, Tryz.ntmps20
  go_wp2
  refine wp_loop_rounds 2 ?_
  rw [rounds_succ]
  go_wp2
  rw [rounds_succ]
  go_wp2
  go_ret
  exact ⟨rfl, rfl⟩
theorem as_valueOf27 (t : Addr) (w : World) : (ReflectliteValue.unpack (.iface 46 (.pointer (some t)))).run Tryz.prog w
  = .ok (.agg #[.pointer (some ⟨Tryz.prog.globals.size, 46, none⟩), .pointer (some ⟨w.heap.size, 0, none⟩), .int .u64 150]) (w.alloc (.cells #[.pointer (some t)] 46)) := by kernel_rfl
theorem as_type27 (a : Addr) (w : World) : (ReflectliteValue.methodAny (ReflectliteValue.valueError "reflectlite.Value.Type" 0) (fun t _ _ _ => ReflectliteType.toType t) #[.agg #[.pointer (some ⟨Tryz.prog.globals.size, 46, none⟩), .pointer (some a), .int .u64 150]]).run Tryz.prog w
  = .ok (.iface 113 (.agg #[.pointer (some ⟨Tryz.prog.globals.size, 46, none⟩)])) w := by kernel_rfl
theorem as_methodKind (n : Nat) (h : Value) (w : World) : (Go.method (n + 1) 113 (.agg #[h]) "Kind").run Tryz.prog w = .ok (150, h) w := by kernel_rfl
theorem as_kind27 (w : World) : ((ReflectliteType.abiMethod fun t => (fun a : Nat => Value.int IntKind.u8 (a : Int)) <$> Rtype.kind t) #[.pointer (some ⟨Tryz.prog.globals.size, 46, none⟩)]).run Tryz.prog w = .ok (.int .u8 22) w := by kernel_rfl
theorem as_kind25 (w : World) : ((ReflectliteType.abiMethod fun t => (fun a : Nat => Value.int IntKind.u8 (a : Int)) <$> Rtype.kind t) #[.pointer (some ⟨Tryz.prog.globals.size, 44, none⟩)]).run Tryz.prog w = .ok (.int .u8 22) w := by kernel_rfl
theorem as_rlm (z : Sem Value) (f : TypeId → Addr → Nat → Nat → Sem Value) (v : Value) :
  ReflectliteValue.method z f #[v] = (do match ← ReflectliteValue.parts v with | none => z | some (t, a, fl) => f t a fl (fl % 32)) := rfl
theorem as_parts27 (a : Addr) (w : World) : (ReflectliteValue.parts (.agg #[.pointer (some ⟨Tryz.prog.globals.size, 46, none⟩), .pointer (some a), .int .u64 150])).run Tryz.prog w = .ok (some (46, a, 150)) w := by kernel_rfl
/-- (Value).IsNil at the Value of a **p.E that is not nil. -/
theorem as_isNil27 (a p : Addr) (W : World) (ha : W.cell? a = some (.pointer (some p))) :
  (ReflectliteValue.method (ReflectliteValue.valueError "reflectlite.Value.IsNil" 0) ReflectliteValue.isNil #[.agg #[.pointer (some ⟨Tryz.prog.globals.size, 46, none⟩), .pointer (some a), .int .u64 150]]).run Tryz.prog W = .ok (.bool false) W := by
 rw [as_rlm]
 simp only [Sem.run_bind, as_parts27, Result.andThen]
 simp [ReflectliteValue.isNil, loadVar, isAgg, underlying, Tryz.underlying46, ha, Result.andThen]
theorem as_methodElem (n : Nat) (h : Value) (w : World) : (Go.method (n + 1) 113 (.agg #[h]) "Elem").run Tryz.prog w = .ok (163, .agg #[h]) w := by kernel_rfl
theorem as_methodImplements (n : Nat) (h : Value) (w : World) : (Go.method (n + 1) 113 (.agg #[h]) "Implements").run Tryz.prog w = .ok (164, .agg #[h]) w := by kernel_rfl
theorem as_methodAssignableTo (n : Nat) (h : Value) (w : World) : (Go.method (n + 1) 113 (.agg #[h]) "AssignableTo").run Tryz.prog w = .ok (161, .agg #[h]) w := by kernel_rfl
theorem as_elem27 (w : World) : (ReflectliteType.method ReflectliteType.elem #[.agg #[.pointer (some ⟨Tryz.prog.globals.size, 46, none⟩)]]).run Tryz.prog w = .ok (.iface 113 (.agg #[.pointer (some ⟨Tryz.prog.globals.size, 44, none⟩)])) w := by kernel_rfl
theorem as_implements25 (w : World) : (ReflectliteType.relation "Implements" ReflectliteType.implements_ #[.agg #[.pointer (some ⟨Tryz.prog.globals.size, 44, none⟩)], .iface 113 (.agg #[.pointer (some ⟨Tryz.prog.globals.size, 39, none⟩)])]).run Tryz.prog w = .ok (.bool true) w := by kernel_rfl
theorem as_typeOf25 (v : Value) (w : World) : (ReflectliteType.typeOf #[.iface 44 v]).run Tryz.prog w = .ok (.iface 113 (.agg #[.pointer (some ⟨Tryz.prog.globals.size, 44, none⟩)])) w := by kernel_rfl
theorem as_assignable25 (w : World) : (ReflectliteType.relation "AssignableTo" ReflectliteType.assignableTo #[.agg #[.pointer (some ⟨Tryz.prog.globals.size, 44, none⟩)], .iface 113 (.agg #[.pointer (some ⟨Tryz.prog.globals.size, 44, none⟩)])]).run Tryz.prog w = .ok (.bool true) w := by kernel_rfl
theorem as_valueOf25 (e : Addr) (w : World) : (ReflectliteValue.unpack (.iface 44 (.pointer (some e)))).run Tryz.prog w
  = .ok (.agg #[.pointer (some ⟨Tryz.prog.globals.size, 44, none⟩), .pointer (some ⟨w.heap.size, 0, none⟩), .int .u64 150]) (w.alloc (.cells #[.pointer (some e)] 44)) := by kernel_rfl
theorem as_elemOf27 (w : World) : (Rtype.elem? 46).run Tryz.prog w = .ok (some 44) w := by kernel_rfl
theorem as_mk25 (p : Addr) (w : World) : (ReflectliteValue.mk 44 p ReflectliteValue.flagAddr).run Tryz.prog w = .ok (.agg #[.pointer (some ⟨Tryz.prog.globals.size, 44, none⟩), .pointer (some p), .int .u64 406]) w := by kernel_rfl
/-- (Value).Elem at the Value of a **p.E that is not nil: the Value of the *p.E variable that it points to, addressable. -/
theorem as_elemV27 (a p : Addr) (W : World) (ha : W.cell? a = some (.pointer (some p))) :
  (ReflectliteValue.method (ReflectliteValue.valueError "reflectlite.Value.Elem" 0) ReflectliteValue.elem #[.agg #[.pointer (some ⟨Tryz.prog.globals.size, 46, none⟩), .pointer (some a), .int .u64 150]]).run Tryz.prog W
   = .ok (.agg #[.pointer (some ⟨Tryz.prog.globals.size, 44, none⟩), .pointer (some p), .int .u64 406]) W := by
 rw [as_rlm]
 simp only [Sem.run_bind, as_parts27, Result.andThen]
 simp [ReflectliteValue.elem, loadVar, isAgg, underlying, Tryz.underlying46, ha, Result.andThen, as_elemOf27, as_mk25]
theorem as_rls (v x : Value) : ReflectliteValue.set #[v, x] = (do
  let (some (dst, a, fl), some (src, b, _)) := (← ReflectliteValue.parts v, ← ReflectliteValue.parts x)
   | unsupported (.noEntry "extern/(internal/reflectlite.Value).Set.zeroValue")
  if fl / ReflectliteValue.flagAddr % 2 == 0 then unsupported (.noEntry "extern/(internal/reflectlite.Value).Set.unaddressable")
  let val ← loadVar src b
  if ← Rtype.directlyAssignable dst src then storeVar dst a val
  else if ← Rtype.implements dst src then
   if (← Rtype.kind src) == 20 then
    match val with
    | .nilIface => unsupported (.noEntry "extern/reflectlite: a nil value of one interface type handed on as a value of another")
    | _ => storeVar dst a val
   else storeVar dst a (.iface src val)
  else panicString ("reflectlite.Set: value of type " ++ (← Rtype.spelt src) ++ " is not assignable to type " ++ (← Rtype.spelt dst))
  pure (.tuple #[])) := rfl
theorem as_parts25a (a : Addr) (w : World) : (ReflectliteValue.parts (.agg #[.pointer (some ⟨Tryz.prog.globals.size, 44, none⟩), .pointer (some a), .int .u64 406])).run Tryz.prog w = .ok (some (44, a, 406)) w := by kernel_rfl
theorem as_parts25 (a : Addr) (w : World) : (ReflectliteValue.parts (.agg #[.pointer (some ⟨Tryz.prog.globals.size, 44, none⟩), .pointer (some a), .int .u64 150])).run Tryz.prog w = .ok (some (44, a, 150)) w := by kernel_rfl
theorem as_direct25 (w : World) : (Rtype.directlyAssignable 44 44).run Tryz.prog w = .ok true w := by kernel_rfl
/-- (Value).Set: the *p.E variable at 'ta' gets what the Value's own variable 'b' holds. -/
theorem as_set25 (ta b e : Addr) (old : Value) (W : World) (hb : W.cell? b = some (.pointer (some e))) (ht : W.cell? ta = some old) (hf : W.frozen? ta = false) :
  (ReflectliteValue.set #[.agg #[.pointer (some ⟨Tryz.prog.globals.size, 44, none⟩), .pointer (some ta), .int .u64 406], .agg #[.pointer (some ⟨Tryz.prog.globals.size, 44, none⟩), .pointer (some b), .int .u64 150]]).run Tryz.prog W
   = .ok (.tuple #[]) (W.setCell ta (.pointer (some e))) := by
 rw [as_rls]
 simp only [Sem.run_bind, as_parts25a, as_parts25, Result.andThen]
 simp [ReflectliteValue.flagAddr, loadVar, isAgg, underlying, Tryz.underlying44, hb, Result.andThen, as_direct25, storeVar, Value.cells, storeCells, Addr.add]
 rw [run_store Tryz.prog W ta _ _ (by rfl)]
 simp [ht, hf]
def kindF : TypeId → Sem Value := fun t => do pure (.int .u8 (← Rtype.kind t))
theorem as_kd : (fun t => (fun a : Nat => Value.int IntKind.u8 (a : Int)) <$> Rtype.kind t) = kindF := by funext t; simp [kindF]
set_option maxRecDepth 20000 in
set_option maxHeartbeats 8000000 in
theorem asF_hit0 (e t : Addr) (old : Value) (w : World) (hg : w.cell? ⟨0, 0, none⟩ = some (.iface 113 (.agg #[.pointer (some ⟨Tryz.prog.globals.size, 39, none⟩)]))) (ht0 : w.cell? t = some old) (hf0 : w.frozen? t = false) :
  Calls Tryz.prog 16 #[.iface 44 (.pointer (some e)), .iface 46 (.pointer (some t))] w fun ev w' => ev = .returned (.bool true) ∧ w' = ((((w.alloc (.cells #[.pointer (some t)] 46)).alloc (.cells #[.pointer (some ⟨Tryz.prog.globals.size, 46, none⟩), .pointer (some ⟨w.heap.size, 0, none⟩), .int .u64 150] 83)).alloc (.cells #[.pointer (some ⟨Tryz.prog.globals.size, 46, none⟩), .pointer (some ⟨w.heap.size, 0, none⟩), .int .u64 150] 83)).alloc (.cells #[.pointer (some e)] 44)).setCell t (.pointer (some e)) := by
 have h6 := @run_callFunc_extern Tryz.prog 38 _ (fun args => ReflectliteValue.unpack (args.getD 0 (.tuple #[]))) Tryz.func38 (by kernel_rfl) (by kernel_rfl) (by kernel_rfl) (by kernel_rfl)
 have h7 := @run_callFunc_extern Tryz.prog 39 _ (ReflectliteValue.methodAny (ReflectliteValue.valueError "reflectlite.Value.Type" 0) (fun t _ _ _ => ReflectliteType.toType t)) Tryz.func39 (by kernel_rfl) (by kernel_rfl) (by kernel_rfl) (by kernel_rfl)
 have h8 := @run_callFunc_extern Tryz.prog 40 _ (ReflectliteValue.method (ReflectliteValue.valueError "reflectlite.Value.IsNil" 0) ReflectliteValue.isNil) Tryz.func40 (by kernel_rfl) (by kernel_rfl) (by kernel_rfl) (by kernel_rfl)
 have h27 := @run_callFunc_extern Tryz.prog 150 _ (ReflectliteType.abiMethod kindF) Tryz.func150 (by kernel_rfl) (by kernel_rfl) (by kernel_rfl) (by kernel_rfl)
 have h37 := @run_callFunc_extern Tryz.prog 163 _ (ReflectliteType.method ReflectliteType.elem) Tryz.func163 (by kernel_rfl) (by kernel_rfl) (by kernel_rfl) (by kernel_rfl)
 have h38 := @run_callFunc_extern Tryz.prog 164 _ (ReflectliteType.relation "Implements" ReflectliteType.implements_) Tryz.func164 (by kernel_rfl) (by kernel_rfl) (by kernel_rfl) (by kernel_rfl)
 have h10 := @run_callFunc_extern Tryz.prog 42 _ ReflectliteType.typeOf Tryz.func42 (by kernel_rfl) (by kernel_rfl) (by kernel_rfl) (by kernel_rfl)
 have h35 := @run_callFunc_extern Tryz.prog 161 _ (ReflectliteType.relation "AssignableTo" ReflectliteType.assignableTo) Tryz.func161 (by kernel_rfl) (by kernel_rfl) (by kernel_rfl) (by kernel_rfl)
 have h11 := @run_callFunc_extern Tryz.prog 71 _ (ReflectliteValue.method (ReflectliteValue.valueError "reflectlite.Value.Elem" 0) ReflectliteValue.elem) Tryz.func71 (by kernel_rfl) (by kernel_rfl) (by kernel_rfl) (by kernel_rfl)
 have h12 := @run_callFunc_extern Tryz.prog 72 _ ReflectliteValue.set Tryz.func72 (by kernel_rfl) (by kernel_rfl) (by kernel_rfl) (by kernel_rfl)
 have tO := as_typeOf25
 have mA := as_methodAssignableTo 312
 have a25 := as_assignable25
 have v25 := as_valueOf25
 have f6 := as_valueOf27
 have f7 := as_type27
 have mK := as_methodKind 312
 have mE := as_methodElem 312
 have mI := as_methodImplements 312
 simp only [Nat.reduceAdd] at mA mK mE mI
 have k27 := as_kind27
 have k25 := as_kind25
 rw [as_kd] at k27 k25
 have e27 := as_elem27
 have i25 := as_implements25
 have n8 := as_isNil27 ⟨w.heap.size, 0, none⟩ t ((w.alloc (.cells #[.pointer (some t)] 46)).alloc (.cells #[.pointer (some ⟨Tryz.prog.globals.size, 46, none⟩), .pointer (some ⟨w.heap.size, 0, none⟩), .int .u64 150] 83)) (by simp)
 have hlt : 0 < w.heap.size := World.block_lt_of_cell? w ⟨0, 0, none⟩ hg
 have hg2 : ((w.alloc (.cells #[.pointer (some t)] 46)).alloc (.cells #[.pointer (some ⟨Tryz.prog.globals.size, 46, none⟩), .pointer (some ⟨w.heap.size, 0, none⟩), .int .u64 150] 83)).cell? ⟨0, 0, none⟩ = some (.iface 113 (.agg #[.pointer (some ⟨Tryz.prog.globals.size, 39, none⟩)])) := by
  rw [World.cell?_alloc_lt _ _ ⟨0, 0, none⟩ (by first | (simp; done) | (simp; omega)), World.cell?_alloc_lt _ _ ⟨0, 0, none⟩ hlt]; exact hg
 have htl : t.block < w.heap.size := by
  rcases Nat.lt_or_ge t.block w.heap.size with h | h
  ·exact h
  ·simp [World.cell?, Array.getElem?_eq_none h] at ht0
 have el := as_elemV27 ⟨w.heap.size, 0, none⟩ t (((w.alloc (.cells #[.pointer (some t)] 46)).alloc (.cells #[.pointer (some ⟨Tryz.prog.globals.size, 46, none⟩), .pointer (some ⟨w.heap.size, 0, none⟩), .int .u64 150] 83)).alloc (.cells #[.pointer (some ⟨Tryz.prog.globals.size, 46, none⟩), .pointer (some ⟨w.heap.size, 0, none⟩), .int .u64 150] 83)) (by rw [World.cell?_alloc_lt _ _ ⟨w.heap.size, 0, none⟩ (by simp; omega)]; simp)
 have st := as_set25 t ⟨w.heap.size + 1 + 1 + 1, 0, none⟩ e old ((((w.alloc (.cells #[.pointer (some t)] 46)).alloc (.cells #[.pointer (some ⟨Tryz.prog.globals.size, 46, none⟩), .pointer (some ⟨w.heap.size, 0, none⟩), .int .u64 150] 83)).alloc (.cells #[.pointer (some ⟨Tryz.prog.globals.size, 46, none⟩), .pointer (some ⟨w.heap.size, 0, none⟩), .int .u64 150] 83)).alloc (.cells #[.pointer (some e)] 44))
  (by rw [World.cell?_alloc_at _ _ _ _ (by simp)]; rfl)
  (by rw [World.cell?_alloc_lt _ _ t (by simp; omega), World.cell?_alloc_lt _ _ t (by simp; omega), World.cell?_alloc_lt _ _ t (by simp; omega), World.cell?_alloc_lt _ _ t htl]; exact ht0)
  (by rw [World.frozen?_alloc_old _ _ t (by simp; omega), World.frozen?_alloc_old _ _ t (by simp; omega), World.frozen?_alloc_old _ _ t (by simp; omega), World.frozen?_alloc_old _ _ t (Nat.ne_of_lt htl)]; exact hf0)
 clear hg
 generalize Tryz.prog.globals.size = K at *
 go_enter Tryz.func16, Tryz.ntmps16
 go_wp2
 refine wp_loop_rounds 1 ?_
 rw [rounds_succ]
 go_wp2
 go_ret
 exact ⟨rfl, rfl⟩
/-- What the library's variable errors.errorType holds. -/
def ErT (w : World) : Prop := w.cell? ⟨0, 0, none⟩ = some (.iface 113 (.agg #[.pointer (some ⟨Tryz.prog.globals.size, 39, none⟩)]))
theorem ErT.ext {w w' : World} (h : ErT w) (he : Ext w w') : ErT w' := he.cell h
theorem asF_hit (e t : Addr) (old : Value) (w : World) (hg : ErT w) (ht0 : w.cell? t = some old) (hf0 : w.frozen? t = false) :
  Calls Tryz.prog 16 #[.iface 44 (.pointer (some e)), .iface 46 (.pointer (some t))] w fun ev w' => ev = .returned (.bool true) ∧ ∃ w1, Ext w w1 ∧ w' = w1.setCell t (.pointer (some e)) :=
 (asF_hit0 e t old w hg ht0 hf0).mono fun _ _ ⟨h1, h2⟩ => ⟨h1, _, ((((Ext.refl w).alloc _).alloc _).alloc _).alloc _, h2⟩
end
end
section
open Go.RowKit
set_option linter.unusedVariables false
set_option linter.unusedSimpArgs false
def wkC : List UInt8 := [97, 115, 32, 49, 10]
def wkL : List EvS := [⟨6, 0, [], [], [], 5, 0⟩, ⟨4, 1, [], [], [0, 255], 0, 0⟩, ⟨10, 0, [], [], [], 0, 0⟩]
def wkT : List UInt8 := [97, 115, 32, 49, 10, 114, 117, 110, 10, 116, 105, 99, 107, 32, 53, 10, 100, 97, 116, 97, 32, 49, 32, 48, 48, 102, 102, 10, 100, 114, 97, 105, 110, 10]
theorem wk_text : textScr wkC wkL = wkT := by decide +kernel
theorem wk_ok : cfgOk wkC = true ∧ wkL.all evOk = true := by decide +kernel
theorem wk_parse : parseS wkT = (wkC, wkL, 0, 0) := by
 rw [← wk_text]
 exact parse_print wk_ok.1 (by decide) wk_ok.2 (by rw [wk_text]; decide)
theorem wk_print : printS wkC wkL = (wkT, 0) := by
 unfold printS
 rw [if_neg (by rw [wk_ok.1]; decide), if_neg (by decide), if_neg (by rw [wk_ok.2]; decide), wk_text, if_neg (by decide)]
set_option maxRecDepth 20000 in
set_option maxHeartbeats 4000000 in
theorem Works35_any (w : World) (hT : Tab w) (hV : Vars w) (hD : Deb w) : Calls Tryz.prog 11 #[] w fun e w' => e = .returned (.bool true) ∧ Ext w w' := by
 have q1 := SParse_any wkT (by decide) w hT hV hD
 unfold ParP at q1
 rw [wk_parse] at q1
 have q2 := fun W a cp (h : Ext w W) hs => SPrint_any wkC (by decide) wkL a cp (by decide) W (hT.ext h) (hV.ext h) (hD.ext h) hs
 rw [wk_print] at q2
 clear hT hV hD
 unfold wkT at q1 q2
 unfold wkC at q1 q2
 replace q1 := hide q1
 replace q2 := hide q2
 go_enter Tryz.func11, Tryz.ntmps11
 go_wp2_with fail
 refine q1.out.mono ?_
 rintro e W1 ⟨⟨cfg, evs, v, h1, rfl, O⟩ | ⟨c, k, f, h0, h1, _⟩, E⟩
 ·injection h1 with h1 h2
  injection h2 with h2 _
  subst h1 h2
  obtain ⟨a, cp, rfl, hsl⟩ := O.sl
  have q := q2.out W1 a cp E (hsl.mono fun b h => h.2)
  obtain ⟨b, off, rfl, _, _, hc0⟩ := EEv.at hsl 0 (by decide)
  obtain ⟨b', off', hbb, _, _, hc1⟩ := EEv.at hsl 1 (by decide)
  injection hbb with hbb
  injection hbb with hbb hoo
  subst hbb hoo
  have x0 : W1.cell? ⟨b, off + 5, none⟩ = some (.int .i64 5) := hc0 5 _ rfl
  have x1 : W1.cell? ⟨b, off + 7 + 4, none⟩ = some (.string ⟨#[0, 255]⟩) := hc1 4 _ rfl
  clear hc0 hc1 hsl O q1 q2
  replace q := hide q
  replace E := hide E
  simp only [show wkL.length = 3 from rfl] at *
  go_wp2_with fail
  refine q.out.mono ?_
  rintro e W2 ⟨rfl, E2⟩
  have y0 := E2.cell x0
  have y1 := E2.cell x1
  have E3 := E.out.trans E2
  clear x0 x1 E2 E q
  replace E3 := hide E3
  go_wp2
  go_ret
  exact ⟨rfl, E3.out⟩
 ·injection h1 with _ h1
  injection h1 with _ h1
  injection h1 with h1 _
  exact absurd h1.symm h0
end
section
open Go.RowKit Go.Sort
set_option linter.unusedVariables false
theorem madeB (n : Nat) : madeCells (Value.cells (.int .u8 0)) n = Array.replicate n (.int .u8 0) := by
 apply Array.ext
 ·simp [madeCells]
 ·intro i h1 h2
  simp [madeCells, Value.cells, Nat.mod_one]
end
section
open Go.RowKit Go.Sort
set_option linter.unusedVariables false
set_option linter.unusedSimpArgs false
set_option maxRecDepth 20000 in
set_option maxHeartbeats 4000000 in
theorem SParse_long (s : List UInt8) (hs : 1048576 < s.length) (w : World) : Calls Tryz.prog 15 #[.string ⟨s.toArray⟩] w (ParP s w) := by
 have hp : parseS s = ([], [], 3, 0) := by unfold parseS; rw [if_pos hs]
 have hno : ∀ W f, w.heap.size ≤ f → Blk W f 48 #[.int .i64 3, .int .i64 0] → Ext w W → ParP s w (.returned (.tuple #[.string ⟨#[]⟩, .slice none 0 0, .iface 44 (.pointer (some ⟨f, 0, none⟩))])) W := fun W f h1 h2 h3 => ⟨.inr ⟨3, 0, f, by decide, hp, rfl, h1, h2⟩, h3⟩
 generalize ParP s w = Post at *
 have b1 : decide ((1048576 : Int) < (s.length : Int)) = true := decide_eq_true (by omega)
 clear hp hs
 have B := Blk.new w 48 #[.int .i64 3, .int .i64 0]
 have E := (Ext.refl w).alloc (Obj.cells #[.int .i64 3, .int .i64 0] 48)
 have hf := hno _ _ (Nat.le_refl _) B E
 clear hno B E
 replace hf := hide hf
 go_enter Tryz.func15, Tryz.ntmps15
 go_wp2
 first | exact hf.out | exact bodyPost_ret (v := .tuple #[.string ⟨#[]⟩, .slice none 0 0, .iface 44 (.pointer (some ⟨w.heap.size, 0, none⟩))]) (by simp [results, Tryz.results15, go_sem]) rfl hf.out
theorem madeCells_at {z : Array Value} {n i : Nat} (hi : i < n) (hz : 0 < z.size) : (madeCells z n)[i]? = z[i % z.size]? := by
 have hm : i % z.size < z.size := Nat.mod_lt _ hz
 rw [Array.getElem?_eq_getElem (by rw [size_madeCells]; exact hi), Array.getElem?_eq_getElem hm]
 simp [madeCells, hm]
theorem mkEvs (n : Nat) (hn : n ≤ 4096) : ∃ C : Array Value, (∀ W : World, (Instr.makeSlice 22 (.int .i64 (n : Int)) (.int .i64 (n : Int))).run Tryz.prog W = .ok (.slice (some ⟨W.heap.size, 0, none⟩) n n) (W.alloc (.cells C 31))) ∧
  ∀ W : World, Own EEv 31 (W.alloc (.cells C 31)) W.heap.size (.slice (some ⟨W.heap.size, 0, none⟩) n n) (List.replicate n zeroEv) := by
 obtain ⟨ht, i, z, hi, hz, hs, hb, _⟩ := okEv
 have hz0 : z = .agg #[.int .i64 0, .int .i64 0, .string ⟨#[]⟩, .string ⟨#[]⟩, .string ⟨#[]⟩, .int .i64 0, .int .u32 0] := by
  have h : (Tryz.prog.info? 31).map (fun i => i.zero) = some (some (.agg #[.int .i64 0, .int .i64 0, .string ⟨#[]⟩, .string ⟨#[]⟩, .string ⟨#[]⟩, .int .i64 0, .int .u32 0])) := by kernel_rfl
  rw [hi] at h
  simp only [Option.map_some, Option.some.injEq] at h
  rw [hz] at h
  exact Option.some.inj h
 subst hz0
 have hs2 : i.size = 7 := hs
 refine ⟨madeCells (Value.cells (.agg #[.int .i64 0, .int .i64 0, .string ⟨#[]⟩, .string ⟨#[]⟩, .string ⟨#[]⟩, .int .i64 0, .int .u32 0])) (n * 7), fun W => ?_, fun W => ?_⟩
 ·have := run_make (w := W) 22 31 i _ ht hi hz .i64 .i64 n n (by omega) (by omega) (by rw [hb]; omega) (by omega)
  rw [hs2] at this
  simpa using this
 ·refine ⟨(madeCells (Value.cells (.agg #[.int .i64 0, .int .i64 0, .string ⟨#[]⟩, .string ⟨#[]⟩, .string ⟨#[]⟩, .int .i64 0, .int .u32 0])) (n * 7)).toList, ⟨by rw [Array.length_toList, size_madeCells, List.length_replicate]; rfl, .inr ⟨W.heap.size, n, _, by rw [List.length_replicate], Nat.le_refl _, heap_alloc_new W _, by rw [List.length_replicate]; exact Nat.le_refl _, by unfold maxLen; omega, by rw [size_madeCells]; rfl, by rw [List.length_replicate]; exact List.take_of_length_le (by rw [Array.length_toList, size_madeCells]; exact Nat.le_refl _)⟩⟩, fun k x hx => ?_⟩
  obtain ⟨hk, rfl⟩ := List.getElem?_eq_some_iff.1 hx
  rw [List.length_replicate] at hk
  rw [List.getElem_replicate]
  refine ⟨evCs zeroEv, ⟨rfl, ⟨i64_of (by decide) (by decide), i64_of (by decide) (by decide), by decide, by decide, by decide, i64_of (by decide) (by decide)⟩⟩, fun j u hu => ?_⟩
  have hj : j < 7 := by
   rcases Nat.lt_or_ge j 7 with h | h
   ·exact h
   ·rw [List.getElem?_eq_none (show (evCs zeroEv).length ≤ j from h)] at hu; cases hu
  have h9 : k * EEv.sz + j < n * 7 := by show k * 7 + j < n * 7; omega
  rw [Array.getElem?_toList, madeCells_at h9 (by decide)]
  have h8 : (k * EEv.sz + j) % (Value.cells (.agg #[.int .i64 0, .int .i64 0, .string ⟨#[]⟩, .string ⟨#[]⟩, .string ⟨#[]⟩, .int .i64 0, .int .u32 0])).size = j := by
   show (k * 7 + j) % 7 = j
   omega
  rw [h8, ← hu]
  match j, hj with
  | 0, _ => rfl
  | 1, _ => rfl
  | 2, _ => rfl
  | 3, _ => rfl
  | 4, _ => rfl
  | 5, _ => rfl
  | 6, _ => rfl
/-- An event's kind is stored. -/
theorem Own.kindSet {w : World} {B g n c : Nat} {l : List EvS} (h : Own EEv 31 w B (.slice (some ⟨g, 0, none⟩) n c) l) {i : Nat} (hi : i < l.length) (x : Int) (hx : i64 x) :
    Own EEv 31 (w.setCell ⟨g, i * 7, none⟩ (.int .i64 x)) B (.slice (some ⟨g, 0, none⟩) n c) (l.set i { l[i] with kind := x }) := by
  have hn := h.lenEq
  subst hn
  obtain ⟨xs, ho, hr⟩ := h
  obtain ⟨o1, g1⟩ := ho.stored (i * 7) (.int .i64 x)
  have hxl : xs.length = l.length * 7 := ho.1
  refine ⟨xs.set (i * 7) (.int .i64 x), by rw [List.length_set]; exact o1, fun k y hy => ?_⟩
  by_cases hk : k = i
  · subst hk
    rw [List.getElem?_set_self hi] at hy
    obtain rfl := Option.some.inj hy
    obtain ⟨cs, ⟨rfl, hin⟩, hc⟩ := hr k l[k] (List.getElem?_eq_getElem hi)
    refine ⟨_, ⟨rfl, ⟨hx, hin.conn, hin.addr, hin.peer, hin.bytes, hin.ticks⟩⟩, fun j u hu => ?_⟩
    show (xs.set (k * 7) (.int .i64 x))[k * 7 + j]? = some u
    match j, hu with
    | 0, hu =>
      have : u = .int .i64 x := by simpa [evCs] using hu.symm
      subst this
      rw [Nat.add_zero, List.getElem?_set_self (by omega)]
    | j + 1, hu =>
      rw [List.getElem?_set_ne (by omega)]
      exact hc (j + 1) u (by simpa [evCs] using hu)
  · rw [List.getElem?_set_ne (Ne.symm hk)] at hy
    obtain ⟨cs, ⟨rfl, hin⟩, hc⟩ := hr k y hy
    refine ⟨_, ⟨rfl, hin⟩, fun j u hu => ?_⟩
    have hj : j < 7 := by
      rcases Nat.lt_or_ge j 7 with h | h
      · exact h
      · rw [List.getElem?_eq_none (show (evCs y).length ≤ j from h)] at hu; cases hu
    show (xs.set (i * 7) (.int .i64 x))[k * 7 + j]? = some u
    rw [List.getElem?_set_ne (by omega)]
    exact hc j u hu
def mixL (k : Nat) : List EvS := List.replicate k drnE ++ List.replicate (512 - k) zeroEv
theorem mixL_len {k : Nat} (h : k ≤ 512) : (mixL k).length = 512 := by unfold mixL; rw [List.length_append, List.length_replicate, List.length_replicate]; omega
theorem mixL_set {k : Nat} (h : k < 512) : (mixL k).set k { (mixL k)[k]'(by rw [mixL_len (by omega)]; exact h) with kind := 10 } = mixL (k + 1) := by
 have h1 : (mixL k)[k]'(by rw [mixL_len (by omega)]; exact h) = zeroEv := by
  unfold mixL
  rw [List.getElem_append_right (by rw [List.length_replicate]; exact Nat.le_refl _), List.getElem_replicate]
 rw [h1]
 unfold mixL
 have h2 : List.replicate (512 - k) zeroEv = zeroEv :: List.replicate (512 - (k + 1)) zeroEv := by rw [show 512 - k = (512 - (k + 1)) + 1 by omega, List.replicate_succ]
 rw [h2, List.set_append_right _ _ (by rw [List.length_replicate]; exact Nat.le_refl _), List.length_replicate, Nat.sub_self, List.set_cons_zero, List.replicate_succ', List.append_assoc]
 rfl
theorem mk_long : ∃ (C : Array Value) (z : List UInt8), z.length = 1048577 ∧ (∀ W : World, (Instr.makeSlice 65 (.int .i64 1048577) (.int .i64 1048577)).run Tryz.prog W = .ok (.slice (some ⟨W.heap.size, 0, none⟩) 1048577 1048577) (W.alloc (.cells C 5))) ∧
  ∀ W : World, OwnB 5 (W.alloc (.cells C 5)) W.heap.size (.slice (some ⟨W.heap.size, 0, none⟩) 1048577 1048577) z := by
 obtain ⟨n, hn⟩ : ∃ n : Nat, n = 1048577 := ⟨_, rfl⟩
 have key : ∀ W : World, (Instr.makeSlice 65 (.int .i64 (n : Int)) (.int .i64 (n : Int))).run Tryz.prog W = .ok (.slice (some ⟨W.heap.size, 0, none⟩) n n) (W.alloc (.cells (Array.replicate n (.int .u8 0)) 5)) := fun W => by
  obtain ⟨ht, i, z, hi, hz, hs, hb, _⟩ := okU8
  have hz0 : z = .int .u8 0 := by
   rcases okU8z with h | h
   ·rw [hi] at h; cases h
   ·have := h i hi
    rw [hz] at this
    exact Option.some.inj this
  have := run_make W 65 5 i z ht hi hz .i64 .i64 n n (by omega) (by omega) (by rw [hb]; omega) (by omega)
  rw [hs, hz0, madeB] at this
  simpa using this
 have k2 := fun W => OwnB.zeros (e := 5) W n (by unfold maxLen; omega)
 refine ⟨Array.replicate n (.int .u8 0), List.replicate n 0, by rw [List.length_replicate, hn], fun W => ?_, fun W => ?_⟩
 ·have := key W
  generalize Array.replicate n (Value.int .u8 0) = C at *
  subst hn
  exact this
 ·have := k2 W
  generalize Array.replicate n (Value.int .u8 0) = C at *
  generalize List.replicate n (0 : UInt8) = z at *
  subst hn
  exact this
theorem Sl.oneEv {w : World} {g : Nat} {e : EvS} (hin : EvIn e) (h : Blk w g 31 (evCs e).toArray) : Sl EEv w (· < w.heap.size) (some ⟨g, 0, none⟩) [e] := by
 refine .inr ⟨g, 0, rfl, h.lt, fun k x hx => ?_⟩
 have hk : k = 0 := by
  rcases Nat.eq_zero_or_pos k with h0 | h0
  ·exact h0
  ·rw [List.getElem?_eq_none (by simp; omega)] at hx; cases hx
 subst hk
 obtain rfl : e = x := by simpa using hx
 refine ⟨_, ⟨rfl, hin⟩, fun j u hu => ?_⟩
 have hc := h.cell j
 have hu2 : (evCs e).toArray[j]? = some u := by simpa using hu
 simpa using hc.trans hu2
theorem Own.slAt' {w : World} {B g n c : Nat} {l : List EvS} (h : Own EEv 31 w B (.slice (some ⟨g, 0, none⟩) n c) l) : Sl EEv w (· < w.heap.size) (some ⟨g, 0, none⟩) l := by
 obtain ⟨a, d, hv, hs⟩ := h.sl
 injection hv with h1 _ _
 subst h1
 exact hs.mono fun _ h => h.2
theorem mk513 : ∃ C : Array Value, (∀ W : World, (Instr.makeSlice 22 (.int .i64 513) (.int .i64 513)).run Tryz.prog W = .ok (.slice (some ⟨W.heap.size, 0, none⟩) 513 513) (W.alloc (.cells C 31))) ∧
  ∀ W : World, Sl EEv (W.alloc (.cells C 31)) (· < (W.alloc (.cells C 31)).heap.size) (some ⟨W.heap.size, 0, none⟩) (List.replicate 513 zeroEv) := by
 obtain ⟨C, h1, h2⟩ := mkEvs 513 (by decide)
 exact ⟨C, h1, fun W => (h2 W).slAt'⟩
theorem mixL_zero : mixL 0 = List.replicate 512 zeroEv := by unfold mixL; rw [Nat.sub_zero]; rfl
theorem mixL_end : mixL 512 = List.replicate 512 drnE := by unfold mixL; rw [Nat.sub_self]; exact List.append_nil _
theorem mk512 : ∃ C : Array Value, (∀ W : World, (Instr.makeSlice 22 (.int .i64 512) (.int .i64 512)).run Tryz.prog W = .ok (.slice (some ⟨W.heap.size, 0, none⟩) 512 512) (W.alloc (.cells C 31))) ∧
  ∀ W : World, Own EEv 31 (W.alloc (.cells C 31)) W.heap.size (.slice (some ⟨W.heap.size, 0, none⟩) 512 512) (mixL 0) := by
 obtain ⟨C, h1, h2⟩ := mkEvs 512 (by decide)
 exact ⟨C, h1, fun W => by rw [mixL_zero]; exact h2 W⟩
theorem kn_T : ∃ T : List UInt8, T.length = 3076 ∧ printS [] (mixL 512) = (T, 0) ∧ parseS (T ++ [100, 114, 97, 105, 110, 10]) = ([], [], 3, 513) :=
 ⟨textScr [] (List.replicate 512 drnE), by rw [drn_len], by rw [mixL_end]; exact kn_pr4, by rw [drn_more]; exact kn_over⟩
end
section
open Go.RowKit
set_option linter.unusedVariables false
set_option linter.unusedSimpArgs false
/-- An event by small numbers. -/
structure DoS where
  kind : UInt8
  conn : UInt8
  peer : UInt8
  ticks : Nat
  draw : UInt32
  bytes : List UInt8
  b : Nat → UInt8
  six : Bool
def DoS.bs (d : DoS) : List UInt8 := [d.b 0, d.b 1, d.b 2, d.b 3, d.b 4, d.b 5, d.b 6, d.b 7, d.b 8, d.b 9, d.b 10, d.b 11, d.b 12, d.b 13, d.b 14, d.b 15]
def doCs (d : DoS) : List Value := [.int .u8 (d.kind.toNat : Int), .int .u8 (d.conn.toNat : Int), .int .u8 (d.peer.toNat : Int), .int .u16 (d.ticks : Int), .int .u32 (d.draw.toNat : Int), .string ⟨d.bytes.toArray⟩, .int .u8 ((d.b 0).toNat : Int), .int .u8 ((d.b 1).toNat : Int), .int .u8 ((d.b 2).toNat : Int), .int .u8 ((d.b 3).toNat : Int), .int .u8 ((d.b 4).toNat : Int), .int .u8 ((d.b 5).toNat : Int), .int .u8 ((d.b 6).toNat : Int), .int .u8 ((d.b 7).toNat : Int), .int .u8 ((d.b 8).toNat : Int), .int .u8 ((d.b 9).toNat : Int), .int .u8 ((d.b 10).toNat : Int), .int .u8 ((d.b 11).toNat : Int), .int .u8 ((d.b 12).toNat : Int), .int .u8 ((d.b 13).toNat : Int), .int .u8 ((d.b 14).toNat : Int), .int .u8 ((d.b 15).toNat : Int), .bool d.six]
def conS (d : DoS) : Nat := d.conn.toNat % 64 + 1
def perS (d : DoS) : List UInt8 := [112, UInt8.ofNat (97 + d.peer.toNat % 26)]
/-- The event. -/
def ofS (d : DoS) : EvS :=
 match d.kind.toNat % 10 with
 | 0 => ⟨1, (conS d : Int), if d.six = true then d.bs else d.bs.take 4, [], [], 0, 0⟩
 | 1 => ⟨2, (conS d : Int), [], perS d, [], 0, 0⟩
 | 2 => ⟨3, 0, [], perS d, [], 0, 0⟩
 | 3 => ⟨4, (conS d : Int), [], [], d.bytes.take 40, 0, 0⟩
 | 4 => ⟨5, (conS d : Int), [], [], [], 0, 0⟩
 | 5 => ⟨6, 0, [], [], [], ((d.ticks % 4096 + 1 : Nat) : Int), 0⟩
 | 6 => ⟨7, 0, [], [], d.bytes.take 40, 0, 0⟩
 | 7 => ⟨8, 0, [], [], d.bytes.take 40, 0, 0⟩
 | 8 => ⟨9, 0, [], [], [], 0, d.draw⟩
 | _ => ⟨10, 0, [], [], [], 0, 0⟩
theorem perS_ok (d : DoS) : nameOk (perS d) = true := by
 have h : ∀ n : Fin 26, nameOk [112, UInt8.ofNat (97 + n.val)] = true := by decide +kernel
 exact h ⟨d.peer.toNat % 26, Nat.mod_lt _ (by decide)⟩
theorem ofS_ok (d : DoS) : evOk (ofS d) = true := by
 have hp := perS_ok d
 have hc : (1 : Int) ≤ (conS d : Int) ∧ (conS d : Int) ≤ 64 := by unfold conS; omega
 have hb : (d.bytes.take 40).length ≤ 40 := by rw [List.length_take]; omega
 have ht : (1 : Int) ≤ ((d.ticks % 4096 + 1 : Nat) : Int) ∧ ((d.ticks % 4096 + 1 : Nat) : Int) ≤ 4096 := by omega
 have ha : (if d.six = true then d.bs else d.bs.take 4).length = 4 ∨ (if d.six = true then d.bs else d.bs.take 4).length = 16 := by
  cases d.six
  ·exact .inl rfl
  ·exact .inr rfl
 have hb1 : (d.bytes.take 40).length ≤ 16384 := by omega
 have hb2 : (d.bytes.take 40).length ≤ 65536 := by omega
 unfold ofS
 generalize (if d.six = true then d.bs else d.bs.take 4) = ad at *
 generalize d.bytes.take 40 = by_ at *
 generalize ((d.ticks % 4096 + 1 : Nat) : Int) = tk at *
 generalize (conS d : Int) = cn at *
 generalize perS d = pr at *
 split <;> simp [evOk, connOk, hp, hc, hb1, hb2, ht, ha]
end
section
open Go.RowKit
set_option linter.unusedVariables false
set_option linter.unusedSimpArgs false
structure DoIn (d : DoS) : Prop where
  ticks : d.ticks < 65536
  bytes : d.bytes.length ≤ 1048576
def EDo : Enc DoS := Enc.cells doCs DoIn 23 (fun _ => rfl) (fun x u hu => by simp only [doCs, List.mem_cons, List.not_mem_nil, or_false] at hu; rcases hu with rfl | rfl | rfl | rfl | rfl | rfl | rfl | rfl | rfl | rfl | rfl | rfl | rfl | rfl | rfl | rfl | rfl | rfl | rfl | rfl | rfl | rfl | rfl <;> rfl)
theorem EDo.at {w : World} {S : Nat → Prop} {a : Option Addr} {l : List DoS} (h : Sl EDo w S a l) (k : Nat) (hk : k < l.length) :
  ∃ b off, a = some ⟨b, off, none⟩ ∧ S b ∧ DoIn l[k] ∧ ∀ j u, (doCs l[k])[j]? = some u → w.cell? ⟨b, off + k * 23 + j, none⟩ = some u := by
 obtain ⟨b, off, cs, rfl, hb, ⟨rfl, hi⟩, hc⟩ := h.at k hk
 exact ⟨b, off, rfl, hb, hi, hc⟩
theorem EvIn.of (d : DoS) : EvIn (ofS d) := evOk_in (ofS_ok d)
end
section
open Go.RowKit Go.Sort
set_option linter.unusedVariables false
set_option linter.unusedSimpArgs false
theorem kn7_cells : ∀ k, (h : k < kn7.length) → (#[.string ⟨#[]⟩, .string ⟨#[97, 115, 32, 49, 10]⟩, .string ⟨#[114, 117, 110, 10, 116, 105, 99, 107, 10]⟩, .string ⟨#[114, 117, 110, 10, 116, 105, 99, 107, 32, 53]⟩, .string ⟨#[114, 117, 110, 10, 114, 117, 110, 10]⟩, .string ⟨#[114, 117, 110]⟩, .string ⟨#[97, 115, 32, 49, 10, 97, 115, 32, 50]⟩] : Array Value)[k]? = some (.string ⟨kn7[k].1.toArray⟩)
 | 0, _ => rfl
 | 1, _ => rfl
 | 2, _ => rfl
 | 3, _ => rfl
 | 4, _ => rfl
 | 5, _ => rfl
 | 6, _ => rfl
 | k + 7, h => absurd h (by show ¬ k + 7 < 7; omega)
theorem kn7_tab : ∀ k, (h : k < kn7.length) → (#[.int .i64 0, .int .i64 1, .int .i64 1, .int .i64 1, .int .i64 1, .int .i64 0, .int .i64 1] : Array Value)[k]? = some (.int .i64 (kn7[k].2 : Int))
 | 0, _ => rfl
 | 1, _ => rfl
 | 2, _ => rfl
 | 3, _ => rfl
 | 4, _ => rfl
 | 5, _ => rfl
 | 6, _ => rfl
 | k + 7, h => absurd h (by show ¬ k + 7 < 7; omega)
theorem kn16_cells : ∀ k, (h : k < kn16.length) → (#[.string ⟨#[116, 105, 99, 107, 32, 48]⟩, .string ⟨#[116, 105, 99, 107, 32, 48, 49]⟩, .string ⟨#[116, 105, 99, 107, 32, 52, 48, 57, 55]⟩, .string ⟨#[105, 110, 32, 54, 53, 32, 49, 48, 46, 48, 46, 48, 46, 50]⟩, .string ⟨#[105, 110, 32, 48, 32, 49, 48, 46, 48, 46, 48, 46, 50]⟩, .string ⟨#[105, 110, 32, 49, 32, 49, 48, 46, 48, 46, 48]⟩, .string ⟨#[100, 97, 116, 97, 32, 49, 32, 48]⟩, .string ⟨#[100, 97, 116, 97, 32, 49, 32]⟩, .string ⟨#[100, 97, 116, 97, 32, 49]⟩, .string ⟨#[100, 114, 97, 105, 110, 32]⟩, .string ⟨#[]⟩, .string ⟨#[117, 112, 32, 49, 32, 80]⟩, .string ⟨#[100, 114, 97, 119, 32, 52, 50, 57, 52, 57, 54, 55, 50, 57, 54]⟩, .string ⟨#[100, 97, 116, 97, 32, 49, 32, 70, 70]⟩, .string ⟨#[116, 105, 99, 107, 32, 32, 53]⟩, .string ⟨#[99, 108, 111, 115, 101]⟩] : Array Value)[k]? = some (.string ⟨kn16[k].toArray⟩)
 | 0, _ => rfl
 | 1, _ => rfl
 | 2, _ => rfl
 | 3, _ => rfl
 | 4, _ => rfl
 | 5, _ => rfl
 | 6, _ => rfl
 | 7, _ => rfl
 | 8, _ => rfl
 | 9, _ => rfl
 | 10, _ => rfl
 | 11, _ => rfl
 | 12, _ => rfl
 | 13, _ => rfl
 | 14, _ => rfl
 | 15, _ => rfl
 | k + 16, h => absurd h (by show ¬ k + 16 < 16; omega)
set_option maxRecDepth 20000 in
set_option maxHeartbeats 8000000 in
theorem ScriptKnown_walk (w : World) (hT : Tab w) (hD : Deb w) (hV : Vars w) (hg : ErT w) :
    Calls Tryz.prog 8 #[] w fun e w' => e = .returned (.bool true) ∧ Ext w w' := by
  have qw := fun W (h : Ext w W) => Works35_any W (hT.ext h) (hV.ext h) (hD.ext h)
  have qp := fun s hs W (h : Ext w W) => SParse_any s hs W (hT.ext h) (hV.ext h) (hD.ext h)
  have qe := fun s (hs : s.length ≤ 200) W (h : Ext w W) => SEvent_any s (by omega) (.inl (by omega)) W (hT.ext h) (hV.ext h) (hD.ext h)
  have qo := fun x hx W (h : Ext w W) => SOutput_any x hx W (hT.ext h)
  have qr := fun c hc E a cp hE W (h : Ext w W) => SPrint_any c hc E a cp hE W (hT.ext h) (hV.ext h) (hD.ext h)
  have hg2 := fun W (h : Ext w W) => hg.ext h
  clear hT hD hV hg
  have B1 := Blk.new w 9 #[.string ⟨#[]⟩, .string ⟨#[97, 115, 32, 49, 10]⟩, .string ⟨#[114, 117, 110, 10, 116, 105, 99, 107, 10]⟩, .string ⟨#[114, 117, 110, 10, 116, 105, 99, 107, 32, 53]⟩, .string ⟨#[114, 117, 110, 10, 114, 117, 110, 10]⟩, .string ⟨#[114, 117, 110]⟩, .string ⟨#[97, 115, 32, 49, 10, 97, 115, 32, 50]⟩]
  have E1 := (Ext.refl w).alloc (Obj.cells #[.string ⟨#[]⟩, .string ⟨#[97, 115, 32, 49, 10]⟩, .string ⟨#[114, 117, 110, 10, 116, 105, 99, 107, 10]⟩, .string ⟨#[114, 117, 110, 10, 116, 105, 99, 107, 32, 53]⟩, .string ⟨#[114, 117, 110, 10, 114, 117, 110, 10]⟩, .string ⟨#[114, 117, 110]⟩, .string ⟨#[97, 115, 32, 49, 10, 97, 115, 32, 50]⟩] 9)
  replace qw := hide qw
  replace qp := hide qp
  replace qe := hide qe
  replace qo := hide qo
  replace qr := hide qr
  replace hg2 := hide hg2
  replace B1 := hide B1
  replace E1 := hide E1
  go_enter Tryz.func8, Tryz.ntmps8
  go_wp2_with fail
  replace B1 := B1.out
  replace E1 := E1.out
  generalize w.alloc (Obj.cells #[.string ⟨#[]⟩, .string ⟨#[97, 115, 32, 49, 10]⟩, .string ⟨#[114, 117, 110, 10, 116, 105, 99, 107, 10]⟩, .string ⟨#[114, 117, 110, 10, 116, 105, 99, 107, 32, 53]⟩, .string ⟨#[114, 117, 110, 10, 114, 117, 110, 10]⟩, .string ⟨#[114, 117, 110]⟩, .string ⟨#[97, 115, 32, 49, 10, 97, 115, 32, 50]⟩] 9) = W1 at B1 E1 ⊢
  generalize w.heap.size = gs at B1 ⊢
  replace B1 := hide B1
  replace E1 := hide E1
  go_loopw [33] (fun i wr => ∃ k : Nat, i = .int .i64 (k : Int) ∧ k ≤ 7 ∧ Ext W1 wr) (fun i _ => 7 - (intOf i).toNat)
  case atStart => exact ⟨0, rfl, by decide, Ext.refl _⟩
  case round =>
    obtain ⟨k, rfl, hk, E⟩ := hrel
    have X := E1.out.trans E
    by_cases hlt : k < 7
    · have b1 : decide ((k : Int) < 7) = true := decide_eq_true (by omega)
      have x0 := E.cell ((B1.out.cell k).trans (kn7_cells k hlt))
      have hp := kn7_all k hlt
      have hfew := kn7_few k hlt
      have nt := kn7_tab k hlt
      obtain ⟨sn, hsn⟩ : ∃ sn, kn7[k]'hlt = sn := ⟨_, rfl⟩
      rw [hsn] at x0 hp hfew nt
      clear hsn
      obtain ⟨s, n⟩ := sn
      dsimp only at x0 hp hfew nt
      have q := qp.out s (by omega) _ X
      unfold ParP at q
      rw [hp] at q
      clear hp
      replace q := hide q
      replace E := hide E
      replace X := hide X
      replace hfew := hide hfew
      replace nt := hide nt
      go_wp2_with fail
      refine q.out.mono ?_
      rintro e W3 ⟨⟨cfg, evs, v, h1, rfl, O⟩ | ⟨c, kk, f, h0, h1, rfl, hf, F⟩, E1'⟩
      case inl =>
        injection h1 with _ h1
        injection h1 with _ h1
        injection h1 with h1 _
        cases h1
      injection h1 with _ h1
      injection h1 with _ h1
      injection h1 with h1 h2
      subst h1 h2
      have E2 := E.out.trans E1'
      have X2 := X.out.trans E1'
      clear x0 q E X E1'
      have hfl := F.lt
      have P := Blk.new W3 44 #[.pointer none]
      have E3 := E2.alloc (Obj.cells #[.pointer none] 44)
      have X3 := X2.alloc (Obj.cells #[.pointer none] 44)
      have F3 := F.alloc (Obj.cells #[.pointer none] 44)
      have hws := E2.size
      clear E2 X2 F
      replace P := hide P
      replace E3 := hide E3
      replace F3 := hide F3
      replace X3 := hide X3
      replace hfl := hide hfl
      replace hws := hide hws
      go_upto_region 6 with fail
      replace P := P.out
      replace E3 := E3.out
      replace X3 := X3.out
      replace F3 := F3.out
      replace hfl := hfl.out
      replace hws := hws.out
      generalize W3.alloc (Obj.cells #[.pointer none] 44) = W4 at P E3 F3 X3 ⊢
      generalize W3.heap.size = p at P hfl hws ⊢
      have q1 := asF_hit ⟨f, 0, none⟩ ⟨p, 0, none⟩ (.pointer none) W4.drew (hg2.out _ X3.drew) (P.drew.cell 0) (P.drew.frozen 0)
      have bn : ((n : Int) != (n : Int)) = false := by simp
      replace q1 := hide q1
      replace P := hide P
      replace E3 := hide E3
      replace F3 := hide F3
      replace X3 := hide X3
      replace hfl := hide hfl
      replace hws := hide hws
      go_region_with (go_at_call 16
                      refine q1.out.mono ?_
                      rintro e W5 ⟨rfl, W5', he, rfl⟩
                      have F1 := (F3.out.drew.ext he).far (p := ⟨p, 0, none⟩) (show f ≠ p by have := hfl.out; omega) (.pointer (some ⟨f, 0, none⟩))
                      have P1 : Blk (W5'.setCell ⟨p, 0, none⟩ (.pointer (some ⟨f, 0, none⟩))) p 44 #[.pointer (some ⟨f, 0, none⟩)] := (P.out.drew.ext he).set_ 0 _
                      have E4 := (E3.out.drew.trans he).setCell (p := ⟨p, 0, none⟩) hws.out (.pointer (some ⟨f, 0, none⟩))
                      generalize W5'.setCell ⟨p, 0, none⟩ (.pointer (some ⟨f, 0, none⟩)) = W6 at P1 F1 E4 ⊢
                      have eA := (Ext.refl W6).alloc (Obj.cells #[.int .i64 0, .int .i64 1, .int .i64 1, .int .i64 1, .int .i64 1, .int .i64 0, .int .i64 1] 3)
                      have p0 : W6.cell? ⟨p, 0, none⟩ = some (.pointer (some ⟨f, 0, none⟩)) := P1.cell 0
                      have f0 : W6.cell? ⟨f, 0, none⟩ = some (.int .i64 9) := F1.cell 0
                      have f1 : W6.cell? ⟨f, 1, none⟩ = some (.int .i64 (n : Int)) := F1.cell 1
                      have p0' := eA.cell p0
                      have f0' := eA.cell f0
                      have f1' := eA.cell f1
                      have t0 := ((Blk.new W6 3 #[.int .i64 0, .int .i64 1, .int .i64 1, .int .i64 1, .int .i64 1, .int .i64 0, .int .i64 1]).cell k).trans nt.out
                      have E5 := E4.alloc (Obj.cells #[.int .i64 0, .int .i64 1, .int .i64 1, .int .i64 1, .int .i64 1, .int .i64 0, .int .i64 1] 3)
                      clear P1 F1 he eA E4
                      replace E5 := hide E5)
      all_goals go_wp2_with fail
      all_goals go_roundw
      all_goals (first | (case rel => exact ⟨k + 1, by go_num, by omega, E5.out⟩) | skip)
      all_goals (first | (case measure => simp [intOf]; omega) | skip)
    · obtain rfl : k = 7 := by omega
      have b1 : decide (((7 : Nat) : Int) < 7) = false := by decide
      clear E1 B1 E
      have B2 := Blk.new wr 9 #[.string ⟨#[116, 105, 99, 107, 32, 48]⟩, .string ⟨#[116, 105, 99, 107, 32, 48, 49]⟩, .string ⟨#[116, 105, 99, 107, 32, 52, 48, 57, 55]⟩, .string ⟨#[105, 110, 32, 54, 53, 32, 49, 48, 46, 48, 46, 48, 46, 50]⟩, .string ⟨#[105, 110, 32, 48, 32, 49, 48, 46, 48, 46, 48, 46, 50]⟩, .string ⟨#[105, 110, 32, 49, 32, 49, 48, 46, 48, 46, 48]⟩, .string ⟨#[100, 97, 116, 97, 32, 49, 32, 48]⟩, .string ⟨#[100, 97, 116, 97, 32, 49, 32]⟩, .string ⟨#[100, 97, 116, 97, 32, 49]⟩, .string ⟨#[100, 114, 97, 105, 110, 32]⟩, .string ⟨#[]⟩, .string ⟨#[117, 112, 32, 49, 32, 80]⟩, .string ⟨#[100, 114, 97, 119, 32, 52, 50, 57, 52, 57, 54, 55, 50, 57, 54]⟩, .string ⟨#[100, 97, 116, 97, 32, 49, 32, 70, 70]⟩, .string ⟨#[116, 105, 99, 107, 32, 32, 53]⟩, .string ⟨#[99, 108, 111, 115, 101]⟩]
      have E2 := X.alloc (Obj.cells #[.string ⟨#[116, 105, 99, 107, 32, 48]⟩, .string ⟨#[116, 105, 99, 107, 32, 48, 49]⟩, .string ⟨#[116, 105, 99, 107, 32, 52, 48, 57, 55]⟩, .string ⟨#[105, 110, 32, 54, 53, 32, 49, 48, 46, 48, 46, 48, 46, 50]⟩, .string ⟨#[105, 110, 32, 48, 32, 49, 48, 46, 48, 46, 48, 46, 50]⟩, .string ⟨#[105, 110, 32, 49, 32, 49, 48, 46, 48, 46, 48]⟩, .string ⟨#[100, 97, 116, 97, 32, 49, 32, 48]⟩, .string ⟨#[100, 97, 116, 97, 32, 49, 32]⟩, .string ⟨#[100, 97, 116, 97, 32, 49]⟩, .string ⟨#[100, 114, 97, 105, 110, 32]⟩, .string ⟨#[]⟩, .string ⟨#[117, 112, 32, 49, 32, 80]⟩, .string ⟨#[100, 114, 97, 119, 32, 52, 50, 57, 52, 57, 54, 55, 50, 57, 54]⟩, .string ⟨#[100, 97, 116, 97, 32, 49, 32, 70, 70]⟩, .string ⟨#[116, 105, 99, 107, 32, 32, 53]⟩, .string ⟨#[99, 108, 111, 115, 101]⟩] 9)
      clear X
      replace B2 := hide B2
      replace E2 := hide E2
      go_upto_region 10 with fail
      replace B2 := B2.out
      replace E2 := E2.out
      generalize wr.alloc (Obj.cells #[.string ⟨#[116, 105, 99, 107, 32, 48]⟩, .string ⟨#[116, 105, 99, 107, 32, 48, 49]⟩, .string ⟨#[116, 105, 99, 107, 32, 52, 48, 57, 55]⟩, .string ⟨#[105, 110, 32, 54, 53, 32, 49, 48, 46, 48, 46, 48, 46, 50]⟩, .string ⟨#[105, 110, 32, 48, 32, 49, 48, 46, 48, 46, 48, 46, 50]⟩, .string ⟨#[105, 110, 32, 49, 32, 49, 48, 46, 48, 46, 48]⟩, .string ⟨#[100, 97, 116, 97, 32, 49, 32, 48]⟩, .string ⟨#[100, 97, 116, 97, 32, 49, 32]⟩, .string ⟨#[100, 97, 116, 97, 32, 49]⟩, .string ⟨#[100, 114, 97, 105, 110, 32]⟩, .string ⟨#[]⟩, .string ⟨#[117, 112, 32, 49, 32, 80]⟩, .string ⟨#[100, 114, 97, 119, 32, 52, 50, 57, 52, 57, 54, 55, 50, 57, 54]⟩, .string ⟨#[100, 97, 116, 97, 32, 49, 32, 70, 70]⟩, .string ⟨#[116, 105, 99, 107, 32, 32, 53]⟩, .string ⟨#[99, 108, 111, 115, 101]⟩] 9) = W2 at B2 E2 ⊢
      generalize wr.heap.size = g2 at B2 ⊢
      replace B2 := hide B2
      replace E2 := hide E2
      go_loopw [73] (fun i wr => ∃ k : Nat, i = .int .i64 (k : Int) ∧ k ≤ 16 ∧ Ext W2 wr) (fun i _ => 16 - (intOf i).toNat)
      case atStart => exact ⟨0, rfl, by decide, Ext.refl _⟩
      case round =>
        obtain ⟨k, rfl, hk, E⟩ := hrel
        have X := E2.out.trans E
        by_cases hlt : k < 16
        · have b1 : decide ((k : Int) < 16) = true := decide_eq_true (by omega)
          have x0 := E.cell ((B2.out.cell k).trans (kn16_cells k hlt))
          have hp := kn16_all k hlt
          have hfew := kn16_few k hlt
          obtain ⟨s, hsn⟩ : ∃ sn, kn16[k]'hlt = sn := ⟨_, rfl⟩
          rw [hsn] at x0 hp hfew
          clear hsn
          have q := qe.out s (by omega) _ X
          unfold EvP at q
          rw [hp] at q
          simp only [evCs, zeroEv] at q
          have hq2 := fun W => run_neq_ofB (run_eqEv W zeroEv zeroEv)
          rw [decide_eq_true rfl] at hq2
          simp only [zeroEv] at hq2
          clear hp
          replace q := hide q
          replace E := hide E
          replace X := hide X
          replace hfew := hide hfew
          go_wp2_with fail
          refine q.out.mono ?_
          rintro e W3 ⟨⟨f, rfl, _, F⟩, E1'⟩
          have E2' := E.out.trans E1'
          clear x0 q X E1' E
          have P := Blk.new W3 31 #[.int .i64 0, .int .i64 0, .string ⟨#[]⟩, .string ⟨#[]⟩, .string ⟨#[]⟩, .int .i64 0, .int .u32 0]
          have E3 := E2'.alloc (Obj.cells #[.int .i64 0, .int .i64 0, .string ⟨#[]⟩, .string ⟨#[]⟩, .string ⟨#[]⟩, .int .i64 0, .int .u32 0] 31)
          have F3 := F.alloc (Obj.cells #[.int .i64 0, .int .i64 0, .string ⟨#[]⟩, .string ⟨#[]⟩, .string ⟨#[]⟩, .int .i64 0, .int .u32 0] 31)
          clear E2' F
          replace P := hide P
          replace E3 := hide E3
          replace F3 := hide F3
          go_upto_region 13 with fail
          replace P := P.out
          replace E3 := E3.out
          replace F3 := F3.out
          generalize W3.alloc (Obj.cells #[.int .i64 0, .int .i64 0, .string ⟨#[]⟩, .string ⟨#[]⟩, .string ⟨#[]⟩, .int .i64 0, .int .u32 0] 31) = W4 at P E3 F3 ⊢
          generalize W3.heap.size = p at P ⊢
          have p0 : W4.cell? ⟨p, 0, none⟩ = some (.int .i64 0) := P.cell 0
          have p1 : W4.cell? ⟨p, 1, none⟩ = some (.int .i64 0) := P.cell 1
          have p2 : W4.cell? ⟨p, 2, none⟩ = some (.string ⟨#[]⟩) := P.cell 2
          have p3 : W4.cell? ⟨p, 3, none⟩ = some (.string ⟨#[]⟩) := P.cell 3
          have p4 : W4.cell? ⟨p, 4, none⟩ = some (.string ⟨#[]⟩) := P.cell 4
          have p5 : W4.cell? ⟨p, 5, none⟩ = some (.int .i64 0) := P.cell 5
          have p6 : W4.cell? ⟨p, 6, none⟩ = some (.int .u32 0) := P.cell 6
          have q1 := isF_any ⟨f, 0, none⟩ 9 9 W4 (F3.cell 0)
          rw [show ((9 : Int) == 9) = true by decide] at q1
          clear P F3
          replace q1 := hide q1
          replace E3 := hide E3
          go_wp2_with (go_at_call 20; refine q1.out.mono ?_; rintro e w_ ⟨rfl, rfl⟩)
          go_roundw
          case rel =>
            (repeat apply Exists.intro)
            refine ⟨⟨k + 1, ?_, by omega, E3.out⟩, rfl⟩
            go_num
          case measure => simp [intOf]; omega
        · obtain rfl : k = 16 := by omega
          have b1 : decide (((16 : Nat) : Int) < 16) = false := by decide
          clear E2 B2 E qe
          replace X := hide X
          have o0 := fun W (h : Ext w W) => qo.out ⟨5, 0, [], [], 10⟩ ⟨i64_of (by decide) (by decide), by decide, by decide, i64_of (by decide) (by decide)⟩ W h
          rw [kn_out0] at o0
          simp only [outCs] at o0
          try dsimp only at o0
          have o1 := fun W (h : Ext w W) => qo.out ⟨1, 0, [97], [], 0⟩ ⟨i64_of (by decide) (by decide), by decide, by decide, i64_of (by decide) (by decide)⟩ W h
          rw [kn_out1] at o1
          simp only [outCs] at o1
          try dsimp only at o1
          have o2 := fun W (h : Ext w W) => qo.out ⟨2, 0, [], [], 0⟩ ⟨i64_of (by decide) (by decide), by decide, by decide, i64_of (by decide) (by decide)⟩ W h
          rw [kn_out2] at o2
          simp only [outCs] at o2
          try dsimp only at o2
          have o3 := fun W (h : Ext w W) => qo.out ⟨5, 0, [], [], 12⟩ ⟨i64_of (by decide) (by decide), by decide, by decide, i64_of (by decide) (by decide)⟩ W h
          rw [kn_out3] at o3
          simp only [outCs] at o3
          try dsimp only at o3
          have o4 := fun W (h : Ext w W) => qo.out ⟨0, 0, [], [], 0⟩ ⟨i64_of (by decide) (by decide), by decide, by decide, i64_of (by decide) (by decide)⟩ W h
          rw [kn_out4] at o4
          simp only [outCs] at o4
          try dsimp only at o4
          clear qo
          replace o0 := hide o0
          replace o1 := hide o1
          replace o2 := hide o2
          replace o3 := hide o3
          replace o4 := hide o4
          go_wp2_with fail
          refine (o0.out _ X.out).mono ?_
          rintro e Wo0 ⟨rfl, he⟩
          have Xo0 := hide (X.out.trans he)
          clear he X o0
          go_wp2_with fail
          refine (o1.out _ Xo0.out).mono ?_
          rintro e Wo1 ⟨rfl, he⟩
          have Xo1 := hide (Xo0.out.trans he)
          clear he Xo0 o1
          go_wp2_with fail
          refine (o2.out _ Xo1.out).mono ?_
          rintro e Wo2 ⟨rfl, he⟩
          have Xo2 := hide (Xo1.out.trans he)
          clear he Xo1 o2
          go_wp2_with fail
          refine (o3.out _ Xo2.out).mono ?_
          rintro e Wo3 ⟨rfl, he⟩
          have Xo3 := hide (Xo2.out.trans he)
          clear he Xo2 o3
          go_wp2_with fail
          refine (o4.out _ Xo3.out).mono ?_
          rintro e Wo4 ⟨rfl, he⟩
          have Xo4 := hide (Xo3.out.trans he)
          clear he Xo3 o4
          have r0 := fun W (h : Ext w W) => qr.out [97, 115, 32, 49] (by decide) [] none 0 (by decide) W h Sl.nil
          rw [kn_pr0] at r0
          have r1 := fun W (h : Ext w W) => qr.out [114, 117, 110, 10] (by decide) [] none 0 (by decide) W h Sl.nil
          rw [kn_pr1] at r1
          have r2 := fun W g (h : Ext w W) (B : Blk W g 31 (evCs zeroEv).toArray) => qr.out [] (by decide) [zeroEv] (some ⟨g, 0, none⟩) 1 (by decide) W h (Sl.oneEv ⟨i64_of (by decide) (by decide), i64_of (by decide) (by decide), by decide, by decide, by decide, i64_of (by decide) (by decide)⟩ B)
          rw [kn_pr2] at r2
          simp only [evCs, zeroEv, List.length_nil, List.length_cons, Nat.zero_add] at r0 r1 r2
          try dsimp only at r0 r1 r2
          replace r0 := hide r0
          replace r1 := hide r1
          replace r2 := hide r2
          go_wp2_with fail
          refine (r0.out _ Xo4.out).mono ?_
          rintro e Wr0 ⟨rfl, he⟩
          have Xr0 := hide (Xo4.out.trans he)
          clear he Xo4 r0
          go_wp2_with fail
          refine (r1.out _ Xr0.out).mono ?_
          rintro e Wr1 ⟨rfl, he⟩
          have Xr1 := hide (Xr0.out.trans he)
          clear he Xr0 r1
          go_wp2_with fail
          refine (r2.out _ _ (Xr1.out.alloc _) (Blk.new _ _ _)).mono ?_
          rintro e Wr2 ⟨rfl, he⟩
          have Xr2 := hide ((Xr1.out.alloc _).trans he)
          clear he Xr1 r2
          obtain ⟨C3, m3, n3⟩ := mk513
          have r3 := fun W (h : Ext w W) => qr.out [] (by decide) (List.replicate 513 zeroEv) (some ⟨W.heap.size, 0, none⟩) 513 (by rw [List.length_replicate]; decide) (W.alloc (.cells C3 31)) (h.alloc _) (n3 W)
          rw [kn_pr3, List.length_replicate] at r3
          dsimp only at r3
          clear n3
          replace r3 := hide r3
          go_wp2_with fail
          refine (r3.out _ Xr2.out).mono ?_
          rintro e Wr3 ⟨rfl, he⟩
          have Xr3 := hide ((Xr2.out.alloc _).trans he)
          clear he Xr2 r3 m3 C3
          obtain ⟨C4, m4, n4⟩ := mk512
          have O0 := n4 Wr3
          have hg4 := Xr3.out.size
          have X4 := Xr3.out.alloc (Obj.cells C4 31)
          clear n4 Xr3
          replace O0 := hide O0
          replace X4 := hide X4
          go_upto_region 28 with fail
          replace O0 := O0.out
          replace X4 := X4.out
          generalize Wr3.alloc (Obj.cells C4 31) = W4 at O0 X4 ⊢
          generalize Wr3.heap.size = g4 at O0 hg4 ⊢
          clear m4
          replace O0 := hide O0
          replace X4 := hide X4
          go_wp2_with fail
          go_loopw [22] (fun i wr => ∃ k : Nat, i = .int .i64 (k : Int) ∧ k ≤ 512 ∧ Own EEv 31 wr g4 (.slice (some ⟨g4, 0, none⟩) 512 512) (mixL k) ∧ Ext w wr) (fun i _ => 512 - (intOf i).toNat)
          case atStart => exact ⟨0, rfl, by decide, O0.out, X4.out⟩
          case round =>
            clear O0 X4
            obtain ⟨k, rfl, hk, O, X⟩ := hrel
            have hgw := O.blockLt
            by_cases hlt : k < 512
            · have b1 : decide ((k : Int) < 512) = true := decide_eq_true (by omega)
              have hkl : k < (mixL k).length := by rw [mixL_len (by omega)]; exact hlt
              obtain ⟨cs, ⟨rfl, hin⟩, hc⟩ := O.at0 k hkl
              have O2 := O.kindSet hkl 10 (i64_of (by decide) (by decide))
              rw [mixL_set hlt] at O2
              generalize (mixL k)[k] = ek at *
              have x0 : ∃ u, wr.cell? ⟨g4, k * 7, none⟩ = some u := ⟨_, hc 0 _ rfl⟩
              obtain ⟨u0, x0⟩ := x0
              have f0 := O.thaw (k * 7)
              have w7 : IntKind.i64.wrap ((k : Int) + 1) = ((k + 1 : Nat) : Int) := by rw [IntKind.wrap_i64]; omega
              have X2 := X.setCell (p := ⟨g4, k * 7, none⟩) hg4 (.int .i64 10)
              clear hc hin O X
              replace O2 := hide O2
              replace X2 := hide X2
              go_wp2_with fail
              go_roundw
              case rel => exact ⟨k + 1, by go_num, by omega, O2.out, X2.out⟩
              case measure => simp [intOf]; omega
            · obtain rfl : k = 512 := by omega
              have b1 : decide (((512 : Nat) : Int) < 512) = false := by decide
              obtain ⟨T, hTl, hTp, hTq⟩ := kn_T
              have r4 := qr.out [] (by decide) (mixL 512) (some ⟨g4, 0, none⟩) 512 (by rw [mixL_len (Nat.le_refl _)]; decide) wr X O.slAt'
              rw [hTp, mixL_len (Nat.le_refl _)] at r4
              dsimp only at r4
              clear hTp O qr
              replace r4 := hide r4
              replace X := hide X
              go_wp2_with fail
              refine r4.out.mono ?_
              rintro e W5 ⟨rfl, he⟩
              have X5 := X.out.trans he
              clear he X r4
              have hs9 : (ByteArray.mk T.toArray) ++ ⟨#[100, 114, 97, 105, 110, 10]⟩ = (⟨(T ++ [100, 114, 97, 105, 110, 10]).toArray⟩ : ByteArray) := by apply ByteArray.ext; simp
              have z9 : ¬ 9223372036854775807 < T.length + 6 := by omega
              have q := qp.out (T ++ [100, 114, 97, 105, 110, 10]) (by rw [List.length_append, hTl]; decide) W5 X5
              unfold ParP at q
              rw [hTq] at q
              clear hTq hTl
              generalize T ++ [100, 114, 97, 105, 110, 10] = U at *
              replace q := hide q
              replace X5 := hide X5
              replace hs9 := hide hs9
              go_wp2_with fail
              rw [hs9.out]
              refine q.out.mono ?_
              rintro e W6 ⟨⟨cfg, evs, v, h1, rfl, O⟩ | ⟨c, kk, f, h0, h1, rfl, hf, F⟩, E1'⟩
              case inl =>
                injection h1 with _ h1
                injection h1 with _ h1
                injection h1 with h1 _
                cases h1
              injection h1 with _ h1
              injection h1 with _ h1
              injection h1 with h1 h2
              subst h1 h2
              have X6 := X5.out.trans E1'
              clear q E1' X5 hs9 z9 h0 hf
              obtain ⟨C, z, hzl, mk, ok⟩ := mk_long
              have kd := fun W => run_stringB (P := Tryz.prog) (src := 65) (dst := 9) Tryz.underlying65 Tryz.underlying5 Tryz.underlying9 (ok W)
              have hzp : parseS z = ([], [], 3, 0) := by unfold parseS; rw [if_pos (by omega)]
              have q := fun W => SParse_long z (by omega) W
              unfold ParP at q
              rw [hzp] at q
              have X7 := X6.alloc (Obj.cells C 5)
              have F7 := F.alloc (Obj.cells C 5)
              clear hzp ok X6 F hzl
              replace q := hide q
              replace X7 := hide X7
              replace F7 := hide F7
              go_wp2_with fail
              refine (q.out _).mono ?_
              rintro e W8 ⟨⟨cfg, evs, v, h1, rfl, O⟩ | ⟨c, kk, f2, h0, h1, rfl, hf, F2⟩, E1'⟩
              case inl =>
                injection h1 with _ h1
                injection h1 with _ h1
                injection h1 with h1 _
                cases h1
              injection h1 with _ h1
              injection h1 with _ h1
              injection h1 with h1 h2
              subst h1 h2
              have X8 := X7.out.trans E1'
              have F8 := F7.out.ext E1'
              clear q E1' X7 F7 kd mk h0 hf
              have hfl := F8.lt
              have hfl2 := F2.lt
              have hws := X8.size
              have P := Blk.new W8 44 #[.pointer none]
              have X9 := X8.alloc (Obj.cells #[.pointer none] 44)
              have F9 := F8.alloc (Obj.cells #[.pointer none] 44)
              have G9 := F2.alloc (Obj.cells #[.pointer none] 44)
              clear X8 F8 F2
              replace P := hide P
              replace X9 := hide X9
              replace F9 := hide F9
              replace G9 := hide G9
              replace hfl := hide hfl
              replace hfl2 := hide hfl2
              replace hws := hide hws
              go_upto_region 36 with fail
              replace P := P.out
              replace X9 := X9.out
              replace F9 := F9.out
              replace G9 := G9.out
              replace hfl := hfl.out
              replace hfl2 := hfl2.out
              replace hws := hws.out
              generalize W8.alloc (Obj.cells #[.pointer none] 44) = W9 at P X9 F9 G9 ⊢
              generalize W8.heap.size = p at P hfl hfl2 hws ⊢
              have q1 := asF_hit ⟨f, 0, none⟩ ⟨p, 0, none⟩ (.pointer none) W9 (hg2.out _ X9) (P.cell 0) (P.frozen 0)
              replace P := hide P
              replace X9 := hide X9
              replace F9 := hide F9
              replace G9 := hide G9
              replace hfl := hide hfl
              replace hfl2 := hide hfl2
              replace hws := hide hws
              replace q1 := hide q1
              go_wp2_with fail
              refine q1.out.mono ?_
              rintro e Wa ⟨rfl, Wa', he, rfl⟩
              have F1 := (F9.out.ext he).far (p := ⟨p, 0, none⟩) (show f ≠ p by have := hfl.out; omega) (.pointer (some ⟨f, 0, none⟩))
              have G1 := (G9.out.ext he).far (p := ⟨p, 0, none⟩) (show f2 ≠ p by have := hfl2.out; omega) (.pointer (some ⟨f, 0, none⟩))
              have P1 : Blk (Wa'.setCell ⟨p, 0, none⟩ (.pointer (some ⟨f, 0, none⟩))) p 44 #[.pointer (some ⟨f, 0, none⟩)] := (P.out.ext he).set_ 0 _
              have X1 := (X9.out.trans he).setCell (p := ⟨p, 0, none⟩) hws.out (.pointer (some ⟨f, 0, none⟩))
              generalize Wa'.setCell ⟨p, 0, none⟩ (.pointer (some ⟨f, 0, none⟩)) = Wb at P1 F1 G1 X1 ⊢
              have p0 : Wb.cell? ⟨p, 0, none⟩ = some (.pointer (some ⟨f, 0, none⟩)) := P1.cell 0
              have f0 : Wb.cell? ⟨f, 0, none⟩ = some (.int .i64 3) := F1.cell 0
              have f1 : Wb.cell? ⟨f, 1, none⟩ = some (.int .i64 513) := F1.cell 1
              have q2 := isF_any ⟨f2, 0, none⟩ 3 3 Wb (G1.cell 0)
              rw [show ((3 : Int) == 3) = true by decide] at q2
              clear P1 F1 G1 he P X9 F9 G9 q1
              replace q2 := hide q2
              replace X1 := hide X1
              go_wp2_with (go_at_call 20; refine q2.out.mono ?_; rintro e w_ ⟨rfl, rfl⟩)
              refine (qw.out _ X1.out).mono ?_
              rintro e Wc ⟨rfl, he⟩
              have X2 := hide (X1.out.trans he)
              clear he
              go_wp2
              try go_ret
              exact ⟨rfl, X2.out⟩
end
end Go.Proofs.YtkinghadgmbhbaaGreatDoor
