/- Chapter 35, walks: a script read of its text (script.Parse). Chapter 35, plain: 'run' stands alone in a line of a configuration. Chapter 35, walks: a script's text (script.Print). Chapter 35, walks: the document's text of a script (heraldref35.Print). A string's bytes appended to a row of bytes of the call's own. Chapter 35, walks: a script of its text (script.Parse). errors.Is and errors.As at a fault of the program (a pointer to an api.Fault), by their contracts. Chapter 35, walks: the example of the law (works). The law ScriptPrints, walked; its arguments opened. -/
import Derived.WalkKit
import Derived.Below
import Derived.Outline
import Derived.LoopTactic
import Derived.Laws.OwnMore
import Derived.Deep.AppendLies
import Derived.Deep.Draws
import Derived.Lib.Hide
import Derived.BigQuiet
import Derived.Deep.QuietTactic
import Derived.WalkSpells
import Derived.WalkLawsBesides
import Derived.Deep.RegionHeld3
import Derived.Deep.DrawnRows
import Derived.Deep.RegionLaw
import Derived.Test.YtkinghadgmbhbaaGreatDoorProg
import Derived.Test.YtkinghadgmbhbaaGreatDoorShelf
import Derived.Lib.ConvBytes
import Derived.Lib.Bytealg
import Derived.Lib.Small
import Derived.Lib.SplitLaws
import Derived.Lib.ParseIntB
import Derived.Lib.ParseIntBCases
import Derived.Lib.ItoaNum
import Derived.Lib.Join
import Derived.Test.YtkinghadgmbhbaaGreatDoorShelf2
import Derived.Lib.UnsafeStr
import Derived.Shelf.RegionOpenPlain
import Derived.Laws.StructEq
import Derived.Lib.QuietBelow
import Derived.Test.YtkinghadgmbhbaaGreatDoorRows
import Derived.ProofKit
import Derived.Deep.Slices
import Derived.Shelf.GgClosure.StringsRunes
import Derived.Lib.ItoaMem
import Derived.Lib.ItoaLen
import Derived.Shelf.Strings.Builder1
import Derived.Orders
import Derived.StillTail
import Derived.Defers
import Derived.Recover
import Derived.Laws.EntriesVeiled
import Derived.Deep.DeepCutAuto
import Derived.Maps.OwnSet
import Derived.Maps.Views
import Derived.Maps.Range
import Derived.DeepKeys5
import Derived.Deep.Cut
import Derived.Lib.AppendStr
import Derived.LaidEql
import Derived.Stop.Asserts
import Derived.RowKitTokens
import Derived.OpenShut
import Derived.Test.YtkinghadgmbhbaaGreatDoorPD01
import Derived.Test.YtkinghadgmbhbaaGreatDoorPD02
import Derived.Test.YtkinghadgmbhbaaGreatDoorPD03
import Derived.Test.YtkinghadgmbhbaaGreatDoorPD04
namespace Go.Proofs.YtkinghadgmbhbaaGreatDoor
section
open Go.RowKit
set_option linter.unusedVariables false
set_option linter.unusedSimpArgs false
def EEv : Enc EvS := Enc.cells evCs EvIn 7 (fun _ => rfl) (fun x u hu => by simp only [evCs, List.mem_cons, List.not_mem_nil, or_false] at hu; rcases hu with rfl | rfl | rfl | rfl | rfl | rfl | rfl <;> rfl)
theorem EEv.at {w : World} {S : Nat → Prop} {a : Option Addr} {l : List EvS} (h : Sl EEv w S a l) (k : Nat) (hk : k < l.length) :
  ∃ b off, a = some ⟨b, off, none⟩ ∧ S b ∧ EvIn l[k] ∧ ∀ j u, (evCs l[k])[j]? = some u → w.cell? ⟨b, off + k * 7 + j, none⟩ = some u := by
 obtain ⟨b, off, cs, rfl, hb, ⟨rfl, hi⟩, hc⟩ := h.at k hk
 exact ⟨b, off, rfl, hb, hi, hc⟩
theorem okEv : ElemOk Tryz.prog 22 31 EEv.sz 80 := elemOk (z := .agg #[.int .i64 0, .int .i64 0, .string ⟨#[]⟩, .string ⟨#[]⟩, .string ⟨#[]⟩, .int .i64 0, .int .u32 0]) Tryz.underlying22 (by kernel_rfl) rfl
theorem i64_of {x : Int} (h1 : 0 ≤ x) (h2 : x ≤ 1048576) : i64 x := by unfold i64; omega
theorem nameOk_len {s : List UInt8} (h : nameOk s = true) : s.length ≤ 16 := by
 unfold nameOk at h
 simp only [Bool.and_eq_true, decide_eq_true_eq] at h
 exact h.2.1
theorem EvIn.mk' {e : EvS} (k c : Int) (a p b : List UInt8) (t : Int) (d : UInt32) (he : e = ⟨k, c, a, p, b, t, d⟩) (h1 : 0 ≤ k ∧ k ≤ 10) (h2 : 0 ≤ c ∧ c ≤ 64) (h3 : a.length ≤ 16) (h4 : p.length ≤ 16) (h5 : b.length ≤ 65536) (h6 : 0 ≤ t ∧ t ≤ 4096) : EvIn e := by
 subst he
 exact ⟨i64_of h1.1 (by show k ≤ _; omega), i64_of h2.1 (by show c ≤ _; omega), by show a.length ≤ _; omega, by show p.length ≤ _; omega, by show b.length ≤ _; omega, i64_of h6.1 (by show t ≤ _; omega)⟩
theorem evOk_in {e : EvS} (h : evOk e = true) : EvIn e := by
 unfold evOk connOk at h
 by_cases k1 : e.kind = 1
 ·rw [if_pos k1] at h
  simp only [Bool.and_eq_true, decide_eq_true_eq] at h
  obtain ⟨he, hc, ha⟩ := h
  exact EvIn.mk' _ _ _ _ _ _ _ he (by decide) ⟨by omega, by omega⟩ (by rcases ha with h | h <;> omega) (by simp) (by simp) (by simp)
 rw [if_neg k1] at h
 by_cases k2 : e.kind = 2
 ·rw [if_pos k2] at h
  simp only [Bool.and_eq_true, decide_eq_true_eq] at h
  obtain ⟨he, hc, ha⟩ := h
  exact EvIn.mk' _ _ _ _ _ _ _ he (by decide) ⟨by omega, by omega⟩ (by simp) (nameOk_len ha) (by simp) (by simp)
 rw [if_neg k2] at h
 by_cases k3 : e.kind = 3
 ·rw [if_pos k3] at h
  simp only [Bool.and_eq_true, decide_eq_true_eq] at h
  obtain ⟨he, ha⟩ := h
  exact EvIn.mk' _ _ _ _ _ _ _ he (by decide) (by decide) (by simp) (nameOk_len ha) (by simp) (by simp)
 rw [if_neg k3] at h
 by_cases k4 : e.kind = 4
 ·rw [if_pos k4] at h
  simp only [Bool.and_eq_true, decide_eq_true_eq] at h
  obtain ⟨he, hc, ha⟩ := h
  exact EvIn.mk' _ _ _ _ _ _ _ he (by decide) ⟨by omega, by omega⟩ (by simp) (by simp) (by omega) (by simp)
 rw [if_neg k4] at h
 by_cases k5 : e.kind = 5
 ·rw [if_pos k5] at h
  simp only [Bool.and_eq_true, decide_eq_true_eq] at h
  obtain ⟨he, hc⟩ := h
  exact EvIn.mk' _ _ _ _ _ _ _ he (by decide) ⟨by omega, by omega⟩ (by simp) (by simp) (by simp) (by simp)
 rw [if_neg k5] at h
 by_cases k6 : e.kind = 6
 ·rw [if_pos k6] at h
  simp only [Bool.and_eq_true, decide_eq_true_eq] at h
  obtain ⟨he, ht⟩ := h
  exact EvIn.mk' _ _ _ _ _ _ _ he (by decide) (by decide) (by simp) (by simp) (by simp) (⟨by omega, by omega⟩)
 rw [if_neg k6] at h
 by_cases k7 : e.kind = 7
 ·rw [if_pos k7] at h
  simp only [Bool.and_eq_true, decide_eq_true_eq] at h
  obtain ⟨he, hb⟩ := h
  exact EvIn.mk' _ _ _ _ _ _ _ he (by decide) (by decide) (by simp) (by simp) (hb) (by simp)
 rw [if_neg k7] at h
 by_cases k8 : e.kind = 8
 ·rw [if_pos k8] at h
  simp only [Bool.and_eq_true, decide_eq_true_eq] at h
  obtain ⟨he, hb⟩ := h
  exact EvIn.mk' _ _ _ _ _ _ _ he (by decide) (by decide) (by simp) (by simp) (by omega) (by simp)
 rw [if_neg k8] at h
 by_cases k9 : e.kind = 9
 ·rw [if_pos k9] at h
  simp only [Bool.and_eq_true, decide_eq_true_eq] at h
  have he := h
  exact EvIn.mk' _ _ _ _ _ _ _ he (by decide) (by decide) (by simp) (by simp) (by simp) (by simp)
 rw [if_neg k9] at h
 by_cases k10 : e.kind = 10
 ·rw [if_pos k10] at h
  simp only [Bool.and_eq_true, decide_eq_true_eq] at h
  have he := h
  exact EvIn.mk' _ _ _ _ _ _ _ he (by decide) (by decide) (by simp) (by simp) (by simp) (by simp)
 rw [if_neg k10] at h
 cases h
/-- The lines of a text, in a variable. -/
def LinesP (W : World) (p : Nat) (L : List (List UInt8)) : Prop := ∃ b c, Blk W p 63 #[.slice (some ⟨b, 0, none⟩) L.length c] ∧ b < p ∧ ∀ (j : Nat) (hj : j < L.length), W.cell? ⟨b, j, none⟩ = some (.string ⟨L[j].toArray⟩)
theorem LinesP.keep {W W' : World} {p : Nat} {L : List (List UInt8)} (h : LinesP W p L) (hb : ∀ x, x ≤ p → W'.heap[x]? = W.heap[x]?) : LinesP W' p L := by
 obtain ⟨b, c, h1, h2, h3⟩ := h
 exact ⟨b, c, (hb p (by omega)).trans h1, h2, fun j hj => (World.cell?_of_block (a := ⟨b, j, none⟩) (hb b (by omega))).trans (h3 j hj)⟩
/-- What lies in the variables of script.Parse: the lines, the last one's place, the place, the configuration's size, the events; behind them the guard's code. -/
structure PS (w W : World) (p m : Nat) (L : List (List UInt8)) (k cf : Nat) (v : Value) (out : List EvS) : Prop where
  lo : w.heap.size ≤ p
  up : p + 6 ≤ W.heap.size
  ext : Ext w W
  len : L.length = m + 1
  few : m ≤ 1048576
  lines : LinesP W p L
  last : Blk W (p + 1) 3 #[.int .i64 (m : Int)]
  at_ : Blk W (p + 2) 3 #[.int .i64 (k : Int)]
  cfb : Blk W (p + 3) 3 #[.int .i64 (cf : Int)]
  ob : Blk W (p + 4) 22 #[v]
  pe : Blk W (p + 5) 23 #[.int .i64 0]
  own : Own EEv 31 W (p + 6) v out
section
variable {w W W' : World} {p m k cf : Nat} {L : List (List UInt8)} {v : Value} {out : List EvS}
theorem PS.setAt (h : PS w W p m L k cf v out) (k' : Nat) : PS w (W.setCell ⟨p + 2, 0, none⟩ (.int .i64 (k' : Int))) p m L k' cf v out := by
 have h1 := h.lo
 exact ⟨h1, by simpa [World.setCell] using h.up, h.ext.setCell (p := ⟨p + 2, 0, none⟩) (show w.heap.size ≤ p + 2 by omega) _, h.len, h.few, h.lines.keep fun x hx => Below.heap_setCell _ _ _ _ (show x ≠ p + 2 by omega),
  h.last.far (p := ⟨p + 2, 0, none⟩) (show p + 1 ≠ p + 2 by omega) _, by simpa using h.at_.set_ 0 (.int .i64 (k' : Int)), h.cfb.far (p := ⟨p + 2, 0, none⟩) (show p + 3 ≠ p + 2 by omega) _, h.ob.far (p := ⟨p + 2, 0, none⟩) (show p + 4 ≠ p + 2 by omega) _, h.pe.far (p := ⟨p + 2, 0, none⟩) (show p + 5 ≠ p + 2 by omega) _,
  h.own.kept (by simp [World.setCell]) fun b h1 h2 => Below.heap_setCell _ _ _ _ (show b ≠ p + 2 by omega)⟩
theorem PS.setCf (h : PS w W p m L k cf v out) (c' : Nat) : PS w (W.setCell ⟨p + 3, 0, none⟩ (.int .i64 (c' : Int))) p m L k c' v out := by
 have h1 := h.lo
 exact ⟨h1, by simpa [World.setCell] using h.up, h.ext.setCell (p := ⟨p + 3, 0, none⟩) (show w.heap.size ≤ p + 3 by omega) _, h.len, h.few, h.lines.keep fun x hx => Below.heap_setCell _ _ _ _ (show x ≠ p + 3 by omega),
  h.last.far (p := ⟨p + 3, 0, none⟩) (show p + 1 ≠ p + 3 by omega) _, h.at_.far (p := ⟨p + 3, 0, none⟩) (show p + 2 ≠ p + 3 by omega) _, by simpa using h.cfb.set_ 0 (.int .i64 (c' : Int)), h.ob.far (p := ⟨p + 3, 0, none⟩) (show p + 4 ≠ p + 3 by omega) _, h.pe.far (p := ⟨p + 3, 0, none⟩) (show p + 5 ≠ p + 3 by omega) _,
  h.own.kept (by simp [World.setCell]) fun b h1 h2 => Below.heap_setCell _ _ _ _ (show b ≠ p + 3 by omega)⟩
theorem PS.ext' (h : PS w W p m L k cf v out) (he : Ext W W') : PS w W' p m L k cf v out := by
 have hu := h.up
 exact ⟨h.lo, Nat.le_trans hu he.size, h.ext.trans he, h.len, h.few, h.lines.keep fun x hx => he.block x (by omega), h.last.ext he, h.at_.ext he, h.cfb.ext he, h.ob.ext he, h.pe.ext he, h.own.ext he⟩
/-- The events' row, grown, and laid into its variable. -/
theorem PS.pushed {v' : Value} {out' : List EvS} (h : PS w W p m L k cf v out) (hg : W.grownBy W' v.ownBlock) (ho : Own EEv 31 W' (p + 6) v' out') :
  PS w (W'.setCell ⟨p + 4, 0, none⟩ v') p m L k cf v' out' := by
 have h1 := h.lo
 have hu := h.up
 have hn : ∀ x, x < p + 6 → some x ≠ v.ownBlock := fun x hx e => by have := (h.own.lt x e.symm).1; omega
 have hx : Ext w W' := h.ext.push (fun j hj => Nat.le_trans (by omega) (h.own.lt j hj).1) hg
 have hgu := hg.size
 refine ⟨h1, by simp [World.setCell]; omega, hx.setCell (p := ⟨p + 4, 0, none⟩) (show w.heap.size ≤ p + 4 by omega) _, h.len, h.few, (h.lines.keep fun x hx => hg.block x (by omega) (hn x (by omega))).keep fun x hx => Below.heap_setCell _ _ _ _ (show x ≠ p + 4 by omega),
  (h.last.grown hg (hn _ (by omega))).far (p := ⟨p + 4, 0, none⟩) (show p + 1 ≠ p + 4 by omega) _, (h.at_.grown hg (hn _ (by omega))).far (p := ⟨p + 4, 0, none⟩) (show p + 2 ≠ p + 4 by omega) _, (h.cfb.grown hg (hn _ (by omega))).far (p := ⟨p + 4, 0, none⟩) (show p + 3 ≠ p + 4 by omega) _, by simpa using (h.ob.grown hg (hn _ (by omega))).set_ 0 v', (h.pe.grown hg (hn _ (by omega))).far (p := ⟨p + 4, 0, none⟩) (show p + 5 ≠ p + 4 by omega) _,
  ho.kept (by simp [World.setCell]) fun b h1 h2 => Below.heap_setCell _ _ _ _ (show b ≠ p + 4 by omega)⟩
end
def atOf (W : World) (p : Nat) : Nat := match W.cell? ⟨p + 2, 0, none⟩ with | some (.int _ n) => n.toNat | _ => 0
theorem PS.atOf {w W : World} {p m k cf : Nat} {L : List (List UInt8)} {v : Value} {out : List EvS} (h : PS w W p m L k cf v out) : atOf W p = k := by
 have := h.at_.cell 0
 unfold Go.Proofs.YtkinghadgmbhbaaGreatDoor.atOf
 rw [this]
 rfl
/-- What the reading of a script leaves. -/
def ParD (s : List UInt8) (w : World) (p m : Nat) (L : List (List UInt8)) (e : Ending) (W' : World) : Prop :=
 (∃ k cf v out, e = .returned (.tuple #[]) ∧ PS w W' p m L k cf v out ∧ restC s 0 0 L = (s.take cf, out, 0, 0) ∧ cf ≤ s.length) ∨
 (∃ (c : Int) (k cf : Nat) (v : Value) (out : List EvS), e = .panicked (wrongP c) ∧ PS w W' p m L k cf v out ∧ restC s 0 0 L = ([], [], c, k) ∧ c ≠ 0)
theorem sum_drop (L : List (List UInt8)) (k : Nat) (hk : k < L.length) : ((L.drop k).map fun x => x.length + 1).sum = L[k].length + 1 + ((L.drop (k + 1)).map fun x => x.length + 1).sum := by
 rw [List.drop_eq_getElem_cons hk, List.map_cons, List.sum_cons]
set_option maxRecDepth 20000 in
set_option maxHeartbeats 4000000 in
theorem Parse1_any (s : List UInt8) (hs : s.length ≤ 1048576) (w W0 : World) (p m : Nat) (L : List (List UInt8)) (hT : Tab w) (hV : Vars w) (hD : Deb w) (h0 : PS w W0 p m L 0 0 (.slice none 0 0) [])
    (hL : ∀ y ∈ L, y.length ≤ 1048576) (hsum : (L.map fun x => x.length + 1).sum = s.length + 1) :
    Calls Tryz.prog 36 #[.pointer (some ⟨p + 2, 0, none⟩), .pointer (some ⟨p + 1, 0, none⟩), .pointer (some ⟨p, 0, none⟩), .pointer (some ⟨p + 3, 0, none⟩), .pointer (some ⟨p + 4, 0, none⟩)] W0 (ParD s w p m L) := by
  have mixed : Tryz.prog.follows Departure.mixedOrders = true := by kernel_rfl
  have hok : ∀ W k cf v out, PS w W p m L k cf v out → restC s 0 0 L = (s.take cf, out, 0, 0) → cf ≤ s.length → ParD s w p m L (.returned (.tuple #[])) W := fun W k cf v out h1 h2 h3 => .inl ⟨k, cf, v, out, rfl, h1, h2, h3⟩
  have hno : ∀ W c k cf v out, PS w W p m L k cf v out → restC s 0 0 L = ([], [], c, k) → c ≠ 0 → ParD s w p m L (.panicked (wrongP c)) W := fun W c k cf v out h1 h2 h3 => .inr ⟨c, k, cf, v, out, rfl, h1, h2, h3⟩
  generalize ParD s w p m L = Post at *
  replace hok := hide hok
  replace hno := hide hno
  replace hT := hide hT
  replace hV := hide hV
  replace hD := hide hD
  replace h0 := hide h0
  replace hs := hide hs
  replace hL := hide hL
  go_enter Tryz.func36, Tryz.ntmps36
  go_wp2_with fail
  go_loopw [6] (fun s6 wr => ∃ k cf : Nat, PS w wr p m L k cf (.slice none 0 0) [] ∧ k < L.length ∧ restC s 0 0 L = restC s k cf (L.drop k) ∧ cf + ((L.drop k).map fun x => x.length + 1).sum = s.length + 1) (fun _ wr => L.length - atOf wr p)
  case atStart => exact ⟨0, 0, h0.out, by rw [h0.out.len]; omega, rfl, by simpa using hsum⟩
  case round =>
    clear h0
    obtain ⟨k, cf, S, hk, hr, hsm⟩ := hrel
    rw [sum_drop L k hk] at hsm
    have hlen := S.len
    have hfew := S.few
    obtain ⟨b, c, hb, hbp, hlx⟩ := S.lines
    have c0 : wr.cell? ⟨p + 2, 0, none⟩ = some (.int .i64 (k : Int)) := S.at_.cell 0
    have c1 : wr.cell? ⟨p + 1, 0, none⟩ = some (.int .i64 (m : Int)) := S.last.cell 0
    have c2 : wr.cell? ⟨p, 0, none⟩ = some (.slice (some ⟨b, 0, none⟩) L.length c) := hb.cell 0
    have c3 : wr.cell? ⟨p + 3, 0, none⟩ = some (.int .i64 (cf : Int)) := S.cfb.cell 0
    have c4 : wr.cell? ⟨b, k, none⟩ = some (.string ⟨L[k].toArray⟩) := hlx k hk
    have f2 := fun i => S.at_.frozen i
    have f3 := fun i => S.cfb.frozen i
    rw [hlen] at c2
    clear hb hlx
    have hd : L.drop k = L[k] :: L.drop (k + 1) := List.drop_eq_getElem_cons hk
    have hxl := hL.out _ (List.getElem_mem hk)
    have hcfs : cf ≤ s.length := by omega
    generalize L[k] = x at *
    by_cases hkm : k = m
    · subst hkm
      have hd0 : L.drop (k + 1) = [] := List.drop_eq_nil_of_le (by omega)
      rw [hd, hd0, restC_end] at hr
      clear hd hd0 hsm hlen hfew hk hbp hxl hcfs hsum
      replace S := hide S
      replace hr := hide hr
      go_wp2_with fail
      refine (give_any _ _).mono ?_
      rintro e w3 ⟨rfl, rfl⟩
      go_wp2
      exact ⟨rfl, hno.out _ _ _ _ _ _ S.out hr.out (by decide)⟩
    have hkm2 : k < m := by omega
    obtain ⟨y, r, hyr⟩ : ∃ y r, L.drop (k + 1) = y :: r := ⟨_, _, List.drop_eq_getElem_cons (show k + 1 < L.length by omega)⟩
    obtain ⟨k2, hk2⟩ : ∃ n : Nat, n = k + 1 := ⟨_, rfl⟩
    have w1 : IntKind.i64.wrap ((k : Int) + 1) = (k2 : Int) := by rw [IntKind.wrap_i64]; omega
    have b1 : decide (k < m) = true := decide_eq_true hkm2
    have b2 : (k == m) = false := beq_eq_false_iff_ne.2 hkm
    have b3 : decide (k = m) = false := decide_eq_false hkm
    have b4 : ((k : Int) == (m : Int)) = false := beq_eq_false_iff_ne.2 (by omega)
    have hkm3 : k < m + 1 := by omega
    rw [hd, hyr] at hr
    by_cases hxr : x = [114, 117, 110]
    · rw [restC_run s k cf hxr, ← hyr, ← hk2] at hr
      subst hxr
      have S2 := S.setAt k2
      have hkl : k2 < L.length := by omega
      rw [← hk2] at hyr
      clear hd hsm hfew hk hxl hkm hkm2 hsum
      replace S := hide S
      replace S2 := hide S2
      replace hr := hide hr
      replace hcfs := hide hcfs
      replace hk2 := hide hk2
      replace hyr := hide hyr
      replace hkl := hide hkl
      replace hlen := hide hlen
      go_wp2_with fail
      generalize wr.setCell ⟨p + 2, 0, none⟩ (.int .i64 (k2 : Int)) = wa at S2 ⊢
      try simp only [b4]
      clear c0 c1 c2 c3 c4 f2 f3 w1 b1 b2 b3 b4 hkm3 S
      go_loopw [32] (fun s32 wx => ∃ (k : Nat) (v : Value) (out : List EvS), PS w wx p m L k cf v out ∧ k < L.length ∧ restC s 0 0 L = restE s cf k out (L.drop k) ∧ out.length ≤ k) (fun _ wx => L.length - atOf wx p)
      case atStart => exact ⟨k2, _, [], S2.out, hkl.out, by rw [hr.out, hyr.out], Nat.zero_le _⟩
      case round =>
        clear S2 hr hyr hk2 hkl
        obtain ⟨k, v, out, S, hk, hr, hol⟩ := hrel
        rename World => wx
        have hlen := S.len
        have hfew := S.few
        obtain ⟨b, c, hb, hbp, hlx⟩ := S.lines
        have c0 : wx.cell? ⟨p + 2, 0, none⟩ = some (.int .i64 (k : Int)) := S.at_.cell 0
        have c1 : wx.cell? ⟨p + 1, 0, none⟩ = some (.int .i64 (m : Int)) := S.last.cell 0
        have c2 : wx.cell? ⟨p, 0, none⟩ = some (.slice (some ⟨b, 0, none⟩) L.length c) := hb.cell 0
        have c4 : wx.cell? ⟨b, k, none⟩ = some (.string ⟨L[k].toArray⟩) := hlx k hk
        rw [hlen] at c2
        clear hb hlx
        have hd : L.drop k = L[k] :: L.drop (k + 1) := List.drop_eq_getElem_cons hk
        have hxl := hL.out _ (List.getElem_mem hk)
        generalize L[k] = x at *
        by_cases hkm : k = m
        · subst hkm
          have hd0 : L.drop (k + 1) = [] := List.drop_eq_nil_of_le (by omega)
          rw [hd, hd0, restE_end] at hr
          have hkk : k < k + 1 := Nat.lt_succ_self k
          clear hd hd0 hlen hfew hk hbp hxl hol
          by_cases hx0 : x = []
          · subst hx0
            rw [if_pos rfl] at hr
            replace S := hide S
            replace hr := hide hr
            go_wp2_with fail
            go_end0
            exact hok.out _ _ _ _ _ S.out hr.out hcfs.out
          · have e1 : (x == []) = false := beq_eq_false_iff_ne.2 hx0
            have e2 : (x != []) = true := by simpa using hx0
            rw [if_neg hx0] at hr
            replace S := hide S
            replace hr := hide hr
            replace hx0 := hide hx0
            go_wp2_with fail
            refine (give_any _ _).mono ?_
            rintro e w3 ⟨rfl, rfl⟩
            go_wp2
            exact ⟨rfl, hno.out _ _ _ _ _ _ S.out hr.out (by decide)⟩
        have hkm2 : k < m := by omega
        obtain ⟨y, r, hyr⟩ : ∃ y r, L.drop (k + 1) = y :: r := ⟨_, _, List.drop_eq_getElem_cons (show k + 1 < L.length by omega)⟩
        obtain ⟨k2, hk2⟩ : ∃ n : Nat, n = k + 1 := ⟨_, rfl⟩
        have w1 : IntKind.i64.wrap ((k : Int) + 1) = (k2 : Int) := by rw [IntKind.wrap_i64]; omega
        have b1 : decide (k < m) = true := decide_eq_true hkm2
        have hkm3 : k < m + 1 := by omega
        rw [hd, hyr] at hr
        have q := SRead_any x (Nat.le_trans hxl (by decide)) (.inl hxl) wx (hT.out.ext S.ext) (hV.out.ext S.ext) (hD.out.ext S.ext)
        unfold ReadP at q
        cases ho : evO x with
        | none =>
          rw [ho] at q
          rw [restE_bad s cf k out ho] at hr
          clear hd hyr hlen hfew hk hbp hxl hol hkm hkm2 ho
          replace S := hide S
          replace hr := hide hr
          replace q := hide q
          go_wp2_with fail
          refine q.out.mono ?_
          rintro e w3 ⟨rfl, he⟩
          go_wp2
          exact ⟨rfl, hno.out _ _ _ _ _ _ (S.out.ext' he) hr.out (by decide)⟩
        | some ev =>
          rw [ho] at q
          have hein := evOk_in (evO_some ho).1
          have hlong := fun h : out.length = 512 => restE_long s cf k (y := y) (r := r) ho h
          have hon := fun h : out.length ≠ 512 => restE_on s cf k (y := y) (r := r) ho h
          obtain ⟨va, vc, rfl⟩ := S.own.form
          obtain ⟨kd, cn, ad, pr, by_, tk, dr⟩ := ev
          simp only [evCs] at q
          have hkm4 := hide hkm2
          clear hd hfew hbp hxl hkm hkm2 ho
          replace S := hide S
          replace q := hide q
          replace hlong := hide hlong
          replace hon := hide hon
          replace hr := hide hr
          replace hein := hide hein
          replace hyr := hide hyr
          replace hlen := hide hlen
          replace hk := hide hk
          replace hk2 := hide hk2
          replace hol := hide hol
          go_wp2_with fail
          refine q.out.mono ?_
          rintro e W2 ⟨rfl, he⟩
          have N := Blk.new W2 31 #[.int .i64 kd, .int .i64 cn, .string ⟨ad.toArray⟩, .string ⟨pr.toArray⟩, .string ⟨by_.toArray⟩, .int .i64 tk, .int .u32 (dr.toNat : Int)]
          have S3 := (S.out.ext' he).ext' ((Ext.refl W2).alloc (Obj.cells #[.int .i64 kd, .int .i64 cn, .string ⟨ad.toArray⟩, .string ⟨pr.toArray⟩, .string ⟨by_.toArray⟩, .int .i64 tk, .int .u32 (dr.toNat : Int)] 31))
          clear q c0 c1 c2 c4 he b1 hkm3
          go_upto_region 9 with fail
          generalize W2.alloc (Obj.cells #[.int .i64 kd, .int .i64 cn, .string ⟨ad.toArray⟩, .string ⟨pr.toArray⟩, .string ⟨by_.toArray⟩, .int .i64 tk, .int .u32 (dr.toNat : Int)] 31) = W3 at N S3 ⊢
          generalize W2.heap.size = n2 at N ⊢
          have c5 : W3.cell? ⟨p + 4, 0, none⟩ = some (.slice va out.length vc) := S3.ob.cell 0
          have d0 : W3.cell? ⟨n2, 0, none⟩ = some (.int .i64 kd) := N.cell 0
          have d1 : W3.cell? ⟨n2, 1, none⟩ = some (.int .i64 cn) := N.cell 1
          have d2 : W3.cell? ⟨n2, 2, none⟩ = some (.string ⟨ad.toArray⟩) := N.cell 2
          have d3 : W3.cell? ⟨n2, 3, none⟩ = some (.string ⟨pr.toArray⟩) := N.cell 3
          have d4 : W3.cell? ⟨n2, 4, none⟩ = some (.string ⟨by_.toArray⟩) := N.cell 4
          have d5 : W3.cell? ⟨n2, 5, none⟩ = some (.int .i64 tk) := N.cell 5
          have d6 : W3.cell? ⟨n2, 6, none⟩ = some (.int .u32 (dr.toNat : Int)) := N.cell 6
          by_cases hl : out.length = 512
          · have e1 : (out.length == 512) = true := beq_iff_eq.2 hl
            have e2 : decide (out.length = 512) = true := decide_eq_true hl
            have h9 := hr.out.trans (hlong.out hl)
            clear hl N
            replace S3 := hide S3
            replace h9 := hide h9
            go_wp2_with fail
            refine (give_any _ _).mono ?_
            rintro e w3 ⟨rfl, rfl⟩
            go_wp2
            exact ⟨rfl, hno.out _ _ _ _ _ _ S3.out h9.out (by decide)⟩
          · have e1 : (out.length == 512) = false := beq_eq_false_iff_ne.2 hl
            have e2 : decide (out.length = 512) = false := decide_eq_false hl
            have h9 := hr.out.trans (hon.out hl)
            have hol2 : out.length ≤ 1048576 := by have := hol.out; have := hk.out; have := S3.len; have := S3.few; omega
            have S4 := S3.ext' ((Ext.refl W3).alloc (Obj.cells #[.int .i64 kd, .int .i64 cn, .string ⟨ad.toArray⟩, .string ⟨pr.toArray⟩, .string ⟨by_.toArray⟩, .int .i64 tk, .int .u32 (dr.toNat : Int)] 31))
            clear hl N
            replace S3 := hide S3
            replace h9 := hide h9
            replace S4 := hide S4
            replace hol2 := hide hol2
            go_upto_region 11 with fail
            go_wp2_with
              (at_builtin
               go_must (refine wpList_push (E := EEv) (l := out) rfl _ _ _ rfl okEv (by decide) (by decide) rfl S4.out.own (by have := hol2.out; omega) S4.out.up rfl (y := ⟨kd, cn, ad, pr, by_, tk, dr⟩) (cs := evCs ⟨kd, cn, ad, pr, by_, tk, dr⟩) ⟨rfl, hein.out⟩ (cells_new W3 (evCs ⟨kd, cn, ad, pr, by_, tk, dr⟩).toArray _) ?_)
               intro v' w5 hown1 hg5 hat5
               have S5 := S4.out.pushed hg5 hown1
               have hn4 : ∀ x, x < p + 6 → some x ≠ (Value.slice va out.length vc).ownBlock := fun x hx e => by have := (S4.out.own.lt x e.symm).1; omega
               have c6 : w5.cell? ⟨p + 4, 0, none⟩ = some (.slice va out.length vc) := (S4.out.ob.grown hg5 (hn4 _ (by omega))).cell 0
               have f6 := fun i => (S4.out.ob.grown hg5 (hn4 _ (by omega))).frozen i
               have c7 : w5.cell? ⟨p + 2, 0, none⟩ = some (.int .i64 (k : Int)) := (S4.out.at_.grown hg5 (hn4 _ (by omega))).cell 0
               have f7 := fun i => (S4.out.at_.grown hg5 (hn4 _ (by omega))).frozen i
               obtain ⟨va5, vc5, rfl⟩ := hown1.form
               have S6 := S5.setAt k2
               clear hown1 hg5 hat5 hn4 S5
               simp only [List.length_append, List.length_cons, List.length_nil, Nat.zero_add] at S6 ⊢
               replace S6 := hide S6)
            go_roundw
            case rel =>
              have r1 : k2 < L.length := by have := S6.out.len; have := hlen.out; have := hk2.out; have := hkm4.out; omega
              have r2 := h9.out
              rw [← hk2.out, ← hyr.out, ← hk2.out] at r2
              have r3 : (out ++ [(⟨kd, cn, ad, pr, by_, tk, dr⟩ : EvS)]).length ≤ k2 := by have := hol.out; have := hk2.out; simp; omega
              (repeat apply Exists.intro); exact ⟨S6.out, r1, r2, r3⟩
            case measure => rw [S6.out.atOf, S.out.atOf]; have := hk2.out; have := hk.out; omega
    · have hw1 : x ≠ runW := hxr
      obtain ⟨cf2, hcf2⟩ : ∃ n : Nat, n = cf + x.length + 1 := ⟨_, rfl⟩
      rw [restC_on s k cf hw1, ← hyr, ← hk2, ← hcf2] at hr
      have e1 : (x == [114, 117, 110]) = false := beq_eq_false_iff_ne.2 hxr
      have e2 : (x != [114, 117, 110]) = true := by simpa using hxr
      have w2 : IntKind.i64.wrap ((x.length : Int) + 1) = (x.length : Int) + 1 := by rw [IntKind.wrap_i64]; omega
      have hsl := hs.out
      have w3 : IntKind.i64.wrap ((cf : Int) + ((x.length : Int) + 1)) = (cf2 : Int) := by rw [IntKind.wrap_i64]; omega
      have S2 := ((S.setCf cf2).setAt k2).ext' (Ext.refl _).drew
      have hkl : k2 < L.length := by omega
      have hsm2 : cf2 + ((L.drop k2).map fun x => x.length + 1).sum = s.length + 1 := by rw [hk2, hcf2]; omega
      clear hd hsm hfew hxl hkm hkm2 hsum hxr hw1 hsl hyr y r hcfs hcf2 hbp hlen
      replace S := hide S
      replace S2 := hide S2
      replace hr := hide hr
      replace hk2 := hide hk2
      replace hkl := hide hkl
      replace hsm2 := hide hsm2
      replace hk := hide hk
      go_upto_region 2 with fail
      go_region
      go_wp2_with fail
      go_roundw
      case rel => exact ⟨k2, cf2, S2.out, hkl.out, hr.out, hsm2.out⟩
      case measure => rw [S2.out.atOf, S.out.atOf]; have := hk2.out; have := hk.out; omega
end
section
open Go.RowKit
set_option linter.unusedVariables false
set_option linter.unusedSimpArgs false
/-- In a configuration that ends in a line's end, a line is 'run' just if it stands between two lines' ends. -/
theorem nlRun_iff (c : List UInt8) (hc : c = [] ∨ c.getLast? = some 10) : nlRun <:+: 10 :: c ↔ runW ∈ spl 10 c := by
  revert hc
  refine spl_ind (P := fun c => (c = [] ∨ c.getLast? = some 10) → (nlRun <:+: 10 :: c ↔ runW ∈ spl 10 c)) 10 (fun s hs hc => ?_) (fun a b ha ih hc => ?_) c.length c (Nat.le_refl _)
  · have h0 : s = [] := by
      rcases hc with h | h
      · exact h
      · exact absurd (List.mem_of_getLast? h) hs
    subst h0
    constructor
    · rintro ⟨p, q, h⟩
      have := congrArg List.length h
      simp [nlRun, runW] at this
      omega
    · intro h
      rw [spl_no hs] at h
      simp [runW] at h
  · rw [nlRun_step ha, spl_at ha]
    have hb : b = [] ∨ b.getLast? = some 10 := by
      rcases hc with h | h
      · simp at h
      · rw [List.getLast?_append] at h
        cases b with
        | nil => exact .inl rfl
        | cons x r =>
          right
          rw [List.getLast?_cons_cons] at h
          cases hq : (x :: r).getLast? with
          | none => simp at hq
          | some y => rw [hq] at h; simpa using h
    rw [ih hb]
    simp only [List.cons_append, List.nil_append, List.mem_cons, List.singleton_append]
    constructor
    · rintro (h | h)
      · exact .inl h.symm
      · exact .inr h
    · rintro (h | h)
      · exact .inl h.symm
      · exact .inr h
theorem cfgOk_iff (c : List UInt8) (hc : c = [] ∨ c.getLast? = some 10) : cfgOk c = true ↔ ¬ nlRun <:+: 10 :: c := by
 unfold cfgOk
 rw [nlRun_iff c hc]
 have : (decide (c = []) || decide (c.getLast? = some 10)) = true := by simpa using hc
 rw [this]
 simp
theorem cfgOk_end {c : List UInt8} (hc : ¬ (c = [] ∨ c.getLast? = some 10)) : cfgOk c = false := by
 unfold cfgOk
 have : (decide (c = []) || decide (c.getLast? = some 10)) = false := by simpa using hc
 rw [this]
 rfl
theorem contains_iff (s sub : List UInt8) : Lib.contains s sub = true ↔ sub <:+: s := by
 unfold Lib.contains
 rw [decide_eq_true_eq]
 constructor
 ·intro h
  rcases Lib.index_spec s sub with ⟨h1, _⟩ | ⟨i, h1, h2, h3, _⟩
  ·omega
  ·have h4 : sub <+: s.drop i := by simpa [Lib.occAt] using h3
   exact h4.isInfix.trans (List.drop_suffix i s).isInfix
 ·rintro ⟨p, q, rfl⟩
  rcases Lib.index_spec (p ++ sub ++ q) sub with ⟨h1, h2⟩ | ⟨i, h1, _⟩
  ·have := h2 p.length (by simp)
   simp only [Lib.occAt, List.append_assoc, List.drop_left] at this
   have h9 : sub.isPrefixOf (sub ++ q) = true := List.isPrefixOf_iff_prefix.2 (List.prefix_append _ _)
   rw [h9] at this
   cases this
  ·omega
theorem suffix_iff (c : List UInt8) : Lib.hasSuffix c [10] = decide (c.getLast? = some 10) := by
 rw [Bool.eq_iff_iff, decide_eq_true_eq]
 unfold Lib.hasSuffix
 rw [List.isSuffixOf_iff_suffix]
 constructor
 ·rintro ⟨p, rfl⟩; simp
 ·intro h
  obtain ⟨p, hp⟩ := List.getLast?_eq_some_iff.1 h
  exact ⟨p, hp.symm⟩
/-- A configuration that may stand ahead of a script, as the program asks. -/
theorem cfgOk_prog (c : List UInt8) : cfgOk c = ((decide (c = []) || Lib.hasSuffix c [10]) && !Lib.contains (10 :: c) nlRun) := by
 rw [suffix_iff]
 by_cases h : c = [] ∨ c.getLast? = some 10
 ·have h1 : (decide (c = []) || decide (c.getLast? = some 10)) = true := by simpa using h
  rw [h1, Bool.true_and, Bool.eq_iff_iff, cfgOk_iff c h, Bool.not_eq_true', ← Bool.not_eq_true, contains_iff]
 ·have h1 : (decide (c = []) || decide (c.getLast? = some 10)) = false := by simpa using h
  rw [h1, cfgOk_end h]
  rfl
/-- The events' lines that are told up to the first one that may not be. -/
theorem tellL_len (l : List EvS) (h : l.all evOk = true) : (tellL l).length ≤ 131113 * l.length := by
  induction l with
  | nil => simp [tellL]
  | cons e r ih =>
    simp only [List.all_cons, Bool.and_eq_true] at h
    have h1 := evW_len h.1
    have h2 := ih h.2
    have : tellL (e :: r) = (evW e ++ [10]) ++ tellL r := rfl
    rw [this]
    simp only [List.length_append, List.length_cons, List.length_nil]
    omega
theorem tellL_snoc (l : List EvS) (e : EvS) : tellL (l ++ [e]) = tellL l ++ (evW e ++ [10]) := by simp [tellL]
end
section
open Go.RowKit
set_option linter.unusedVariables false
set_option linter.unusedSimpArgs false
theorem Bd.ext {B b : Nat} {l : List UInt8} {w w' : World} (h : Bd B b l w) (he : Ext w w') : Bd B b l w' := by
 have key : ∀ p, Lib.BuilderAt 69 5 B b p (Lib.byteCells l) w → Lib.BuilderAt 69 5 B b p (Lib.byteCells l) w' := fun p h => by
  have hlt := h.lt
  obtain ⟨hB, v, hbk, ⟨hl, h3⟩, hne⟩ := h
  refine ⟨hB, v, (he.block b hlt).trans hbk, ⟨hl, ?_⟩, hne⟩
  rcases h3 with h3 | ⟨g, cap, cur, rfl, hg, hh, r⟩
  ·exact .inl h3
  ·exact .inr ⟨g, cap, cur, rfl, hg, by rw [he.block g (Array.getElem?_eq_some_iff.1 hh).1]; exact hh, r⟩
 rcases h with h | h
 ·exact .inl (key _ h)
 ·exact .inr (key _ h)
theorem meas_step {n k : Nat} (h : k < n) : n - (intOf (.int .i64 ((k : Int) + 1))).toNat < n - (intOf (.int .i64 (k : Int))).toNat := by
 show n - ((k : Int) + 1).toNat < n - ((k : Int)).toNat
 omega
set_option maxRecDepth 20000 in
set_option maxHeartbeats 4000000 in
theorem SPrint_any (c : List UInt8) (hc : c.length ≤ 1048576) (l : List EvS) (a : Option Addr) (cp : Nat) (hl : l.length ≤ 16777216) (w : World) (hT : Tab w) (hV : Vars w) (hD : Deb w) (hs : Sl EEv w (· < w.heap.size) a l) :
    Calls Tryz.prog 9 #[.string ⟨c.toArray⟩, .slice a l.length cp] w fun e w' => e = .returned (.tuple #[.string ⟨(printS c l).1.toArray⟩, .int .i64 (printS c l).2]) ∧ Ext w w' := by
  have hR : ∀ s (x : Int) W, printS c l = (s, x) → Ext w W → (Ending.returned (.tuple #[.string ⟨s.toArray⟩, .int .i64 x]) = Ending.returned (.tuple #[.string ⟨(printS c l).1.toArray⟩, .int .i64 (printS c l).2]) ∧ Ext w W) := fun s x W h he => ⟨by rw [h], he⟩
  generalize hQ : (fun e w' => e = Ending.returned (.tuple #[.string ⟨(printS c l).1.toArray⟩, .int .i64 (printS c l).2]) ∧ Ext w w') = Post
  replace hR : ∀ s (x : Int) W, printS c l = (s, x) → Ext w W → Post (.returned (.tuple #[.string ⟨s.toArray⟩, .int .i64 x])) W := by rw [← hQ]; exact hR
  clear hQ
  obtain ⟨mx, hmx⟩ := hV.max
  have q1 := Tryz.strings_HasSuffix ⟨c.toArray⟩ ⟨#[10]⟩ w (by simp [ByteArray.size]; omega)
  have g1 : ((ByteArray.mk #[10]) ++ ⟨c.toArray⟩).data.toList = 10 :: c := by simp
  have g2 : (ByteArray.mk #[10, 114, 117, 110, 10]).data.toList = nlRun := rfl
  have g3 : (ByteArray.mk #[10]).data.toList = [10] := rfl
  have g4 : (ByteArray.mk c.toArray).data.toList = c := rfl
  have q2 := Tryz.strings_Contains ((ByteArray.mk #[10]) ++ ⟨c.toArray⟩) ⟨#[10, 114, 117, 110, 10]⟩ mx w (by simp [ByteArray.size]; omega) hmx
  rw [g1, g2] at q2
  rw [g3, g4] at q1
  have hcp := cfgOk_prog c
  have hp1 : cfgOk c = false → printS c l = ([], 2) := fun h => by unfold printS; rw [if_pos h]
  have z1 : ¬ 9223372036854775807 < 1 + c.length := by omega
  have z2 : ¬ 9223372036854775807 < c.length + 3 := by omega
  have z3 : ¬ 9223372036854775807 < c.length + 3 + 1 := by omega
  clear g1 g2 g3 g4 hmx
  generalize Lib.contains (10 :: c) nlRun = bc at *
  generalize Lib.hasSuffix c [10] = bs at *
  replace hR := hide hR
  replace hT := hide hT
  replace hV := hide hV
  replace hD := hide hD
  replace hs := hide hs
  replace hp1 := hide hp1
  replace q1 := hide q1
  replace q2 := hide q2
  replace hc := hide hc
  replace hcp := hide hcp
  go_enter Tryz.func9, Tryz.ntmps9
  go_upto_region 1 with fail
  go_cut [22] (fun s22 wx => s22 = .bool (!cfgOk c) ∧ w = wx)
  case first =>
    by_cases hc0 : c = []
    · have e0 : c.isEmpty = true := by simpa using hc0
      have e1 : (c == []) = true := beq_iff_eq.2 hc0
      have hk : cfgOk c = !bc := by rw [hcp.out, decide_eq_true hc0]; simp
      clear hc0
      replace hk := hide hk
      go_wp2_with (first | (go_at_call 25; refine q1.out.mono ?_; rintro e w1 ⟨rfl, rfl⟩) | (go_at_call 26; refine q2.out.mono ?_; rintro e w1 ⟨rfl, rfl⟩))
      go_meet
      case rel => exact ⟨by rw [hk.out, Bool.not_not], rfl⟩
    · have e0 : c.isEmpty = false := by simpa using hc0
      have e1 : (c == []) = false := beq_eq_false_iff_ne.2 hc0
      have hk : cfgOk c = (bs && !bc) := by rw [hcp.out, decide_eq_false hc0]; simp
      clear hc0
      replace hk := hide hk
      cases bs
      · go_wp2_with (first | (go_at_call 25; refine q1.out.mono ?_; rintro e w1 ⟨rfl, rfl⟩) | (go_at_call 26; refine q2.out.mono ?_; rintro e w1 ⟨rfl, rfl⟩))
        go_meet
        case rel => exact ⟨by rw [hk.out]; rfl, rfl⟩
      · go_wp2_with (first | (go_at_call 25; refine q1.out.mono ?_; rintro e w1 ⟨rfl, rfl⟩) | (go_at_call 26; refine q2.out.mono ?_; rintro e w1 ⟨rfl, rfl⟩))
        go_meet
        case rel => exact ⟨by rw [hk.out, Bool.true_and, Bool.not_not], rfl⟩
  case rest =>
    obtain ⟨rfl, rfl⟩ := hcut
    cases hk : cfgOk c with
    | false =>
      have hf := hide (hp1.out hk)
      clear hk
      go_wp2
      try go_ret2
      exact hR.out _ _ _ hf.out (Ext.refl _)
    | true =>
      by_cases hl5 : 512 < l.length
      · have b1 : decide ((512 : Int) < (l.length : Int)) = true := decide_eq_true (by omega)
        have hf : printS c l = ([], 3) := by unfold printS; rw [if_neg (by rw [hk]; decide), if_pos hl5]
        clear hk hl5 hl z1 z2 z3
        replace hf := hide hf
        go_wp2
        try go_ret2
        exact hR.out _ _ _ hf.out (Ext.refl _)
      have b1 : decide ((512 : Int) < (l.length : Int)) = false := decide_eq_false (by omega)
      have hpr : printS c l = if l.all evOk = false then ([], 2) else if 1048576 < (textScr c l).length then ([], 3) else (textScr c l, 0) := by unfold printS; rw [if_neg (by rw [hk]; decide), if_neg hl5]
      have hl6 : l.length ≤ 512 := by omega
      clear hl5 hl
      have hB0 : Bd w.heap.size w.heap.size [] (w.alloc (Obj.cells #[.pointer none, .slice none 0 0] 69)) := .inl ⟨Nat.le_refl _, _, Array.getElem?_push_size, World.ownsRow_nil _ _ _ _, by simp [Value.ownBlock]⟩
      have hs6 : ((ByteArray.mk c.toArray) ++ ⟨#[114, 117, 110]⟩) ++ ⟨#[10]⟩ = (⟨(c ++ (runW ++ [10])).toArray⟩ : ByteArray) := by apply ByteArray.ext; simp [runW]
      have qW := BWriteString_any w.heap.size w.heap.size [] (c ++ (runW ++ [10])) _ hB0 (by have := hc.out; simp [runW]; omega) (by simp)
      replace hpr := hide hpr
      replace hl6 := hide hl6
      replace qW := hide qW
      replace hs6 := hide hs6
      go_wp2_with (go_at_call 27; rw [hs6.out]; refine qW.out.mono ?_; rintro e W1 ⟨rfl, hB1, hE1⟩)
      have E1 : Ext w W1 := Below.trans ((Ext.refl w).alloc _) hE1
      rw [List.nil_append] at hB1
      clear hE1 qW hs6 hB0 hp1 hcp q1 q2 z1 z2 z3 b1 bc bs
      generalize hT0 : c ++ (runW ++ [10]) = T0 at *
      have hT0l : T0.length ≤ 1048580 := by have := hc.out; rw [← hT0]; simp [runW]; omega
      have htx : textScr c l = T0 ++ tellL l := by rw [← hT0]; simp [textScr]
      rw [htx] at hpr
      clear htx hT0 hk
      replace hT0l := hide hT0l
      go_loopw [32] (fun i wr => ∃ k : Nat, k ≤ l.length ∧ i = .int .i64 k ∧ Bd w.heap.size w.heap.size (T0 ++ tellL (l.take k)) wr ∧ Ext w wr ∧ (l.take k).all evOk = true) (fun i _ => l.length - (intOf i).toNat)
      case atStart => exact ⟨0, Nat.zero_le _, rfl, by simpa [tellL] using hB1, E1, rfl⟩
      case round =>
        clear hB1 E1
        obtain ⟨k, hk, rfl, hB, E, hall⟩ := hrel
        have hsz := E.size
        have hlen : (T0 ++ tellL (l.take k)).length ≤ 1048580 + 131113 * 512 := by
          have h1 := tellL_len _ hall
          have h2 : (l.take k).length ≤ 512 := by rw [List.length_take]; have := hl6.out; omega
          rw [List.length_append]
          have := Nat.mul_le_mul_left 131113 h2
          have := hT0l.out
          omega
        by_cases hlt : k < l.length
        · obtain ⟨b, off, rfl, _, hin, hcell⟩ := EEv.at (hs.out.ext E) k hlt
          have hsn : l.take (k + 1) = l.take k ++ [l[k]] := List.take_succ_eq_append_getElem hlt
          have q := fun W (h : Ext w W) => SLineE_any l[k] hin W (hT.out.ext h) (hV.out.ext h) (hD.out.ext h)
          have hbad : evOk l[k] = false → printS c l = ([], 2) := fun h => by
            rw [hpr.out, if_pos]
            rw [← Bool.not_eq_true, List.all_eq_true]
            intro h9
            rw [h9 _ (List.getElem_mem hlt)] at h
            cases h
          have hgd : evOk l[k] = true → (l.take (k + 1)).all evOk = true := fun h => by rw [hsn, List.all_append, hall]; simp [h]
          have htl : tellL (l.take (k + 1)) = tellL (l.take k) ++ (evW l[k] ++ [10]) := by rw [hsn, tellL_snoc]
          have hwl := fun h : evOk l[k] = true => evW_len h
          generalize hX : T0 ++ tellL (l.take k) = X at *
          generalize l[k] = e at *
          obtain ⟨kd, cn, ad, pr, by_, tk, dr⟩ := e
          have x0 : wr.cell? ⟨b, off + k * 7, none⟩ = some (.int .i64 kd) := hcell 0 _ rfl
          have x1 : wr.cell? ⟨b, off + k * 7 + 1, none⟩ = some (.int .i64 cn) := hcell 1 _ rfl
          have x2 : wr.cell? ⟨b, off + k * 7 + 2, none⟩ = some (.string ⟨ad.toArray⟩) := hcell 2 _ rfl
          have x3 : wr.cell? ⟨b, off + k * 7 + 3, none⟩ = some (.string ⟨pr.toArray⟩) := hcell 3 _ rfl
          have x4 : wr.cell? ⟨b, off + k * 7 + 4, none⟩ = some (.string ⟨by_.toArray⟩) := hcell 4 _ rfl
          have x5 : wr.cell? ⟨b, off + k * 7 + 5, none⟩ = some (.int .i64 tk) := hcell 5 _ rfl
          have x6 : wr.cell? ⟨b, off + k * 7 + 6, none⟩ = some (.int .u32 (dr.toNat : Int)) := hcell 6 _ rfl
          simp only [evCs] at q
          have E2 := E.alloc (Obj.cells #[.int .i64 kd, .int .i64 cn, .string ⟨ad.toArray⟩, .string ⟨pr.toArray⟩, .string ⟨by_.toArray⟩, .int .i64 tk, .int .u32 (dr.toNat : Int)] 31)
          replace q := q _ E2
          unfold evT at q
          clear hcell hin
          cases hok : evOk ⟨kd, cn, ad, pr, by_, tk, dr⟩ with
          | false =>
            rw [if_neg (by rw [hok]; decide)] at q
            have hf := hbad hok
            clear hbad hgd htl hwl hok hsn hX hlen hall hB hk
            replace q := hide q
            replace hf := hide hf
            replace E := hide E
            replace E2 := hide E2
            go_wp2_with fail
            refine q.out.mono ?_
            rintro e1 W3 ⟨rfl, he⟩
            have E3 := E2.out.trans he
            clear q he
            replace E3 := hide E3
            go_wp2
            try go_ret2
            exact hR.out _ _ _ hf.out E3.out
          | true =>
            rw [if_pos hok] at q
            have hwl2 := hwl hok
            have hgd2 := hgd hok
            have hB2 : Bd w.heap.size w.heap.size X (wr.alloc (Obj.cells #[.int .i64 kd, .int .i64 cn, .string ⟨ad.toArray⟩, .string ⟨pr.toArray⟩, .string ⟨by_.toArray⟩, .int .i64 tk, .int .u32 (dr.toNat : Int)] 31)) := hB.ext ((Ext.refl wr).alloc _)
            clear hbad hgd hwl hok hsn hall hB
            have w9 : wrap64 ((k : Int) + 1) = (k : Int) + 1 := wrap64_id _ (by omega) (by have := hl6.out; omega)
            generalize evW ⟨kd, cn, ad, pr, by_, tk, dr⟩ = tw at *
            have z9 : ¬ 9223372036854775807 < tw.length + 1 := by omega
            have hs9 : (ByteArray.mk tw.toArray) ++ ⟨#[10]⟩ = (⟨(tw ++ [10]).toArray⟩ : ByteArray) := by apply ByteArray.ext; simp
            replace q := hide q
            replace E := hide E
            replace E2 := hide E2
            replace hwl2 := hide hwl2
            replace hgd2 := hide hgd2
            replace hB2 := hide hB2
            replace htl := hide htl
            replace hX := hide hX
            replace hlen := hide hlen
            replace hs9 := hide hs9
            go_wp2_with fail
            refine q.out.mono ?_
            rintro e1 W3 ⟨rfl, he⟩
            have E3 := E2.out.trans he
            have hB3 : Bd w.heap.size w.heap.size X W3 := hB2.out.ext he
            have hsz3 := E3.size
            have qW := BWriteString_any w.heap.size w.heap.size X (tw ++ [10]) W3 hB3 (by have := hlen.out; have := hwl2.out; simp; omega) hsz3
            clear q he
            replace E3 := hide E3
            replace qW := hide qW
            replace hB3 := hide hB3
            go_wp2_with (go_at_call 27; rw [hs9.out]; refine qW.out.mono ?_; rintro e W4 ⟨rfl, hB4, hE4⟩; have E4 := hide (Below.trans E3.out hE4 : Ext w W4); replace hB4 := hide hB4; clear hE4)
            go_roundw
            case rel => exact ⟨k + 1, by omega, by go_num, by rw [htl.out, ← List.append_assoc, hX.out]; exact hB4.out, E4.out, hgd2.out⟩
            case measure => rw [w9]; exact meas_step hlt
        · obtain rfl : k = l.length := by omega
          rw [List.take_length] at hB hall hlen
          have hpr2 := hpr.out
          rw [if_neg (by rw [hall]; decide)] at hpr2
          generalize T0 ++ tellL l = X at *
          have q := Tryz.Builder_Len w.heap.size w.heap.size (Lib.byteCells X) wr hB
          rw [byteCells_len] at q
          have q2 := Tryz.Builder_String_any w.heap.size w.heap.size X wr hB hsz
          by_cases hx : 1048576 < X.length
          · have b1 : decide ((1048576 : Int) < (X.length : Int)) = true := decide_eq_true (by omega)
            rw [if_pos hx] at hpr2
            clear hall hlen hB hx hk q2
            replace q := hide q
            replace hpr2 := hide hpr2
            replace E := hide E
            go_wp2_with (go_at_call 28; refine q.out.mono ?_; rintro e W2 ⟨rfl, rfl⟩)
            try go_ret2
            exact hR.out _ _ _ hpr2.out E.out
          · have b1 : decide ((1048576 : Int) < (X.length : Int)) = false := decide_eq_false (by omega)
            rw [if_neg hx] at hpr2
            clear hall hlen hB hx hk
            replace q := hide q
            replace q2 := hide q2
            replace hpr2 := hide hpr2
            replace E := hide E
            go_wp2_with (first | (go_at_call 28; refine q.out.mono ?_; rintro e W2 ⟨rfl, rfl⟩) | (go_at_call 29; refine q2.out.mono ?_; rintro e W3 ⟨rfl, hE3⟩; have E3 := hide (Below.trans E.out hE3 : Ext w W3); clear hE3))
            try go_ret2
            exact hR.out _ _ _ hpr2.out E3.out
end
section
open Go.RowKit
set_option linter.unusedVariables false
set_option linter.unusedSimpArgs false
theorem encB_str (s : List UInt8) : Lib.strCells ⟨s.toArray⟩ = encB s := rfl
theorem run_appendBs {P : Program} {t u ty e : TypeId} {w : World} {B : Nat} {v : Value} {l : List UInt8} (hok : ElemOk P t e 1 1) (hu : P.underlying u = some .string) (h : OwnB e w B v l) (hB : B ≤ w.heap.size) (s : List UInt8) (hl : l.length + s.length ≤ 35184372088832)
  (hz : P.info? e = none ∨ ∀ i, P.info? e = some i → i.zero = some (.int .u8 0)) :
  ∃ v' w', (Builtin.append_ #[t, u] ty #[v, .string ⟨s.toArray⟩]).run P w = .ok v' w' ∧ OwnB e w' B v' (l ++ s) ∧ w.grownBy w' v.ownBlock := by
 obtain ⟨ht, i, z, hi, hz', h1, hb, h3⟩ := hok
 have hz0 : i.zero = some (.int .u8 0) := by
  rcases hz with hz | hz
  ·rw [hi] at hz; cases hz
  ·exact hz i hi
 have hsz : (ByteArray.mk s.toArray).size = s.length := ba_size s
 have hml : maxLen = 9223372036854775807 := by unfold maxLen; omega
 rcases h with ⟨rfl, rfl⟩ | ⟨g, cap, cur, fz, rfl, hbg, hg, hfz, hlc, hcm, hcs, htk⟩
 ·obtain ⟨v', w', hrun, hown, hgr, _⟩ := Lib.run_append_own_string (P := P) w B t u ty e i ht hu hi hz0 h1 hb (.slice none 0 0) 0 [] (World.ownsRow_nil w B e 1) ⟨s.toArray⟩ (by rw [hsz, hml]; omega) (by rw [hsz]; simp at hl; omega) hB
  refine ⟨v', w', hrun, ?_, hgr⟩
  rw [hsz, Nat.zero_add, List.nil_append, encB_str] at hown
  rw [List.nil_append]
  rcases hown.2 with ⟨rfl, h0⟩ | ⟨g, cap, cur, rfl, hbg, hg, hnc, hcm, hcs, htk⟩
  ·exact .inl ⟨rfl, List.eq_nil_of_length_eq_zero h0⟩
  ·exact .inr ⟨g, cap, cur, (0, 0), rfl, hbg, hg, .inr rfl, hnc, hcm, by simpa using hcs, by simpa using htk⟩
 ·by_cases hroom : l.length + s.length ≤ cap
  ·have hf := Lib.run_firstCells_string (P := P) w 1 ⟨s.toArray⟩
   rw [hsz, encB_str] at hf
   have hst := run_stores_thawed P g (l.length * i.size) e fz (encB s) 0 cur w hg (by rw [hcs]; exact hfz) (by simp [h1]; omega) (encB_one s)
   simp only [Nat.add_zero, h1, Nat.mul_one] at hst
   have hr : (Builtin.append_ #[t, u] ty #[.slice (some ⟨g, 0, none⟩) l.length cap, .string ⟨s.toArray⟩]).run P w = .ok (.slice (some ⟨g, 0, none⟩) (l.length + s.length) cap) (w.setRow g (cur.toList.take l.length ++ encB s ++ cur.toList.drop (l.length + (encB s).length)).toArray) := by
    simp [Builtin.append_, run_underlying ht, run_underlying hu, sizeOf, typeInfo, hi, Builtin.lenOf, hsz, hroom, h1, hf, Addr.add_lit, hst]
   refine ⟨_, _, hr, .inr ⟨g, cap, _, fz, by simp, hbg, setRow_heap w g cur _ e _ hg, hfz, by simpa using hroom, hcm, ?_, ?_⟩, ⟨rfl, rfl, rfl, by simp, fun k _ hk => setRow_other w g k _ (fun e => hk (by simp [Value.ownBlock, e]))⟩⟩
   ·simp only [List.size_toArray, List.length_append, List.length_take, List.length_drop, Array.length_toList, encB_length]
    omega
   ·rw [htk, encB_append, List.length_append, ← encB_length l, ← encB_length s, ← List.length_append]
    exact List.take_left
  ·have holds : ∀ j u, (encB l)[j]? = some u → w.cell? ((⟨g, 0, none⟩ : Addr).add j) = some u := by
    intro j u hu
    have hj : j < l.length := by
     rcases Nat.lt_or_ge j l.length with h | h
     ·exact h
     ·rw [List.getElem?_eq_none (by simpa using h)] at hu; cases hu
    rw [add_lit, Nat.zero_add, cell_of_row w g j cur e fz hg, ← hu, ← htk, List.getElem?_take, if_pos hj]
    simp
   have hr := Lib.run_append_grow_string (P := P) w t u ty e i z ht hu hi hz' ⟨g, 0, none⟩ l.length cap (encB l) (by simp [h1]) holds ⟨s.toArray⟩ (by rw [hsz]; omega) (by rw [hsz]; omega) (growslice_fits (by rw [hsz]; omega) (by rw [hb]; omega))
   rw [hsz, encB_str] at hr
   have hge := grownCap_ge w (l.length + s.length) cap e
   have hcm2 : grownCap w (l.length + s.length) cap e ≤ maxLen := grownCap_le_maxLen w _ cap e (by omega)
   refine ⟨_, _, hr, .inr ⟨w.heap.size, _, _, (0, 0), by simp, hB, heap_alloc_new w.drew _, .inr rfl, by simpa using hge, hcm2, ?_, ?_⟩, ⟨rfl, rfl, rfl, by simp, fun k hk _ => Below.heap_alloc w.drew _ k hk⟩⟩
   ·simp only [Array.size_append, List.size_toArray, size_zeroCells, h3, encB_length]
    omega
   ·simp only [Array.toList_append, List.append_assoc]
    rw [← List.append_assoc, encB_append, List.length_append, ← encB_length l, ← encB_length s, ← List.length_append]
    exact List.take_left
theorem wpList_appendBs {P : Program} {ops : Array Oper} {rest : List Oper} {o : Oper} {ac : Act} {R : Exit → Act → World → Prop} {e : TypeId} {w : World} {B : Nat} {v : Value} {l : List UInt8} (hgd : o.guard = none) (sl x : Operand) (t u : TypeId)
  (ho : o.op = .call { callee := .builtin .append, args := #[sl, x], argTypes := #[t, u] }) (hok : ElemOk P t e 1 1) (hu : P.underlying u = some .string) (hz : P.info? e = none ∨ ∀ i, P.info? e = some i → i.zero = some (.int .u8 0))
  (hs : ac.eval sl = v) (h : OwnB e w B v l) (hB : B ≤ w.heap.size) (s : List UInt8) (hx : ac.eval x = .string ⟨s.toArray⟩) (hl : l.length + s.length ≤ 35184372088832)
  (hk : ∀ v' w', OwnB e w' B v' (l ++ s) → w.grownBy w' v.ownBlock → wpList P ops R rest (ac.put o.dst v') w') : wpList P ops R (o :: rest) ac w := by
 refine wpList_plain hgd fun K hK => ?_
 obtain ⟨v', w', hrun, h3, h4⟩ := run_appendBs (P := P) (ty := o.type) hok hu h hB s hl hz
 unfold Oper.wp execOp
 simp only [ho, resolve, invoke, builtin, Sem.run_bind, Sem.run_pure, Result.andThen_ok, List.map_toArray, List.map_cons, List.map_nil, hs, hx, hrun]
 exact hK _ _ (hk v' w' h3 h4)
def twB (l : List EvS) : List ByteArray := l.map fun e => ⟨(evW e).toArray⟩
theorem twB_len (l : List EvS) : (twB l).length = l.length := List.length_map _
theorem sum_few : ∀ L : List (List UInt8), L.length ≤ (L.map fun x => x.length + 1).sum
 | [] => Nat.le_refl _
 | x :: q => by have := sum_few q; simp only [List.length_cons, List.map_cons, List.sum_cons]; omega
theorem spl_few (c : List UInt8) (h : c.length ≤ 1048576) : (spl 10 c).length ≤ 1048577 := by
 have := spl_size c
 have := sum_few (spl 10 c)
 omega
theorem RSplit10 (s : List UInt8) (hs : s.length ≤ 1048576) (w : World) : Calls Tryz.prog 30 #[.string ⟨s.toArray⟩, .int .u8 10] w (SpP 10 s w) := RSplit_any s hs 10 w
theorem take_mem_snoc {α : Type} [DecidableEq α] {L : List α} {x : α} {k : Nat} (h : k < L.length) (hn : x ∉ L.take k) (hx : L[k] ≠ x) : x ∉ L.take (k + 1) := by
 rw [List.take_succ_eq_append_getElem h]
 intro hm
 rcases List.mem_append.1 hm with hm | hm
 ·exact hn hm
 ·exact hx (List.mem_singleton.1 hm).symm
set_option maxRecDepth 20000 in
set_option maxHeartbeats 8000000 in
theorem DPrint_any (c : List UInt8) (hc : c.length ≤ 1048576) (l : List EvS) (a : Option Addr) (cp : Nat) (hl : l.length ≤ 16777216) (w : World) (hs : Sl EEv w (· < w.heap.size) a l) :
    Calls Tryz.prog 10 #[.string ⟨c.toArray⟩, .slice a l.length cp] w fun e w' => e = .returned (.tuple #[.string ⟨(printS c l).1.toArray⟩, .int .i64 (printS c l).2]) ∧ Ext w w' := by
  have hR : ∀ s (x : Int) W, printS c l = (s, x) → Ext w W → (Ending.returned (.tuple #[.string ⟨s.toArray⟩, .int .i64 x]) = Ending.returned (.tuple #[.string ⟨(printS c l).1.toArray⟩, .int .i64 (printS c l).2]) ∧ Ext w W) := fun s x W h he => ⟨by rw [h], he⟩
  generalize hQ : (fun e w' => e = Ending.returned (.tuple #[.string ⟨(printS c l).1.toArray⟩, .int .i64 (printS c l).2]) ∧ Ext w w') = Post
  replace hR : ∀ s (x : Int) W, printS c l = (s, x) → Ext w W → Post (.returned (.tuple #[.string ⟨s.toArray⟩, .int .i64 x])) W := by rw [← hQ]; exact hR
  clear hQ
  have qs := RSplit10 c hc w
  have hp1 : cfgOk c = false → printS c l = ([], 2) := fun h => by unfold printS; rw [if_pos h]
  replace hR := hide hR
  replace hs := hide hs
  replace hp1 := hide hp1
  replace qs := hide qs
  replace hc := hide hc
  replace hl := hide hl
  go_enter Tryz.func10, Tryz.ntmps10
  go_upto_region 1 with fail
  go_cut [24] (fun s24 wx => s24 = .bool (!(decide (c = []) || decide (c.getLast? = some 10))) ∧ w = wx)
  case first =>
    by_cases hc0 : c = []
    · have e0 : c.isEmpty = true := by simpa using hc0
      have e1 : (c == []) = true := beq_iff_eq.2 hc0
      have hk : (decide (c = []) || decide (c.getLast? = some 10)) = true := by rw [decide_eq_true hc0]; rfl
      clear hc0
      replace hk := hide hk
      go_wp2_with fail
      go_meet
      case rel => exact ⟨by rw [hk.out]; rfl, rfl⟩
    · have e0 : c.isEmpty = false := by simpa using hc0
      have e1 : (c == []) = false := beq_eq_false_iff_ne.2 hc0
      obtain ⟨n, hn⟩ : ∃ n, c.length = n + 1 := ⟨c.length - 1, by have := List.length_pos_iff.2 hc0; omega⟩
      obtain ⟨x, hx⟩ : ∃ x, c.getLast? = some x := ⟨_, List.getLast?_eq_some_getLast hc0⟩
      have hk : (decide (c = []) || decide (c.getLast? = some 10)) = decide (x = 10) := by rw [decide_eq_false hc0, hx]; simp
      have hcx : c[n]'(by omega) = x := by
        rw [List.getLast?_eq_getElem?, hn, Nat.add_sub_cancel, List.getElem?_eq_getElem (by omega)] at hx
        exact Option.some.inj hx
      have w1 : IntKind.i64.wrap ((c.length : Int) - 1) = (n : Int) := by rw [IntKind.wrap_i64]; have := hc.out; omega
      have hget : ∀ h, (ByteArray.mk c.toArray)[n]'h = x := fun _ => hcx
      have hsz : n < (ByteArray.mk c.toArray).size := by rw [ba_size]; omega
      clear hc0 hx hcx
      replace hk := hide hk
      replace hn := hide hn
      by_cases hxn : x = 10
      · have hk2 := hide (decide_eq_true hxn)
        have e3 : ((x.toNat : Int) != 10) = false := by rw [hxn]; rfl
        clear hxn
        go_wp2_with fail
        go_meet
        case rel => exact ⟨by rw [hk.out, hk2.out]; rfl, rfl⟩
      · have hk2 := hide (decide_eq_false hxn)
        have e3 : ¬ ((x.toNat : Int) = 10) := fun h => hxn (UInt8.toNat_inj.1 (show x.toNat = (10 : UInt8).toNat from by have h8 : (10 : UInt8).toNat = 10 := rfl; omega))
        have e4 : ((x.toNat : Int) == 10) = false := beq_eq_false_iff_ne.2 e3
        have e5 : ((x.toNat : Int) != 10) = true := by simpa using e3
        clear e3 hxn
        go_wp2_with fail
        go_meet
        case rel => exact ⟨by rw [hk.out, hk2.out]; rfl, rfl⟩
  case rest =>
    obtain ⟨rfl, rfl⟩ := hcut
    have hcf : cfgOk c = ((decide (c = []) || decide (c.getLast? = some 10)) && !(spl 10 c).contains runW) := rfl
    generalize (decide (c = []) || decide (c.getLast? = some 10)) = be at *
    cases be with
    | false =>
      have hf := hide (hp1.out hcf)
      clear hcf
      go_wp2
      try go_ret2
      exact hR.out _ _ _ hf.out (Ext.refl _)
    | true =>
      rw [Bool.true_and] at hcf
      replace hcf := hide hcf
      go_wp2_with fail
      refine qs.out.mono ?_
      rintro e W1 ⟨E1, g, o, d, rfl, hd, hcell⟩
      clear qs
      have hLl := spl_few c hc.out
      generalize spl 10 c = L at *
      replace E1 := hide E1
      replace hd := hide hd
      replace hcell := hide hcell
      replace hLl := hide hLl
      go_wp2_with fail
      go_loopw [7] (fun i wr => ∃ k : Nat, i = .int .i64 (k : Int) ∧ k ≤ L.length ∧ wr = W1 ∧ runW ∉ L.take k) (fun i _ => L.length - (intOf i).toNat)
      case atStart => exact ⟨0, rfl, Nat.zero_le _, rfl, by simp⟩
      case round =>
        obtain ⟨k, rfl, hk, rfl, hno⟩ := hrel
        by_cases hlt : k < L.length
        · have x0 := hcell.out k hlt
          have hsn := fun h => take_mem_snoc hlt hno h
          have hyes : L[k] = runW → cfgOk c = false := fun h => by
            rw [hcf.out, List.contains_iff_mem.2 (h ▸ List.getElem_mem hlt)]; rfl
          generalize L[k] = x at *
          by_cases hx : x = [114, 117, 110]
          · have hf := hide (hp1.out (hyes hx))
            subst hx
            clear hsn hyes hno
            go_wp2_with fail
            try go_ret2
            exact hR.out _ _ _ hf.out E1.out
          · have e1 : (x == [114, 117, 110]) = false := beq_eq_false_iff_ne.2 hx
            have hs2 := hide (hsn hx)
            have w8 : wrap64 ((k : Int) + 1) = (k : Int) + 1 := wrap64_id _ (by omega) (by have := hLl.out; omega)
            clear hsn hyes hno hx
            go_wp2_with fail
            go_roundw
            case rel => exact ⟨k + 1, by go_num, by omega, by trivial, hs2.out⟩
            case measure => rw [w8]; exact meas_step hlt
        · obtain rfl : k = L.length := by omega
          rw [List.take_length] at hno
          have hok : cfgOk c = true := by
            rw [hcf.out]
            have : L.contains runW = false := by rw [← Bool.not_eq_true, List.contains_iff_mem]; exact hno
            rw [this]; rfl
          clear hno hcf hcell hd hp1 hlt hk
          by_cases hl5 : 512 < l.length
          · have b1 : decide ((512 : Int) < (l.length : Int)) = true := decide_eq_true (by omega)
            have hf : printS c l = ([], 3) := by unfold printS; rw [if_neg (by rw [hok]; decide), if_pos hl5]
            clear hok hl5
            replace hf := hide hf
            go_wp2_with fail
            try go_ret2
            exact hR.out _ _ _ hf.out E1.out
          have b1 : decide ((512 : Int) < (l.length : Int)) = false := decide_eq_false (by omega)
          have hpr : printS c l = if l.all evOk = false then ([], 2) else if 1048576 < (textScr c l).length then ([], 3) else (textScr c l, 0) := by unfold printS; rw [if_neg (by rw [hok]; decide), if_neg hl5]
          have hl6 : l.length ≤ 512 := by omega
          have hcb := hc.out
          have w4 : IntKind.i64.wrap ((c.length : Int) + 4) = ((c.length + 4 : Nat) : Int) := by rw [IntKind.wrap_i64]; omega
          clear hok hl5 hl hcb
          replace hpr := hide hpr
          replace hl6 := hide hl6
          go_wp2_with fail
          go_loopw [8, 9, 10] (fun s8 v s10 wr => ∃ (k sz : Nat), s8 = .int .i64 (sz : Int) ∧ s10 = .int .i64 (k : Int) ∧ k ≤ l.length ∧ sz = c.length + 4 + (tellL (l.take k)).length ∧ Own EStr 9 wr w.heap.size v (twB (l.take k)) ∧ Ext w wr ∧ (l.take k).all evOk = true) (fun _ _ s10 _ => l.length - (intOf s10).toNat)
          case atStart => exact ⟨0, c.length + 4, by first | rfl | go_num | rw [← w4], rfl, Nat.zero_le _, by simp [tellL], Own.nil, E1.out, rfl⟩
          case round =>
            clear b1 w4 E1
            rename_i W1
            obtain ⟨k, sz, rfl, rfl, hk, hsz, O, E, hall⟩ := hrel
            rename World => wr
            have hszb : sz ≤ 68200000 := by
              have h1 := tellL_len _ hall
              have h2 : (l.take k).length ≤ 512 := by rw [List.length_take]; have := hl6.out; omega
              have := Nat.mul_le_mul_left 131113 h2
              have := hc.out
              omega
            by_cases hlt : k < l.length
            · obtain ⟨b, off, rfl, _, hin, hcell⟩ := EEv.at (hs.out.ext E) k hlt
              have hsn : l.take (k + 1) = l.take k ++ [l[k]] := List.take_succ_eq_append_getElem hlt
              have q := fun W => DLine_any l[k] W
              have hbad : evOk l[k] = false → printS c l = ([], 2) := fun h => by
                rw [hpr.out, if_pos]
                rw [← Bool.not_eq_true, List.all_eq_true]
                intro h9
                rw [h9 _ (List.getElem_mem hlt)] at h
                cases h
              have hgd : evOk l[k] = true → (l.take (k + 1)).all evOk = true := fun h => by rw [hsn, List.all_append, hall]; simp [h]
              have htl : tellL (l.take (k + 1)) = tellL (l.take k) ++ (evW l[k] ++ [10]) := by rw [hsn, tellL_snoc]
              have htw : twB (l.take (k + 1)) = twB (l.take k) ++ [⟨(evW l[k]).toArray⟩] := by unfold twB; rw [hsn, List.map_append]; rfl
              have hwl := fun h : evOk l[k] = true => evW_len h
              generalize l[k] = e at *
              obtain ⟨kd, cn, ad, pr, by_, tk, dr⟩ := e
              have x0 : wr.cell? ⟨b, off + k * 7, none⟩ = some (.int .i64 kd) := hcell 0 _ rfl
              have x1 : wr.cell? ⟨b, off + k * 7 + 1, none⟩ = some (.int .i64 cn) := hcell 1 _ rfl
              have x2 : wr.cell? ⟨b, off + k * 7 + 2, none⟩ = some (.string ⟨ad.toArray⟩) := hcell 2 _ rfl
              have x3 : wr.cell? ⟨b, off + k * 7 + 3, none⟩ = some (.string ⟨pr.toArray⟩) := hcell 3 _ rfl
              have x4 : wr.cell? ⟨b, off + k * 7 + 4, none⟩ = some (.string ⟨by_.toArray⟩) := hcell 4 _ rfl
              have x5 : wr.cell? ⟨b, off + k * 7 + 5, none⟩ = some (.int .i64 tk) := hcell 5 _ rfl
              have x6 : wr.cell? ⟨b, off + k * 7 + 6, none⟩ = some (.int .u32 (dr.toNat : Int)) := hcell 6 _ rfl
              simp only [evCs] at q
              unfold evT at q
              clear hcell hin
              have hkl : (twB (l.take k)).length = k := by rw [twB_len, List.length_take]; omega
              obtain ⟨va, vc, rfl⟩ := O.form
              rw [hkl]
              rw [hkl] at O
              cases hok : evOk ⟨kd, cn, ad, pr, by_, tk, dr⟩ with
              | false =>
                rw [if_neg (by rw [hok]; decide)] at q
                have hf := hbad hok
                clear hbad hgd htl htw hwl hok hsn hall O hk hsz hszb hkl
                replace q := hide q
                replace hf := hide hf
                replace E := hide E
                go_wp2_with fail
                refine (q.out _).mono ?_
                rintro e1 W3 ⟨rfl, he⟩
                have E3 := E.out.trans he
                clear q he
                replace E3 := hide E3
                go_wp2_with fail
                try go_ret2
                exact hR.out _ _ _ hf.out E3.out
              | true =>
                rw [if_pos hok] at q
                have hwl2 := hwl hok
                have hgd2 := hgd hok
                clear hbad hgd hwl hok hsn hall
                generalize evW ⟨kd, cn, ad, pr, by_, tk, dr⟩ = tw at *
                obtain ⟨sz2, hsz2⟩ : ∃ n : Nat, n = sz + tw.length := ⟨_, rfl⟩
                have w5 : IntKind.i64.wrap ((sz : Int) + (tw.length : Int)) = (sz2 : Int) := by rw [IntKind.wrap_i64]; omega
                have w6 : IntKind.i64.wrap ((sz2 : Int) + 1) = ((sz2 + 1 : Nat) : Int) := by rw [IntKind.wrap_i64]; omega
                have w7 : IntKind.i64.wrap ((k : Int) + 1) = ((k + 1 : Nat) : Int) := by rw [IntKind.wrap_i64]; have := hl6.out; omega
                have hkl2 := hide hkl
                have hts9 : (ByteArray.mk tw.toArray).size ≤ maxLen := by rw [ba_size]; unfold maxLen; omega
                replace hts9 := hide hts9
                clear hkl
                replace q := hide q
                replace E := hide E
                replace O := hide O
                replace hwl2 := hide hwl2
                replace hgd2 := hide hgd2
                replace htl := hide htl
                replace htw := hide htw
                replace hsz := hide hsz
                replace hszb := hide hszb
                replace hsz2 := hide hsz2
                replace hk := hide hk
                go_wp2_with fail
                refine (q.out _).mono ?_
                rintro e1 W3 ⟨rfl, he⟩
                have E3 := hide (E.out.trans he)
                have O3 := hide (O.out.ext he)
                have hz3 := E3.out.size
                clear he q x0 x1 x2 x3 x4 x5 x6 O
                go_wp2_with
                  (at_builtin
                   have hox := O3.out.alloc (Obj.cells #[.string ⟨tw.toArray⟩] 9)
                   refine wpList_push (E := EStr) rfl _ _ _ rfl okStr (by decide) (by decide) rfl hox (by rw [hkl2.out]; have := hl6.out; omega) (by simp; omega) rfl (y := ⟨tw.toArray⟩) (cs := [.string ⟨tw.toArray⟩]) ⟨rfl, hts9.out⟩ (str_new' _ _ _) ?_
                   intro v' w5' hown1 hg hat
                   replace hown1 := hide hown1)
                go_roundw
                case rel => exact ⟨k + 1, sz2 + 1, by go_num, by go_num, by omega, by rw [htl.out, hsz2.out, hsz.out]; simp; omega, by rw [htw.out]; exact hown1.out, (E3.out.alloc _).push (fun j hj => (O3.out.lt j hj).1) hg, hgd2.out⟩
                case measure => simp [intOf]; omega
            · obtain rfl : k = l.length := by omega
              rw [List.take_length] at hall hsz O
              have hpr2 := hpr.out
              rw [if_neg (by rw [hall]; decide)] at hpr2
              have hts : (textScr c l).length = sz := by rw [hsz]; simp [textScr, runW]; omega
              have htx : textScr c l = c ++ [114, 117, 110, 10] ++ tellL l := by simp [textScr, runW]
              rw [hts] at hpr2
              have hkl := twB_len l
              obtain ⟨va, vc, hv, hcv, hst⟩ := O.slc
              subst hv
              rw [hkl]
              rw [hkl] at hcv
              clear O hpr hts hk
              by_cases hx : 1048576 < sz
              · have b1 : decide ((1048576 : Int) < (sz : Int)) = true := decide_eq_true (by omega)
                rw [if_pos hx] at hpr2
                clear hall hsz hx hst htx hkl hcv hszb
                replace hpr2 := hide hpr2
                replace E := hide E
                go_wp2_with fail
                try go_ret2
                exact hR.out _ _ _ hpr2.out E.out
              · have b1 : decide ((1048576 : Int) < (sz : Int)) = false := decide_eq_false (by omega)
                rw [if_neg hx, htx] at hpr2
                have hTl : (c ++ [114, 117, 110, 10]).length = c.length + 4 := by simp
                have hcat : (ByteArray.mk c.toArray) ++ ⟨#[114, 117, 110, 10]⟩ = (⟨(c ++ [114, 117, 110, 10]).toArray⟩ : ByteArray) := by apply ByteArray.ext; simp
                have kc := Lib.run_convert_string_bytes (P := Tryz.prog) wr 9 65 5 ((ByteArray.mk c.toArray) ++ ⟨#[114, 117, 110, 10]⟩) Tryz.underlying9 Tryz.underlying65 Tryz.underlying5
                have z1 : ¬ 9223372036854775807 < c.length + 4 := by have := hc.out; omega
                have hTs : (ByteArray.mk c.toArray ++ ⟨#[114, 117, 110, 10]⟩).size = c.length + 4 := by rw [hcat, ba_size, hTl]
                have hcv := OwnB.conv (w := wr) (e := 5) ((ByteArray.mk c.toArray) ++ ⟨#[114, 117, 110, 10]⟩) (by rw [hTs]; unfold maxLen; omega)
                have hEc := ext_bytesWorld wr 5 ((ByteArray.mk c.toArray) ++ ⟨#[114, 117, 110, 10]⟩)
                have hdt : (ByteArray.mk c.toArray ++ ⟨#[114, 117, 110, 10]⟩).data.toList = c ++ [114, 117, 110, 10] := by rw [hcat]
                rw [hTs] at kc hcv
                rw [hdt] at hcv
                generalize hT0 : c ++ [114, 117, 110, 10] = T at *
                have hst2 : Sl EStr wr (· < wr.heap.size) va (twB l) := hst.mono fun _ h => h.2
                have hEw : Ext wr wr := Ext.refl wr
                have hgb : wr.heap.size ≤ wr.heap.size := Nat.le_refl _
                have hXb : sz ≤ 1048576 := by omega
                generalize grownCap wr (c.length + 4) 0 5 = cb at kc hcv
                generalize Lib.bytesWorld wr 5 ((ByteArray.mk c.toArray) ++ ⟨#[114, 117, 110, 10]⟩) = W4 at kc hcv hEc
                obtain ⟨gb, hgbe⟩ : ∃ gb, wr.heap.size = gb := ⟨_, rfl⟩
                rw [hgbe] at kc hcv hgb
                clear hst hx hcat hTs hdt hT0 hszb htx hEw hgb hall
                replace hst2 := hide hst2
                replace hpr2 := hide hpr2
                replace E := hide E
                replace hcv := hide hcv
                replace hEc := hide hEc
                replace hsz := hide hsz
                replace hgbe := hide hgbe
                replace hXb := hide hXb
                replace hTl := hide hTl
                replace hkl := hide hkl
                replace hcv := hide hcv
                replace hcv := hcv.out
                go_wp2_with fail
                clear kc
                go_loopw [13, 14] (fun v s14 wq => ∃ k : Nat, s14 = .int .i64 (k : Int) ∧ k ≤ l.length ∧ OwnB 5 wq gb v (T ++ tellL (l.take k)) ∧ Ext wr wq) (fun _ s14 _ => l.length - (intOf s14).toNat)
                case atStart => exact ⟨0, rfl, Nat.zero_le _, by simpa [tellL] using hcv.out, hEc.out⟩
                case round =>
                  clear hcv hEc
                  obtain ⟨k, rfl, hk, hown, E5⟩ := hrel
                  rename World => W5
                  have hgz : gb ≤ W5.heap.size := by rw [← hgbe.out]; exact E5.size
                  by_cases hlt : k < l.length
                  · obtain ⟨b, off, rfl, _, hp, hcell⟩ := flat_at (hst2.out.ext E5) k (by rw [hkl.out]; exact hlt)
                    have hsn : l.take (k + 1) = l.take k ++ [l[k]] := List.take_succ_eq_append_getElem hlt
                    have htl : tellL (l.take (k + 1)) = tellL (l.take k) ++ (evW l[k] ++ [10]) := by rw [hsn, tellL_snoc]
                    have htq : (twB l)[k]'(by rw [hkl.out]; exact hlt) = ⟨(evW l[k]).toArray⟩ := by simp [twB]
                    rw [htq] at hcell
                    have hlen : (T ++ tellL (l.take (k + 1))).length ≤ 1048576 := by
                      have h1 : tellL l = tellL (l.take (k + 1)) ++ tellL (l.drop (k + 1)) := by rw [tellL, tellL, tellL, ← List.flatMap_append, List.take_append_drop]
                      have h2 := hsz.out
                      rw [h1, List.length_append] at h2
                      have h3 := hXb.out
                      have h4 := hTl.out
                      rw [List.length_append]
                      omega
                    rw [htl] at hlen
                    have hnx : T ++ tellL (l.take (k + 1)) = (T ++ tellL (l.take k)) ++ evW l[k] ++ [10] := by rw [htl]; simp
                    generalize T ++ tellL (l.take k) = X at *
                    generalize evW l[k] = tw at *
                    have hXl : X.length + tw.length + 1 ≤ 1048576 := by
                      have h9 : (T ++ (tellL (l.take k) ++ (tw ++ [10]))).length = X.length + tw.length + 1 := by rw [← htl, hnx]; simp; omega
                      omega
                    have w7 : IntKind.i64.wrap ((k : Int) + 1) = ((k + 1 : Nat) : Int) := by rw [IntKind.wrap_i64]; have := hl6.out; omega
                    have hbn : ∀ (W : World) (j : Nat) (hj : j < [(10 : UInt8)].length), (W.alloc (.cells #[.int .u8 10] 5)).cell? ((⟨W.heap.size, 0, none⟩ : Addr).add j) = some (.int .u8 (([(10 : UInt8)][j].toNat : Nat) : Int)) := fun W => byte_new W 10 _
                    clear htl hsn htq hlen
                    replace hown := hide hown
                    replace E5 := hide E5
                    replace hnx := hide hnx
                    replace hXl := hide hXl
                    replace hbn := hide hbn
                    replace hp := hide hp
                    replace hgz := hide hgz
                    go_wp2_with first
                      | (at_builtin
                         refine wpList_appendBs rfl _ _ _ _ rfl okB8 Tryz.underlying9 okB8z rfl hown.out hgz.out tw rfl (by have := hXl.out; omega) ?_
                         intro v1 W6 hown1 hg1
                         replace hown1 := hide hown1)
                      | (at_builtin
                         have E6 := E5.out.push (fun j hj => by rw [hgbe.out]; exact (hown.out.lt j hj).1) hg1
                         have hz6 : gb ≤ W6.heap.size := by rw [← hgbe.out]; exact E6.size
                         replace E6 := hide E6
                         have hox := hown1.out.alloc (Obj.cells #[.int .u8 10] 5)
                         refine wpList_appendB rfl _ _ _ rfl okB8 okB8z rfl hox (by simp; omega) [10] rfl (by have := hXl.out; simp; omega) (hbn.out _) ?_
                         intro v2 W7 hown2 hg2 hat2
                         replace hown2 := hide hown2)
                    go_roundw
                    case rel => exact ⟨k + 1, by go_num, by omega, by rw [hnx.out]; exact hown2.out, (E6.out.alloc _).push (fun j hj => by rw [hgbe.out]; exact (hown1.out.lt j hj).1) hg2⟩
                    case measure => simp [intOf]; omega
                  · obtain rfl : k = l.length := by omega
                    rw [List.take_length] at hown
                    have kd := run_stringB (P := Tryz.prog) (src := 65) (dst := 9) Tryz.underlying65 Tryz.underlying5 Tryz.underlying9 hown
                    have E6 := hide (E.out.trans E5)
                    clear hown E5
                    go_wp2_with fail
                    try go_ret2
                    exact hR.out _ _ _ hpr2.out E6.out
end
section
open Go.RowKit
set_option linter.unusedVariables false
set_option linter.unusedSimpArgs false
/-- What is left of the variables behind the guard. -/
structure PS2 (w W : World) (p k cf : Nat) (v : Value) (out : List EvS) : Prop where
  ext : Ext w W
  at_ : Blk W (p + 2) 3 #[.int .i64 (k : Int)]
  cfb : Blk W (p + 3) 3 #[.int .i64 (cf : Int)]
  ob : Blk W (p + 4) 22 #[v]
  own : Own EEv 31 W (p + 6) v out
theorem PS.two {w W W' : World} {p m k cf : Nat} {L : List (List UInt8)} {v : Value} {out : List EvS} (h : PS w W p m L k cf v out) (hb : But (p + 5) W W') : PS2 w W' p k cf v out :=
 have h1 := h.lo
 ⟨But.ext h.ext hb (by omega), h.at_.but hb (by omega), h.cfb.but hb (by omega), h.ob.but hb (by omega), h.own.kept hb.size fun b h1 h2 => hb.block b h2 (by omega)⟩
theorem parse_mem (w W2 : World) (L : List (List UInt8)) (m d : Nat) (E : Ext w W2) (hL : L.length = m + 1) (hm : m ≤ 1048576) (hb : w.heap.size < W2.heap.size) (hc : ∀ (j : Nat) (hj : j < L.length), W2.cell? ⟨w.heap.size, j, none⟩ = some (.string ⟨L[j].toArray⟩)) :
  ∃ W3 : World, (((((W2.alloc (Obj.cells #[.slice (some ⟨w.heap.size, 0, none⟩) (m + 1) d] 63)).alloc (Obj.cells #[.int .i64 (m : Int)] 3)).alloc (Obj.cells #[.int .i64 0] 3)).alloc (Obj.cells #[.int .i64 0] 3)).alloc (Obj.cells #[.slice none 0 0] 22)) = W3 ∧ W3.heap.size = W2.heap.size + 5 ∧ Ext w W3 ∧ PS w (W3.alloc (Obj.cells #[.int .i64 0] 23)) W2.heap.size m L 0 0 (.slice none 0 0) [] := by
 refine ⟨_, rfl, ?_⟩
 have z0 : W2.heap.size = W2.heap.size + 0 := rfl
 have a0 := Blk.new W2 63 #[.slice (some ⟨w.heap.size, 0, none⟩) (m + 1) d]
 have e0 := (Ext.refl W2).alloc (Obj.cells #[.slice (some ⟨w.heap.size, 0, none⟩) (m + 1) d] 63)
 have z1 : (W2.alloc (Obj.cells #[.slice (some ⟨w.heap.size, 0, none⟩) (m + 1) d] 63)).heap.size = W2.heap.size + 1 := by simp
 generalize W2.alloc (Obj.cells #[.slice (some ⟨w.heap.size, 0, none⟩) (m + 1) d] 63) = V1 at *
 have a1 := Blk.new V1 3 #[.int .i64 (m : Int)]
 have e1 := e0.alloc (Obj.cells #[.int .i64 (m : Int)] 3)
 replace a0 := a0.alloc (Obj.cells #[.int .i64 (m : Int)] 3)
 have z2 : (V1.alloc (Obj.cells #[.int .i64 (m : Int)] 3)).heap.size = W2.heap.size + 2 := by simp [z1]
 rw [z1] at a1
 generalize V1.alloc (Obj.cells #[.int .i64 (m : Int)] 3) = V2 at *
 have a2 := Blk.new V2 3 #[.int .i64 0]
 have e2 := e1.alloc (Obj.cells #[.int .i64 0] 3)
 replace a0 := a0.alloc (Obj.cells #[.int .i64 0] 3)
 replace a1 := a1.alloc (Obj.cells #[.int .i64 0] 3)
 have z3 : (V2.alloc (Obj.cells #[.int .i64 0] 3)).heap.size = W2.heap.size + 3 := by simp [z2]
 rw [z2] at a2
 generalize V2.alloc (Obj.cells #[.int .i64 0] 3) = V3 at *
 have a3 := Blk.new V3 3 #[.int .i64 0]
 have e3 := e2.alloc (Obj.cells #[.int .i64 0] 3)
 replace a0 := a0.alloc (Obj.cells #[.int .i64 0] 3)
 replace a1 := a1.alloc (Obj.cells #[.int .i64 0] 3)
 replace a2 := a2.alloc (Obj.cells #[.int .i64 0] 3)
 have z4 : (V3.alloc (Obj.cells #[.int .i64 0] 3)).heap.size = W2.heap.size + 4 := by simp [z3]
 rw [z3] at a3
 generalize V3.alloc (Obj.cells #[.int .i64 0] 3) = V4 at *
 have a4 := Blk.new V4 22 #[.slice none 0 0]
 have e4 := e3.alloc (Obj.cells #[.slice none 0 0] 22)
 replace a0 := a0.alloc (Obj.cells #[.slice none 0 0] 22)
 replace a1 := a1.alloc (Obj.cells #[.slice none 0 0] 22)
 replace a2 := a2.alloc (Obj.cells #[.slice none 0 0] 22)
 replace a3 := a3.alloc (Obj.cells #[.slice none 0 0] 22)
 have z5 : (V4.alloc (Obj.cells #[.slice none 0 0] 22)).heap.size = W2.heap.size + 5 := by simp [z4]
 rw [z4] at a4
 generalize V4.alloc (Obj.cells #[.slice none 0 0] 22) = V5 at *
 have a5 := Blk.new V5 23 #[.int .i64 0]
 have e5 := e4.alloc (Obj.cells #[.int .i64 0] 23)
 replace a0 := a0.alloc (Obj.cells #[.int .i64 0] 23)
 replace a1 := a1.alloc (Obj.cells #[.int .i64 0] 23)
 replace a2 := a2.alloc (Obj.cells #[.int .i64 0] 23)
 replace a3 := a3.alloc (Obj.cells #[.int .i64 0] 23)
 replace a4 := a4.alloc (Obj.cells #[.int .i64 0] 23)
 rw [z5] at a5
 refine ⟨z5, E.trans e4, ⟨by omega, by simp [z5], E.trans e5, hL, hm, ⟨w.heap.size, d, by rw [hL]; exact a0, hb, fun j hj => e5.cell (hc j hj)⟩, a1, a2, a3, a4, a5, Own.nil⟩⟩
/-- What script.Parse answers. -/
def ParP (s : List UInt8) (w : World) (e : Ending) (w' : World) : Prop :=
  ((∃ cfg evs v, parseS s = (cfg, evs, 0, 0) ∧ e = .returned (.tuple #[.string ⟨cfg.toArray⟩, v, .nilIface]) ∧ Own EEv 31 w' w.heap.size v evs) ∨
   (∃ (c : Int) (k f : Nat), c ≠ 0 ∧ parseS s = ([], [], c, k) ∧ e = .returned (.tuple #[.string ⟨#[]⟩, .slice none 0 0, .iface 44 (.pointer (some ⟨f, 0, none⟩))]) ∧ w.heap.size ≤ f ∧ Blk w' f 48 #[.int .i64 c, .int .i64 (k : Int)])) ∧ Ext w w'
set_option maxRecDepth 20000 in
set_option maxHeartbeats 4000000 in
theorem SParse_any (s : List UInt8) (hs : s.length ≤ 1048576) (w : World) (hT : Tab w) (hV : Vars w) (hD : Deb w) : Calls Tryz.prog 15 #[.string ⟨s.toArray⟩] w (ParP s w) := by
 have hmf : ∀ (fn : Fn) (first cap : Array Value) (w : World), (Instr.makeFunc fn first cap).run Tryz.prog w = .ok (.func fn first cap) w := fun _ _ _ _ => rfl
 have hps := parse_rest hs
 have hok : ∀ W cfg evs v, parseS s = (cfg, evs, 0, 0) → Own EEv 31 W w.heap.size v evs → Ext w W → ParP s w (.returned (.tuple #[.string ⟨cfg.toArray⟩, v, .nilIface])) W := fun W cfg evs v h1 h2 h3 => ⟨.inl ⟨cfg, evs, v, h1, rfl, h2⟩, h3⟩
 have hno : ∀ W c k f, c ≠ 0 → parseS s = ([], [], c, k) → w.heap.size ≤ f → Blk W f 48 #[.int .i64 c, .int .i64 (k : Int)] → Ext w W → ParP s w (.returned (.tuple #[.string ⟨#[]⟩, .slice none 0 0, .iface 44 (.pointer (some ⟨f, 0, none⟩))])) W := fun W c k f h1 h2 h3 h4 h5 => ⟨.inr ⟨c, k, f, h1, h2, rfl, h3, h4⟩, h5⟩
 generalize ParP s w = Post at *
 rw [hps] at hok hno
 have hsum := spl_size s
 have hwl : ∀ y ∈ spl 10 s, y.length ≤ 1048576 := fun y hy => Nat.le_trans (spl_len 10 s y hy) hs
 have hcnt := spl_cnt 10 s.length s (Nat.le_refl _)
 have qs := Split_any s 10 w hV hs
 obtain ⟨m, hm⟩ : ∃ m, (spl 10 s).length = m + 1 := ⟨(spl 10 s).length - 1, by have := List.length_pos_iff.2 (spl_ne 10 s); omega⟩
 have hq1 := fun W0 p h0 => Parse1_any s hs w W0 p m (spl 10 s) hT hV hD h0 hwl hsum
 have hm2 : m ≤ 1048576 := by omega
 have b1 : decide ((1048576 : Int) < (s.length : Int)) = false := decide_eq_false (by omega)
 generalize spl 10 s = L at *
 clear hT hV hD hwl hcnt hsum hps
 have w1 : IntKind.i64.wrap ((L.length : Int) - 1) = (m : Int) := by rw [IntKind.wrap_i64]; omega
 replace qs := hide qs
 replace hok := hide hok
 replace hno := hide hno
 replace hq1 := hide hq1
 replace hs := hide hs
 replace hm2 := hide hm2
 go_enter Tryz.func15, Tryz.ntmps15
 go_wp2_with fail
 refine qs.out.mono ?_
 rintro e W2 ⟨d, hd, rfl, he, hc⟩
 rw [hm] at hd ⊢
 clear w1
 have w2 : wrap64 (m : Int) = (m : Int) := wrap64_id (m : Int) (by omega) (by have := hm2.out; omega)
 have hb : w.heap.size < W2.heap.size := World.block_lt_of_cell? W2 _ (hc 0 (by omega))
 obtain ⟨W3, hW3, hz, E3, P3⟩ := parse_mem w W2 L m d he hm hm2.out hb hc
 have q1 := hq1.out _ _ P3
 have q := Guard_any 36 _ (fun _ _ => rfl) W3 (fun W => ∃ k cf v out, PS w W W2.heap.size m L k cf v out ∧ restC s 0 0 L = (s.take cf, out, 0, 0) ∧ cf ≤ s.length) (fun c W => ∃ k cf v out, PS w W W2.heap.size m L k cf v out ∧ restC s 0 0 L = ([], [], c, k) ∧ c ≠ 0)
  (q1.mono fun e W h => by
   rcases h with ⟨k, cf, v, out, h1, h2⟩ | ⟨c, k, cf, v, out, h1, h2⟩
   ·exact .inl ⟨h1, k, cf, v, out, h2⟩
   ·exact .inr ⟨c, h1, k, cf, v, out, h2⟩)
  (fun W ⟨k, cf, v, out, h, _⟩ => by rw [hz]; exact h.pe) (fun c W ⟨k, cf, v, out, h, _⟩ => by rw [hz]; exact h.pe)
  (fun e W => (∃ k cf v out, e = .returned (.int .i64 0) ∧ PS2 w W W2.heap.size k cf v out ∧ restC s 0 0 L = (s.take cf, out, 0, 0) ∧ cf ≤ s.length) ∨ (∃ (c : Int) (k cf : Nat) (v : Value) (out : List EvS), e = .returned (.int .i64 c) ∧ PS2 w W W2.heap.size k cf v out ∧ restC s 0 0 L = ([], [], c, k) ∧ c ≠ 0))
  (fun W W' ⟨k, cf, v, out, h, h2⟩ hb => .inl ⟨k, cf, v, out, rfl, h.two (hz ▸ hb), h2⟩) (fun c W W' ⟨k, cf, v, out, h, h2⟩ hb => .inr ⟨c, k, cf, v, out, rfl, h.two (hz ▸ hb), h2⟩)
 have hp : w.heap.size ≤ W2.heap.size := by omega
 clear q1 hq1 P3 hc he hd hb
 replace q := hide q
 replace E3 := hide E3
 replace hz := hide hz
 go_wp2_with fail
 refine q.out.mono ?_
 rintro e W4 (⟨k, cf, v, out, rfl, S, hr, hcf⟩ | ⟨c, k, cf, v, out, rfl, S, hr, hc⟩)
 ·have c0 : W4.cell? ⟨W2.heap.size + 3, 0, none⟩ = some (.int .i64 (cf : Int)) := S.cfb.cell 0
  have c1 : W4.cell? ⟨W2.heap.size + 4, 0, none⟩ = some v := S.ob.cell 0
  have hfin := fun n => hok.out (W4.drewN n) _ out v hr ((S.own.low (by omega)).drewN n) (S.ext.drewN n)
  have hx : (ByteArray.mk s.toArray).extract 0 cf = ⟨(s.take cf).toArray⟩ := by rw [ba_extract]; simp
  obtain ⟨va, vc, rfl⟩ := S.own.form
  clear S hr hok hno q
  generalize s.take cf = tk at *
  replace hfin := hide hfin
  go_upto_region 10 with fail
  go_quiet (fail)
  go_wp2
  exact bodyPost_ret (v := .tuple #[.string ⟨tk.toArray⟩, .slice va out.length vc, .nilIface]) (by simp [results, Tryz.results15, go_sem]) rfl (hfin.out _)
 ·have hFB := Blk.new W4 48 #[.int .i64 c, .int .i64 (k : Int)]
  have E5 := S.ext.alloc (Obj.cells #[.int .i64 c, .int .i64 (k : Int)] 48)
  have c0 : W4.cell? ⟨W2.heap.size + 2, 0, none⟩ = some (.int .i64 (k : Int)) := S.at_.cell 0
  have hsz := S.ext.size
  have hfin := hno.out _ c k W4.heap.size hc hr hsz hFB.drew E5.drew
  have e1 : (c == 0) = false := beq_eq_false_iff_ne.2 hc
  have e2 : (c != 0) = true := by simpa using hc
  have e3 : decide (c = 0) = false := decide_eq_false hc
  clear S hr hok hno q hFB E5 hsz hc
  replace hfin := hide hfin
  go_upto_region 9 with fail
  go_region
  all_goals go_wp2
  exact bodyPost_ret (v := .tuple #[.string ⟨#[]⟩, .slice none 0 0, .iface 44 (.pointer (some ⟨W4.heap.size, 0, none⟩))]) (by simp [results, Tryz.results15, go_sem]) rfl hfin.out
end
section
section
open Go.RowKit Go.Extern.Stop Go.Stop Go.Extern
set_option linter.unusedVariables false
/-- What the library's variable errors.errorType holds. -/
def ErT (w : World) : Prop := w.cell? ⟨0, 0, none⟩ = some (.iface 113 (.agg #[.pointer (some ⟨Tryz.prog.globals.size, 39, none⟩)]))
theorem ErT.ext {w w' : World} (h : ErT w) (he : Ext w w') : ErT w' := he.cell h
end
end
section
open Go.RowKit
set_option linter.unusedVariables false
set_option linter.unusedSimpArgs false
def wkC : List UInt8 := [97, 115, 32, 49, 10]
def wkL : List EvS := [⟨6, 0, [], [], [], 5, 0⟩, ⟨4, 1, [], [], [0, 255], 0, 0⟩, ⟨10, 0, [], [], [], 0, 0⟩]
def wkT : List UInt8 := [97, 115, 32, 49, 10, 114, 117, 110, 10, 116, 105, 99, 107, 32, 53, 10, 100, 97, 116, 97, 32, 49, 32, 48, 48, 102, 102, 10, 100, 114, 97, 105, 110, 10]
theorem wk_text : textScr wkC wkL = wkT := by decide +kernel
theorem wk_ok : cfgOk wkC = true ∧ wkL.all evOk = true := by decide +kernel
theorem wk_parse : parseS wkT = (wkC, wkL, 0, 0) := by
 rw [← wk_text]
 exact parse_print wk_ok.1 (by decide) wk_ok.2 (by rw [wk_text]; decide)
theorem wk_print : printS wkC wkL = (wkT, 0) := by
 unfold printS
 rw [if_neg (by rw [wk_ok.1]; decide), if_neg (by decide), if_neg (by rw [wk_ok.2]; decide), wk_text, if_neg (by decide)]
set_option maxRecDepth 20000 in
set_option maxHeartbeats 4000000 in
theorem Works35_any (w : World) (hT : Tab w) (hV : Vars w) (hD : Deb w) : Calls Tryz.prog 11 #[] w fun e w' => e = .returned (.bool true) ∧ Ext w w' := by
 have q1 := SParse_any wkT (by decide) w hT hV hD
 unfold ParP at q1
 rw [wk_parse] at q1
 have q2 := fun W a cp (h : Ext w W) hs => SPrint_any wkC (by decide) wkL a cp (by decide) W (hT.ext h) (hV.ext h) (hD.ext h) hs
 rw [wk_print] at q2
 clear hT hV hD
 unfold wkT at q1 q2
 unfold wkC at q1 q2
 replace q1 := hide q1
 replace q2 := hide q2
 go_enter Tryz.func11, Tryz.ntmps11
 go_wp2_with fail
 refine q1.out.mono ?_
 rintro e W1 ⟨⟨cfg, evs, v, h1, rfl, O⟩ | ⟨c, k, f, h0, h1, _⟩, E⟩
 ·injection h1 with h1 h2
  injection h2 with h2 _
  subst h1 h2
  obtain ⟨a, cp, rfl, hsl⟩ := O.sl
  have q := q2.out W1 a cp E (hsl.mono fun b h => h.2)
  obtain ⟨b, off, rfl, _, _, hc0⟩ := EEv.at hsl 0 (by decide)
  obtain ⟨b', off', hbb, _, _, hc1⟩ := EEv.at hsl 1 (by decide)
  injection hbb with hbb
  injection hbb with hbb hoo
  subst hbb hoo
  have x0 : W1.cell? ⟨b, off + 5, none⟩ = some (.int .i64 5) := hc0 5 _ rfl
  have x1 : W1.cell? ⟨b, off + 7 + 4, none⟩ = some (.string ⟨#[0, 255]⟩) := hc1 4 _ rfl
  clear hc0 hc1 hsl O q1 q2
  replace q := hide q
  replace E := hide E
  simp only [show wkL.length = 3 from rfl] at *
  go_wp2_with fail
  refine q.out.mono ?_
  rintro e W2 ⟨rfl, E2⟩
  have y0 := E2.cell x0
  have y1 := E2.cell x1
  have E3 := E.out.trans E2
  clear x0 x1 E2 E q
  replace E3 := hide E3
  go_wp2
  go_ret
  exact ⟨rfl, E3.out⟩
 ·injection h1 with _ h1
  injection h1 with _ h1
  injection h1 with h1 _
  exact absurd h1.symm h0
end
section
open Go.RowKit Go.ChangeShapes Go.WideShapes
set_option linter.unusedVariables false
set_option linter.unusedSimpArgs false
theorem slice_cap {P : Program} {T e : TypeId} (h : P.underlying T = some (.slice e)) {H : Type} {enc : TypeId × Value → H} {W : World} {fuel : Nat} {cs : List Value} {x : DataW H × List MemPlace} {a : Option Addr} {n c : Nat}
  (hx : DataW.trod enc P W 0 (fun _ => true) true fuel T cs = some x) (hcs : cs = [.slice a n c]) : c ≤ 9223372036854775807 := by
 rcases Go.Deep.open_slice h hx with ⟨rfl, _⟩ | ⟨a', len, cap, m, k, D, Pl, rfl, _, _, hm, _⟩
 ·injection hcs with h1 _
  injection h1 with _ _ h2
  omega
 ·injection hcs with h1 _
  injection h1 with _ _ h2
  unfold maxLen at hm
  omega
theorem slice_headE (a : Option Addr) (n c k : Nat) (hk : k ≤ n) (hn : n ≤ c) (hc : c ≤ 9223372036854775807) (W : World) : (Instr.sliceAt 22 (.slice a n c) none (some (.int .i64 (k : Int))) none).run Tryz.prog W = .ok (.slice a k c) W := by
 go_simp
 first | omega | (intro h; omega) | skip
set_option maxRecDepth 100000 in
theorem opens_EEv : Opens Tryz.prog 31 EEv :=
 opens_of (opens_struct Tryz.underlying31 (by kernel_rfl) (opensF_cons rfl rfl opens_int (opensF_cons rfl rfl opens_int (opensF_cons rfl rfl opens_text (opensF_cons rfl rfl opens_text (opensF_cons rfl rfl opens_text (opensF_cons rfl rfl opens_int (opensF_last rfl rfl opens_u32_ rfl)))))))) rfl
  (fun p => (⟨p.1, p.2.1, p.2.2.1, p.2.2.2.1, p.2.2.2.2.1, p.2.2.2.2.2.1, p.2.2.2.2.2.2⟩ : EvS)) (fun {w S x cs} h => by
   obtain ⟨c, d, rfl, ⟨rfl, h1⟩, c, d, rfl, ⟨rfl, h2⟩, c, d, rfl, ⟨rfl, h3⟩, c, d, rfl, ⟨rfl, h4⟩, c, d, rfl, ⟨rfl, h5⟩, c, d, rfl, ⟨rfl, h6⟩, ⟨rfl, _⟩⟩ := h
   exact ⟨rfl, ⟨h1, h2, h3, h4, h5, h6⟩⟩)
set_option maxRecDepth 20000 in
set_option maxHeartbeats 4000000 in
theorem ScriptPrints_walk (c : List UInt8) (a : Option Addr) (cp : Nat) (l : List EvS) (w : World) (hc : c.length ≤ 1048576) (hl : l.length ≤ 16777216) (h1 : l.length ≤ cp) (h2 : cp ≤ 9223372036854775807) (hs : Sl EEv w (· < w.heap.size) a l) (hT : Tab w) (hD : Deb w) (hV : Vars w) :
  Calls Tryz.prog 3 #[.string ⟨c.toArray⟩, .slice a l.length cp] w fun e w' => e = .returned (.bool true) ∧ Ext w w' := by
 have hm1 : (if l.length ≤ 520 then l.length else 520) = (l.take 520).length := by rw [List.length_take]; split <;> omega
 have k1 := fun W => slice_headE a l.length cp (l.take 520).length (by rw [List.length_take]; omega) h1 h2 W
 have hA := hs.take 520
 have hA9 : (l.take 520).length ≤ 520 := by rw [List.length_take]; omega
 have n1 : min (l.length : Int) 520 = ((l.take 520).length : Int) := by rw [List.length_take]; omega
 have n3 : min l.length 520 = (l.take 520).length := by rw [List.length_take]; omega
 generalize l.take 520 = A at *
 generalize l.length = n at *
 have q1 := SPrint_any c hc A a cp (by omega) w hT hV hD hA
 have q2 := fun W (h : Ext w W) => DPrint_any c hc A a cp (by omega) W (hA.ext h)
 have qw := fun W (h : Ext w W) => Works35_any W (hT.ext h) (hV.ext h) (hD.ext h)
 generalize printS c A = R at *
 obtain ⟨R1, R2⟩ := R
 dsimp only at q1 q2
 generalize A.length = nA at *
 clear hT hD hV hA hs hA9 hl hc
 replace q1 := hide q1
 replace q2 := hide q2
 replace qw := hide qw
 replace h1 := hide h1
 replace h2 := hide h2
 go_enter Tryz.func3, Tryz.ntmps3
 go_wp2_with fail
 refine q1.out.mono ?_
 rintro e W1 ⟨rfl, E1⟩
 replace E1 := hide E1
 go_wp2_with fail
 refine (q2.out _ E1.out).mono ?_
 rintro e W2 ⟨rfl, he⟩
 have E2 := hide (E1.out.trans he)
 clear he
 go_wp2_with fail
 refine (qw.out _ E2.out).mono ?_
 rintro e W3 ⟨rfl, he⟩
 have E3 := hide (E2.out.trans he)
 clear he
 go_wp2
 try go_ret
 exact ⟨rfl, E3.out⟩
end
end Go.Proofs.YtkinghadgmbhbaaGreatDoor
