/- Chapter 35, plain: a line that is none among events' lines (ScriptTold). Chapter 35, walks: a script read of its text (script.Parse). Chapter 35, walks: a script of its text (script.Parse). Chapter 35, plain: 'run' stands alone in a line of a configuration. Chapter 35, walks: a script's text (script.Print). errors.Is and errors.As at a fault of the program (a pointer to an api.Fault), by their contracts. Chapter 35, walks: the example of the law (works). The law ScriptTold, walked. Arguments of chapter 35, opened: events by small numbers. -/
import Derived.Lib.SplitLaws
import Derived.Lib.ParseIntB
import Derived.Lib.ParseIntBCases
import Derived.Lib.ItoaNum
import Derived.Lib.Join
import Derived.WalkKit
import Derived.Below
import Derived.Outline
import Derived.LoopTactic
import Derived.Laws.OwnMore
import Derived.Deep.AppendLies
import Derived.Deep.Draws
import Derived.Lib.Hide
import Derived.BigQuiet
import Derived.Deep.QuietTactic
import Derived.WalkSpells
import Derived.WalkLawsBesides
import Derived.Deep.RegionHeld3
import Derived.Deep.DrawnRows
import Derived.Deep.RegionLaw
import Derived.Lib.ConvBytes
import Derived.Lib.Bytealg
import Derived.Lib.Small
import Derived.Test.YtkinghadgmbhbaaGreatDoorRows
import Derived.ProofKit
import Derived.Deep.Slices
import Derived.Shelf.GgClosure.StringsRunes
import Derived.Test.YtkinghadgmbhbaaGreatDoorProg
import Derived.Test.YtkinghadgmbhbaaGreatDoorShelf
import Derived.Shelf.RegionOpenPlain
import Derived.Laws.StructEq
import Derived.Lib.QuietBelow
import Derived.Test.YtkinghadgmbhbaaGreatDoorShelf2
import Derived.Lib.UnsafeStr
import Derived.Lib.ItoaMem
import Derived.Lib.ItoaLen
import Derived.Shelf.Strings.Builder1
import Derived.Orders
import Derived.StillTail
import Derived.Defers
import Derived.Recover
import Derived.Laws.EntriesVeiled
import Derived.Deep.DeepCutAuto
import Derived.LaidEql
import Derived.Stop.Asserts
import Derived.RowKitTokens
import Derived.Deep.MidRow
import Derived.OpenShut
import Derived.Test.YtkinghadgmbhbaaGreatDoorPB01
import Derived.Test.YtkinghadgmbhbaaGreatDoorPB02
import Derived.Test.YtkinghadgmbhbaaGreatDoorPB03
import Derived.Test.YtkinghadgmbhbaaGreatDoorPB04
namespace Go.Proofs.YtkinghadgmbhbaaGreatDoor
section
open Go.RowKit
set_option linter.unusedVariables false
set_option linter.unusedSimpArgs false
def preT : List UInt8 := [97, 115, 32, 49, 10, 114, 117, 110, 10]
def tockT : List UInt8 := [116, 111, 99, 107, 32, 57]
/-- The text, as it is made line by line. -/
def toldU (E : List EvS) (k : Nat) : Nat → List UInt8
 | 0 => preT
 | i + 1 => (if i = k then toldU E k i ++ (tockT ++ [10]) else toldU E k i) ++ (match E[i]? with | some e => evW e ++ [10] | none => [])
theorem tellL_app (a b : List EvS) : tellL (a ++ b) = tellL a ++ tellL b := by simp [tellL]
theorem tellL_one (e : EvS) : tellL [e] = evW e ++ [10] := by simp [tellL]
theorem toldU_lo (E : List EvS) (k : Nat) : ∀ i, i ≤ k → i ≤ E.length → toldU E k i = preT ++ tellL (E.take i)
  | 0, _, _ => by simp [toldU, tellL]
  | i + 1, h, h2 => by
    have ih := toldU_lo E k i (by omega) (by omega)
    have hi : i < E.length := by omega
    rw [toldU, if_neg (by omega), ih, List.getElem?_eq_getElem hi, List.take_succ_eq_append_getElem hi, tellL_app, tellL_one]
    simp
theorem toldU_hi (E : List EvS) (k : Nat) (hk : k ≤ E.length) : ∀ j, k + j ≤ E.length → toldU E k (k + j + 1) = preT ++ tellL (E.take k) ++ (tockT ++ [10]) ++ tellL ((E.drop k).take (j + 1))
  | 0, h => by
    rw [Nat.add_zero, toldU, if_pos rfl, toldU_lo E k k (Nat.le_refl _) hk]
    by_cases h3 : k < E.length
    · have h4 : (E.drop k).take (0 + 1) = [E[k]] := by rw [List.drop_eq_getElem_cons h3]; rfl
      rw [List.getElem?_eq_getElem h3, h4, tellL_one]
    · rw [List.getElem?_eq_none (by omega), List.drop_eq_nil_of_le (by omega)]
      simp [tellL]
  | j + 1, h => by
    have ih := toldU_hi E k hk j (by omega)
    have e1 : k + (j + 1) + 1 = (k + j + 1) + 1 := by omega
    rw [e1, toldU, if_neg (by omega), ih]
    by_cases h3 : k + j + 1 < E.length
    · have h4 : j + 1 < (E.drop k).length := by rw [List.length_drop]; omega
      rw [List.getElem?_eq_getElem h3, List.take_succ_eq_append_getElem h4, tellL_app (List.take (j + 1) (List.drop k E))]
      have h5 : (E.drop k)[j + 1] = E[k + j + 1] := by rw [List.getElem_drop]; rfl
      rw [h5, tellL_one]
      simp
    · rw [List.getElem?_eq_none (by omega), List.take_of_length_le (i := j + 1) (by rw [List.length_drop]; omega), List.take_of_length_le (i := j + 1 + 1) (by rw [List.length_drop]; omega)]
      simp
theorem toldU_end (E : List EvS) (k : Nat) (hk : k ≤ E.length) : toldU E k (E.length + 1) = preT ++ (tellL (E.take k) ++ (tockT ++ 10 :: tellL (E.drop k))) := by
 have := toldU_hi E k hk (E.length - k) (by omega)
 rw [show k + (E.length - k) + 1 = E.length + 1 by omega] at this
 rw [this, List.take_of_length_le (i := E.length - k + 1) (by rw [List.length_drop]; omega)]
 simp
theorem spl_tellt : ∀ (l : List EvS) (t : List UInt8), l.all evOk = true → spl 10 (tellL l ++ t) = l.map evW ++ spl 10 t
  | [], t, _ => by simp [tellL]
  | e :: r, t, h => by
    simp only [List.all_cons, Bool.and_eq_true] at h
    have ih := spl_tellt r t h.2
    have e1 : tellL (e :: r) ++ t = evW e ++ 10 :: (tellL r ++ t) := by simp [tellL]
    rw [e1, spl_at (evW_no h.1), ih]
    rfl
theorem restE_evs (s : List UInt8) (cf : Nat) : ∀ (l : List EvS) (at_ : Nat) (out : List EvS) (y : List UInt8) (r : List (List UInt8)), l.all evOk = true → out.length + l.length ≤ 512 → restE s cf at_ out (l.map evW ++ y :: r) = restE s cf (at_ + l.length) (out ++ l) (y :: r)
  | [], at_, out, y, r, _, _ => by simp
  | e :: l, at_, out, y, r, h, hl => by
    simp only [List.all_cons, Bool.and_eq_true] at h
    simp only [List.length_cons] at hl
    have ih := restE_evs s cf l (at_ + 1) (out ++ [e]) y r h.2 (by simp; omega)
    obtain ⟨y2, r2, hy⟩ : ∃ y2 r2, l.map evW ++ y :: r = y2 :: r2 := by cases l <;> exact ⟨_, _, rfl⟩
    rw [List.map_cons, List.cons_append, hy, restE_on s cf at_ (evO_ev h.1) (by omega), ← hy, ih]
    simp only [List.length_cons, List.append_assoc, List.singleton_append]
    congr 1
    omega
theorem tock_no : evO tockT = none := by
 unfold evO
 rw [show spl 32 tockT = [[116, 111, 99, 107], [57]] by decide +kernel]
 simp [readE]
theorem told_parse (E : List EvS) (k : Nat) (hk : k ≤ E.length) (hE : E.all evOk = true) (hl : E.length ≤ 30) (hs : (toldU E k (E.length + 1)).length ≤ 1048576) : parseS (toldU E k (E.length + 1)) = ([], [], 9, 2 + k) := by
 rw [parse_rest hs, toldU_end E k hk]
 have hall : (E.take k).all evOk = true := by
  rw [List.all_eq_true] at hE ⊢
  exact fun x hx => hE x (List.mem_of_mem_take hx)
 obtain ⟨y, r, hy⟩ := List.exists_cons_of_ne_nil (spl_ne 10 (tellL (E.drop k)))
 have h1 : spl 10 (preT ++ (tellL (E.take k) ++ (tockT ++ 10 :: tellL (E.drop k)))) = [97, 115, 32, 49] :: runW :: ((E.take k).map evW ++ tockT :: y :: r) := by
  have e1 : ∀ t : List UInt8, preT ++ t = [97, 115, 32, 49] ++ 10 :: (runW ++ 10 :: t) := fun t => rfl
  rw [e1, spl_at (by decide), spl_at (by decide), spl_tellt _ _ hall, spl_at (by decide), hy]
 rw [h1]
 obtain ⟨y2, r2, hy2⟩ : ∃ y2 r2, (E.take k).map evW ++ tockT :: y :: r = y2 :: r2 := by cases (E.take k).map evW <;> exact ⟨_, _, rfl⟩
 rw [restC_on _ _ _ (by decide), hy2, restC_run _ _ _ rfl, ← hy2, restE_evs _ _ _ _ _ _ _ hall (by rw [List.length_take]; simp; omega), restE_bad _ _ _ _ tock_no]
 have : (E.take k).length = k := by rw [List.length_take]; omega
 rw [this]
theorem evW_of (d : DoS) : (evW (ofS d)).length ≤ 200 := by
 have i3 := wordB_len (d.bytes.take 40)
 have hb : (d.bytes.take 40).length ≤ 40 := by rw [List.length_take]; omega
 have i4 := addrT_len (a := if d.six = true then d.bs else d.bs.take 4)
 have i5 : (digS 10 d.draw.toNat).length ≤ 10 := dig10 (by have := d.draw.toNat_lt; omega)
 have i6 : (digS 10 (conS d)).length ≤ 10 := dig10 (by unfold conS; omega)
 have i7 : (digS 10 (d.ticks % 4096 + 1)).length ≤ 10 := dig10 (by omega)
 have i8 : (perS d).length = 2 := rfl
 unfold evW evWs ofS
 split
 all_goals simp only [if_true, if_false, Int.toNat_natCast, join2_len, join3_len, List.length_cons, List.length_nil, Int.reduceEq, reduceIte, Lib.join_one]
 all_goals omega
theorem toldU_len (E : List EvS) (k : Nat) (hE : ∀ e ∈ E, (evW e).length ≤ 200) : ∀ i, (toldU E k i).length ≤ 9 + 208 * i
  | 0 => by simp [toldU, preT]
  | i + 1 => by
    have ih := toldU_len E k hE i
    rw [toldU, List.length_append]
    have h1 : (if i = k then toldU E k i ++ (tockT ++ [10]) else toldU E k i).length ≤ 9 + 208 * i + 7 := by
      split
      · rw [List.length_append]; simp [tockT]; omega
      · omega
    have h2 : (match E[i]? with | some e => evW e ++ [10] | none => []).length ≤ 201 := by
      cases h : E[i]? with
      | none => simp
      | some e => have := hE e (List.mem_of_getElem? h); simp; omega
    omega
end
section
open Go.RowKit
set_option linter.unusedVariables false
set_option linter.unusedSimpArgs false
def EEv : Enc EvS := Enc.cells evCs EvIn 7 (fun _ => rfl) (fun x u hu => by simp only [evCs, List.mem_cons, List.not_mem_nil, or_false] at hu; rcases hu with rfl | rfl | rfl | rfl | rfl | rfl | rfl <;> rfl)
theorem EEv.at {w : World} {S : Nat → Prop} {a : Option Addr} {l : List EvS} (h : Sl EEv w S a l) (k : Nat) (hk : k < l.length) :
  ∃ b off, a = some ⟨b, off, none⟩ ∧ S b ∧ EvIn l[k] ∧ ∀ j u, (evCs l[k])[j]? = some u → w.cell? ⟨b, off + k * 7 + j, none⟩ = some u := by
 obtain ⟨b, off, cs, rfl, hb, ⟨rfl, hi⟩, hc⟩ := h.at k hk
 exact ⟨b, off, rfl, hb, hi, hc⟩
theorem okEv : ElemOk Tryz.prog 22 31 EEv.sz 80 := elemOk (z := .agg #[.int .i64 0, .int .i64 0, .string ⟨#[]⟩, .string ⟨#[]⟩, .string ⟨#[]⟩, .int .i64 0, .int .u32 0]) Tryz.underlying22 (by kernel_rfl) rfl
theorem i64_of {x : Int} (h1 : 0 ≤ x) (h2 : x ≤ 1048576) : i64 x := by unfold i64; omega
theorem nameOk_len {s : List UInt8} (h : nameOk s = true) : s.length ≤ 16 := by
 unfold nameOk at h
 simp only [Bool.and_eq_true, decide_eq_true_eq] at h
 exact h.2.1
theorem EvIn.mk' {e : EvS} (k c : Int) (a p b : List UInt8) (t : Int) (d : UInt32) (he : e = ⟨k, c, a, p, b, t, d⟩) (h1 : 0 ≤ k ∧ k ≤ 10) (h2 : 0 ≤ c ∧ c ≤ 64) (h3 : a.length ≤ 16) (h4 : p.length ≤ 16) (h5 : b.length ≤ 65536) (h6 : 0 ≤ t ∧ t ≤ 4096) : EvIn e := by
 subst he
 exact ⟨i64_of h1.1 (by show k ≤ _; omega), i64_of h2.1 (by show c ≤ _; omega), by show a.length ≤ _; omega, by show p.length ≤ _; omega, by show b.length ≤ _; omega, i64_of h6.1 (by show t ≤ _; omega)⟩
theorem evOk_in {e : EvS} (h : evOk e = true) : EvIn e := by
 unfold evOk connOk at h
 by_cases k1 : e.kind = 1
 ·rw [if_pos k1] at h
  simp only [Bool.and_eq_true, decide_eq_true_eq] at h
  obtain ⟨he, hc, ha⟩ := h
  exact EvIn.mk' _ _ _ _ _ _ _ he (by decide) ⟨by omega, by omega⟩ (by rcases ha with h | h <;> omega) (by simp) (by simp) (by simp)
 rw [if_neg k1] at h
 by_cases k2 : e.kind = 2
 ·rw [if_pos k2] at h
  simp only [Bool.and_eq_true, decide_eq_true_eq] at h
  obtain ⟨he, hc, ha⟩ := h
  exact EvIn.mk' _ _ _ _ _ _ _ he (by decide) ⟨by omega, by omega⟩ (by simp) (nameOk_len ha) (by simp) (by simp)
 rw [if_neg k2] at h
 by_cases k3 : e.kind = 3
 ·rw [if_pos k3] at h
  simp only [Bool.and_eq_true, decide_eq_true_eq] at h
  obtain ⟨he, ha⟩ := h
  exact EvIn.mk' _ _ _ _ _ _ _ he (by decide) (by decide) (by simp) (nameOk_len ha) (by simp) (by simp)
 rw [if_neg k3] at h
 by_cases k4 : e.kind = 4
 ·rw [if_pos k4] at h
  simp only [Bool.and_eq_true, decide_eq_true_eq] at h
  obtain ⟨he, hc, ha⟩ := h
  exact EvIn.mk' _ _ _ _ _ _ _ he (by decide) ⟨by omega, by omega⟩ (by simp) (by simp) (by omega) (by simp)
 rw [if_neg k4] at h
 by_cases k5 : e.kind = 5
 ·rw [if_pos k5] at h
  simp only [Bool.and_eq_true, decide_eq_true_eq] at h
  obtain ⟨he, hc⟩ := h
  exact EvIn.mk' _ _ _ _ _ _ _ he (by decide) ⟨by omega, by omega⟩ (by simp) (by simp) (by simp) (by simp)
 rw [if_neg k5] at h
 by_cases k6 : e.kind = 6
 ·rw [if_pos k6] at h
  simp only [Bool.and_eq_true, decide_eq_true_eq] at h
  obtain ⟨he, ht⟩ := h
  exact EvIn.mk' _ _ _ _ _ _ _ he (by decide) (by decide) (by simp) (by simp) (by simp) (⟨by omega, by omega⟩)
 rw [if_neg k6] at h
 by_cases k7 : e.kind = 7
 ·rw [if_pos k7] at h
  simp only [Bool.and_eq_true, decide_eq_true_eq] at h
  obtain ⟨he, hb⟩ := h
  exact EvIn.mk' _ _ _ _ _ _ _ he (by decide) (by decide) (by simp) (by simp) (hb) (by simp)
 rw [if_neg k7] at h
 by_cases k8 : e.kind = 8
 ·rw [if_pos k8] at h
  simp only [Bool.and_eq_true, decide_eq_true_eq] at h
  obtain ⟨he, hb⟩ := h
  exact EvIn.mk' _ _ _ _ _ _ _ he (by decide) (by decide) (by simp) (by simp) (by omega) (by simp)
 rw [if_neg k8] at h
 by_cases k9 : e.kind = 9
 ·rw [if_pos k9] at h
  simp only [Bool.and_eq_true, decide_eq_true_eq] at h
  have he := h
  exact EvIn.mk' _ _ _ _ _ _ _ he (by decide) (by decide) (by simp) (by simp) (by simp) (by simp)
 rw [if_neg k9] at h
 by_cases k10 : e.kind = 10
 ·rw [if_pos k10] at h
  simp only [Bool.and_eq_true, decide_eq_true_eq] at h
  have he := h
  exact EvIn.mk' _ _ _ _ _ _ _ he (by decide) (by decide) (by simp) (by simp) (by simp) (by simp)
 rw [if_neg k10] at h
 cases h
/-- The lines of a text, in a variable. -/
def LinesP (W : World) (p : Nat) (L : List (List UInt8)) : Prop := ∃ b c, Blk W p 63 #[.slice (some ⟨b, 0, none⟩) L.length c] ∧ b < p ∧ ∀ (j : Nat) (hj : j < L.length), W.cell? ⟨b, j, none⟩ = some (.string ⟨L[j].toArray⟩)
theorem LinesP.keep {W W' : World} {p : Nat} {L : List (List UInt8)} (h : LinesP W p L) (hb : ∀ x, x ≤ p → W'.heap[x]? = W.heap[x]?) : LinesP W' p L := by
 obtain ⟨b, c, h1, h2, h3⟩ := h
 exact ⟨b, c, (hb p (by omega)).trans h1, h2, fun j hj => (World.cell?_of_block (a := ⟨b, j, none⟩) (hb b (by omega))).trans (h3 j hj)⟩
/-- What lies in the variables of script.Parse: the lines, the last one's place, the place, the configuration's size, the events; behind them the guard's code. -/
structure PS (w W : World) (p m : Nat) (L : List (List UInt8)) (k cf : Nat) (v : Value) (out : List EvS) : Prop where
  lo : w.heap.size ≤ p
  up : p + 6 ≤ W.heap.size
  ext : Ext w W
  len : L.length = m + 1
  few : m ≤ 1048576
  lines : LinesP W p L
  last : Blk W (p + 1) 3 #[.int .i64 (m : Int)]
  at_ : Blk W (p + 2) 3 #[.int .i64 (k : Int)]
  cfb : Blk W (p + 3) 3 #[.int .i64 (cf : Int)]
  ob : Blk W (p + 4) 22 #[v]
  pe : Blk W (p + 5) 23 #[.int .i64 0]
  own : Own EEv 31 W (p + 6) v out
section
variable {w W W' : World} {p m k cf : Nat} {L : List (List UInt8)} {v : Value} {out : List EvS}
theorem PS.setAt (h : PS w W p m L k cf v out) (k' : Nat) : PS w (W.setCell ⟨p + 2, 0, none⟩ (.int .i64 (k' : Int))) p m L k' cf v out := by
 have h1 := h.lo
 exact ⟨h1, by simpa [World.setCell] using h.up, h.ext.setCell (p := ⟨p + 2, 0, none⟩) (show w.heap.size ≤ p + 2 by omega) _, h.len, h.few, h.lines.keep fun x hx => Below.heap_setCell _ _ _ _ (show x ≠ p + 2 by omega),
  h.last.far (p := ⟨p + 2, 0, none⟩) (show p + 1 ≠ p + 2 by omega) _, by simpa using h.at_.set_ 0 (.int .i64 (k' : Int)), h.cfb.far (p := ⟨p + 2, 0, none⟩) (show p + 3 ≠ p + 2 by omega) _, h.ob.far (p := ⟨p + 2, 0, none⟩) (show p + 4 ≠ p + 2 by omega) _, h.pe.far (p := ⟨p + 2, 0, none⟩) (show p + 5 ≠ p + 2 by omega) _,
  h.own.kept (by simp [World.setCell]) fun b h1 h2 => Below.heap_setCell _ _ _ _ (show b ≠ p + 2 by omega)⟩
theorem PS.setCf (h : PS w W p m L k cf v out) (c' : Nat) : PS w (W.setCell ⟨p + 3, 0, none⟩ (.int .i64 (c' : Int))) p m L k c' v out := by
 have h1 := h.lo
 exact ⟨h1, by simpa [World.setCell] using h.up, h.ext.setCell (p := ⟨p + 3, 0, none⟩) (show w.heap.size ≤ p + 3 by omega) _, h.len, h.few, h.lines.keep fun x hx => Below.heap_setCell _ _ _ _ (show x ≠ p + 3 by omega),
  h.last.far (p := ⟨p + 3, 0, none⟩) (show p + 1 ≠ p + 3 by omega) _, h.at_.far (p := ⟨p + 3, 0, none⟩) (show p + 2 ≠ p + 3 by omega) _, by simpa using h.cfb.set_ 0 (.int .i64 (c' : Int)), h.ob.far (p := ⟨p + 3, 0, none⟩) (show p + 4 ≠ p + 3 by omega) _, h.pe.far (p := ⟨p + 3, 0, none⟩) (show p + 5 ≠ p + 3 by omega) _,
  h.own.kept (by simp [World.setCell]) fun b h1 h2 => Below.heap_setCell _ _ _ _ (show b ≠ p + 3 by omega)⟩
theorem PS.ext' (h : PS w W p m L k cf v out) (he : Ext W W') : PS w W' p m L k cf v out := by
 have hu := h.up
 exact ⟨h.lo, Nat.le_trans hu he.size, h.ext.trans he, h.len, h.few, h.lines.keep fun x hx => he.block x (by omega), h.last.ext he, h.at_.ext he, h.cfb.ext he, h.ob.ext he, h.pe.ext he, h.own.ext he⟩
/-- The events' row, grown, and laid into its variable. -/
theorem PS.pushed {v' : Value} {out' : List EvS} (h : PS w W p m L k cf v out) (hg : W.grownBy W' v.ownBlock) (ho : Own EEv 31 W' (p + 6) v' out') :
  PS w (W'.setCell ⟨p + 4, 0, none⟩ v') p m L k cf v' out' := by
 have h1 := h.lo
 have hu := h.up
 have hn : ∀ x, x < p + 6 → some x ≠ v.ownBlock := fun x hx e => by have := (h.own.lt x e.symm).1; omega
 have hx : Ext w W' := h.ext.push (fun j hj => Nat.le_trans (by omega) (h.own.lt j hj).1) hg
 have hgu := hg.size
 refine ⟨h1, by simp [World.setCell]; omega, hx.setCell (p := ⟨p + 4, 0, none⟩) (show w.heap.size ≤ p + 4 by omega) _, h.len, h.few, (h.lines.keep fun x hx => hg.block x (by omega) (hn x (by omega))).keep fun x hx => Below.heap_setCell _ _ _ _ (show x ≠ p + 4 by omega),
  (h.last.grown hg (hn _ (by omega))).far (p := ⟨p + 4, 0, none⟩) (show p + 1 ≠ p + 4 by omega) _, (h.at_.grown hg (hn _ (by omega))).far (p := ⟨p + 4, 0, none⟩) (show p + 2 ≠ p + 4 by omega) _, (h.cfb.grown hg (hn _ (by omega))).far (p := ⟨p + 4, 0, none⟩) (show p + 3 ≠ p + 4 by omega) _, by simpa using (h.ob.grown hg (hn _ (by omega))).set_ 0 v', (h.pe.grown hg (hn _ (by omega))).far (p := ⟨p + 4, 0, none⟩) (show p + 5 ≠ p + 4 by omega) _,
  ho.kept (by simp [World.setCell]) fun b h1 h2 => Below.heap_setCell _ _ _ _ (show b ≠ p + 4 by omega)⟩
end
def atOf (W : World) (p : Nat) : Nat := match W.cell? ⟨p + 2, 0, none⟩ with | some (.int _ n) => n.toNat | _ => 0
theorem PS.atOf {w W : World} {p m k cf : Nat} {L : List (List UInt8)} {v : Value} {out : List EvS} (h : PS w W p m L k cf v out) : atOf W p = k := by
 have := h.at_.cell 0
 unfold Go.Proofs.YtkinghadgmbhbaaGreatDoor.atOf
 rw [this]
 rfl
/-- What the reading of a script leaves. -/
def ParD (s : List UInt8) (w : World) (p m : Nat) (L : List (List UInt8)) (e : Ending) (W' : World) : Prop :=
 (∃ k cf v out, e = .returned (.tuple #[]) ∧ PS w W' p m L k cf v out ∧ restC s 0 0 L = (s.take cf, out, 0, 0) ∧ cf ≤ s.length) ∨
 (∃ (c : Int) (k cf : Nat) (v : Value) (out : List EvS), e = .panicked (wrongP c) ∧ PS w W' p m L k cf v out ∧ restC s 0 0 L = ([], [], c, k) ∧ c ≠ 0)
theorem sum_drop (L : List (List UInt8)) (k : Nat) (hk : k < L.length) : ((L.drop k).map fun x => x.length + 1).sum = L[k].length + 1 + ((L.drop (k + 1)).map fun x => x.length + 1).sum := by
 rw [List.drop_eq_getElem_cons hk, List.map_cons, List.sum_cons]
set_option maxRecDepth 20000 in
set_option maxHeartbeats 4000000 in
theorem Parse1_any (s : List UInt8) (hs : s.length ≤ 1048576) (w W0 : World) (p m : Nat) (L : List (List UInt8)) (hT : Tab w) (hV : Vars w) (hD : Deb w) (h0 : PS w W0 p m L 0 0 (.slice none 0 0) [])
    (hL : ∀ y ∈ L, y.length ≤ 1048576) (hsum : (L.map fun x => x.length + 1).sum = s.length + 1) :
    Calls Tryz.prog 36 #[.pointer (some ⟨p + 2, 0, none⟩), .pointer (some ⟨p + 1, 0, none⟩), .pointer (some ⟨p, 0, none⟩), .pointer (some ⟨p + 3, 0, none⟩), .pointer (some ⟨p + 4, 0, none⟩)] W0 (ParD s w p m L) := by
  have mixed : Tryz.prog.follows Departure.mixedOrders = true := by kernel_rfl
  have hok : ∀ W k cf v out, PS w W p m L k cf v out → restC s 0 0 L = (s.take cf, out, 0, 0) → cf ≤ s.length → ParD s w p m L (.returned (.tuple #[])) W := fun W k cf v out h1 h2 h3 => .inl ⟨k, cf, v, out, rfl, h1, h2, h3⟩
  have hno : ∀ W c k cf v out, PS w W p m L k cf v out → restC s 0 0 L = ([], [], c, k) → c ≠ 0 → ParD s w p m L (.panicked (wrongP c)) W := fun W c k cf v out h1 h2 h3 => .inr ⟨c, k, cf, v, out, rfl, h1, h2, h3⟩
  generalize ParD s w p m L = Post at *
  replace hok := hide hok
  replace hno := hide hno
  replace hT := hide hT
  replace hV := hide hV
  replace hD := hide hD
  replace h0 := hide h0
  replace hs := hide hs
  replace hL := hide hL
  go_enter Tryz.func36, Tryz.ntmps36
  go_wp2_with fail
  go_loopw [6] (fun s6 wr => ∃ k cf : Nat, PS w wr p m L k cf (.slice none 0 0) [] ∧ k < L.length ∧ restC s 0 0 L = restC s k cf (L.drop k) ∧ cf + ((L.drop k).map fun x => x.length + 1).sum = s.length + 1) (fun _ wr => L.length - atOf wr p)
  case atStart => exact ⟨0, 0, h0.out, by rw [h0.out.len]; omega, rfl, by simpa using hsum⟩
  case round =>
    clear h0
    obtain ⟨k, cf, S, hk, hr, hsm⟩ := hrel
    rw [sum_drop L k hk] at hsm
    have hlen := S.len
    have hfew := S.few
    obtain ⟨b, c, hb, hbp, hlx⟩ := S.lines
    have c0 : wr.cell? ⟨p + 2, 0, none⟩ = some (.int .i64 (k : Int)) := S.at_.cell 0
    have c1 : wr.cell? ⟨p + 1, 0, none⟩ = some (.int .i64 (m : Int)) := S.last.cell 0
    have c2 : wr.cell? ⟨p, 0, none⟩ = some (.slice (some ⟨b, 0, none⟩) L.length c) := hb.cell 0
    have c3 : wr.cell? ⟨p + 3, 0, none⟩ = some (.int .i64 (cf : Int)) := S.cfb.cell 0
    have c4 : wr.cell? ⟨b, k, none⟩ = some (.string ⟨L[k].toArray⟩) := hlx k hk
    have f2 := fun i => S.at_.frozen i
    have f3 := fun i => S.cfb.frozen i
    rw [hlen] at c2
    clear hb hlx
    have hd : L.drop k = L[k] :: L.drop (k + 1) := List.drop_eq_getElem_cons hk
    have hxl := hL.out _ (List.getElem_mem hk)
    have hcfs : cf ≤ s.length := by omega
    generalize L[k] = x at *
    by_cases hkm : k = m
    · subst hkm
      have hd0 : L.drop (k + 1) = [] := List.drop_eq_nil_of_le (by omega)
      rw [hd, hd0, restC_end] at hr
      clear hd hd0 hsm hlen hfew hk hbp hxl hcfs hsum
      replace S := hide S
      replace hr := hide hr
      go_wp2_with fail
      refine (give_any _ _).mono ?_
      rintro e w3 ⟨rfl, rfl⟩
      go_wp2
      exact ⟨rfl, hno.out _ _ _ _ _ _ S.out hr.out (by decide)⟩
    have hkm2 : k < m := by omega
    obtain ⟨y, r, hyr⟩ : ∃ y r, L.drop (k + 1) = y :: r := ⟨_, _, List.drop_eq_getElem_cons (show k + 1 < L.length by omega)⟩
    obtain ⟨k2, hk2⟩ : ∃ n : Nat, n = k + 1 := ⟨_, rfl⟩
    have w1 : IntKind.i64.wrap ((k : Int) + 1) = (k2 : Int) := by rw [IntKind.wrap_i64]; omega
    have b1 : decide (k < m) = true := decide_eq_true hkm2
    have b2 : (k == m) = false := beq_eq_false_iff_ne.2 hkm
    have b3 : decide (k = m) = false := decide_eq_false hkm
    have b4 : ((k : Int) == (m : Int)) = false := beq_eq_false_iff_ne.2 (by omega)
    have hkm3 : k < m + 1 := by omega
    rw [hd, hyr] at hr
    by_cases hxr : x = [114, 117, 110]
    · rw [restC_run s k cf hxr, ← hyr, ← hk2] at hr
      subst hxr
      have S2 := S.setAt k2
      have hkl : k2 < L.length := by omega
      rw [← hk2] at hyr
      clear hd hsm hfew hk hxl hkm hkm2 hsum
      replace S := hide S
      replace S2 := hide S2
      replace hr := hide hr
      replace hcfs := hide hcfs
      replace hk2 := hide hk2
      replace hyr := hide hyr
      replace hkl := hide hkl
      replace hlen := hide hlen
      go_wp2_with fail
      generalize wr.setCell ⟨p + 2, 0, none⟩ (.int .i64 (k2 : Int)) = wa at S2 ⊢
      try simp only [b4]
      clear c0 c1 c2 c3 c4 f2 f3 w1 b1 b2 b3 b4 hkm3 S
      go_loopw [32] (fun s32 wx => ∃ (k : Nat) (v : Value) (out : List EvS), PS w wx p m L k cf v out ∧ k < L.length ∧ restC s 0 0 L = restE s cf k out (L.drop k) ∧ out.length ≤ k) (fun _ wx => L.length - atOf wx p)
      case atStart => exact ⟨k2, _, [], S2.out, hkl.out, by rw [hr.out, hyr.out], Nat.zero_le _⟩
      case round =>
        clear S2 hr hyr hk2 hkl
        obtain ⟨k, v, out, S, hk, hr, hol⟩ := hrel
        rename World => wx
        have hlen := S.len
        have hfew := S.few
        obtain ⟨b, c, hb, hbp, hlx⟩ := S.lines
        have c0 : wx.cell? ⟨p + 2, 0, none⟩ = some (.int .i64 (k : Int)) := S.at_.cell 0
        have c1 : wx.cell? ⟨p + 1, 0, none⟩ = some (.int .i64 (m : Int)) := S.last.cell 0
        have c2 : wx.cell? ⟨p, 0, none⟩ = some (.slice (some ⟨b, 0, none⟩) L.length c) := hb.cell 0
        have c4 : wx.cell? ⟨b, k, none⟩ = some (.string ⟨L[k].toArray⟩) := hlx k hk
        rw [hlen] at c2
        clear hb hlx
        have hd : L.drop k = L[k] :: L.drop (k + 1) := List.drop_eq_getElem_cons hk
        have hxl := hL.out _ (List.getElem_mem hk)
        generalize L[k] = x at *
        by_cases hkm : k = m
        · subst hkm
          have hd0 : L.drop (k + 1) = [] := List.drop_eq_nil_of_le (by omega)
          rw [hd, hd0, restE_end] at hr
          have hkk : k < k + 1 := Nat.lt_succ_self k
          clear hd hd0 hlen hfew hk hbp hxl hol
          by_cases hx0 : x = []
          · subst hx0
            rw [if_pos rfl] at hr
            replace S := hide S
            replace hr := hide hr
            go_wp2_with fail
            go_end0
            exact hok.out _ _ _ _ _ S.out hr.out hcfs.out
          · have e1 : (x == []) = false := beq_eq_false_iff_ne.2 hx0
            have e2 : (x != []) = true := by simpa using hx0
            rw [if_neg hx0] at hr
            replace S := hide S
            replace hr := hide hr
            replace hx0 := hide hx0
            go_wp2_with fail
            refine (give_any _ _).mono ?_
            rintro e w3 ⟨rfl, rfl⟩
            go_wp2
            exact ⟨rfl, hno.out _ _ _ _ _ _ S.out hr.out (by decide)⟩
        have hkm2 : k < m := by omega
        obtain ⟨y, r, hyr⟩ : ∃ y r, L.drop (k + 1) = y :: r := ⟨_, _, List.drop_eq_getElem_cons (show k + 1 < L.length by omega)⟩
        obtain ⟨k2, hk2⟩ : ∃ n : Nat, n = k + 1 := ⟨_, rfl⟩
        have w1 : IntKind.i64.wrap ((k : Int) + 1) = (k2 : Int) := by rw [IntKind.wrap_i64]; omega
        have b1 : decide (k < m) = true := decide_eq_true hkm2
        have hkm3 : k < m + 1 := by omega
        rw [hd, hyr] at hr
        have q := SRead_any x (Nat.le_trans hxl (by decide)) (.inl hxl) wx (hT.out.ext S.ext) (hV.out.ext S.ext) (hD.out.ext S.ext)
        unfold ReadP at q
        cases ho : evO x with
        | none =>
          rw [ho] at q
          rw [restE_bad s cf k out ho] at hr
          clear hd hyr hlen hfew hk hbp hxl hol hkm hkm2 ho
          replace S := hide S
          replace hr := hide hr
          replace q := hide q
          go_wp2_with fail
          refine q.out.mono ?_
          rintro e w3 ⟨rfl, he⟩
          go_wp2
          exact ⟨rfl, hno.out _ _ _ _ _ _ (S.out.ext' he) hr.out (by decide)⟩
        | some ev =>
          rw [ho] at q
          have hein := evOk_in (evO_some ho).1
          have hlong := fun h : out.length = 512 => restE_long s cf k (y := y) (r := r) ho h
          have hon := fun h : out.length ≠ 512 => restE_on s cf k (y := y) (r := r) ho h
          obtain ⟨va, vc, rfl⟩ := S.own.form
          obtain ⟨kd, cn, ad, pr, by_, tk, dr⟩ := ev
          simp only [evCs] at q
          have hkm4 := hide hkm2
          clear hd hfew hbp hxl hkm hkm2 ho
          replace S := hide S
          replace q := hide q
          replace hlong := hide hlong
          replace hon := hide hon
          replace hr := hide hr
          replace hein := hide hein
          replace hyr := hide hyr
          replace hlen := hide hlen
          replace hk := hide hk
          replace hk2 := hide hk2
          replace hol := hide hol
          go_wp2_with fail
          refine q.out.mono ?_
          rintro e W2 ⟨rfl, he⟩
          have N := Blk.new W2 31 #[.int .i64 kd, .int .i64 cn, .string ⟨ad.toArray⟩, .string ⟨pr.toArray⟩, .string ⟨by_.toArray⟩, .int .i64 tk, .int .u32 (dr.toNat : Int)]
          have S3 := (S.out.ext' he).ext' ((Ext.refl W2).alloc (Obj.cells #[.int .i64 kd, .int .i64 cn, .string ⟨ad.toArray⟩, .string ⟨pr.toArray⟩, .string ⟨by_.toArray⟩, .int .i64 tk, .int .u32 (dr.toNat : Int)] 31))
          clear q c0 c1 c2 c4 he b1 hkm3
          go_upto_region 9 with fail
          generalize W2.alloc (Obj.cells #[.int .i64 kd, .int .i64 cn, .string ⟨ad.toArray⟩, .string ⟨pr.toArray⟩, .string ⟨by_.toArray⟩, .int .i64 tk, .int .u32 (dr.toNat : Int)] 31) = W3 at N S3 ⊢
          generalize W2.heap.size = n2 at N ⊢
          have c5 : W3.cell? ⟨p + 4, 0, none⟩ = some (.slice va out.length vc) := S3.ob.cell 0
          have d0 : W3.cell? ⟨n2, 0, none⟩ = some (.int .i64 kd) := N.cell 0
          have d1 : W3.cell? ⟨n2, 1, none⟩ = some (.int .i64 cn) := N.cell 1
          have d2 : W3.cell? ⟨n2, 2, none⟩ = some (.string ⟨ad.toArray⟩) := N.cell 2
          have d3 : W3.cell? ⟨n2, 3, none⟩ = some (.string ⟨pr.toArray⟩) := N.cell 3
          have d4 : W3.cell? ⟨n2, 4, none⟩ = some (.string ⟨by_.toArray⟩) := N.cell 4
          have d5 : W3.cell? ⟨n2, 5, none⟩ = some (.int .i64 tk) := N.cell 5
          have d6 : W3.cell? ⟨n2, 6, none⟩ = some (.int .u32 (dr.toNat : Int)) := N.cell 6
          by_cases hl : out.length = 512
          · have e1 : (out.length == 512) = true := beq_iff_eq.2 hl
            have e2 : decide (out.length = 512) = true := decide_eq_true hl
            have h9 := hr.out.trans (hlong.out hl)
            clear hl N
            replace S3 := hide S3
            replace h9 := hide h9
            go_wp2_with fail
            refine (give_any _ _).mono ?_
            rintro e w3 ⟨rfl, rfl⟩
            go_wp2
            exact ⟨rfl, hno.out _ _ _ _ _ _ S3.out h9.out (by decide)⟩
          · have e1 : (out.length == 512) = false := beq_eq_false_iff_ne.2 hl
            have e2 : decide (out.length = 512) = false := decide_eq_false hl
            have h9 := hr.out.trans (hon.out hl)
            have hol2 : out.length ≤ 1048576 := by have := hol.out; have := hk.out; have := S3.len; have := S3.few; omega
            have S4 := S3.ext' ((Ext.refl W3).alloc (Obj.cells #[.int .i64 kd, .int .i64 cn, .string ⟨ad.toArray⟩, .string ⟨pr.toArray⟩, .string ⟨by_.toArray⟩, .int .i64 tk, .int .u32 (dr.toNat : Int)] 31))
            clear hl N
            replace S3 := hide S3
            replace h9 := hide h9
            replace S4 := hide S4
            replace hol2 := hide hol2
            go_upto_region 11 with fail
            go_wp2_with
              (at_builtin
               go_must (refine wpList_push (E := EEv) (l := out) rfl _ _ _ rfl okEv (by decide) (by decide) rfl S4.out.own (by have := hol2.out; omega) S4.out.up rfl (y := ⟨kd, cn, ad, pr, by_, tk, dr⟩) (cs := evCs ⟨kd, cn, ad, pr, by_, tk, dr⟩) ⟨rfl, hein.out⟩ (cells_new W3 (evCs ⟨kd, cn, ad, pr, by_, tk, dr⟩).toArray _) ?_)
               intro v' w5 hown1 hg5 hat5
               have S5 := S4.out.pushed hg5 hown1
               have hn4 : ∀ x, x < p + 6 → some x ≠ (Value.slice va out.length vc).ownBlock := fun x hx e => by have := (S4.out.own.lt x e.symm).1; omega
               have c6 : w5.cell? ⟨p + 4, 0, none⟩ = some (.slice va out.length vc) := (S4.out.ob.grown hg5 (hn4 _ (by omega))).cell 0
               have f6 := fun i => (S4.out.ob.grown hg5 (hn4 _ (by omega))).frozen i
               have c7 : w5.cell? ⟨p + 2, 0, none⟩ = some (.int .i64 (k : Int)) := (S4.out.at_.grown hg5 (hn4 _ (by omega))).cell 0
               have f7 := fun i => (S4.out.at_.grown hg5 (hn4 _ (by omega))).frozen i
               obtain ⟨va5, vc5, rfl⟩ := hown1.form
               have S6 := S5.setAt k2
               clear hown1 hg5 hat5 hn4 S5
               simp only [List.length_append, List.length_cons, List.length_nil, Nat.zero_add] at S6 ⊢
               replace S6 := hide S6)
            go_roundw
            case rel =>
              have r1 : k2 < L.length := by have := S6.out.len; have := hlen.out; have := hk2.out; have := hkm4.out; omega
              have r2 := h9.out
              rw [← hk2.out, ← hyr.out, ← hk2.out] at r2
              have r3 : (out ++ [(⟨kd, cn, ad, pr, by_, tk, dr⟩ : EvS)]).length ≤ k2 := by have := hol.out; have := hk2.out; simp; omega
              (repeat apply Exists.intro); exact ⟨S6.out, r1, r2, r3⟩
            case measure => rw [S6.out.atOf, S.out.atOf]; have := hk2.out; have := hk.out; omega
    · have hw1 : x ≠ runW := hxr
      obtain ⟨cf2, hcf2⟩ : ∃ n : Nat, n = cf + x.length + 1 := ⟨_, rfl⟩
      rw [restC_on s k cf hw1, ← hyr, ← hk2, ← hcf2] at hr
      have e1 : (x == [114, 117, 110]) = false := beq_eq_false_iff_ne.2 hxr
      have e2 : (x != [114, 117, 110]) = true := by simpa using hxr
      have w2 : IntKind.i64.wrap ((x.length : Int) + 1) = (x.length : Int) + 1 := by rw [IntKind.wrap_i64]; omega
      have hsl := hs.out
      have w3 : IntKind.i64.wrap ((cf : Int) + ((x.length : Int) + 1)) = (cf2 : Int) := by rw [IntKind.wrap_i64]; omega
      have S2 := ((S.setCf cf2).setAt k2).ext' (Ext.refl _).drew
      have hkl : k2 < L.length := by omega
      have hsm2 : cf2 + ((L.drop k2).map fun x => x.length + 1).sum = s.length + 1 := by rw [hk2, hcf2]; omega
      clear hd hsm hfew hxl hkm hkm2 hsum hxr hw1 hsl hyr y r hcfs hcf2 hbp hlen
      replace S := hide S
      replace S2 := hide S2
      replace hr := hide hr
      replace hk2 := hide hk2
      replace hkl := hide hkl
      replace hsm2 := hide hsm2
      replace hk := hide hk
      go_upto_region 2 with fail
      go_region
      go_wp2_with fail
      go_roundw
      case rel => exact ⟨k2, cf2, S2.out, hkl.out, hr.out, hsm2.out⟩
      case measure => rw [S2.out.atOf, S.out.atOf]; have := hk2.out; have := hk.out; omega
end
section
open Go.RowKit
set_option linter.unusedVariables false
set_option linter.unusedSimpArgs false
/-- What is left of the variables behind the guard. -/
structure PS2 (w W : World) (p k cf : Nat) (v : Value) (out : List EvS) : Prop where
  ext : Ext w W
  at_ : Blk W (p + 2) 3 #[.int .i64 (k : Int)]
  cfb : Blk W (p + 3) 3 #[.int .i64 (cf : Int)]
  ob : Blk W (p + 4) 22 #[v]
  own : Own EEv 31 W (p + 6) v out
theorem PS.two {w W W' : World} {p m k cf : Nat} {L : List (List UInt8)} {v : Value} {out : List EvS} (h : PS w W p m L k cf v out) (hb : But (p + 5) W W') : PS2 w W' p k cf v out :=
 have h1 := h.lo
 ⟨But.ext h.ext hb (by omega), h.at_.but hb (by omega), h.cfb.but hb (by omega), h.ob.but hb (by omega), h.own.kept hb.size fun b h1 h2 => hb.block b h2 (by omega)⟩
theorem parse_mem (w W2 : World) (L : List (List UInt8)) (m d : Nat) (E : Ext w W2) (hL : L.length = m + 1) (hm : m ≤ 1048576) (hb : w.heap.size < W2.heap.size) (hc : ∀ (j : Nat) (hj : j < L.length), W2.cell? ⟨w.heap.size, j, none⟩ = some (.string ⟨L[j].toArray⟩)) :
  ∃ W3 : World, (((((W2.alloc (Obj.cells #[.slice (some ⟨w.heap.size, 0, none⟩) (m + 1) d] 63)).alloc (Obj.cells #[.int .i64 (m : Int)] 3)).alloc (Obj.cells #[.int .i64 0] 3)).alloc (Obj.cells #[.int .i64 0] 3)).alloc (Obj.cells #[.slice none 0 0] 22)) = W3 ∧ W3.heap.size = W2.heap.size + 5 ∧ Ext w W3 ∧ PS w (W3.alloc (Obj.cells #[.int .i64 0] 23)) W2.heap.size m L 0 0 (.slice none 0 0) [] := by
 refine ⟨_, rfl, ?_⟩
 have z0 : W2.heap.size = W2.heap.size + 0 := rfl
 have a0 := Blk.new W2 63 #[.slice (some ⟨w.heap.size, 0, none⟩) (m + 1) d]
 have e0 := (Ext.refl W2).alloc (Obj.cells #[.slice (some ⟨w.heap.size, 0, none⟩) (m + 1) d] 63)
 have z1 : (W2.alloc (Obj.cells #[.slice (some ⟨w.heap.size, 0, none⟩) (m + 1) d] 63)).heap.size = W2.heap.size + 1 := by simp
 generalize W2.alloc (Obj.cells #[.slice (some ⟨w.heap.size, 0, none⟩) (m + 1) d] 63) = V1 at *
 have a1 := Blk.new V1 3 #[.int .i64 (m : Int)]
 have e1 := e0.alloc (Obj.cells #[.int .i64 (m : Int)] 3)
 replace a0 := a0.alloc (Obj.cells #[.int .i64 (m : Int)] 3)
 have z2 : (V1.alloc (Obj.cells #[.int .i64 (m : Int)] 3)).heap.size = W2.heap.size + 2 := by simp [z1]
 rw [z1] at a1
 generalize V1.alloc (Obj.cells #[.int .i64 (m : Int)] 3) = V2 at *
 have a2 := Blk.new V2 3 #[.int .i64 0]
 have e2 := e1.alloc (Obj.cells #[.int .i64 0] 3)
 replace a0 := a0.alloc (Obj.cells #[.int .i64 0] 3)
 replace a1 := a1.alloc (Obj.cells #[.int .i64 0] 3)
 have z3 : (V2.alloc (Obj.cells #[.int .i64 0] 3)).heap.size = W2.heap.size + 3 := by simp [z2]
 rw [z2] at a2
 generalize V2.alloc (Obj.cells #[.int .i64 0] 3) = V3 at *
 have a3 := Blk.new V3 3 #[.int .i64 0]
 have e3 := e2.alloc (Obj.cells #[.int .i64 0] 3)
 replace a0 := a0.alloc (Obj.cells #[.int .i64 0] 3)
 replace a1 := a1.alloc (Obj.cells #[.int .i64 0] 3)
 replace a2 := a2.alloc (Obj.cells #[.int .i64 0] 3)
 have z4 : (V3.alloc (Obj.cells #[.int .i64 0] 3)).heap.size = W2.heap.size + 4 := by simp [z3]
 rw [z3] at a3
 generalize V3.alloc (Obj.cells #[.int .i64 0] 3) = V4 at *
 have a4 := Blk.new V4 22 #[.slice none 0 0]
 have e4 := e3.alloc (Obj.cells #[.slice none 0 0] 22)
 replace a0 := a0.alloc (Obj.cells #[.slice none 0 0] 22)
 replace a1 := a1.alloc (Obj.cells #[.slice none 0 0] 22)
 replace a2 := a2.alloc (Obj.cells #[.slice none 0 0] 22)
 replace a3 := a3.alloc (Obj.cells #[.slice none 0 0] 22)
 have z5 : (V4.alloc (Obj.cells #[.slice none 0 0] 22)).heap.size = W2.heap.size + 5 := by simp [z4]
 rw [z4] at a4
 generalize V4.alloc (Obj.cells #[.slice none 0 0] 22) = V5 at *
 have a5 := Blk.new V5 23 #[.int .i64 0]
 have e5 := e4.alloc (Obj.cells #[.int .i64 0] 23)
 replace a0 := a0.alloc (Obj.cells #[.int .i64 0] 23)
 replace a1 := a1.alloc (Obj.cells #[.int .i64 0] 23)
 replace a2 := a2.alloc (Obj.cells #[.int .i64 0] 23)
 replace a3 := a3.alloc (Obj.cells #[.int .i64 0] 23)
 replace a4 := a4.alloc (Obj.cells #[.int .i64 0] 23)
 rw [z5] at a5
 refine ⟨z5, E.trans e4, ⟨by omega, by simp [z5], E.trans e5, hL, hm, ⟨w.heap.size, d, by rw [hL]; exact a0, hb, fun j hj => e5.cell (hc j hj)⟩, a1, a2, a3, a4, a5, Own.nil⟩⟩
/-- What script.Parse answers. -/
def ParP (s : List UInt8) (w : World) (e : Ending) (w' : World) : Prop :=
  ((∃ cfg evs v, parseS s = (cfg, evs, 0, 0) ∧ e = .returned (.tuple #[.string ⟨cfg.toArray⟩, v, .nilIface]) ∧ Own EEv 31 w' w.heap.size v evs) ∨
   (∃ (c : Int) (k f : Nat), c ≠ 0 ∧ parseS s = ([], [], c, k) ∧ e = .returned (.tuple #[.string ⟨#[]⟩, .slice none 0 0, .iface 44 (.pointer (some ⟨f, 0, none⟩))]) ∧ w.heap.size ≤ f ∧ Blk w' f 48 #[.int .i64 c, .int .i64 (k : Int)])) ∧ Ext w w'
set_option maxRecDepth 20000 in
set_option maxHeartbeats 4000000 in
theorem SParse_any (s : List UInt8) (hs : s.length ≤ 1048576) (w : World) (hT : Tab w) (hV : Vars w) (hD : Deb w) : Calls Tryz.prog 15 #[.string ⟨s.toArray⟩] w (ParP s w) := by
 have hmf : ∀ (fn : Fn) (first cap : Array Value) (w : World), (Instr.makeFunc fn first cap).run Tryz.prog w = .ok (.func fn first cap) w := fun _ _ _ _ => rfl
 have hps := parse_rest hs
 have hok : ∀ W cfg evs v, parseS s = (cfg, evs, 0, 0) → Own EEv 31 W w.heap.size v evs → Ext w W → ParP s w (.returned (.tuple #[.string ⟨cfg.toArray⟩, v, .nilIface])) W := fun W cfg evs v h1 h2 h3 => ⟨.inl ⟨cfg, evs, v, h1, rfl, h2⟩, h3⟩
 have hno : ∀ W c k f, c ≠ 0 → parseS s = ([], [], c, k) → w.heap.size ≤ f → Blk W f 48 #[.int .i64 c, .int .i64 (k : Int)] → Ext w W → ParP s w (.returned (.tuple #[.string ⟨#[]⟩, .slice none 0 0, .iface 44 (.pointer (some ⟨f, 0, none⟩))])) W := fun W c k f h1 h2 h3 h4 h5 => ⟨.inr ⟨c, k, f, h1, h2, rfl, h3, h4⟩, h5⟩
 generalize ParP s w = Post at *
 rw [hps] at hok hno
 have hsum := spl_size s
 have hwl : ∀ y ∈ spl 10 s, y.length ≤ 1048576 := fun y hy => Nat.le_trans (spl_len 10 s y hy) hs
 have hcnt := spl_cnt 10 s.length s (Nat.le_refl _)
 have qs := Split_any s 10 w hV hs
 obtain ⟨m, hm⟩ : ∃ m, (spl 10 s).length = m + 1 := ⟨(spl 10 s).length - 1, by have := List.length_pos_iff.2 (spl_ne 10 s); omega⟩
 have hq1 := fun W0 p h0 => Parse1_any s hs w W0 p m (spl 10 s) hT hV hD h0 hwl hsum
 have hm2 : m ≤ 1048576 := by omega
 have b1 : decide ((1048576 : Int) < (s.length : Int)) = false := decide_eq_false (by omega)
 generalize spl 10 s = L at *
 clear hT hV hD hwl hcnt hsum hps
 have w1 : IntKind.i64.wrap ((L.length : Int) - 1) = (m : Int) := by rw [IntKind.wrap_i64]; omega
 replace qs := hide qs
 replace hok := hide hok
 replace hno := hide hno
 replace hq1 := hide hq1
 replace hs := hide hs
 replace hm2 := hide hm2
 go_enter Tryz.func15, Tryz.ntmps15
 go_wp2_with fail
 refine qs.out.mono ?_
 rintro e W2 ⟨d, hd, rfl, he, hc⟩
 rw [hm] at hd ⊢
 clear w1
 have w2 : wrap64 (m : Int) = (m : Int) := wrap64_id (m : Int) (by omega) (by have := hm2.out; omega)
 have hb : w.heap.size < W2.heap.size := World.block_lt_of_cell? W2 _ (hc 0 (by omega))
 obtain ⟨W3, hW3, hz, E3, P3⟩ := parse_mem w W2 L m d he hm hm2.out hb hc
 have q1 := hq1.out _ _ P3
 have q := Guard_any 36 _ (fun _ _ => rfl) W3 (fun W => ∃ k cf v out, PS w W W2.heap.size m L k cf v out ∧ restC s 0 0 L = (s.take cf, out, 0, 0) ∧ cf ≤ s.length) (fun c W => ∃ k cf v out, PS w W W2.heap.size m L k cf v out ∧ restC s 0 0 L = ([], [], c, k) ∧ c ≠ 0)
  (q1.mono fun e W h => by
   rcases h with ⟨k, cf, v, out, h1, h2⟩ | ⟨c, k, cf, v, out, h1, h2⟩
   ·exact .inl ⟨h1, k, cf, v, out, h2⟩
   ·exact .inr ⟨c, h1, k, cf, v, out, h2⟩)
  (fun W ⟨k, cf, v, out, h, _⟩ => by rw [hz]; exact h.pe) (fun c W ⟨k, cf, v, out, h, _⟩ => by rw [hz]; exact h.pe)
  (fun e W => (∃ k cf v out, e = .returned (.int .i64 0) ∧ PS2 w W W2.heap.size k cf v out ∧ restC s 0 0 L = (s.take cf, out, 0, 0) ∧ cf ≤ s.length) ∨ (∃ (c : Int) (k cf : Nat) (v : Value) (out : List EvS), e = .returned (.int .i64 c) ∧ PS2 w W W2.heap.size k cf v out ∧ restC s 0 0 L = ([], [], c, k) ∧ c ≠ 0))
  (fun W W' ⟨k, cf, v, out, h, h2⟩ hb => .inl ⟨k, cf, v, out, rfl, h.two (hz ▸ hb), h2⟩) (fun c W W' ⟨k, cf, v, out, h, h2⟩ hb => .inr ⟨c, k, cf, v, out, rfl, h.two (hz ▸ hb), h2⟩)
 have hp : w.heap.size ≤ W2.heap.size := by omega
 clear q1 hq1 P3 hc he hd hb
 replace q := hide q
 replace E3 := hide E3
 replace hz := hide hz
 go_wp2_with fail
 refine q.out.mono ?_
 rintro e W4 (⟨k, cf, v, out, rfl, S, hr, hcf⟩ | ⟨c, k, cf, v, out, rfl, S, hr, hc⟩)
 ·have c0 : W4.cell? ⟨W2.heap.size + 3, 0, none⟩ = some (.int .i64 (cf : Int)) := S.cfb.cell 0
  have c1 : W4.cell? ⟨W2.heap.size + 4, 0, none⟩ = some v := S.ob.cell 0
  have hfin := fun n => hok.out (W4.drewN n) _ out v hr ((S.own.low (by omega)).drewN n) (S.ext.drewN n)
  have hx : (ByteArray.mk s.toArray).extract 0 cf = ⟨(s.take cf).toArray⟩ := by rw [ba_extract]; simp
  obtain ⟨va, vc, rfl⟩ := S.own.form
  clear S hr hok hno q
  generalize s.take cf = tk at *
  replace hfin := hide hfin
  go_upto_region 10 with fail
  go_quiet (fail)
  go_wp2
  exact bodyPost_ret (v := .tuple #[.string ⟨tk.toArray⟩, .slice va out.length vc, .nilIface]) (by simp [results, Tryz.results15, go_sem]) rfl (hfin.out _)
 ·have hFB := Blk.new W4 48 #[.int .i64 c, .int .i64 (k : Int)]
  have E5 := S.ext.alloc (Obj.cells #[.int .i64 c, .int .i64 (k : Int)] 48)
  have c0 : W4.cell? ⟨W2.heap.size + 2, 0, none⟩ = some (.int .i64 (k : Int)) := S.at_.cell 0
  have hsz := S.ext.size
  have hfin := hno.out _ c k W4.heap.size hc hr hsz hFB.drew E5.drew
  have e1 : (c == 0) = false := beq_eq_false_iff_ne.2 hc
  have e2 : (c != 0) = true := by simpa using hc
  have e3 : decide (c = 0) = false := decide_eq_false hc
  clear S hr hok hno q hFB E5 hsz hc
  replace hfin := hide hfin
  go_upto_region 9 with fail
  go_region
  all_goals go_wp2
  exact bodyPost_ret (v := .tuple #[.string ⟨#[]⟩, .slice none 0 0, .iface 44 (.pointer (some ⟨W4.heap.size, 0, none⟩))]) (by simp [results, Tryz.results15, go_sem]) rfl hfin.out
end
section
open Go.RowKit
set_option linter.unusedVariables false
set_option linter.unusedSimpArgs false
/-- In a configuration that ends in a line's end, a line is 'run' just if it stands between two lines' ends. -/
theorem nlRun_iff (c : List UInt8) (hc : c = [] ∨ c.getLast? = some 10) : nlRun <:+: 10 :: c ↔ runW ∈ spl 10 c := by
  revert hc
  refine spl_ind (P := fun c => (c = [] ∨ c.getLast? = some 10) → (nlRun <:+: 10 :: c ↔ runW ∈ spl 10 c)) 10 (fun s hs hc => ?_) (fun a b ha ih hc => ?_) c.length c (Nat.le_refl _)
  · have h0 : s = [] := by
      rcases hc with h | h
      · exact h
      · exact absurd (List.mem_of_getLast? h) hs
    subst h0
    constructor
    · rintro ⟨p, q, h⟩
      have := congrArg List.length h
      simp [nlRun, runW] at this
      omega
    · intro h
      rw [spl_no hs] at h
      simp [runW] at h
  · rw [nlRun_step ha, spl_at ha]
    have hb : b = [] ∨ b.getLast? = some 10 := by
      rcases hc with h | h
      · simp at h
      · rw [List.getLast?_append] at h
        cases b with
        | nil => exact .inl rfl
        | cons x r =>
          right
          rw [List.getLast?_cons_cons] at h
          cases hq : (x :: r).getLast? with
          | none => simp at hq
          | some y => rw [hq] at h; simpa using h
    rw [ih hb]
    simp only [List.cons_append, List.nil_append, List.mem_cons, List.singleton_append]
    constructor
    · rintro (h | h)
      · exact .inl h.symm
      · exact .inr h
    · rintro (h | h)
      · exact .inl h.symm
      · exact .inr h
theorem cfgOk_iff (c : List UInt8) (hc : c = [] ∨ c.getLast? = some 10) : cfgOk c = true ↔ ¬ nlRun <:+: 10 :: c := by
 unfold cfgOk
 rw [nlRun_iff c hc]
 have : (decide (c = []) || decide (c.getLast? = some 10)) = true := by simpa using hc
 rw [this]
 simp
theorem cfgOk_end {c : List UInt8} (hc : ¬ (c = [] ∨ c.getLast? = some 10)) : cfgOk c = false := by
 unfold cfgOk
 have : (decide (c = []) || decide (c.getLast? = some 10)) = false := by simpa using hc
 rw [this]
 rfl
theorem contains_iff (s sub : List UInt8) : Lib.contains s sub = true ↔ sub <:+: s := by
 unfold Lib.contains
 rw [decide_eq_true_eq]
 constructor
 ·intro h
  rcases Lib.index_spec s sub with ⟨h1, _⟩ | ⟨i, h1, h2, h3, _⟩
  ·omega
  ·have h4 : sub <+: s.drop i := by simpa [Lib.occAt] using h3
   exact h4.isInfix.trans (List.drop_suffix i s).isInfix
 ·rintro ⟨p, q, rfl⟩
  rcases Lib.index_spec (p ++ sub ++ q) sub with ⟨h1, h2⟩ | ⟨i, h1, _⟩
  ·have := h2 p.length (by simp)
   simp only [Lib.occAt, List.append_assoc, List.drop_left] at this
   have h9 : sub.isPrefixOf (sub ++ q) = true := List.isPrefixOf_iff_prefix.2 (List.prefix_append _ _)
   rw [h9] at this
   cases this
  ·omega
theorem suffix_iff (c : List UInt8) : Lib.hasSuffix c [10] = decide (c.getLast? = some 10) := by
 rw [Bool.eq_iff_iff, decide_eq_true_eq]
 unfold Lib.hasSuffix
 rw [List.isSuffixOf_iff_suffix]
 constructor
 ·rintro ⟨p, rfl⟩; simp
 ·intro h
  obtain ⟨p, hp⟩ := List.getLast?_eq_some_iff.1 h
  exact ⟨p, hp.symm⟩
/-- A configuration that may stand ahead of a script, as the program asks. -/
theorem cfgOk_prog (c : List UInt8) : cfgOk c = ((decide (c = []) || Lib.hasSuffix c [10]) && !Lib.contains (10 :: c) nlRun) := by
 rw [suffix_iff]
 by_cases h : c = [] ∨ c.getLast? = some 10
 ·have h1 : (decide (c = []) || decide (c.getLast? = some 10)) = true := by simpa using h
  rw [h1, Bool.true_and, Bool.eq_iff_iff, cfgOk_iff c h, Bool.not_eq_true', ← Bool.not_eq_true, contains_iff]
 ·have h1 : (decide (c = []) || decide (c.getLast? = some 10)) = false := by simpa using h
  rw [h1, cfgOk_end h]
  rfl
/-- The events' lines that are told up to the first one that may not be. -/
theorem tellL_len (l : List EvS) (h : l.all evOk = true) : (tellL l).length ≤ 131113 * l.length := by
  induction l with
  | nil => simp [tellL]
  | cons e r ih =>
    simp only [List.all_cons, Bool.and_eq_true] at h
    have h1 := evW_len h.1
    have h2 := ih h.2
    have : tellL (e :: r) = (evW e ++ [10]) ++ tellL r := rfl
    rw [this]
    simp only [List.length_append, List.length_cons, List.length_nil]
    omega
theorem tellL_snoc (l : List EvS) (e : EvS) : tellL (l ++ [e]) = tellL l ++ (evW e ++ [10]) := by simp [tellL]
end
section
open Go.RowKit
set_option linter.unusedVariables false
set_option linter.unusedSimpArgs false
theorem Bd.ext {B b : Nat} {l : List UInt8} {w w' : World} (h : Bd B b l w) (he : Ext w w') : Bd B b l w' := by
 have key : ∀ p, Lib.BuilderAt 69 5 B b p (Lib.byteCells l) w → Lib.BuilderAt 69 5 B b p (Lib.byteCells l) w' := fun p h => by
  have hlt := h.lt
  obtain ⟨hB, v, hbk, ⟨hl, h3⟩, hne⟩ := h
  refine ⟨hB, v, (he.block b hlt).trans hbk, ⟨hl, ?_⟩, hne⟩
  rcases h3 with h3 | ⟨g, cap, cur, rfl, hg, hh, r⟩
  ·exact .inl h3
  ·exact .inr ⟨g, cap, cur, rfl, hg, by rw [he.block g (Array.getElem?_eq_some_iff.1 hh).1]; exact hh, r⟩
 rcases h with h | h
 ·exact .inl (key _ h)
 ·exact .inr (key _ h)
theorem meas_step {n k : Nat} (h : k < n) : n - (intOf (.int .i64 ((k : Int) + 1))).toNat < n - (intOf (.int .i64 (k : Int))).toNat := by
 show n - ((k : Int) + 1).toNat < n - ((k : Int)).toNat
 omega
set_option maxRecDepth 20000 in
set_option maxHeartbeats 4000000 in
theorem SPrint_any (c : List UInt8) (hc : c.length ≤ 1048576) (l : List EvS) (a : Option Addr) (cp : Nat) (hl : l.length ≤ 16777216) (w : World) (hT : Tab w) (hV : Vars w) (hD : Deb w) (hs : Sl EEv w (· < w.heap.size) a l) :
    Calls Tryz.prog 9 #[.string ⟨c.toArray⟩, .slice a l.length cp] w fun e w' => e = .returned (.tuple #[.string ⟨(printS c l).1.toArray⟩, .int .i64 (printS c l).2]) ∧ Ext w w' := by
  have hR : ∀ s (x : Int) W, printS c l = (s, x) → Ext w W → (Ending.returned (.tuple #[.string ⟨s.toArray⟩, .int .i64 x]) = Ending.returned (.tuple #[.string ⟨(printS c l).1.toArray⟩, .int .i64 (printS c l).2]) ∧ Ext w W) := fun s x W h he => ⟨by rw [h], he⟩
  generalize hQ : (fun e w' => e = Ending.returned (.tuple #[.string ⟨(printS c l).1.toArray⟩, .int .i64 (printS c l).2]) ∧ Ext w w') = Post
  replace hR : ∀ s (x : Int) W, printS c l = (s, x) → Ext w W → Post (.returned (.tuple #[.string ⟨s.toArray⟩, .int .i64 x])) W := by rw [← hQ]; exact hR
  clear hQ
  obtain ⟨mx, hmx⟩ := hV.max
  have q1 := Tryz.strings_HasSuffix ⟨c.toArray⟩ ⟨#[10]⟩ w (by simp [ByteArray.size]; omega)
  have g1 : ((ByteArray.mk #[10]) ++ ⟨c.toArray⟩).data.toList = 10 :: c := by simp
  have g2 : (ByteArray.mk #[10, 114, 117, 110, 10]).data.toList = nlRun := rfl
  have g3 : (ByteArray.mk #[10]).data.toList = [10] := rfl
  have g4 : (ByteArray.mk c.toArray).data.toList = c := rfl
  have q2 := Tryz.strings_Contains ((ByteArray.mk #[10]) ++ ⟨c.toArray⟩) ⟨#[10, 114, 117, 110, 10]⟩ mx w (by simp [ByteArray.size]; omega) hmx
  rw [g1, g2] at q2
  rw [g3, g4] at q1
  have hcp := cfgOk_prog c
  have hp1 : cfgOk c = false → printS c l = ([], 2) := fun h => by unfold printS; rw [if_pos h]
  have z1 : ¬ 9223372036854775807 < 1 + c.length := by omega
  have z2 : ¬ 9223372036854775807 < c.length + 3 := by omega
  have z3 : ¬ 9223372036854775807 < c.length + 3 + 1 := by omega
  clear g1 g2 g3 g4 hmx
  generalize Lib.contains (10 :: c) nlRun = bc at *
  generalize Lib.hasSuffix c [10] = bs at *
  replace hR := hide hR
  replace hT := hide hT
  replace hV := hide hV
  replace hD := hide hD
  replace hs := hide hs
  replace hp1 := hide hp1
  replace q1 := hide q1
  replace q2 := hide q2
  replace hc := hide hc
  replace hcp := hide hcp
  go_enter Tryz.func9, Tryz.ntmps9
  go_upto_region 1 with fail
  go_cut [22] (fun s22 wx => s22 = .bool (!cfgOk c) ∧ w = wx)
  case first =>
    by_cases hc0 : c = []
    · have e0 : c.isEmpty = true := by simpa using hc0
      have e1 : (c == []) = true := beq_iff_eq.2 hc0
      have hk : cfgOk c = !bc := by rw [hcp.out, decide_eq_true hc0]; simp
      clear hc0
      replace hk := hide hk
      go_wp2_with (first | (go_at_call 25; refine q1.out.mono ?_; rintro e w1 ⟨rfl, rfl⟩) | (go_at_call 26; refine q2.out.mono ?_; rintro e w1 ⟨rfl, rfl⟩))
      go_meet
      case rel => exact ⟨by rw [hk.out, Bool.not_not], rfl⟩
    · have e0 : c.isEmpty = false := by simpa using hc0
      have e1 : (c == []) = false := beq_eq_false_iff_ne.2 hc0
      have hk : cfgOk c = (bs && !bc) := by rw [hcp.out, decide_eq_false hc0]; simp
      clear hc0
      replace hk := hide hk
      cases bs
      · go_wp2_with (first | (go_at_call 25; refine q1.out.mono ?_; rintro e w1 ⟨rfl, rfl⟩) | (go_at_call 26; refine q2.out.mono ?_; rintro e w1 ⟨rfl, rfl⟩))
        go_meet
        case rel => exact ⟨by rw [hk.out]; rfl, rfl⟩
      · go_wp2_with (first | (go_at_call 25; refine q1.out.mono ?_; rintro e w1 ⟨rfl, rfl⟩) | (go_at_call 26; refine q2.out.mono ?_; rintro e w1 ⟨rfl, rfl⟩))
        go_meet
        case rel => exact ⟨by rw [hk.out, Bool.true_and, Bool.not_not], rfl⟩
  case rest =>
    obtain ⟨rfl, rfl⟩ := hcut
    cases hk : cfgOk c with
    | false =>
      have hf := hide (hp1.out hk)
      clear hk
      go_wp2
      try go_ret2
      exact hR.out _ _ _ hf.out (Ext.refl _)
    | true =>
      by_cases hl5 : 512 < l.length
      · have b1 : decide ((512 : Int) < (l.length : Int)) = true := decide_eq_true (by omega)
        have hf : printS c l = ([], 3) := by unfold printS; rw [if_neg (by rw [hk]; decide), if_pos hl5]
        clear hk hl5 hl z1 z2 z3
        replace hf := hide hf
        go_wp2
        try go_ret2
        exact hR.out _ _ _ hf.out (Ext.refl _)
      have b1 : decide ((512 : Int) < (l.length : Int)) = false := decide_eq_false (by omega)
      have hpr : printS c l = if l.all evOk = false then ([], 2) else if 1048576 < (textScr c l).length then ([], 3) else (textScr c l, 0) := by unfold printS; rw [if_neg (by rw [hk]; decide), if_neg hl5]
      have hl6 : l.length ≤ 512 := by omega
      clear hl5 hl
      have hB0 : Bd w.heap.size w.heap.size [] (w.alloc (Obj.cells #[.pointer none, .slice none 0 0] 69)) := .inl ⟨Nat.le_refl _, _, Array.getElem?_push_size, World.ownsRow_nil _ _ _ _, by simp [Value.ownBlock]⟩
      have hs6 : ((ByteArray.mk c.toArray) ++ ⟨#[114, 117, 110]⟩) ++ ⟨#[10]⟩ = (⟨(c ++ (runW ++ [10])).toArray⟩ : ByteArray) := by apply ByteArray.ext; simp [runW]
      have qW := BWriteString_any w.heap.size w.heap.size [] (c ++ (runW ++ [10])) _ hB0 (by have := hc.out; simp [runW]; omega) (by simp)
      replace hpr := hide hpr
      replace hl6 := hide hl6
      replace qW := hide qW
      replace hs6 := hide hs6
      go_wp2_with (go_at_call 27; rw [hs6.out]; refine qW.out.mono ?_; rintro e W1 ⟨rfl, hB1, hE1⟩)
      have E1 : Ext w W1 := Below.trans ((Ext.refl w).alloc _) hE1
      rw [List.nil_append] at hB1
      clear hE1 qW hs6 hB0 hp1 hcp q1 q2 z1 z2 z3 b1 bc bs
      generalize hT0 : c ++ (runW ++ [10]) = T0 at *
      have hT0l : T0.length ≤ 1048580 := by have := hc.out; rw [← hT0]; simp [runW]; omega
      have htx : textScr c l = T0 ++ tellL l := by rw [← hT0]; simp [textScr]
      rw [htx] at hpr
      clear htx hT0 hk
      replace hT0l := hide hT0l
      go_loopw [32] (fun i wr => ∃ k : Nat, k ≤ l.length ∧ i = .int .i64 k ∧ Bd w.heap.size w.heap.size (T0 ++ tellL (l.take k)) wr ∧ Ext w wr ∧ (l.take k).all evOk = true) (fun i _ => l.length - (intOf i).toNat)
      case atStart => exact ⟨0, Nat.zero_le _, rfl, by simpa [tellL] using hB1, E1, rfl⟩
      case round =>
        clear hB1 E1
        obtain ⟨k, hk, rfl, hB, E, hall⟩ := hrel
        have hsz := E.size
        have hlen : (T0 ++ tellL (l.take k)).length ≤ 1048580 + 131113 * 512 := by
          have h1 := tellL_len _ hall
          have h2 : (l.take k).length ≤ 512 := by rw [List.length_take]; have := hl6.out; omega
          rw [List.length_append]
          have := Nat.mul_le_mul_left 131113 h2
          have := hT0l.out
          omega
        by_cases hlt : k < l.length
        · obtain ⟨b, off, rfl, _, hin, hcell⟩ := EEv.at (hs.out.ext E) k hlt
          have hsn : l.take (k + 1) = l.take k ++ [l[k]] := List.take_succ_eq_append_getElem hlt
          have q := fun W (h : Ext w W) => SLineE_any l[k] hin W (hT.out.ext h) (hV.out.ext h) (hD.out.ext h)
          have hbad : evOk l[k] = false → printS c l = ([], 2) := fun h => by
            rw [hpr.out, if_pos]
            rw [← Bool.not_eq_true, List.all_eq_true]
            intro h9
            rw [h9 _ (List.getElem_mem hlt)] at h
            cases h
          have hgd : evOk l[k] = true → (l.take (k + 1)).all evOk = true := fun h => by rw [hsn, List.all_append, hall]; simp [h]
          have htl : tellL (l.take (k + 1)) = tellL (l.take k) ++ (evW l[k] ++ [10]) := by rw [hsn, tellL_snoc]
          have hwl := fun h : evOk l[k] = true => evW_len h
          generalize hX : T0 ++ tellL (l.take k) = X at *
          generalize l[k] = e at *
          obtain ⟨kd, cn, ad, pr, by_, tk, dr⟩ := e
          have x0 : wr.cell? ⟨b, off + k * 7, none⟩ = some (.int .i64 kd) := hcell 0 _ rfl
          have x1 : wr.cell? ⟨b, off + k * 7 + 1, none⟩ = some (.int .i64 cn) := hcell 1 _ rfl
          have x2 : wr.cell? ⟨b, off + k * 7 + 2, none⟩ = some (.string ⟨ad.toArray⟩) := hcell 2 _ rfl
          have x3 : wr.cell? ⟨b, off + k * 7 + 3, none⟩ = some (.string ⟨pr.toArray⟩) := hcell 3 _ rfl
          have x4 : wr.cell? ⟨b, off + k * 7 + 4, none⟩ = some (.string ⟨by_.toArray⟩) := hcell 4 _ rfl
          have x5 : wr.cell? ⟨b, off + k * 7 + 5, none⟩ = some (.int .i64 tk) := hcell 5 _ rfl
          have x6 : wr.cell? ⟨b, off + k * 7 + 6, none⟩ = some (.int .u32 (dr.toNat : Int)) := hcell 6 _ rfl
          simp only [evCs] at q
          have E2 := E.alloc (Obj.cells #[.int .i64 kd, .int .i64 cn, .string ⟨ad.toArray⟩, .string ⟨pr.toArray⟩, .string ⟨by_.toArray⟩, .int .i64 tk, .int .u32 (dr.toNat : Int)] 31)
          replace q := q _ E2
          unfold evT at q
          clear hcell hin
          cases hok : evOk ⟨kd, cn, ad, pr, by_, tk, dr⟩ with
          | false =>
            rw [if_neg (by rw [hok]; decide)] at q
            have hf := hbad hok
            clear hbad hgd htl hwl hok hsn hX hlen hall hB hk
            replace q := hide q
            replace hf := hide hf
            replace E := hide E
            replace E2 := hide E2
            go_wp2_with fail
            refine q.out.mono ?_
            rintro e1 W3 ⟨rfl, he⟩
            have E3 := E2.out.trans he
            clear q he
            replace E3 := hide E3
            go_wp2
            try go_ret2
            exact hR.out _ _ _ hf.out E3.out
          | true =>
            rw [if_pos hok] at q
            have hwl2 := hwl hok
            have hgd2 := hgd hok
            have hB2 : Bd w.heap.size w.heap.size X (wr.alloc (Obj.cells #[.int .i64 kd, .int .i64 cn, .string ⟨ad.toArray⟩, .string ⟨pr.toArray⟩, .string ⟨by_.toArray⟩, .int .i64 tk, .int .u32 (dr.toNat : Int)] 31)) := hB.ext ((Ext.refl wr).alloc _)
            clear hbad hgd hwl hok hsn hall hB
            have w9 : wrap64 ((k : Int) + 1) = (k : Int) + 1 := wrap64_id _ (by omega) (by have := hl6.out; omega)
            generalize evW ⟨kd, cn, ad, pr, by_, tk, dr⟩ = tw at *
            have z9 : ¬ 9223372036854775807 < tw.length + 1 := by omega
            have hs9 : (ByteArray.mk tw.toArray) ++ ⟨#[10]⟩ = (⟨(tw ++ [10]).toArray⟩ : ByteArray) := by apply ByteArray.ext; simp
            replace q := hide q
            replace E := hide E
            replace E2 := hide E2
            replace hwl2 := hide hwl2
            replace hgd2 := hide hgd2
            replace hB2 := hide hB2
            replace htl := hide htl
            replace hX := hide hX
            replace hlen := hide hlen
            replace hs9 := hide hs9
            go_wp2_with fail
            refine q.out.mono ?_
            rintro e1 W3 ⟨rfl, he⟩
            have E3 := E2.out.trans he
            have hB3 : Bd w.heap.size w.heap.size X W3 := hB2.out.ext he
            have hsz3 := E3.size
            have qW := BWriteString_any w.heap.size w.heap.size X (tw ++ [10]) W3 hB3 (by have := hlen.out; have := hwl2.out; simp; omega) hsz3
            clear q he
            replace E3 := hide E3
            replace qW := hide qW
            replace hB3 := hide hB3
            go_wp2_with (go_at_call 27; rw [hs9.out]; refine qW.out.mono ?_; rintro e W4 ⟨rfl, hB4, hE4⟩; have E4 := hide (Below.trans E3.out hE4 : Ext w W4); replace hB4 := hide hB4; clear hE4)
            go_roundw
            case rel => exact ⟨k + 1, by omega, by go_num, by rw [htl.out, ← List.append_assoc, hX.out]; exact hB4.out, E4.out, hgd2.out⟩
            case measure => rw [w9]; exact meas_step hlt
        · obtain rfl : k = l.length := by omega
          rw [List.take_length] at hB hall hlen
          have hpr2 := hpr.out
          rw [if_neg (by rw [hall]; decide)] at hpr2
          generalize T0 ++ tellL l = X at *
          have q := Tryz.Builder_Len w.heap.size w.heap.size (Lib.byteCells X) wr hB
          rw [byteCells_len] at q
          have q2 := Tryz.Builder_String_any w.heap.size w.heap.size X wr hB hsz
          by_cases hx : 1048576 < X.length
          · have b1 : decide ((1048576 : Int) < (X.length : Int)) = true := decide_eq_true (by omega)
            rw [if_pos hx] at hpr2
            clear hall hlen hB hx hk q2
            replace q := hide q
            replace hpr2 := hide hpr2
            replace E := hide E
            go_wp2_with (go_at_call 28; refine q.out.mono ?_; rintro e W2 ⟨rfl, rfl⟩)
            try go_ret2
            exact hR.out _ _ _ hpr2.out E.out
          · have b1 : decide ((1048576 : Int) < (X.length : Int)) = false := decide_eq_false (by omega)
            rw [if_neg hx] at hpr2
            clear hall hlen hB hx hk
            replace q := hide q
            replace q2 := hide q2
            replace hpr2 := hide hpr2
            replace E := hide E
            go_wp2_with (first | (go_at_call 28; refine q.out.mono ?_; rintro e W2 ⟨rfl, rfl⟩) | (go_at_call 29; refine q2.out.mono ?_; rintro e W3 ⟨rfl, hE3⟩; have E3 := hide (Below.trans E.out hE3 : Ext w W3); clear hE3))
            try go_ret2
            exact hR.out _ _ _ hpr2.out E3.out
end
section
section
open Go.RowKit Go.Extern.Stop Go.Stop Go.Extern
set_option linter.unusedVariables false
theorem isx_typeOf (v : Value) (w : World) : (ReflectliteType.typeOf #[.iface 23 v]).run Tryz.prog w = .ok (.iface 113 (.agg #[.pointer (some ⟨Tryz.prog.globals.size, 23, none⟩)])) w := by kernel_rfl
def cmpF : TypeId → Sem Value := fun t => do Rtype.noPackHeld "Comparable" t; pure (.bool (← typeInfo t).comparable)
theorem isx_comparable (w : World) : (ReflectliteType.method cmpF #[.agg #[.pointer (some ⟨Tryz.prog.globals.size, 23, none⟩)]]).run Tryz.prog w = .ok (.bool true) w := by kernel_rfl
theorem isx_mcomparable (n : Nat) (v : Value) (w : World) : (Go.method (n + 1) 113 v "Comparable").run Tryz.prog w = .ok (162, v) w := by kernel_rfl
theorem isx_munwrap (n : Nat) (v : Value) (w : World) : (Go.method (n + 1) 44 v "Unwrap").run Tryz.prog w = .ok (155, v) w := by kernel_rfl
theorem isx_noIsF (v : Value) (xT : TypeId) (w : World) : (Instr.typeAssert (.iface 44 v) xT 125 true).run Tryz.prog w = .ok (.tuple #[.nilIface, .bool false]) w := run_typeAssert_lacksB Tryz.underlying125 (by kernel_rfl) (by kernel_rfl) v xT w
theorem isx_hasUnwrapF (v : Value) (xT : TypeId) (w : World) : (Instr.typeAssert (.iface 44 v) xT 120 true).run Tryz.prog w = .ok (.tuple #[.iface 44 v, .bool true]) w := run_typeAssert_hasB Tryz.underlying120 (by kernel_rfl) v xT w
theorem isx_noIsE (v : Value) (xT : TypeId) (w : World) : (Instr.typeAssert (.iface 23 v) xT 125 true).run Tryz.prog w = .ok (.tuple #[.nilIface, .bool false]) w := run_typeAssert_lacksB Tryz.underlying125 (by kernel_rfl) (by kernel_rfl) v xT w
theorem isx_noUnwrapE (v : Value) (xT : TypeId) (w : World) : (Instr.typeAssert (.iface 23 v) xT 120 true).run Tryz.prog w = .ok (.tuple #[.nilIface, .bool false]) w := run_typeAssert_lacksB Tryz.underlying120 (by kernel_rfl) (by kernel_rfl) v xT w
theorem isx_noUnwrapsE (v : Value) (xT : TypeId) (w : World) : (Instr.typeAssert (.iface 23 v) xT 122 true).run Tryz.prog w = .ok (.tuple #[.nilIface, .bool false]) w := run_typeAssert_lacksB Tryz.underlying122 (by kernel_rfl) (by kernel_rfl) v xT w
/-- '==' of two errors that are numbers. -/
theorem run_eql_errno (w : World) (x y : Int) : (binOp .eql 39 (.iface 23 (.int .i64 x)) (.iface 23 (.int .i64 y))).run Tryz.prog w = .ok (.bool (x == y)) w := by
 have hi := Tryz.underlying39
 have hn := Tryz.underlying23
 have hc : (Tryz.prog.info? 23).map (·.comparable) = some true := by kernel_rfl
 obtain ⟨i, hi1, hi2⟩ := Option.map_eq_some_iff.1 hc
 have h : ∀ d : Nat, (Op.equalIn (d + 1 + 1) 39 (.iface 23 (.int .i64 x)) (.iface 23 (.int .i64 y))).run Tryz.prog w = .ok (x == y) w := fun d => by
  simp [Op.equalIn, run_underlying hi, run_underlying hn, typeInfo, hi1, hi2]
 simp only [binOp]
 simp [Op.equal, Op.maxDepth, h 9998]
set_option maxRecDepth 20000 in
set_option maxHeartbeats 4000000 in
theorem isF_any (a : Addr) (c d : Int) (w : World) (h : w.cell? a = some (.int .i64 c)) :
  Calls Tryz.prog 20 #[.iface 44 (.pointer (some a)), .iface 23 (.int .i64 d)] w fun e w' => e = .returned (.bool (c == d)) ∧ w = w' := by
 have h8 := @run_callFunc_extern Tryz.prog 42 _ ReflectliteType.typeOf Tryz.func42 (by kernel_rfl) (by kernel_rfl) (by kernel_rfl) (by kernel_rfl)
 have h32 := @run_callFunc_extern Tryz.prog 162 _ (ReflectliteType.method cmpF) Tryz.func162 (by kernel_rfl) (by kernel_rfl) (by kernel_rfl) (by kernel_rfl)
 have tT := isx_typeOf
 have cT := isx_comparable
 generalize Tryz.prog.globals.size = K at *
 have mR := fun v w => isx_mcomparable 312 v w
 have mU := fun v w => isx_munwrap 312 v w
 simp only [Nat.reduceAdd] at mR mU
 have nF := isx_noIsF
 have uF := isx_hasUnwrapF
 have nE := isx_noIsE
 have uE := isx_noUnwrapE
 have vE := isx_noUnwrapsE
 have q1 := fun w => run_eql_iface_types (P := Tryz.prog) 44 23 (.pointer (some a)) (.int .i64 d) Tryz.underlying39 (by decide) w
 have q2 := fun w => run_eql_errno w c d
 obtain ⟨b, o, pp⟩ := a
 by_cases hcd : c = d
 ·have hb : (c == d) = true := by rw [beq_iff_eq]; exact hcd
  rw [hb]
  simp only [hb] at q2
  clear hcd hb
  go_enter Tryz.func20, Tryz.ntmps20
  go_wp2
  refine wp_loop_rounds 2 ?_
  rw [rounds_succ]
  go_wp2
  rw [rounds_succ]
  go_wp2
  go_ret
  exact ⟨rfl, rfl⟩
 ·have hb : (c == d) = false := by rw [beq_eq_false_iff_ne]; exact hcd
  rw [hb]
  simp only [hb] at q2
  clear hcd hb
  go_enter Tryz.func20, Tryz.ntmps20
  go_wp2
  refine wp_loop_rounds 2 ?_
  rw [rounds_succ]
  go_wp2
  rw [rounds_succ]
  go_wp2
  go_ret
  exact ⟨rfl, rfl⟩
theorem as_valueOf27 (t : Addr) (w : World) : (ReflectliteValue.unpack (.iface 46 (.pointer (some t)))).run Tryz.prog w
  = .ok (.agg #[.pointer (some ⟨Tryz.prog.globals.size, 46, none⟩), .pointer (some ⟨w.heap.size, 0, none⟩), .int .u64 150]) (w.alloc (.cells #[.pointer (some t)] 46)) := by kernel_rfl
theorem as_type27 (a : Addr) (w : World) : (ReflectliteValue.methodAny (ReflectliteValue.valueError "reflectlite.Value.Type" 0) (fun t _ _ _ => ReflectliteType.toType t) #[.agg #[.pointer (some ⟨Tryz.prog.globals.size, 46, none⟩), .pointer (some a), .int .u64 150]]).run Tryz.prog w
  = .ok (.iface 113 (.agg #[.pointer (some ⟨Tryz.prog.globals.size, 46, none⟩)])) w := by kernel_rfl
theorem as_methodKind (n : Nat) (h : Value) (w : World) : (Go.method (n + 1) 113 (.agg #[h]) "Kind").run Tryz.prog w = .ok (150, h) w := by kernel_rfl
theorem as_kind27 (w : World) : ((ReflectliteType.abiMethod fun t => (fun a : Nat => Value.int IntKind.u8 (a : Int)) <$> Rtype.kind t) #[.pointer (some ⟨Tryz.prog.globals.size, 46, none⟩)]).run Tryz.prog w = .ok (.int .u8 22) w := by kernel_rfl
theorem as_kind25 (w : World) : ((ReflectliteType.abiMethod fun t => (fun a : Nat => Value.int IntKind.u8 (a : Int)) <$> Rtype.kind t) #[.pointer (some ⟨Tryz.prog.globals.size, 44, none⟩)]).run Tryz.prog w = .ok (.int .u8 22) w := by kernel_rfl
theorem as_rlm (z : Sem Value) (f : TypeId → Addr → Nat → Nat → Sem Value) (v : Value) :
  ReflectliteValue.method z f #[v] = (do match ← ReflectliteValue.parts v with | none => z | some (t, a, fl) => f t a fl (fl % 32)) := rfl
theorem as_parts27 (a : Addr) (w : World) : (ReflectliteValue.parts (.agg #[.pointer (some ⟨Tryz.prog.globals.size, 46, none⟩), .pointer (some a), .int .u64 150])).run Tryz.prog w = .ok (some (46, a, 150)) w := by kernel_rfl
/-- (Value).IsNil at the Value of a **p.E that is not nil. -/
theorem as_isNil27 (a p : Addr) (W : World) (ha : W.cell? a = some (.pointer (some p))) :
  (ReflectliteValue.method (ReflectliteValue.valueError "reflectlite.Value.IsNil" 0) ReflectliteValue.isNil #[.agg #[.pointer (some ⟨Tryz.prog.globals.size, 46, none⟩), .pointer (some a), .int .u64 150]]).run Tryz.prog W = .ok (.bool false) W := by
 rw [as_rlm]
 simp only [Sem.run_bind, as_parts27, Result.andThen]
 simp [ReflectliteValue.isNil, loadVar, isAgg, underlying, Tryz.underlying46, ha, Result.andThen]
theorem as_methodElem (n : Nat) (h : Value) (w : World) : (Go.method (n + 1) 113 (.agg #[h]) "Elem").run Tryz.prog w = .ok (163, .agg #[h]) w := by kernel_rfl
theorem as_methodImplements (n : Nat) (h : Value) (w : World) : (Go.method (n + 1) 113 (.agg #[h]) "Implements").run Tryz.prog w = .ok (164, .agg #[h]) w := by kernel_rfl
theorem as_methodAssignableTo (n : Nat) (h : Value) (w : World) : (Go.method (n + 1) 113 (.agg #[h]) "AssignableTo").run Tryz.prog w = .ok (161, .agg #[h]) w := by kernel_rfl
theorem as_elem27 (w : World) : (ReflectliteType.method ReflectliteType.elem #[.agg #[.pointer (some ⟨Tryz.prog.globals.size, 46, none⟩)]]).run Tryz.prog w = .ok (.iface 113 (.agg #[.pointer (some ⟨Tryz.prog.globals.size, 44, none⟩)])) w := by kernel_rfl
theorem as_implements25 (w : World) : (ReflectliteType.relation "Implements" ReflectliteType.implements_ #[.agg #[.pointer (some ⟨Tryz.prog.globals.size, 44, none⟩)], .iface 113 (.agg #[.pointer (some ⟨Tryz.prog.globals.size, 39, none⟩)])]).run Tryz.prog w = .ok (.bool true) w := by kernel_rfl
theorem as_typeOf25 (v : Value) (w : World) : (ReflectliteType.typeOf #[.iface 44 v]).run Tryz.prog w = .ok (.iface 113 (.agg #[.pointer (some ⟨Tryz.prog.globals.size, 44, none⟩)])) w := by kernel_rfl
theorem as_assignable25 (w : World) : (ReflectliteType.relation "AssignableTo" ReflectliteType.assignableTo #[.agg #[.pointer (some ⟨Tryz.prog.globals.size, 44, none⟩)], .iface 113 (.agg #[.pointer (some ⟨Tryz.prog.globals.size, 44, none⟩)])]).run Tryz.prog w = .ok (.bool true) w := by kernel_rfl
theorem as_valueOf25 (e : Addr) (w : World) : (ReflectliteValue.unpack (.iface 44 (.pointer (some e)))).run Tryz.prog w
  = .ok (.agg #[.pointer (some ⟨Tryz.prog.globals.size, 44, none⟩), .pointer (some ⟨w.heap.size, 0, none⟩), .int .u64 150]) (w.alloc (.cells #[.pointer (some e)] 44)) := by kernel_rfl
theorem as_elemOf27 (w : World) : (Rtype.elem? 46).run Tryz.prog w = .ok (some 44) w := by kernel_rfl
theorem as_mk25 (p : Addr) (w : World) : (ReflectliteValue.mk 44 p ReflectliteValue.flagAddr).run Tryz.prog w = .ok (.agg #[.pointer (some ⟨Tryz.prog.globals.size, 44, none⟩), .pointer (some p), .int .u64 406]) w := by kernel_rfl
/-- (Value).Elem at the Value of a **p.E that is not nil: the Value of the *p.E variable that it points to, addressable. -/
theorem as_elemV27 (a p : Addr) (W : World) (ha : W.cell? a = some (.pointer (some p))) :
  (ReflectliteValue.method (ReflectliteValue.valueError "reflectlite.Value.Elem" 0) ReflectliteValue.elem #[.agg #[.pointer (some ⟨Tryz.prog.globals.size, 46, none⟩), .pointer (some a), .int .u64 150]]).run Tryz.prog W
   = .ok (.agg #[.pointer (some ⟨Tryz.prog.globals.size, 44, none⟩), .pointer (some p), .int .u64 406]) W := by
 rw [as_rlm]
 simp only [Sem.run_bind, as_parts27, Result.andThen]
 simp [ReflectliteValue.elem, loadVar, isAgg, underlying, Tryz.underlying46, ha, Result.andThen, as_elemOf27, as_mk25]
theorem as_rls (v x : Value) : ReflectliteValue.set #[v, x] = (do
  let (some (dst, a, fl), some (src, b, _)) := (← ReflectliteValue.parts v, ← ReflectliteValue.parts x)
   | unsupported (.noEntry "extern/(internal/reflectlite.Value).Set.zeroValue")
  if fl / ReflectliteValue.flagAddr % 2 == 0 then unsupported (.noEntry "extern/(internal/reflectlite.Value).Set.unaddressable")
  let val ← loadVar src b
  if ← Rtype.directlyAssignable dst src then storeVar dst a val
  else if ← Rtype.implements dst src then
   if (← Rtype.kind src) == 20 then
    match val with
    | .nilIface => unsupported (.noEntry "extern/reflectlite: a nil value of one interface type handed on as a value of another")
    | _ => storeVar dst a val
   else storeVar dst a (.iface src val)
  else panicString ("reflectlite.Set: value of type " ++ (← Rtype.spelt src) ++ " is not assignable to type " ++ (← Rtype.spelt dst))
  pure (.tuple #[])) := rfl
theorem as_parts25a (a : Addr) (w : World) : (ReflectliteValue.parts (.agg #[.pointer (some ⟨Tryz.prog.globals.size, 44, none⟩), .pointer (some a), .int .u64 406])).run Tryz.prog w = .ok (some (44, a, 406)) w := by kernel_rfl
theorem as_parts25 (a : Addr) (w : World) : (ReflectliteValue.parts (.agg #[.pointer (some ⟨Tryz.prog.globals.size, 44, none⟩), .pointer (some a), .int .u64 150])).run Tryz.prog w = .ok (some (44, a, 150)) w := by kernel_rfl
theorem as_direct25 (w : World) : (Rtype.directlyAssignable 44 44).run Tryz.prog w = .ok true w := by kernel_rfl
/-- (Value).Set: the *p.E variable at 'ta' gets what the Value's own variable 'b' holds. -/
theorem as_set25 (ta b e : Addr) (old : Value) (W : World) (hb : W.cell? b = some (.pointer (some e))) (ht : W.cell? ta = some old) (hf : W.frozen? ta = false) :
  (ReflectliteValue.set #[.agg #[.pointer (some ⟨Tryz.prog.globals.size, 44, none⟩), .pointer (some ta), .int .u64 406], .agg #[.pointer (some ⟨Tryz.prog.globals.size, 44, none⟩), .pointer (some b), .int .u64 150]]).run Tryz.prog W
   = .ok (.tuple #[]) (W.setCell ta (.pointer (some e))) := by
 rw [as_rls]
 simp only [Sem.run_bind, as_parts25a, as_parts25, Result.andThen]
 simp [ReflectliteValue.flagAddr, loadVar, isAgg, underlying, Tryz.underlying44, hb, Result.andThen, as_direct25, storeVar, Value.cells, storeCells, Addr.add]
 rw [run_store Tryz.prog W ta _ _ (by rfl)]
 simp [ht, hf]
def kindF : TypeId → Sem Value := fun t => do pure (.int .u8 (← Rtype.kind t))
theorem as_kd : (fun t => (fun a : Nat => Value.int IntKind.u8 (a : Int)) <$> Rtype.kind t) = kindF := by funext t; simp [kindF]
set_option maxRecDepth 20000 in
set_option maxHeartbeats 8000000 in
theorem asF_hit0 (e t : Addr) (old : Value) (w : World) (hg : w.cell? ⟨0, 0, none⟩ = some (.iface 113 (.agg #[.pointer (some ⟨Tryz.prog.globals.size, 39, none⟩)]))) (ht0 : w.cell? t = some old) (hf0 : w.frozen? t = false) :
  Calls Tryz.prog 16 #[.iface 44 (.pointer (some e)), .iface 46 (.pointer (some t))] w fun ev w' => ev = .returned (.bool true) ∧ w' = ((((w.alloc (.cells #[.pointer (some t)] 46)).alloc (.cells #[.pointer (some ⟨Tryz.prog.globals.size, 46, none⟩), .pointer (some ⟨w.heap.size, 0, none⟩), .int .u64 150] 83)).alloc (.cells #[.pointer (some ⟨Tryz.prog.globals.size, 46, none⟩), .pointer (some ⟨w.heap.size, 0, none⟩), .int .u64 150] 83)).alloc (.cells #[.pointer (some e)] 44)).setCell t (.pointer (some e)) := by
 have h6 := @run_callFunc_extern Tryz.prog 38 _ (fun args => ReflectliteValue.unpack (args.getD 0 (.tuple #[]))) Tryz.func38 (by kernel_rfl) (by kernel_rfl) (by kernel_rfl) (by kernel_rfl)
 have h7 := @run_callFunc_extern Tryz.prog 39 _ (ReflectliteValue.methodAny (ReflectliteValue.valueError "reflectlite.Value.Type" 0) (fun t _ _ _ => ReflectliteType.toType t)) Tryz.func39 (by kernel_rfl) (by kernel_rfl) (by kernel_rfl) (by kernel_rfl)
 have h8 := @run_callFunc_extern Tryz.prog 40 _ (ReflectliteValue.method (ReflectliteValue.valueError "reflectlite.Value.IsNil" 0) ReflectliteValue.isNil) Tryz.func40 (by kernel_rfl) (by kernel_rfl) (by kernel_rfl) (by kernel_rfl)
 have h27 := @run_callFunc_extern Tryz.prog 150 _ (ReflectliteType.abiMethod kindF) Tryz.func150 (by kernel_rfl) (by kernel_rfl) (by kernel_rfl) (by kernel_rfl)
 have h37 := @run_callFunc_extern Tryz.prog 163 _ (ReflectliteType.method ReflectliteType.elem) Tryz.func163 (by kernel_rfl) (by kernel_rfl) (by kernel_rfl) (by kernel_rfl)
 have h38 := @run_callFunc_extern Tryz.prog 164 _ (ReflectliteType.relation "Implements" ReflectliteType.implements_) Tryz.func164 (by kernel_rfl) (by kernel_rfl) (by kernel_rfl) (by kernel_rfl)
 have h10 := @run_callFunc_extern Tryz.prog 42 _ ReflectliteType.typeOf Tryz.func42 (by kernel_rfl) (by kernel_rfl) (by kernel_rfl) (by kernel_rfl)
 have h35 := @run_callFunc_extern Tryz.prog 161 _ (ReflectliteType.relation "AssignableTo" ReflectliteType.assignableTo) Tryz.func161 (by kernel_rfl) (by kernel_rfl) (by kernel_rfl) (by kernel_rfl)
 have h11 := @run_callFunc_extern Tryz.prog 71 _ (ReflectliteValue.method (ReflectliteValue.valueError "reflectlite.Value.Elem" 0) ReflectliteValue.elem) Tryz.func71 (by kernel_rfl) (by kernel_rfl) (by kernel_rfl) (by kernel_rfl)
 have h12 := @run_callFunc_extern Tryz.prog 72 _ ReflectliteValue.set Tryz.func72 (by kernel_rfl) (by kernel_rfl) (by kernel_rfl) (by kernel_rfl)
 have tO := as_typeOf25
 have mA := as_methodAssignableTo 312
 have a25 := as_assignable25
 have v25 := as_valueOf25
 have f6 := as_valueOf27
 have f7 := as_type27
 have mK := as_methodKind 312
 have mE := as_methodElem 312
 have mI := as_methodImplements 312
 simp only [Nat.reduceAdd] at mA mK mE mI
 have k27 := as_kind27
 have k25 := as_kind25
 rw [as_kd] at k27 k25
 have e27 := as_elem27
 have i25 := as_implements25
 have n8 := as_isNil27 ⟨w.heap.size, 0, none⟩ t ((w.alloc (.cells #[.pointer (some t)] 46)).alloc (.cells #[.pointer (some ⟨Tryz.prog.globals.size, 46, none⟩), .pointer (some ⟨w.heap.size, 0, none⟩), .int .u64 150] 83)) (by simp)
 have hlt : 0 < w.heap.size := World.block_lt_of_cell? w ⟨0, 0, none⟩ hg
 have hg2 : ((w.alloc (.cells #[.pointer (some t)] 46)).alloc (.cells #[.pointer (some ⟨Tryz.prog.globals.size, 46, none⟩), .pointer (some ⟨w.heap.size, 0, none⟩), .int .u64 150] 83)).cell? ⟨0, 0, none⟩ = some (.iface 113 (.agg #[.pointer (some ⟨Tryz.prog.globals.size, 39, none⟩)])) := by
  rw [World.cell?_alloc_lt _ _ ⟨0, 0, none⟩ (by first | (simp; done) | (simp; omega)), World.cell?_alloc_lt _ _ ⟨0, 0, none⟩ hlt]; exact hg
 have htl : t.block < w.heap.size := by
  rcases Nat.lt_or_ge t.block w.heap.size with h | h
  ·exact h
  ·simp [World.cell?, Array.getElem?_eq_none h] at ht0
 have el := as_elemV27 ⟨w.heap.size, 0, none⟩ t (((w.alloc (.cells #[.pointer (some t)] 46)).alloc (.cells #[.pointer (some ⟨Tryz.prog.globals.size, 46, none⟩), .pointer (some ⟨w.heap.size, 0, none⟩), .int .u64 150] 83)).alloc (.cells #[.pointer (some ⟨Tryz.prog.globals.size, 46, none⟩), .pointer (some ⟨w.heap.size, 0, none⟩), .int .u64 150] 83)) (by rw [World.cell?_alloc_lt _ _ ⟨w.heap.size, 0, none⟩ (by simp; omega)]; simp)
 have st := as_set25 t ⟨w.heap.size + 1 + 1 + 1, 0, none⟩ e old ((((w.alloc (.cells #[.pointer (some t)] 46)).alloc (.cells #[.pointer (some ⟨Tryz.prog.globals.size, 46, none⟩), .pointer (some ⟨w.heap.size, 0, none⟩), .int .u64 150] 83)).alloc (.cells #[.pointer (some ⟨Tryz.prog.globals.size, 46, none⟩), .pointer (some ⟨w.heap.size, 0, none⟩), .int .u64 150] 83)).alloc (.cells #[.pointer (some e)] 44))
  (by rw [World.cell?_alloc_at _ _ _ _ (by simp)]; rfl)
  (by rw [World.cell?_alloc_lt _ _ t (by simp; omega), World.cell?_alloc_lt _ _ t (by simp; omega), World.cell?_alloc_lt _ _ t (by simp; omega), World.cell?_alloc_lt _ _ t htl]; exact ht0)
  (by rw [World.frozen?_alloc_old _ _ t (by simp; omega), World.frozen?_alloc_old _ _ t (by simp; omega), World.frozen?_alloc_old _ _ t (by simp; omega), World.frozen?_alloc_old _ _ t (Nat.ne_of_lt htl)]; exact hf0)
 clear hg
 generalize Tryz.prog.globals.size = K at *
 go_enter Tryz.func16, Tryz.ntmps16
 go_wp2
 refine wp_loop_rounds 1 ?_
 rw [rounds_succ]
 go_wp2
 go_ret
 exact ⟨rfl, rfl⟩
/-- What the library's variable errors.errorType holds. -/
def ErT (w : World) : Prop := w.cell? ⟨0, 0, none⟩ = some (.iface 113 (.agg #[.pointer (some ⟨Tryz.prog.globals.size, 39, none⟩)]))
theorem ErT.ext {w w' : World} (h : ErT w) (he : Ext w w') : ErT w' := he.cell h
theorem asF_hit (e t : Addr) (old : Value) (w : World) (hg : ErT w) (ht0 : w.cell? t = some old) (hf0 : w.frozen? t = false) :
  Calls Tryz.prog 16 #[.iface 44 (.pointer (some e)), .iface 46 (.pointer (some t))] w fun ev w' => ev = .returned (.bool true) ∧ ∃ w1, Ext w w1 ∧ w' = w1.setCell t (.pointer (some e)) :=
 (asF_hit0 e t old w hg ht0 hf0).mono fun _ _ ⟨h1, h2⟩ => ⟨h1, _, ((((Ext.refl w).alloc _).alloc _).alloc _).alloc _, h2⟩
end
end
section
open Go.RowKit
set_option linter.unusedVariables false
set_option linter.unusedSimpArgs false
def wkC : List UInt8 := [97, 115, 32, 49, 10]
def wkL : List EvS := [⟨6, 0, [], [], [], 5, 0⟩, ⟨4, 1, [], [], [0, 255], 0, 0⟩, ⟨10, 0, [], [], [], 0, 0⟩]
def wkT : List UInt8 := [97, 115, 32, 49, 10, 114, 117, 110, 10, 116, 105, 99, 107, 32, 53, 10, 100, 97, 116, 97, 32, 49, 32, 48, 48, 102, 102, 10, 100, 114, 97, 105, 110, 10]
theorem wk_text : textScr wkC wkL = wkT := by decide +kernel
theorem wk_ok : cfgOk wkC = true ∧ wkL.all evOk = true := by decide +kernel
theorem wk_parse : parseS wkT = (wkC, wkL, 0, 0) := by
 rw [← wk_text]
 exact parse_print wk_ok.1 (by decide) wk_ok.2 (by rw [wk_text]; decide)
theorem wk_print : printS wkC wkL = (wkT, 0) := by
 unfold printS
 rw [if_neg (by rw [wk_ok.1]; decide), if_neg (by decide), if_neg (by rw [wk_ok.2]; decide), wk_text, if_neg (by decide)]
set_option maxRecDepth 20000 in
set_option maxHeartbeats 4000000 in
theorem Works35_any (w : World) (hT : Tab w) (hV : Vars w) (hD : Deb w) : Calls Tryz.prog 11 #[] w fun e w' => e = .returned (.bool true) ∧ Ext w w' := by
 have q1 := SParse_any wkT (by decide) w hT hV hD
 unfold ParP at q1
 rw [wk_parse] at q1
 have q2 := fun W a cp (h : Ext w W) hs => SPrint_any wkC (by decide) wkL a cp (by decide) W (hT.ext h) (hV.ext h) (hD.ext h) hs
 rw [wk_print] at q2
 clear hT hV hD
 unfold wkT at q1 q2
 unfold wkC at q1 q2
 replace q1 := hide q1
 replace q2 := hide q2
 go_enter Tryz.func11, Tryz.ntmps11
 go_wp2_with fail
 refine q1.out.mono ?_
 rintro e W1 ⟨⟨cfg, evs, v, h1, rfl, O⟩ | ⟨c, k, f, h0, h1, _⟩, E⟩
 ·injection h1 with h1 h2
  injection h2 with h2 _
  subst h1 h2
  obtain ⟨a, cp, rfl, hsl⟩ := O.sl
  have q := q2.out W1 a cp E (hsl.mono fun b h => h.2)
  obtain ⟨b, off, rfl, _, _, hc0⟩ := EEv.at hsl 0 (by decide)
  obtain ⟨b', off', hbb, _, _, hc1⟩ := EEv.at hsl 1 (by decide)
  injection hbb with hbb
  injection hbb with hbb hoo
  subst hbb hoo
  have x0 : W1.cell? ⟨b, off + 5, none⟩ = some (.int .i64 5) := hc0 5 _ rfl
  have x1 : W1.cell? ⟨b, off + 7 + 4, none⟩ = some (.string ⟨#[0, 255]⟩) := hc1 4 _ rfl
  clear hc0 hc1 hsl O q1 q2
  replace q := hide q
  replace E := hide E
  simp only [show wkL.length = 3 from rfl] at *
  go_wp2_with fail
  refine q.out.mono ?_
  rintro e W2 ⟨rfl, E2⟩
  have y0 := E2.cell x0
  have y1 := E2.cell x1
  have E3 := E.out.trans E2
  clear x0 x1 E2 E q
  replace E3 := hide E3
  go_wp2
  go_ret
  exact ⟨rfl, E3.out⟩
 ·injection h1 with _ h1
  injection h1 with _ h1
  injection h1 with h1 _
  exact absurd h1.symm h0
end
section
open Go.RowKit
set_option linter.unusedVariables false
set_option linter.unusedSimpArgs false
structure DoIn (d : DoS) : Prop where
  ticks : d.ticks < 65536
  bytes : d.bytes.length ≤ 1048576
def EDo : Enc DoS := Enc.cells doCs DoIn 23 (fun _ => rfl) (fun x u hu => by simp only [doCs, List.mem_cons, List.not_mem_nil, or_false] at hu; rcases hu with rfl | rfl | rfl | rfl | rfl | rfl | rfl | rfl | rfl | rfl | rfl | rfl | rfl | rfl | rfl | rfl | rfl | rfl | rfl | rfl | rfl | rfl | rfl <;> rfl)
theorem EDo.at {w : World} {S : Nat → Prop} {a : Option Addr} {l : List DoS} (h : Sl EDo w S a l) (k : Nat) (hk : k < l.length) :
  ∃ b off, a = some ⟨b, off, none⟩ ∧ S b ∧ DoIn l[k] ∧ ∀ j u, (doCs l[k])[j]? = some u → w.cell? ⟨b, off + k * 23 + j, none⟩ = some u := by
 obtain ⟨b, off, cs, rfl, hb, ⟨rfl, hi⟩, hc⟩ := h.at k hk
 exact ⟨b, off, rfl, hb, hi, hc⟩
theorem EvIn.of (d : DoS) : EvIn (ofS d) := evOk_in (ofS_ok d)
theorem evT_of (d : DoS) : evT (ofS d) = (evW (ofS d), 0) := by unfold evT; rw [if_pos (ofS_ok d)]
set_option maxRecDepth 20000 in
set_option maxHeartbeats 8000000 in
theorem ScriptTold_walk (a : Option Addr) (cp : Nat) (l : List DoS) (at_ : UInt8) (w : World) (hl : l.length ≤ 16777216) (hs : Sl EDo w (· < w.heap.size) a l) (hT : Tab w) (hD : Deb w) (hV : Vars w) (hg : ErT w) :
  Calls Tryz.prog 6 #[.slice a l.length cp, .int .u8 (at_.toNat : Int)] w fun e w' => e = .returned (.bool true) ∧ Ext w w' := by
 have qw := fun W (h : Ext w W) => Works35_any W (hT.ext h) (hV.ext h) (hD.ext h)
 have qo := fun d W => Of35_any d W
 have ql := fun d W (h : Ext w W) => SLineE_any (ofS d) (EvIn.of d) W (hT.ext h) (hV.ext h) (hD.ext h)
 have qp := fun s hs W (h : Ext w W) => SParse_any s hs W (hT.ext h) (hV.ext h) (hD.ext h)
 have hg2 := fun W (h : Ext w W) => hg.ext h
 clear hT hD hV hg
 obtain ⟨n, hn⟩ : ∃ n, min l.length 30 = n := ⟨_, rfl⟩
 have hnl : n ≤ l.length := by omega
 have hn30 : n ≤ 30 := by omega
 have hmin : min (l.length : Int) 30 = (n : Int) := by omega
 obtain ⟨k, hk⟩ : ∃ k, at_.toNat % (n + 1) = k := ⟨_, rfl⟩
 have hkn : k ≤ n := by have := Nat.mod_lt at_.toNat (show 0 < n + 1 by omega); omega
 have hmod : Int.tmod (at_.toNat : Int) ((n : Int) + 1) = (k : Int) := by
  rw [Int.tmod_eq_emod_of_nonneg (by omega), ← hk]
  rfl
 have w0 : wrap64 (at_.toNat : Int) = (at_.toNat : Int) := wrap64_id _ (by omega) (by have := at_.toNat_lt; omega)
 obtain ⟨E, hE⟩ : ∃ E, (l.take n).map ofS = E := ⟨_, rfl⟩
 have hEl : E.length = n := by rw [← hE, List.length_map, List.length_take]; omega
 have hEi : ∀ i, (h : i < n) → E[i]? = some (ofS (l[i]'(Nat.lt_of_lt_of_le h hnl))) := fun i h => by
  rw [← hE, List.getElem?_map, List.getElem?_take_of_lt h, List.getElem?_eq_getElem (show i < l.length by omega)]
  rfl
 have hEn : E[n]? = none := List.getElem?_eq_none (by omega)
 have hEo : E.all evOk = true := by
  rw [List.all_eq_true, ← hE]
  intro e he
  obtain ⟨d, _, rfl⟩ := List.mem_map.1 he
  exact ofS_ok d
 have hEw : ∀ e ∈ E, (evW e).length ≤ 200 := by
  rw [← hE]
  intro e he
  obtain ⟨d, _, rfl⟩ := List.mem_map.1 he
  exact evW_of d
 have hUl := toldU_len E k hEw
 have hU0 : toldU E k 0 = preT := rfl
 have hUs : ∀ i, toldU E k (i + 1) = (if i = k then toldU E k i ++ (tockT ++ [10]) else toldU E k i) ++ (match E[i]? with | some e => evW e ++ [10] | none => []) := fun i => rfl
 have hfin := told_parse E k (by omega) hEo (by omega) (by have := hUl (E.length + 1); omega)
 rw [hEl] at hfin
 generalize toldU E k = U at *
 clear hE hEo hEw hEl hk
 replace hn := hide hn
 replace qw := hide qw
 replace qo := hide qo
 replace ql := hide ql
 replace qp := hide qp
 replace hg2 := hide hg2
 replace hs := hide hs
 replace hl := hide hl
 replace hEi := hide hEi
 replace hEn := hide hEn
 replace hUl := hide hUl
 replace hU0 := hide hU0
 replace hUs := hide hUs
 replace hfin := hide hfin
 go_enter Tryz.func6, Tryz.ntmps6
 go_wp2_with fail
 try simp only [w0, hmod]
 go_loopw [7, 8] (fun t i wr => ∃ j : Nat, i = .int .i64 (j : Int) ∧ j ≤ n + 1 ∧ t = .string ⟨(U j).toArray⟩ ∧ Ext w wr) (fun _ i _ => n + 1 - (intOf i).toNat)
 case atStart => exact ⟨0, rfl, by omega, by rw [hU0.out]; rfl, Ext.refl _⟩
 case round =>
  obtain ⟨j, rfl, hj, rfl, X⟩ := hrel
  have hjb : j ≤ 31 := by omega
  have w1 : IntKind.i64.wrap ((j : Int) + 1) = (j : Int) + 1 := by rw [IntKind.wrap_i64]; omega
  have hu := hUl.out j
  have hsz : (U j).length ≤ 10000 := by omega
  have hus := hUs.out j
  by_cases hjn : j ≤ n
  ·have bj : decide (j ≤ n) = true := decide_eq_true hjn
   have hT0 : ∀ b : Bool, decide (j = k) = b → (if j = k then U j ++ (tockT ++ [10]) else U j) = if b = true then U j ++ (tockT ++ [10]) else U j := fun b h => by rw [← h]; simp
   by_cases hlt : j < n
   ·have bl : decide (j < n) = true := decide_eq_true hlt
    obtain ⟨b, off, rfl, _, _, hc⟩ := EDo.at (hs.out.ext X) j (Nat.lt_of_lt_of_le hlt hnl)
    have hei := hEi.out j hlt
    rw [hei] at hus
    dsimp only at hus
    have hjl : j < l.length := Nat.lt_of_lt_of_le hlt hnl
    generalize l[j]'(Nat.lt_of_lt_of_le hlt hnl) = d at *
    have q1 := qo.out d wr
    have q2 := fun W h => ql.out d W h
    rw [evT_of] at q2
    have hwl := evW_of d
    have hCl : (doCs d).length = 23 := rfl
    generalize doCs d = CS at *
    have hra := hide (show wr.rangeAt b (off + j * 23) CS from fun j v hj => hc j v hj)
    have hi23 : (Tryz.prog.info? 36).map (·.size) = some CS.length := by rw [hCl]; kernel_rfl
    replace hi23 := hide hi23
    clear hCl
    generalize evW (ofS d) = t at *
    obtain ⟨ev, hev⟩ : ∃ ev, ofS d = ev := ⟨_, rfl⟩
    rw [hev] at q1 q2
    obtain ⟨kd, cn, ad, pr, by_, tk, dr⟩ := ev
    simp only [evCs] at q1 q2
    clear hc hei hev hu
    by_cases hjk : j = k
    ·have e1 : ((j : Int) == (k : Int)) = true := beq_iff_eq.2 (by omega)
     have e2 : decide (j = k) = true := decide_eq_true hjk
     have e3 : (j == k) = true := beq_iff_eq.2 hjk
     rw [if_pos hjk] at hus
     clear hjk hT0
     generalize U j = u at *
     have z1 : ¬ 9223372036854775807 < u.length + 7 := by omega
     have z2 : ¬ 9223372036854775807 < u.length + 7 + t.length := by omega
     have z3 : ¬ 9223372036854775807 < u.length + 7 + t.length + 1 := by omega
     clear hwl hsz
     have hjn2 := hide hjn
     replace X := hide X
     replace hus := hide hus
     replace q1 := hide q1
     replace q2 := hide q2
     go_wp2_with (with_reducible refine wpList_load_mid rfl 36 _ rfl b (off + j * 23) rfl CS _ hra.out Tryz.underlying36 rfl hi23.out ?_)
     refine q1.out.mono ?_
     rintro e V1 ⟨rfl, he⟩
     have X1 := hide (X.out.trans he)
     clear q1 he hra hi23
     have q3 := q2.out V1 X1.out
     clear q2
     replace q3 := hide q3
     go_wp2_with fail
     refine q3.out.mono ?_
     rintro e V2 ⟨rfl, he⟩
     have X2 := hide (X1.out.trans he)
     clear q3 he
     go_wp2_with fail
     go_roundw
     case rel => repeat (first | exact ⟨j + 1, by go_num, by omega, by rw [hus.out]; exact congrArg Value.string (by apply ByteArray.ext; simp [tockT]), X2.out⟩ | apply Exists.intro)
     case measure => exact meas_step (by omega)
    ·have e1 : ((j : Int) == (k : Int)) = false := beq_eq_false_iff_ne.2 (by omega)
     have e2 : decide (j = k) = false := decide_eq_false hjk
     have e3 : (j == k) = false := beq_eq_false_iff_ne.2 hjk
     rw [if_neg hjk] at hus
     clear hjk hT0
     generalize U j = u at *
     have z2 : ¬ 9223372036854775807 < u.length + t.length := by omega
     have z3 : ¬ 9223372036854775807 < u.length + t.length + 1 := by omega
     clear hwl hsz
     replace X := hide X
     replace hus := hide hus
     replace q1 := hide q1
     replace q2 := hide q2
     go_wp2_with (with_reducible refine wpList_load_mid rfl 36 _ rfl b (off + j * 23) rfl CS _ hra.out Tryz.underlying36 rfl hi23.out ?_)
     refine q1.out.mono ?_
     rintro e V1 ⟨rfl, he⟩
     have X1 := hide (X.out.trans he)
     clear q1 he hra hi23
     have q3 := q2.out V1 X1.out
     clear q2
     replace q3 := hide q3
     go_wp2_with fail
     refine q3.out.mono ?_
     rintro e V2 ⟨rfl, he⟩
     have X2 := hide (X1.out.trans he)
     clear q3 he
     go_wp2_with fail
     go_roundw
     case rel => repeat (first | exact ⟨j + 1, by go_num, by omega, by rw [hus.out]; exact congrArg Value.string (by apply ByteArray.ext; simp), X2.out⟩ | apply Exists.intro)
     case measure => exact meas_step (by omega)
   ·obtain rfl : j = n := by omega
    have bl : decide (j < j) = false := decide_eq_false (by omega)
    rw [hEn.out] at hus
    dsimp only at hus
    rw [List.append_nil] at hus
    clear hu
    by_cases hjk : j = k
    ·have e1 : ((j : Int) == (k : Int)) = true := beq_iff_eq.2 (by omega)
     have e2 : decide (j = k) = true := decide_eq_true hjk
     have e3 : (j == k) = true := beq_iff_eq.2 hjk
     rw [if_pos hjk] at hus
     clear hjk hT0
     generalize U j = u at *
     have z1 : ¬ 9223372036854775807 < u.length + 7 := by omega
     clear hsz
     replace X := hide X
     replace hus := hide hus
     go_wp2_with fail
     go_roundw
     case rel => exact ⟨j + 1, by go_num, by omega, by rw [hus.out]; exact congrArg Value.string (by apply ByteArray.ext; simp [tockT]), X.out⟩
     case measure => exact meas_step (by omega)
    ·have e1 : ((j : Int) == (k : Int)) = false := beq_eq_false_iff_ne.2 (by omega)
     have e2 : decide (j = k) = false := decide_eq_false hjk
     have e3 : (j == k) = false := beq_eq_false_iff_ne.2 hjk
     rw [if_neg hjk] at hus
     clear hjk hT0
     generalize U j = u at *
     clear hsz
     replace X := hide X
     replace hus := hide hus
     go_wp2_with fail
     go_roundw
     case rel => exact ⟨j + 1, by go_num, by omega, by rw [hus.out], X.out⟩
     case measure => exact meas_step (by omega)
  ·obtain rfl : j = n + 1 := by omega
   have bj : decide (n + 1 ≤ n) = false := decide_eq_false (by omega)
   have q := qp.out (U (n + 1)) (by omega) wr X
   unfold ParP at q
   rw [hfin.out] at q
   clear hus hu hsz w1 hjb
   generalize U (n + 1) = u at *
   replace X := hide X
   replace q := hide q
   go_wp2_with fail
   refine q.out.mono ?_
   rintro e W1 ⟨⟨cfg, evs, v, h1, rfl, O⟩ | ⟨c, kk, f, h0, h1, rfl, hf, F⟩, E1⟩
   ·injection h1 with _ h1
    injection h1 with _ h1
    injection h1 with h1 _
    cases h1
   ·injection h1 with _ h1
    injection h1 with _ h1
    injection h1 with h1 h2
    subst h1 h2
    have E2 := X.out.trans E1
    have hfl := F.lt
    have P := Blk.new W1 44 #[.pointer none]
    have E3 := E2.alloc (Obj.cells #[.pointer none] 44)
    have F3 := F.alloc (Obj.cells #[.pointer none] 44)
    go_upto_region 16 with fail
    generalize hpp : W1.heap.size = p at P hfl
    generalize hW3 : W1.alloc (Obj.cells #[.pointer none] 44) = W3 at P E3 F3
    have hE1s := E2.size
    have q1 := asF_hit ⟨f, 0, none⟩ ⟨p, 0, none⟩ (.pointer none) W3 (hg2.out _ E3) (P.cell 0) (P.frozen 0)
    have q2 := fun W (h : W.cell? ⟨f, 0, none⟩ = some (.int .i64 9)) => isF_any ⟨f, 0, none⟩ 9 9 W h
    rw [show ((9 : Int) == 9) = true by decide] at q2
    have hwp : w.heap.size ≤ p := by omega
    try rw [hW3]
    try simp only [hpp]
    clear hW3 hpp E2 F E1 q X
    replace q1 := hide q1
    replace q2 := hide q2
    replace P := hide P
    replace E3 := hide E3
    replace F3 := hide F3
    replace hfl := hide hfl
    replace hwp := hide hwp
    go_wp2_with fail
    refine q1.out.mono ?_
    rintro e W4 ⟨rfl, W4', he, rfl⟩
    have P1 : Blk (W4'.setCell ⟨p, 0, none⟩ (.pointer (some ⟨f, 0, none⟩))) p 44 #[.pointer (some ⟨f, 0, none⟩)] := (P.out.ext he).set_ 0 _
    have F1 := (F3.out.ext he).far (p := ⟨p, 0, none⟩) (show f ≠ p by have := hfl.out; omega) (.pointer (some ⟨f, 0, none⟩))
    have E4 := (E3.out.trans he).setCell (p := ⟨p, 0, none⟩) hwp.out (.pointer (some ⟨f, 0, none⟩))
    generalize W4'.setCell ⟨p, 0, none⟩ (.pointer (some ⟨f, 0, none⟩)) = W5 at P1 F1 E4 ⊢
    have p0 : W5.cell? ⟨p, 0, none⟩ = some (.pointer (some ⟨f, 0, none⟩)) := P1.cell 0
    have f0 : W5.cell? ⟨f, 0, none⟩ = some (.int .i64 9) := F1.cell 0
    have f1 : W5.cell? ⟨f, 1, none⟩ = some (.int .i64 ((2 + k : Nat) : Int)) := F1.cell 1
    rw [show ((2 + k : Nat) : Int) = 2 + (k : Int) by omega] at f1
    have wk2 : IntKind.i64.wrap (2 + (k : Int)) = 2 + (k : Int) := by rw [IntKind.wrap_i64]; omega
    have q2' := q2.out W5 f0
    clear P1 F1 he P F3 E3 q2 hfl q1
    replace E4 := hide E4
    replace q2' := hide q2'
    go_wp2_with fail
    refine q2'.out.mono ?_
    rintro e W6 ⟨rfl, rfl⟩
    clear q2'
    go_wp2_with fail
    refine (qw.out _ E4.out).mono ?_
    rintro e W7 ⟨rfl, he⟩
    have E5 := hide (E4.out.trans he)
    clear he p0 f0 f1
    go_wp2
    try go_ret
    exact ⟨rfl, E5.out⟩
end
section
open Go.RowKit Go.ChangeShapes Go.WideShapes Go.Deep
set_option linter.unusedVariables false
def EU16 : Enc Nat := Enc.cells (fun n => [.int .u16 (n : Int)]) (fun n => n < 65536) 1 (fun _ => rfl) (fun x u hu => by obtain rfl := List.mem_singleton.1 hu; rfl)
def EB1 : Enc Bool := Enc.cells (fun b => [.bool b]) (fun _ => True) 1 (fun _ => rfl) (fun x u hu => by obtain rfl := List.mem_singleton.1 hu; rfl)
def ar16Cs (b : Nat → UInt8) : List Value := [.int .u8 ((b 0).toNat : Int), .int .u8 ((b 1).toNat : Int), .int .u8 ((b 2).toNat : Int), .int .u8 ((b 3).toNat : Int), .int .u8 ((b 4).toNat : Int), .int .u8 ((b 5).toNat : Int), .int .u8 ((b 6).toNat : Int), .int .u8 ((b 7).toNat : Int), .int .u8 ((b 8).toNat : Int), .int .u8 ((b 9).toNat : Int), .int .u8 ((b 10).toNat : Int), .int .u8 ((b 11).toNat : Int), .int .u8 ((b 12).toNat : Int), .int .u8 ((b 13).toNat : Int), .int .u8 ((b 14).toNat : Int), .int .u8 ((b 15).toNat : Int)]
def EAr16 : Enc (Nat → UInt8) := Enc.cells ar16Cs (fun _ => True) 16 (fun _ => rfl) (fun x u hu => by simp only [ar16Cs, List.mem_cons, List.not_mem_nil, or_false] at hu; rcases hu with rfl | rfl | rfl | rfl | rfl | rfl | rfl | rfl | rfl | rfl | rfl | rfl | rfl | rfl | rfl | rfl <;> rfl)
section
variable {P : Program} {T : TypeId}
theorem opens_u16g (h : P.underlying T = some (.int .u16)) (hc : P.cellsOf T = 1) : Opens P T EU16 := by
 refine ⟨hc, fun enc W fuel cs x hx _ => ?_⟩
 obtain ⟨n, rfl, _, hw⟩ := DataW.trod_int h hx
 have : 0 ≤ n ∧ n ≤ 65535 := by simpa [Lit.wf, IntKind.min, IntKind.max, IntKind.signed, IntKind.bits] using hw
 refine ⟨n.toNat, ?_, by show n.toNat < 65536; omega⟩
 show [Value.int .u16 n] = [Value.int .u16 _]
 rw [show ((n.toNat : Nat) : Int) = n by omega]
theorem opens_bool1 (h : P.underlying T = some .bool) (hc : P.cellsOf T = 1) : Opens P T EB1 := by
 refine ⟨hc, fun enc W fuel cs x hx _ => ?_⟩
 obtain ⟨b, rfl, _⟩ := DataW.trod_bool h hx
 exact ⟨b, rfl, trivial⟩
theorem open_u8L {e : TypeId} (he : P.underlying e = some (.int .u8)) {H : Type} {enc : TypeId × Value → H} {W : World} : ∀ {n : Nat} {l : List Value} {xs : List (DataW H × List MemPlace)}, (∀ i, i < l.length → DataW.trod enc P W 0 (fun _ => true) true n e ((l.drop i).take 1) = xs[i]?) → xs.length = l.length → ∃ us : List UInt8, l = us.map fun u => Value.int .u8 (u.toNat : Int)
  | n, [], xs, _, _ => ⟨[], rfl⟩
  | n, c :: l, [], _, hl => by simp at hl
  | n, c :: l, x :: xs, h, hl => by
    have h0 : DataW.trod enc P W 0 (fun _ => true) true n e [c] = some x := h 0 (by simp)
    obtain ⟨z, e1, _, hw⟩ := DataW.trod_int he h0
    obtain rfl : c = .int .u8 z := by simpa using e1
    have hz : 0 ≤ z ∧ z ≤ 255 := by simpa [Lit.wf, IntKind.min, IntKind.max, IntKind.signed, IntKind.bits] using hw
    obtain ⟨us, rfl⟩ := open_u8L he (n := n) (l := l) (xs := xs) (fun i hi => by have := h (i + 1) (by simp; omega); simpa using this) (by simpa using hl)
    refine ⟨UInt8.ofNat z.toNat :: us, ?_⟩
    rw [List.map_cons]
    congr 1
    congr 1
    rw [UInt8.toNat_ofNat']
    omega
theorem opens_ar16 {e : TypeId} (h : P.underlying T = some (.array 16 e)) (he : P.underlying e = some (.int .u8)) (h1 : P.cellsOf e = 1) (hc : P.cellsOf T = 16) : Opens P T EAr16 := by
  refine ⟨hc, fun enc W fuel cs x hx _ => ?_⟩
  obtain ⟨xs, m, _, _, hcl, hl, hi⟩ := DataW.trod_array h hx
  rw [h1] at hi
  rw [hc] at hcl
  obtain ⟨us, rfl⟩ := open_u8L he (n := m) (l := cs) (xs := xs) (fun i hi' => by have := hi i (by omega); rw [Nat.mul_one] at this; exact this) (by omega)
  have hlen : us.length = 16 := by simpa using hcl
  match us, hlen with
  | [a0, a1, a2, a3, a4, a5, a6, a7, a8, a9, a10, a11, a12, a13, a14, a15], _ =>
    exact ⟨fun i => [a0, a1, a2, a3, a4, a5, a6, a7, a8, a9, a10, a11, a12, a13, a14, a15].getD i 0, rfl, trivial⟩
end
theorem opens_u16_ : Opens Tryz.prog 33 EU16 := opens_u16g Tryz.underlying33 (by kernel_rfl)
theorem opens_B1 : Opens Tryz.prog 4 EB1 := opens_bool1 Tryz.underlying4 (by kernel_rfl)
theorem opens_A16 : Opens Tryz.prog 34 EAr16 := opens_ar16 Tryz.underlying34 Tryz.underlying5 (by kernel_rfl) (by kernel_rfl)
set_option maxRecDepth 100000 in
theorem opens_EDo : Opens Tryz.prog 36 EDo :=
 opens_of (opens_struct Tryz.underlying36 (by kernel_rfl) (opensF_cons rfl rfl opens_EU8 (opensF_cons rfl rfl opens_EU8 (opensF_cons rfl rfl opens_EU8 (opensF_cons rfl rfl opens_u16_ (opensF_cons rfl rfl opens_u32_ (opensF_cons rfl rfl opens_text (opensF_cons rfl rfl opens_A16 (opensF_last rfl rfl opens_B1 rfl))))))))) rfl
  (fun p => (⟨p.1, p.2.1, p.2.2.1, p.2.2.2.1, p.2.2.2.2.1, p.2.2.2.2.2.1, p.2.2.2.2.2.2.1, p.2.2.2.2.2.2.2⟩ : DoS)) (fun {w S x cs} h => by
   obtain ⟨c, d, rfl, ⟨rfl, _⟩, c, d, rfl, ⟨rfl, _⟩, c, d, rfl, ⟨rfl, _⟩, c, d, rfl, ⟨rfl, h3⟩, c, d, rfl, ⟨rfl, _⟩, c, d, rfl, ⟨rfl, h5⟩, c, d, rfl, ⟨rfl, _⟩, ⟨rfl, _⟩⟩ := h
   exact ⟨rfl, ⟨h3, h5⟩⟩)
end
end Go.Proofs.YtkinghadgmbhbaaGreatDoor
