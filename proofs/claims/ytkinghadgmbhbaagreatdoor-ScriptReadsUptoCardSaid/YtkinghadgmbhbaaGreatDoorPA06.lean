/- Chapter 35, walks: the document's script of a text (heraldref35.Parse). Chapter 35, walks: events alike (heraldref35.Same). errors.Is and errors.As at a fault of the program (a pointer to an api.Fault), by their contracts. Chapter 35, walks: a fault of a number in a line (the law's fault). Chapter 35, walks: a script of its text (script.Parse). Chapter 35, plain: 'run' stands alone in a line of a configuration. Chapter 35, walks: a script's text (script.Print). Chapter 35, walks: the example of the law (works). The law ScriptReads, walked. -/
import Derived.WalkKit
import Derived.Below
import Derived.Outline
import Derived.LoopTactic
import Derived.Laws.OwnMore
import Derived.Deep.AppendLies
import Derived.Deep.Draws
import Derived.Lib.Hide
import Derived.BigQuiet
import Derived.Deep.QuietTactic
import Derived.WalkSpells
import Derived.WalkLawsBesides
import Derived.Deep.RegionHeld3
import Derived.Deep.DrawnRows
import Derived.Deep.RegionLaw
import Derived.Test.YtkinghadgmbhbaaGreatDoorProg
import Derived.Test.YtkinghadgmbhbaaGreatDoorShelf
import Derived.Lib.ConvBytes
import Derived.Lib.Bytealg
import Derived.Lib.Small
import Derived.Lib.SplitLaws
import Derived.Lib.ParseIntB
import Derived.Lib.ParseIntBCases
import Derived.Lib.ItoaNum
import Derived.Lib.Join
import Derived.Test.YtkinghadgmbhbaaGreatDoorShelf2
import Derived.Lib.UnsafeStr
import Derived.Shelf.RegionOpenPlain
import Derived.Laws.StructEq
import Derived.Lib.QuietBelow
import Derived.Test.YtkinghadgmbhbaaGreatDoorRows
import Derived.ProofKit
import Derived.Deep.Slices
import Derived.Shelf.GgClosure.StringsRunes
import Derived.Lib.ItoaMem
import Derived.Lib.ItoaLen
import Derived.Shelf.Strings.Builder1
import Derived.Orders
import Derived.StillTail
import Derived.Defers
import Derived.Recover
import Derived.Laws.EntriesVeiled
import Derived.Deep.DeepCutAuto
import Derived.Maps.OwnSet
import Derived.Maps.Views
import Derived.Maps.Range
import Derived.DeepKeys5
import Derived.Deep.Cut
import Derived.LaidEql
import Derived.Stop.Asserts
import Derived.RowKitTokens
import Derived.Deep.RegionWith
import Derived.Test.YtkinghadgmbhbaaGreatDoorPA01
import Derived.Test.YtkinghadgmbhbaaGreatDoorPA02
import Derived.Test.YtkinghadgmbhbaaGreatDoorPA03
import Derived.Test.YtkinghadgmbhbaaGreatDoorPA04
import Derived.Test.YtkinghadgmbhbaaGreatDoorPA05
namespace Go.Proofs.YtkinghadgmbhbaaGreatDoor
section
open Go.RowKit
set_option linter.unusedVariables false
set_option linter.unusedSimpArgs false
/-- Where the document stands: the bytes ahead, those of this line, those behind. -/
structure DP (s : List UInt8) (cf : Nat) (run : Bool) (fr ln : Nat) (out : List EvS) (i : Nat) : Prop where
  h1 : ln ≤ fr
  h2 : fr ≤ i
  h3 : i ≤ s.length
  h4 : cf ≤ s.length
  no : (10 : UInt8) ∉ (s.drop fr).take (i - fr)
  few : out.length ≤ ln
  main : parseS s = if run = true then restE s cf ln out (spl 10 (s.drop fr)) else restC s ln fr (spl 10 (s.drop fr))
  emp : run = false → out = [] ∧ cf = 0
def tOf (s : List UInt8) (fr i : Nat) : List UInt8 := (s.drop fr).take (i - fr)
theorem DP.start {s : List UInt8} (hs : s.length ≤ 1048576) : DP s 0 false 0 0 [] 0 :=
 ⟨Nat.le_refl _, Nat.le_refl _, Nat.zero_le _, Nat.zero_le _, by simp, Nat.le_refl _, by rw [parse_rest hs]; rfl, fun _ => ⟨rfl, rfl⟩⟩
section
variable {s : List UInt8} {cf fr ln i : Nat} {run : Bool} {out : List EvS}
theorem drop_byte (h2 : fr ≤ i) (hi : i < s.length) : s.drop fr = tOf s fr i ++ s[i] :: s.drop (i + 1) := by
 have h1 : s.drop i = s[i] :: s.drop (i + 1) := List.drop_eq_getElem_cons hi
 rw [← h1]
 have h3 : (s.drop fr).drop (i - fr) = s.drop i := by rw [List.drop_drop]; congr 1; omega
 rw [← h3]
 exact (List.take_append_drop _ _).symm
theorem DP.next (h : DP s cf run fr ln out i) (hi : i < s.length) (hc : s[i] ≠ 10) : DP s cf run fr ln out (i + 1) := by
 refine ⟨h.h1, Nat.le_succ_of_le h.h2, hi, h.h4, ?_, h.few, h.main, h.emp⟩
 have hf := h.h2
 have h5 : (s.drop fr).take (i + 1 - fr) = tOf s fr i ++ [s[i]] := by
  rw [drop_byte hf hi]
  have hl : (tOf s fr i).length = i - fr := by unfold tOf; rw [List.length_take, List.length_drop]; omega
  rw [show i + 1 - fr = (tOf s fr i).length + 1 by omega]
  rw [List.take_append, List.take_of_length_le (by omega), Nat.add_sub_cancel_left]
  rfl
 rw [h5, List.mem_append]
 rintro (h6 | h6)
 ·exact h.no h6
 ·rw [List.mem_singleton] at h6; exact hc h6.symm
theorem DP.spl (h : DP s cf run fr ln out i) (hi : i < s.length) (hc : s[i] = 10) : ∃ y r, spl 10 (s.drop fr) = tOf s fr i :: y :: r ∧ spl 10 (s.drop (i + 1)) = y :: r := by
 obtain ⟨y, r, hy⟩ := List.exists_cons_of_ne_nil (spl_ne 10 (s.drop (i + 1)))
 refine ⟨y, r, ?_, hy⟩
 have hno : (10 : UInt8) ∉ tOf s fr i := h.no
 rw [drop_byte h.h2 hi, hc, spl_at hno, hy]
theorem tOf_len (h2 : fr ≤ i) (h3 : i ≤ s.length) : (tOf s fr i).length = i - fr := by
 unfold tOf; rw [List.length_take, List.length_drop]; omega
theorem DP.bad (h : DP s cf true fr ln out i) (hi : i < s.length) (hc : s[i] = 10) (ho : evO (tOf s fr i) = none) : parseS s = ([], [], 9, ln) := by
 obtain ⟨y, r, h1, _⟩ := h.spl hi hc
 rw [h.main, if_pos rfl, h1, restE_bad _ _ _ _ ho]
theorem DP.long (h : DP s cf true fr ln out i) (hi : i < s.length) (hc : s[i] = 10) {e : EvS} (ho : evO (tOf s fr i) = some e) (hl : out.length = 512) : parseS s = ([], [], 3, ln) := by
 obtain ⟨y, r, h1, _⟩ := h.spl hi hc
 rw [h.main, if_pos rfl, h1, restE_long _ _ _ ho hl]
theorem DP.push (h : DP s cf true fr ln out i) (hi : i < s.length) (hc : s[i] = 10) {e : EvS} (ho : evO (tOf s fr i) = some e) (hl : out.length ≠ 512) : DP s cf true (i + 1) (ln + 1) (out ++ [e]) (i + 1) := by
 obtain ⟨y, r, h1, h2⟩ := h.spl hi hc
 refine ⟨by have := h.h1; have := h.h2; omega, Nat.le_refl _, hi, h.h4, by simp, by have := h.few; simp; omega, ?_, fun h => by cases h⟩
 rw [h.main, if_pos rfl, if_pos rfl, h1, restE_on _ _ _ ho hl, h2]
theorem DP.runs (h : DP s cf false fr ln out i) (hi : i < s.length) (hc : s[i] = 10) (ht : tOf s fr i = runW) : DP s fr true (i + 1) (ln + 1) out (i + 1) := by
 obtain ⟨y, r, h1, h2⟩ := h.spl hi hc
 obtain ⟨rfl, rfl⟩ := h.emp rfl
 refine ⟨by have := h.h1; have := h.h2; omega, Nat.le_refl _, hi, by have := h.h2; omega, by simp, by simp, ?_, fun h => by cases h⟩
 rw [h.main, if_neg (by decide), if_pos rfl, h1, restC_run _ _ _ ht, h2]
theorem DP.on (h : DP s cf false fr ln out i) (hi : i < s.length) (hc : s[i] = 10) (ht : tOf s fr i ≠ runW) : DP s cf false (i + 1) (ln + 1) out (i + 1) := by
 obtain ⟨y, r, h1, h2⟩ := h.spl hi hc
 have hl := tOf_len h.h2 h.h3
 refine ⟨by have := h.h1; have := h.h2; omega, Nat.le_refl _, hi, h.h4, by simp, by have := h.few; omega, ?_, h.emp⟩
 rw [h.main, if_neg (by decide), if_neg (by decide), h1, restC_on _ _ _ ht, h2, hl]
 congr 1
 have := h.h2
 omega
theorem DP.none (h : DP s cf false fr ln out s.length) : parseS s = ([], [], 9, ln) := by
 have h5 : (10 : UInt8) ∉ s.drop fr := by
  have := h.no
  rwa [List.take_of_length_le (by rw [List.length_drop]; omega)] at this
 rw [h.main, if_neg (by decide), spl_no h5, restC_end]
theorem DP.fin (h : DP s cf true fr ln out s.length) : parseS s = if fr < s.length then ([], [], 9, ln) else (s.take cf, out, 0, 0) := by
 have h5 : (10 : UInt8) ∉ s.drop fr := by
  have := h.no
  rwa [List.take_of_length_le (by rw [List.length_drop]; omega)] at this
 rw [h.main, if_pos rfl, spl_no h5, restE_end]
 by_cases hf : fr < s.length
 ·rw [if_pos hf, if_neg]
  intro h9
  have := congrArg List.length h9
  rw [List.length_drop] at this
  simp at this
  omega
 ·rw [if_neg hf, if_pos (List.drop_eq_nil_of_le (by omega))]
end
/-- What the document's reading answers. -/
def DPaP (s : List UInt8) (w : World) (e : Ending) (w' : World) : Prop :=
 (∃ cfg evs v c k, parseS s = (cfg, evs, c, k) ∧ e = .returned (.tuple #[.string ⟨cfg.toArray⟩, v, .agg #[.int .i64 c, .int .i64 (k : Int)]]) ∧ Own EEv 31 w' w.heap.size v evs) ∧ Ext w w'
set_option maxRecDepth 20000 in
set_option maxHeartbeats 8000000 in
theorem DParse_any (s : List UInt8) (hs : s.length ≤ 1048576) (w : World) : Calls Tryz.prog 17 #[.string ⟨s.toArray⟩] w (DPaP s w) := by
  have hok : ∀ W cfg evs v c k, parseS s = (cfg, evs, c, k) → Own EEv 31 W w.heap.size v evs → Ext w W → DPaP s w (.returned (.tuple #[.string ⟨cfg.toArray⟩, v, .agg #[.int .i64 c, .int .i64 (k : Int)]])) W := fun W cfg evs v c k h1 h2 h3 => ⟨⟨cfg, evs, v, c, k, h1, rfl, h2⟩, h3⟩
  generalize DPaP s w = Post at *
  have b1 : decide ((1048576 : Int) < (s.length : Int)) = false := decide_eq_false (by omega)
  have D0 := DP.start hs
  have A0 := Blk.new w 50 #[.int .i64 0, .int .i64 0]
  have E0 := (Ext.refl w).alloc (Obj.cells #[.int .i64 0, .int .i64 0] 50)
  generalize hW0 : w.alloc (Obj.cells #[.int .i64 0, .int .i64 0] 50) = W0 at A0 E0
  replace hW0 := hide hW0
  replace hok := hide hok
  replace hs := hide hs
  replace D0 := hide D0
  replace A0 := hide A0
  replace E0 := hide E0
  go_enter Tryz.func17, Tryz.ntmps17
  go_upto_region 1 with fail
  rw [hW0.out]
  clear hW0
  go_wp2_with fail
  have hp : ∃ p, w.heap.size = p := ⟨_, rfl⟩
  obtain ⟨p, hp⟩ := hp
  rw [hp] at A0 ⊢
  go_loopw [5, 6, 7, 8, 9, 10] (fun s5 s6 s7 s8 v s10 wr => ∃ (cf : Nat) (run : Bool) (fr ln : Nat) (out : List EvS) (i : Nat), s5 = .int .i64 (cf : Int) ∧ s6 = .bool run ∧ s7 = .int .i64 (fr : Int) ∧ s8 = .int .i64 (ln : Int) ∧ s10 = .int .i64 (i : Int) ∧ Own EEv 31 wr (p + 1) v out ∧ Ext w wr ∧ Blk wr p 50 #[.int .i64 0, .int .i64 0] ∧ DP s cf run fr ln out i) (fun _ _ _ _ _ s10 _ => s.length - (intOf s10).toNat)
  case atStart => exact ⟨0, false, 0, 0, [], 0, rfl, rfl, rfl, rfl, rfl, Own.nil, E0.out, A0.out, D0.out⟩
  case round =>
    clear A0 E0 D0
    obtain ⟨cf, run, fr, ln, out, i, rfl, rfl, rfl, rfl, rfl, O, E, A, D⟩ := hrel
    have hpl : w.heap.size ≤ p := by omega
    by_cases hi : i < s.length
    · obtain ⟨i2, hi2⟩ : ∃ n : Nat, n = i + 1 := ⟨_, rfl⟩
      obtain ⟨ln2, hln2⟩ : ∃ n : Nat, n = ln + 1 := ⟨_, rfl⟩
      have w1 : IntKind.i64.wrap ((i : Int) + 1) = (i2 : Int) := by rw [IntKind.wrap_i64]; have := hs.out; omega
      have w2 : IntKind.i64.wrap ((ln : Int) + 1) = (ln2 : Int) := by rw [IntKind.wrap_i64]; have := hs.out; have := D.h1; have := D.h2; omega
      have bi : decide ((i : Int) < (s.length : Int)) = true := decide_eq_true (by omega)
      obtain ⟨c, hc0⟩ : ∃ c, s[i] = c := ⟨_, rfl⟩
      have hget : ∀ h, (ByteArray.mk s.toArray)[i]'h = c := fun _ => hc0
      have hsz : i < (ByteArray.mk s.toArray).size := by rw [ba_size]; exact hi
      have dn := fun h : c ≠ 10 => D.next hi (hc0 ▸ h)
      have dbad := fun (h : c = 10) (hr : run = true) => (hr ▸ D).bad hi (hc0.trans h)
      have dlong := fun (h : c = 10) (hr : run = true) => @DP.long s cf fr ln i out (hr ▸ D) hi (hc0.trans h)
      have dpush := fun (h : c = 10) (hr : run = true) => @DP.push s cf fr ln i out (hr ▸ D) hi (hc0.trans h)
      have druns := fun (h : c = 10) (hr : run = false) => @DP.runs s cf fr ln i out (hr ▸ D) hi (hc0.trans h)
      have don := fun (h : c = 10) (hr : run = false) => @DP.on s cf fr ln i out (hr ▸ D) hi (hc0.trans h)
      have htl : (tOf s fr i).length ≤ 1048576 := by rw [tOf_len D.h2 D.h3]; have := hs.out; omega
      have hx : (ByteArray.mk s.toArray).extract fr i = ⟨(tOf s fr i).toArray⟩ := by rw [ba_extract]; rfl
      have hfi : fr ≤ i := D.h2
      have hfew := D.few
      have hlnb : ln ≤ 1048576 := by have := D.h1; have := D.h2; have := hs.out; omega
      rw [← hi2, ← hln2] at dpush druns don
      rw [← hi2] at dn
      generalize tOf s fr i = t at *
      clear D hc0
      by_cases hc : c ≠ 10
      · have e3 : ¬ ((c.toNat : Int) = 10) := fun h => hc (UInt8.toNat_inj.1 (show c.toNat = (10 : UInt8).toNat from by have h8 : (10 : UInt8).toNat = 10 := rfl; omega))
        have e4 : ((c.toNat : Int) == 10) = false := beq_eq_false_iff_ne.2 e3
        have e5 : ((c.toNat : Int) != 10) = true := by simpa using e3
        clear e3
        have D2 := dn hc
        clear dn dbad dlong dpush druns don htl hx hc hfew hlnb
        replace O := hide O
        replace E := hide E
        replace A := hide A
        replace D2 := hide D2
        replace hi2 := hide hi2
        replace hi := hide hi
        go_wp2_with fail
        go_roundw
        case rel => exact ⟨cf, run, fr, ln, out, i2, rfl, rfl, rfl, rfl, by go_num, O.out, E.out, A.out, D2.out⟩
        case measure => simp [intOf]; have := hi2.out; have := hi.out; omega
      replace hc := Classical.not_not.1 hc
      have n10 : ((c.toNat : Int) != 10) = false := by rw [hc]; rfl
      cases run with
      | true =>
        replace dbad := dbad hc rfl
        replace dlong := fun e => @dlong hc rfl e
        replace dpush := fun e => @dpush hc rfl e
        have q := fun W => DEvent_any t htl W
        rw [docE_is] at q
        clear dn druns don hc
        cases ho : evO t with
        | none =>
          rw [ho] at q
          replace dbad := dbad ho
          clear dlong dpush ho hfew
          simp only [evCs, zeroEv] at q
          replace q := hide q
          replace O := hide O
          replace E := hide E
          replace A := hide A
          replace hi := hide hi
          replace hi2 := hide hi2
          go_wp2_with fail
          refine (q.out _).mono ?_
          rintro e W3 ⟨rfl, he⟩
          have E3 := (E.out.trans he).alloc (Obj.cells #[.int .i64 0, .int .i64 0, .string ⟨#[]⟩, .string ⟨#[]⟩, .string ⟨#[]⟩, .int .i64 0, .int .u32 0] 31)
          have A3 := (A.out.ext he).alloc (Obj.cells #[.int .i64 0, .int .i64 0, .string ⟨#[]⟩, .string ⟨#[]⟩, .string ⟨#[]⟩, .int .i64 0, .int .u32 0] 31)
          clear he q
          go_upto_region 14 with fail
          generalize W3.alloc (Obj.cells #[.int .i64 0, .int .i64 0, .string ⟨#[]⟩, .string ⟨#[]⟩, .string ⟨#[]⟩, .int .i64 0, .int .u32 0] 31) = W4 at E3 A3 ⊢
          have hE := (E3).setCell (p := ⟨p, 0, none⟩) (show w.heap.size ≤ p by rw [hp]; exact Nat.le_refl _) (.int .i64 9)
          have hE2 := hE.setCell (p := ⟨p, 1, none⟩) (show w.heap.size ≤ p by rw [hp]; exact Nat.le_refl _) (.int .i64 (ln : Int))
          have a0 : W4.cell? ⟨p, 0, none⟩ = some (.int .i64 0) := (A3).cell 0
          have a1 : W4.cell? ⟨p, 1, none⟩ = some (.int .i64 0) := (A3).cell 1
          have af := fun i => (A3).frozen i
          have hB := ((A3).set_ 0 (.int .i64 9)).set_ 1 (.int .i64 (ln : Int))
          have y0 := hB.cell 0
          have y1 := hB.cell 1
          simp at y0 y1
          have hfin := hok.out _ _ _ (.slice none 0 0) _ _ (dbad) Own.nil hE2
          clear hE hE2 hB A3 E3 dbad
          replace hfin := hide hfin
          go_wp2
          first | exact hfin.out | exact bodyPost_ret (v := .tuple #[.string ⟨#[]⟩, .slice none 0 0, .agg #[.int .i64 9, .int .i64 (ln : Int)]]) (by simp [results, Tryz.results17, go_sem, y0, y1]) rfl hfin.out
        | some ev =>
          rw [ho] at q
          replace dlong := dlong ev ho
          replace dpush := dpush ev ho
          have hin := evOk_in (evO_some ho).1
          clear dbad ho
          obtain ⟨kd, cn, ad, pr, by_, tk, dr⟩ := ev
          simp only [evCs] at q
          obtain ⟨va, vc, rfl⟩ := O.form
          replace q := hide q
          replace O := hide O
          replace E := hide E
          replace A := hide A
          replace hi := hide hi
          replace hi2 := hide hi2
          replace hin := hide hin
          go_wp2_with fail
          refine (q.out _).mono ?_
          rintro e W3 ⟨rfl, he⟩
          have N := Blk.new W3 31 #[.int .i64 kd, .int .i64 cn, .string ⟨ad.toArray⟩, .string ⟨pr.toArray⟩, .string ⟨by_.toArray⟩, .int .i64 tk, .int .u32 (dr.toNat : Int)]
          have E3 := (E.out.trans he).alloc (Obj.cells #[.int .i64 kd, .int .i64 cn, .string ⟨ad.toArray⟩, .string ⟨pr.toArray⟩, .string ⟨by_.toArray⟩, .int .i64 tk, .int .u32 (dr.toNat : Int)] 31)
          have A3 := (A.out.ext he).alloc (Obj.cells #[.int .i64 kd, .int .i64 cn, .string ⟨ad.toArray⟩, .string ⟨pr.toArray⟩, .string ⟨by_.toArray⟩, .int .i64 tk, .int .u32 (dr.toNat : Int)] 31)
          have O3 := (O.out.ext he).alloc (Obj.cells #[.int .i64 kd, .int .i64 cn, .string ⟨ad.toArray⟩, .string ⟨pr.toArray⟩, .string ⟨by_.toArray⟩, .int .i64 tk, .int .u32 (dr.toNat : Int)] 31)
          clear he q
          go_upto_region 16 with fail
          generalize W3.alloc (Obj.cells #[.int .i64 kd, .int .i64 cn, .string ⟨ad.toArray⟩, .string ⟨pr.toArray⟩, .string ⟨by_.toArray⟩, .int .i64 tk, .int .u32 (dr.toNat : Int)] 31) = W4 at N E3 A3 O3 ⊢
          generalize W3.heap.size = n3 at N ⊢
          have d0 : W4.cell? ⟨n3, 0, none⟩ = some (.int .i64 kd) := N.cell 0
          have d1 : W4.cell? ⟨n3, 1, none⟩ = some (.int .i64 cn) := N.cell 1
          have d2 : W4.cell? ⟨n3, 2, none⟩ = some (.string ⟨ad.toArray⟩) := N.cell 2
          have d3 : W4.cell? ⟨n3, 3, none⟩ = some (.string ⟨pr.toArray⟩) := N.cell 3
          have d4 : W4.cell? ⟨n3, 4, none⟩ = some (.string ⟨by_.toArray⟩) := N.cell 4
          have d5 : W4.cell? ⟨n3, 5, none⟩ = some (.int .i64 tk) := N.cell 5
          have d6 : W4.cell? ⟨n3, 6, none⟩ = some (.int .u32 (dr.toNat : Int)) := N.cell 6
          by_cases hl : out.length = 512
          · have e1 : (out.length == 512) = true := beq_iff_eq.2 hl
            have e2 : decide (out.length = 512) = true := decide_eq_true hl
            replace dlong := dlong hl
            clear dpush N O3
            have hE := (E3).setCell (p := ⟨p, 0, none⟩) (show w.heap.size ≤ p by rw [hp]; exact Nat.le_refl _) (.int .i64 3)
            have hE2 := hE.setCell (p := ⟨p, 1, none⟩) (show w.heap.size ≤ p by rw [hp]; exact Nat.le_refl _) (.int .i64 (ln : Int))
            have a0 : W4.cell? ⟨p, 0, none⟩ = some (.int .i64 0) := (A3).cell 0
            have a1 : W4.cell? ⟨p, 1, none⟩ = some (.int .i64 0) := (A3).cell 1
            have af := fun i => (A3).frozen i
            have hB := ((A3).set_ 0 (.int .i64 3)).set_ 1 (.int .i64 (ln : Int))
            have y0 := hB.cell 0
            have y1 := hB.cell 1
            simp at y0 y1
            have hfin := hok.out _ _ _ (.slice none 0 0) _ _ (dlong) Own.nil hE2
            clear hE hE2 hB A3 E3 dlong hl hfew
            replace hfin := hide hfin
            go_wp2
            first | exact hfin.out | exact bodyPost_ret (v := .tuple #[.string ⟨#[]⟩, .slice none 0 0, .agg #[.int .i64 3, .int .i64 (ln : Int)]]) (by simp [results, Tryz.results17, go_sem, y0, y1]) rfl hfin.out
          · have e1 : (out.length == 512) = false := beq_eq_false_iff_ne.2 hl
            have e2 : decide (out.length = 512) = false := decide_eq_false hl
            replace dpush := dpush hl
            have O4 := O3.alloc (Obj.cells #[.int .i64 kd, .int .i64 cn, .string ⟨ad.toArray⟩, .string ⟨pr.toArray⟩, .string ⟨by_.toArray⟩, .int .i64 tk, .int .u32 (dr.toNat : Int)] 31)
            have E4 := E3.alloc (Obj.cells #[.int .i64 kd, .int .i64 cn, .string ⟨ad.toArray⟩, .string ⟨pr.toArray⟩, .string ⟨by_.toArray⟩, .int .i64 tk, .int .u32 (dr.toNat : Int)] 31)
            have A4 := A3.alloc (Obj.cells #[.int .i64 kd, .int .i64 cn, .string ⟨ad.toArray⟩, .string ⟨pr.toArray⟩, .string ⟨by_.toArray⟩, .int .i64 tk, .int .u32 (dr.toNat : Int)] 31)
            have hol : out.length ≤ 17179869184 := by omega
            have hup : p + 1 ≤ (W4.alloc (Obj.cells #[.int .i64 kd, .int .i64 cn, .string ⟨ad.toArray⟩, .string ⟨pr.toArray⟩, .string ⟨by_.toArray⟩, .int .i64 tk, .int .u32 (dr.toNat : Int)] 31)).heap.size := by have := A4.lt; omega
            clear dlong N O3 E3 A3 hl hfew hlnb
            replace dpush := hide dpush
            replace O4 := hide O4
            replace E4 := hide E4
            replace A4 := hide A4
            replace hol := hide hol
            replace hup := hide hup
            go_upto_region 18 with fail
            go_wp2_with
              (at_builtin
               go_must (refine wpList_push (E := EEv) (l := out) rfl _ _ _ rfl okEv (by decide) (by decide) rfl O4.out hol.out hup.out rfl (y := ⟨kd, cn, ad, pr, by_, tk, dr⟩) (cs := evCs ⟨kd, cn, ad, pr, by_, tk, dr⟩) ⟨rfl, hin.out⟩ (cells_new W4 (evCs ⟨kd, cn, ad, pr, by_, tk, dr⟩).toArray _) ?_)
               intro v' w5 hown1 hg5 hat5
               have E5 := E4.out.push (fun k hk => by have := (O4.out.lt k hk).1; omega) hg5
               have A5 := A4.out.grown hg5 (fun e9 => by have := (O4.out.lt p e9.symm).1; omega)
               obtain ⟨va5, vc5, rfl⟩ := hown1.form
               clear hg5 hat5
               simp only [List.length_append, List.length_cons, List.length_nil, Nat.zero_add] at hown1 ⊢
               replace hown1 := hide hown1; replace E5 := hide E5; replace A5 := hide A5)
            go_roundw
            case rel => exact ⟨cf, true, i2, ln2, _, i2, rfl, rfl, by go_num, by go_num, by go_num, hown1.out, E5.out, A5.out, dpush.out⟩
            case measure => simp [intOf]; have := hi2.out; have := hi.out; omega
      | false =>
        replace druns := druns hc rfl
        replace don := don hc rfl
        clear dn dbad dlong dpush hfew hlnb htl hc
        by_cases ht : t = [114, 117, 110]
        · have D2 := druns ht
          subst ht
          clear druns don
          replace O := hide O
          replace E := hide E
          replace A := hide A
          replace D2 := hide D2
          replace hi := hide hi
          replace hi2 := hide hi2
          go_wp2_with fail
          go_roundw
          case rel => exact ⟨fr, true, i2, ln2, out, i2, rfl, rfl, by go_num, by go_num, by go_num, O.out, E.out, A.out, D2.out⟩
          case measure => simp [intOf]; have := hi2.out; have := hi.out; omega
        · have e1 : (t == [114, 117, 110]) = false := beq_eq_false_iff_ne.2 ht
          have e2 : (t != [114, 117, 110]) = true := by simpa using ht
          have D2 := don ht
          clear druns don ht
          replace O := hide O
          replace E := hide E
          replace A := hide A
          replace D2 := hide D2
          replace hi := hide hi
          replace hi2 := hide hi2
          go_wp2_with fail
          go_roundw
          case rel => exact ⟨cf, false, i2, ln2, out, i2, rfl, rfl, by go_num, by go_num, by go_num, O.out, E.out, A.out, D2.out⟩
          case measure => simp [intOf]; have := hi2.out; have := hi.out; omega
    · obtain rfl : i = s.length := by have := D.h3; omega
      have bi : decide ((s.length : Int) < (s.length : Int)) = false := decide_eq_false (by omega)
      cases run with
      | false =>
        have hE := (E).setCell (p := ⟨p, 0, none⟩) (show w.heap.size ≤ p by rw [hp]; exact Nat.le_refl _) (.int .i64 9)
        have hE2 := hE.setCell (p := ⟨p, 1, none⟩) (show w.heap.size ≤ p by rw [hp]; exact Nat.le_refl _) (.int .i64 (ln : Int))
        have a0 : wr.cell? ⟨p, 0, none⟩ = some (.int .i64 0) := (A).cell 0
        have a1 : wr.cell? ⟨p, 1, none⟩ = some (.int .i64 0) := (A).cell 1
        have af := fun i => (A).frozen i
        have hB := ((A).set_ 0 (.int .i64 9)).set_ 1 (.int .i64 (ln : Int))
        have y0 := hB.cell 0
        have y1 := hB.cell 1
        simp at y0 y1
        have hfin := hok.out _ _ _ (.slice none 0 0) _ _ (D.none) Own.nil hE2
        clear hE hE2 hB A E O D hi
        replace hfin := hide hfin
        go_wp2
        first | exact hfin.out | exact bodyPost_ret (v := .tuple #[.string ⟨#[]⟩, .slice none 0 0, .agg #[.int .i64 9, .int .i64 (ln : Int)]]) (by simp [results, Tryz.results17, go_sem, y0, y1]) rfl hfin.out
      | true =>
        have hps := D.fin
        by_cases hf : fr < s.length
        · rw [if_pos hf] at hps
          have bf : decide (fr < s.length) = true := decide_eq_true hf
          have hE := (E).setCell (p := ⟨p, 0, none⟩) (show w.heap.size ≤ p by rw [hp]; exact Nat.le_refl _) (.int .i64 9)
          have hE2 := hE.setCell (p := ⟨p, 1, none⟩) (show w.heap.size ≤ p by rw [hp]; exact Nat.le_refl _) (.int .i64 (ln : Int))
          have a0 : wr.cell? ⟨p, 0, none⟩ = some (.int .i64 0) := (A).cell 0
          have a1 : wr.cell? ⟨p, 1, none⟩ = some (.int .i64 0) := (A).cell 1
          have af := fun i => (A).frozen i
          have hB := ((A).set_ 0 (.int .i64 9)).set_ 1 (.int .i64 (ln : Int))
          have y0 := hB.cell 0
          have y1 := hB.cell 1
          simp at y0 y1
          have hfin := hok.out _ _ _ (.slice none 0 0) _ _ (hps) Own.nil hE2
          clear hE hE2 hB A E O D hi hps hf
          replace hfin := hide hfin
          go_wp2
          first | exact hfin.out | exact bodyPost_ret (v := .tuple #[.string ⟨#[]⟩, .slice none 0 0, .agg #[.int .i64 9, .int .i64 (ln : Int)]]) (by simp [results, Tryz.results17, go_sem, y0, y1]) rfl hfin.out
        · rw [if_neg hf] at hps
          have bf : decide (fr < s.length) = false := decide_eq_false hf
          have hcf : cf ≤ s.length := D.h4
          have hx : (ByteArray.mk s.toArray).extract 0 cf = ⟨(s.take cf).toArray⟩ := by rw [ba_extract]; simp
          have hE := E.setCell (p := ⟨p, 0, none⟩) hpl (.int .i64 0)
          have hE2 := hE.setCell (p := ⟨p, 1, none⟩) hpl (.int .i64 0)
          have a0 : wr.cell? ⟨p, 0, none⟩ = some (.int .i64 0) := A.cell 0
          have a1 : wr.cell? ⟨p, 1, none⟩ = some (.int .i64 0) := A.cell 1
          have af := fun i => A.frozen i
          have hB := (A.set_ 0 (.int .i64 0)).set_ 1 (.int .i64 0)
          have y0 := hB.cell 0
          have y1 := hB.cell 1
          simp at y0 y1
          have O2 := (O.kept (w' := (wr.setCell ⟨p, 0, none⟩ (.int .i64 0)).setCell ⟨p, 1, none⟩ (.int .i64 0)) (by simp [World.setCell]) fun b h1 h2 => (Below.heap_setCell _ _ _ _ (show b ≠ p by omega)).trans (Below.heap_setCell _ _ _ _ (show b ≠ p by omega))).low (show w.heap.size ≤ p + 1 by omega)
          have hfin := hok.out _ _ _ _ _ _ hps O2 hE2
          obtain ⟨va, vc, rfl⟩ := O.form
          clear hE hE2 hB A E O D hi hps hf O2
          generalize s.take cf = tk at *
          replace hfin := hide hfin
          go_wp2
          first | exact hfin.out | exact bodyPost_ret (v := .tuple #[.string ⟨tk.toArray⟩, .slice va out.length vc, .agg #[.int .i64 0, .int .i64 0]]) (by simp [results, Tryz.results17, go_sem, y0, y1]) rfl hfin.out
end
section
open Go.RowKit
set_option linter.unusedVariables false
set_option linter.unusedSimpArgs false
theorem take_step {α : Type} {l m : List α} {k : Nat} (h : l.take k = m.take k) (h1 : k < l.length) (h2 : k < m.length) (e : l[k] = m[k]) : l.take (k + 1) = m.take (k + 1) := by
 rw [List.take_succ_eq_append_getElem h1, List.take_succ_eq_append_getElem h2, h, e]
set_option maxRecDepth 20000 in
set_option maxHeartbeats 4000000 in
theorem DSame_any (a1 : Option Addr) (c1 : Nat) (l : List EvS) (a2 : Option Addr) (c2 : Nat) (m : List EvS) (w : World) (hl : l.length ≤ 16777216) (hm : m.length ≤ 16777216) (h1 : Sl EEv w (· < w.heap.size) a1 l) (h2 : Sl EEv w (· < w.heap.size) a2 m) :
  Calls Tryz.prog 18 #[.slice a1 l.length c1, .slice a2 m.length c2] w fun e w' => e = .returned (.bool (decide (l = m))) ∧ Ext w w' := by
 by_cases hlen : l.length = m.length
 ·have hyes : l = m → decide (l = m) = true := fun h => decide_eq_true h
  have hno : l ≠ m → decide (l = m) = false := fun h => decide_eq_false h
  have b1 : ((l.length : Int) == (m.length : Int)) = true := beq_iff_eq.2 (by omega)
  have b2 : ((l.length : Int) != (m.length : Int)) = false := by rw [bne_eq_false_iff_eq]; omega
  obtain ⟨n, hn⟩ : ∃ n, l.length = n := ⟨_, rfl⟩
  have hn2 : m.length = n := by omega
  generalize decide (l = m) = r at *
  rw [hn, hn2]
  rw [hn, hn2] at b1 b2
  have hnb : n ≤ 16777216 := by omega
  clear hl hm hlen
  replace h1 := hide h1
  replace h2 := hide h2
  replace hyes := hide hyes
  replace hno := hide hno
  replace hn := hide hn
  replace hn2 := hide hn2
  go_enter Tryz.func18, Tryz.ntmps18
  go_wp2_with fail
  go_loopw [5] (fun s5 wr => ∃ k : Nat, s5 = .int .i64 (k : Int) ∧ k ≤ n ∧ Ext w wr ∧ l.take k = m.take k) (fun s5 _ => n - (intOf s5).toNat)
  case atStart => exact ⟨0, rfl, Nat.zero_le _, Ext.refl _, rfl⟩
  case round =>
   obtain ⟨k, rfl, hk, E, hh⟩ := hrel
   have w1 : IntKind.i64.wrap ((k : Int) + 1) = (k : Int) + 1 := by rw [IntKind.wrap_i64]; omega
   by_cases hlt : k < n
   ·obtain ⟨b, off, rfl, _, _, hc⟩ := EEv.at (h1.out.ext E) k (by rw [hn.out]; exact hlt)
    obtain ⟨b', off', rfl, _, _, hc'⟩ := EEv.at (h2.out.ext E) k (by rw [hn2.out]; exact hlt)
    have hs1 := fun e => take_step hh (by rw [hn.out]; exact hlt) (by rw [hn2.out]; exact hlt) e
    have hs2 : l[k]'(by rw [hn.out]; exact hlt) ≠ m[k]'(by rw [hn2.out]; exact hlt) → l ≠ m := fun h1 h2 => h1 (by subst h2; rfl)
    generalize l[k]'(by rw [hn.out]; exact hlt) = x at *
    generalize m[k]'(by rw [hn2.out]; exact hlt) = y at *
    have hq := fun W => run_neq_ofB (run_eqEv W x y)
    have hxy : ∀ t : Bool, decide (x = y) = t → (t = true → l.take (k + 1) = m.take (k + 1)) ∧ (t = false → l ≠ m) := fun t ht => ⟨fun h => hs1 (by rw [h] at ht; exact of_decide_eq_true ht), fun h => hs2 (by rw [h] at ht; exact of_decide_eq_false ht)⟩
    obtain ⟨kd, cn, ad, pr, by_, tk, dr⟩ := x
    obtain ⟨kd2, cn2, ad2, pr2, by2, tk2, dr2⟩ := y
    have hxy := hxy _ rfl
    generalize decide ((⟨kd, cn, ad, pr, by_, tk, dr⟩ : EvS) = ⟨kd2, cn2, ad2, pr2, by2, tk2, dr2⟩) = t at *
    have x0 : wr.cell? ⟨b, off + k * 7, none⟩ = some (.int .i64 kd) := hc 0 _ rfl
    have x1 : wr.cell? ⟨b, off + k * 7 + 1, none⟩ = some (.int .i64 cn) := hc 1 _ rfl
    have x2 : wr.cell? ⟨b, off + k * 7 + 2, none⟩ = some (.string ⟨ad.toArray⟩) := hc 2 _ rfl
    have x3 : wr.cell? ⟨b, off + k * 7 + 3, none⟩ = some (.string ⟨pr.toArray⟩) := hc 3 _ rfl
    have x4 : wr.cell? ⟨b, off + k * 7 + 4, none⟩ = some (.string ⟨by_.toArray⟩) := hc 4 _ rfl
    have x5 : wr.cell? ⟨b, off + k * 7 + 5, none⟩ = some (.int .i64 tk) := hc 5 _ rfl
    have x6 : wr.cell? ⟨b, off + k * 7 + 6, none⟩ = some (.int .u32 (dr.toNat : Int)) := hc 6 _ rfl
    have y0 : wr.cell? ⟨b', off' + k * 7, none⟩ = some (.int .i64 kd2) := hc' 0 _ rfl
    have y1 : wr.cell? ⟨b', off' + k * 7 + 1, none⟩ = some (.int .i64 cn2) := hc' 1 _ rfl
    have y2 : wr.cell? ⟨b', off' + k * 7 + 2, none⟩ = some (.string ⟨ad2.toArray⟩) := hc' 2 _ rfl
    have y3 : wr.cell? ⟨b', off' + k * 7 + 3, none⟩ = some (.string ⟨pr2.toArray⟩) := hc' 3 _ rfl
    have y4 : wr.cell? ⟨b', off' + k * 7 + 4, none⟩ = some (.string ⟨by2.toArray⟩) := hc' 4 _ rfl
    have y5 : wr.cell? ⟨b', off' + k * 7 + 5, none⟩ = some (.int .i64 tk2) := hc' 5 _ rfl
    have y6 : wr.cell? ⟨b', off' + k * 7 + 6, none⟩ = some (.int .u32 (dr2.toNat : Int)) := hc' 6 _ rfl
    clear hc hc' hs1 hs2 hh
    replace E := hide E
    replace hxy := hide hxy
    have bi : decide (k < n) = true := decide_eq_true hlt
    cases t
    ·go_upto_region 6 with fail
     go_quiet (fail)
     go_wp2
     try go_ret
     exact ⟨by rw [hno.out (hxy.out.2 (by trivial))]; rfl, E.out.drewN _⟩
    ·go_upto_region 6 with fail
     go_quiet (fail)
     go_wp2_with fail
     go_roundw
     case rel => exact ⟨k + 1, by go_num, by omega, E.out.drewN _, hxy.out.1 (by trivial)⟩
     case measure => simp [intOf]; omega
   ·obtain rfl : k = n := by omega
    have hlm : l = m := by
     have := hh
     rwa [List.take_of_length_le (by rw [hn.out]; exact Nat.le_refl _), List.take_of_length_le (by rw [hn2.out]; exact Nat.le_refl _)] at this
    have hr := hyes.out hlm
    clear hh hlm
    replace E := hide E
    replace hr := hide hr
    go_wp2
    try go_ret
    exact ⟨by rw [hr.out]; rfl, E.out⟩
 ·have hno : decide (l = m) = false := decide_eq_false fun h => hlen (by rw [h])
  rw [hno]
  have b1 : ((l.length : Int) == (m.length : Int)) = false := beq_eq_false_iff_ne.2 (by omega)
  have b2 : ((l.length : Int) != (m.length : Int)) = true := bne_iff_ne.2 (by omega)
  have b3 : (l.length == m.length) = false := beq_eq_false_iff_ne.2 hlen
  generalize l.length = x at *
  generalize m.length = y at *
  clear h1 h2 hno hl hm
  go_enter Tryz.func18, Tryz.ntmps18
  go_wp2
  try go_ret
  exact ⟨rfl, Ext.refl _⟩
end
section
section
open Go.RowKit Go.Extern.Stop Go.Stop Go.Extern
set_option linter.unusedVariables false
theorem isx_typeOf (v : Value) (w : World) : (ReflectliteType.typeOf #[.iface 23 v]).run Tryz.prog w = .ok (.iface 113 (.agg #[.pointer (some ⟨Tryz.prog.globals.size, 23, none⟩)])) w := by kernel_rfl
def cmpF : TypeId → Sem Value := fun t => do Rtype.noPackHeld "Comparable" t; pure (.bool (← typeInfo t).comparable)
theorem isx_comparable (w : World) : (ReflectliteType.method cmpF #[.agg #[.pointer (some ⟨Tryz.prog.globals.size, 23, none⟩)]]).run Tryz.prog w = .ok (.bool true) w := by kernel_rfl
theorem isx_mcomparable (n : Nat) (v : Value) (w : World) : (Go.method (n + 1) 113 v "Comparable").run Tryz.prog w = .ok (162, v) w := by kernel_rfl
theorem isx_munwrap (n : Nat) (v : Value) (w : World) : (Go.method (n + 1) 44 v "Unwrap").run Tryz.prog w = .ok (155, v) w := by kernel_rfl
theorem isx_noIsF (v : Value) (xT : TypeId) (w : World) : (Instr.typeAssert (.iface 44 v) xT 125 true).run Tryz.prog w = .ok (.tuple #[.nilIface, .bool false]) w := run_typeAssert_lacksB Tryz.underlying125 (by kernel_rfl) (by kernel_rfl) v xT w
theorem isx_hasUnwrapF (v : Value) (xT : TypeId) (w : World) : (Instr.typeAssert (.iface 44 v) xT 120 true).run Tryz.prog w = .ok (.tuple #[.iface 44 v, .bool true]) w := run_typeAssert_hasB Tryz.underlying120 (by kernel_rfl) v xT w
theorem isx_noIsE (v : Value) (xT : TypeId) (w : World) : (Instr.typeAssert (.iface 23 v) xT 125 true).run Tryz.prog w = .ok (.tuple #[.nilIface, .bool false]) w := run_typeAssert_lacksB Tryz.underlying125 (by kernel_rfl) (by kernel_rfl) v xT w
theorem isx_noUnwrapE (v : Value) (xT : TypeId) (w : World) : (Instr.typeAssert (.iface 23 v) xT 120 true).run Tryz.prog w = .ok (.tuple #[.nilIface, .bool false]) w := run_typeAssert_lacksB Tryz.underlying120 (by kernel_rfl) (by kernel_rfl) v xT w
theorem isx_noUnwrapsE (v : Value) (xT : TypeId) (w : World) : (Instr.typeAssert (.iface 23 v) xT 122 true).run Tryz.prog w = .ok (.tuple #[.nilIface, .bool false]) w := run_typeAssert_lacksB Tryz.underlying122 (by kernel_rfl) (by kernel_rfl) v xT w
/-- '==' of two errors that are numbers. -/
theorem run_eql_errno (w : World) (x y : Int) : (binOp .eql 39 (.iface 23 (.int .i64 x)) (.iface 23 (.int .i64 y))).run Tryz.prog w = .ok (.bool (x == y)) w := by
 have hi := Tryz.underlying39
 have hn := Tryz.underlying23
 have hc : (Tryz.prog.info? 23).map (·.comparable) = some true := by kernel_rfl
 obtain ⟨i, hi1, hi2⟩ := Option.map_eq_some_iff.1 hc
 have h : ∀ d : Nat, (Op.equalIn (d + 1 + 1) 39 (.iface 23 (.int .i64 x)) (.iface 23 (.int .i64 y))).run Tryz.prog w = .ok (x == y) w := fun d => by
  simp [Op.equalIn, run_underlying hi, run_underlying hn, typeInfo, hi1, hi2]
 simp only [binOp]
 simp [Op.equal, Op.maxDepth, h 9998]
set_option maxRecDepth 20000 in
set_option maxHeartbeats 4000000 in
theorem isF_any (a : Addr) (c d : Int) (w : World) (h : w.cell? a = some (.int .i64 c)) :
  Calls Tryz.prog 20 #[.iface 44 (.pointer (some a)), .iface 23 (.int .i64 d)] w fun e w' => e = .returned (.bool (c == d)) ∧ w = w' := by
 have h8 := @run_callFunc_extern Tryz.prog 42 _ ReflectliteType.typeOf Tryz.func42 (by kernel_rfl) (by kernel_rfl) (by kernel_rfl) (by kernel_rfl)
 have h32 := @run_callFunc_extern Tryz.prog 162 _ (ReflectliteType.method cmpF) Tryz.func162 (by kernel_rfl) (by kernel_rfl) (by kernel_rfl) (by kernel_rfl)
 have tT := isx_typeOf
 have cT := isx_comparable
 generalize Tryz.prog.globals.size = K at *
 have mR := fun v w => isx_mcomparable 312 v w
 have mU := fun v w => isx_munwrap 312 v w
 simp only [Nat.reduceAdd] at mR mU
 have nF := isx_noIsF
 have uF := isx_hasUnwrapF
 have nE := isx_noIsE
 have uE := isx_noUnwrapE
 have vE := isx_noUnwrapsE
 have q1 := fun w => run_eql_iface_types (P := Tryz.prog) 44 23 (.pointer (some a)) (.int .i64 d) Tryz.underlying39 (by decide) w
 have q2 := fun w => run_eql_errno w c d
 obtain ⟨b, o, pp⟩ := a
 by_cases hcd : c = d
 ·have hb : (c == d) = true := by rw [beq_iff_eq]; exact hcd
  rw [hb]
  simp only [hb] at q2
  clear hcd hb
  go_enter Tryz.func20, Tryz.ntmps20
  go_wp2
  refine wp_loop_rounds 2 ?_
  rw [rounds_succ]
  go_wp2
  rw [rounds_succ]
  go_wp2
  go_ret
  exact ⟨rfl, rfl⟩
 ·have hb : (c == d) = false := by rw [beq_eq_false_iff_ne]; exact hcd
  rw [hb]
  simp only [hb] at q2
  clear hcd hb
  go_enter Tryz.func20, Tryz.ntmps20
  go_wp2
  refine wp_loop_rounds 2 ?_
  rw [rounds_succ]
  go_wp2
  rw [rounds_succ]
  go_wp2
  go_ret
  exact ⟨rfl, rfl⟩
theorem as_valueOf27 (t : Addr) (w : World) : (ReflectliteValue.unpack (.iface 46 (.pointer (some t)))).run Tryz.prog w
  = .ok (.agg #[.pointer (some ⟨Tryz.prog.globals.size, 46, none⟩), .pointer (some ⟨w.heap.size, 0, none⟩), .int .u64 150]) (w.alloc (.cells #[.pointer (some t)] 46)) := by kernel_rfl
theorem as_type27 (a : Addr) (w : World) : (ReflectliteValue.methodAny (ReflectliteValue.valueError "reflectlite.Value.Type" 0) (fun t _ _ _ => ReflectliteType.toType t) #[.agg #[.pointer (some ⟨Tryz.prog.globals.size, 46, none⟩), .pointer (some a), .int .u64 150]]).run Tryz.prog w
  = .ok (.iface 113 (.agg #[.pointer (some ⟨Tryz.prog.globals.size, 46, none⟩)])) w := by kernel_rfl
theorem as_methodKind (n : Nat) (h : Value) (w : World) : (Go.method (n + 1) 113 (.agg #[h]) "Kind").run Tryz.prog w = .ok (150, h) w := by kernel_rfl
theorem as_kind27 (w : World) : ((ReflectliteType.abiMethod fun t => (fun a : Nat => Value.int IntKind.u8 (a : Int)) <$> Rtype.kind t) #[.pointer (some ⟨Tryz.prog.globals.size, 46, none⟩)]).run Tryz.prog w = .ok (.int .u8 22) w := by kernel_rfl
theorem as_kind25 (w : World) : ((ReflectliteType.abiMethod fun t => (fun a : Nat => Value.int IntKind.u8 (a : Int)) <$> Rtype.kind t) #[.pointer (some ⟨Tryz.prog.globals.size, 44, none⟩)]).run Tryz.prog w = .ok (.int .u8 22) w := by kernel_rfl
theorem as_rlm (z : Sem Value) (f : TypeId → Addr → Nat → Nat → Sem Value) (v : Value) :
  ReflectliteValue.method z f #[v] = (do match ← ReflectliteValue.parts v with | none => z | some (t, a, fl) => f t a fl (fl % 32)) := rfl
theorem as_parts27 (a : Addr) (w : World) : (ReflectliteValue.parts (.agg #[.pointer (some ⟨Tryz.prog.globals.size, 46, none⟩), .pointer (some a), .int .u64 150])).run Tryz.prog w = .ok (some (46, a, 150)) w := by kernel_rfl
/-- (Value).IsNil at the Value of a **p.E that is not nil. -/
theorem as_isNil27 (a p : Addr) (W : World) (ha : W.cell? a = some (.pointer (some p))) :
  (ReflectliteValue.method (ReflectliteValue.valueError "reflectlite.Value.IsNil" 0) ReflectliteValue.isNil #[.agg #[.pointer (some ⟨Tryz.prog.globals.size, 46, none⟩), .pointer (some a), .int .u64 150]]).run Tryz.prog W = .ok (.bool false) W := by
 rw [as_rlm]
 simp only [Sem.run_bind, as_parts27, Result.andThen]
 simp [ReflectliteValue.isNil, loadVar, isAgg, underlying, Tryz.underlying46, ha, Result.andThen]
theorem as_methodElem (n : Nat) (h : Value) (w : World) : (Go.method (n + 1) 113 (.agg #[h]) "Elem").run Tryz.prog w = .ok (163, .agg #[h]) w := by kernel_rfl
theorem as_methodImplements (n : Nat) (h : Value) (w : World) : (Go.method (n + 1) 113 (.agg #[h]) "Implements").run Tryz.prog w = .ok (164, .agg #[h]) w := by kernel_rfl
theorem as_methodAssignableTo (n : Nat) (h : Value) (w : World) : (Go.method (n + 1) 113 (.agg #[h]) "AssignableTo").run Tryz.prog w = .ok (161, .agg #[h]) w := by kernel_rfl
theorem as_elem27 (w : World) : (ReflectliteType.method ReflectliteType.elem #[.agg #[.pointer (some ⟨Tryz.prog.globals.size, 46, none⟩)]]).run Tryz.prog w = .ok (.iface 113 (.agg #[.pointer (some ⟨Tryz.prog.globals.size, 44, none⟩)])) w := by kernel_rfl
theorem as_implements25 (w : World) : (ReflectliteType.relation "Implements" ReflectliteType.implements_ #[.agg #[.pointer (some ⟨Tryz.prog.globals.size, 44, none⟩)], .iface 113 (.agg #[.pointer (some ⟨Tryz.prog.globals.size, 39, none⟩)])]).run Tryz.prog w = .ok (.bool true) w := by kernel_rfl
theorem as_typeOf25 (v : Value) (w : World) : (ReflectliteType.typeOf #[.iface 44 v]).run Tryz.prog w = .ok (.iface 113 (.agg #[.pointer (some ⟨Tryz.prog.globals.size, 44, none⟩)])) w := by kernel_rfl
theorem as_assignable25 (w : World) : (ReflectliteType.relation "AssignableTo" ReflectliteType.assignableTo #[.agg #[.pointer (some ⟨Tryz.prog.globals.size, 44, none⟩)], .iface 113 (.agg #[.pointer (some ⟨Tryz.prog.globals.size, 44, none⟩)])]).run Tryz.prog w = .ok (.bool true) w := by kernel_rfl
theorem as_valueOf25 (e : Addr) (w : World) : (ReflectliteValue.unpack (.iface 44 (.pointer (some e)))).run Tryz.prog w
  = .ok (.agg #[.pointer (some ⟨Tryz.prog.globals.size, 44, none⟩), .pointer (some ⟨w.heap.size, 0, none⟩), .int .u64 150]) (w.alloc (.cells #[.pointer (some e)] 44)) := by kernel_rfl
theorem as_elemOf27 (w : World) : (Rtype.elem? 46).run Tryz.prog w = .ok (some 44) w := by kernel_rfl
theorem as_mk25 (p : Addr) (w : World) : (ReflectliteValue.mk 44 p ReflectliteValue.flagAddr).run Tryz.prog w = .ok (.agg #[.pointer (some ⟨Tryz.prog.globals.size, 44, none⟩), .pointer (some p), .int .u64 406]) w := by kernel_rfl
/-- (Value).Elem at the Value of a **p.E that is not nil: the Value of the *p.E variable that it points to, addressable. -/
theorem as_elemV27 (a p : Addr) (W : World) (ha : W.cell? a = some (.pointer (some p))) :
  (ReflectliteValue.method (ReflectliteValue.valueError "reflectlite.Value.Elem" 0) ReflectliteValue.elem #[.agg #[.pointer (some ⟨Tryz.prog.globals.size, 46, none⟩), .pointer (some a), .int .u64 150]]).run Tryz.prog W
   = .ok (.agg #[.pointer (some ⟨Tryz.prog.globals.size, 44, none⟩), .pointer (some p), .int .u64 406]) W := by
 rw [as_rlm]
 simp only [Sem.run_bind, as_parts27, Result.andThen]
 simp [ReflectliteValue.elem, loadVar, isAgg, underlying, Tryz.underlying46, ha, Result.andThen, as_elemOf27, as_mk25]
theorem as_rls (v x : Value) : ReflectliteValue.set #[v, x] = (do
  let (some (dst, a, fl), some (src, b, _)) := (← ReflectliteValue.parts v, ← ReflectliteValue.parts x)
   | unsupported (.noEntry "extern/(internal/reflectlite.Value).Set.zeroValue")
  if fl / ReflectliteValue.flagAddr % 2 == 0 then unsupported (.noEntry "extern/(internal/reflectlite.Value).Set.unaddressable")
  let val ← loadVar src b
  if ← Rtype.directlyAssignable dst src then storeVar dst a val
  else if ← Rtype.implements dst src then
   if (← Rtype.kind src) == 20 then
    match val with
    | .nilIface => unsupported (.noEntry "extern/reflectlite: a nil value of one interface type handed on as a value of another")
    | _ => storeVar dst a val
   else storeVar dst a (.iface src val)
  else panicString ("reflectlite.Set: value of type " ++ (← Rtype.spelt src) ++ " is not assignable to type " ++ (← Rtype.spelt dst))
  pure (.tuple #[])) := rfl
theorem as_parts25a (a : Addr) (w : World) : (ReflectliteValue.parts (.agg #[.pointer (some ⟨Tryz.prog.globals.size, 44, none⟩), .pointer (some a), .int .u64 406])).run Tryz.prog w = .ok (some (44, a, 406)) w := by kernel_rfl
theorem as_parts25 (a : Addr) (w : World) : (ReflectliteValue.parts (.agg #[.pointer (some ⟨Tryz.prog.globals.size, 44, none⟩), .pointer (some a), .int .u64 150])).run Tryz.prog w = .ok (some (44, a, 150)) w := by kernel_rfl
theorem as_direct25 (w : World) : (Rtype.directlyAssignable 44 44).run Tryz.prog w = .ok true w := by kernel_rfl
/-- (Value).Set: the *p.E variable at 'ta' gets what the Value's own variable 'b' holds. -/
theorem as_set25 (ta b e : Addr) (old : Value) (W : World) (hb : W.cell? b = some (.pointer (some e))) (ht : W.cell? ta = some old) (hf : W.frozen? ta = false) :
  (ReflectliteValue.set #[.agg #[.pointer (some ⟨Tryz.prog.globals.size, 44, none⟩), .pointer (some ta), .int .u64 406], .agg #[.pointer (some ⟨Tryz.prog.globals.size, 44, none⟩), .pointer (some b), .int .u64 150]]).run Tryz.prog W
   = .ok (.tuple #[]) (W.setCell ta (.pointer (some e))) := by
 rw [as_rls]
 simp only [Sem.run_bind, as_parts25a, as_parts25, Result.andThen]
 simp [ReflectliteValue.flagAddr, loadVar, isAgg, underlying, Tryz.underlying44, hb, Result.andThen, as_direct25, storeVar, Value.cells, storeCells, Addr.add]
 rw [run_store Tryz.prog W ta _ _ (by rfl)]
 simp [ht, hf]
def kindF : TypeId → Sem Value := fun t => do pure (.int .u8 (← Rtype.kind t))
theorem as_kd : (fun t => (fun a : Nat => Value.int IntKind.u8 (a : Int)) <$> Rtype.kind t) = kindF := by funext t; simp [kindF]
set_option maxRecDepth 20000 in
set_option maxHeartbeats 8000000 in
theorem asF_hit0 (e t : Addr) (old : Value) (w : World) (hg : w.cell? ⟨0, 0, none⟩ = some (.iface 113 (.agg #[.pointer (some ⟨Tryz.prog.globals.size, 39, none⟩)]))) (ht0 : w.cell? t = some old) (hf0 : w.frozen? t = false) :
  Calls Tryz.prog 16 #[.iface 44 (.pointer (some e)), .iface 46 (.pointer (some t))] w fun ev w' => ev = .returned (.bool true) ∧ w' = ((((w.alloc (.cells #[.pointer (some t)] 46)).alloc (.cells #[.pointer (some ⟨Tryz.prog.globals.size, 46, none⟩), .pointer (some ⟨w.heap.size, 0, none⟩), .int .u64 150] 83)).alloc (.cells #[.pointer (some ⟨Tryz.prog.globals.size, 46, none⟩), .pointer (some ⟨w.heap.size, 0, none⟩), .int .u64 150] 83)).alloc (.cells #[.pointer (some e)] 44)).setCell t (.pointer (some e)) := by
 have h6 := @run_callFunc_extern Tryz.prog 38 _ (fun args => ReflectliteValue.unpack (args.getD 0 (.tuple #[]))) Tryz.func38 (by kernel_rfl) (by kernel_rfl) (by kernel_rfl) (by kernel_rfl)
 have h7 := @run_callFunc_extern Tryz.prog 39 _ (ReflectliteValue.methodAny (ReflectliteValue.valueError "reflectlite.Value.Type" 0) (fun t _ _ _ => ReflectliteType.toType t)) Tryz.func39 (by kernel_rfl) (by kernel_rfl) (by kernel_rfl) (by kernel_rfl)
 have h8 := @run_callFunc_extern Tryz.prog 40 _ (ReflectliteValue.method (ReflectliteValue.valueError "reflectlite.Value.IsNil" 0) ReflectliteValue.isNil) Tryz.func40 (by kernel_rfl) (by kernel_rfl) (by kernel_rfl) (by kernel_rfl)
 have h27 := @run_callFunc_extern Tryz.prog 150 _ (ReflectliteType.abiMethod kindF) Tryz.func150 (by kernel_rfl) (by kernel_rfl) (by kernel_rfl) (by kernel_rfl)
 have h37 := @run_callFunc_extern Tryz.prog 163 _ (ReflectliteType.method ReflectliteType.elem) Tryz.func163 (by kernel_rfl) (by kernel_rfl) (by kernel_rfl) (by kernel_rfl)
 have h38 := @run_callFunc_extern Tryz.prog 164 _ (ReflectliteType.relation "Implements" ReflectliteType.implements_) Tryz.func164 (by kernel_rfl) (by kernel_rfl) (by kernel_rfl) (by kernel_rfl)
 have h10 := @run_callFunc_extern Tryz.prog 42 _ ReflectliteType.typeOf Tryz.func42 (by kernel_rfl) (by kernel_rfl) (by kernel_rfl) (by kernel_rfl)
 have h35 := @run_callFunc_extern Tryz.prog 161 _ (ReflectliteType.relation "AssignableTo" ReflectliteType.assignableTo) Tryz.func161 (by kernel_rfl) (by kernel_rfl) (by kernel_rfl) (by kernel_rfl)
 have h11 := @run_callFunc_extern Tryz.prog 71 _ (ReflectliteValue.method (ReflectliteValue.valueError "reflectlite.Value.Elem" 0) ReflectliteValue.elem) Tryz.func71 (by kernel_rfl) (by kernel_rfl) (by kernel_rfl) (by kernel_rfl)
 have h12 := @run_callFunc_extern Tryz.prog 72 _ ReflectliteValue.set Tryz.func72 (by kernel_rfl) (by kernel_rfl) (by kernel_rfl) (by kernel_rfl)
 have tO := as_typeOf25
 have mA := as_methodAssignableTo 312
 have a25 := as_assignable25
 have v25 := as_valueOf25
 have f6 := as_valueOf27
 have f7 := as_type27
 have mK := as_methodKind 312
 have mE := as_methodElem 312
 have mI := as_methodImplements 312
 simp only [Nat.reduceAdd] at mA mK mE mI
 have k27 := as_kind27
 have k25 := as_kind25
 rw [as_kd] at k27 k25
 have e27 := as_elem27
 have i25 := as_implements25
 have n8 := as_isNil27 ⟨w.heap.size, 0, none⟩ t ((w.alloc (.cells #[.pointer (some t)] 46)).alloc (.cells #[.pointer (some ⟨Tryz.prog.globals.size, 46, none⟩), .pointer (some ⟨w.heap.size, 0, none⟩), .int .u64 150] 83)) (by simp)
 have hlt : 0 < w.heap.size := World.block_lt_of_cell? w ⟨0, 0, none⟩ hg
 have hg2 : ((w.alloc (.cells #[.pointer (some t)] 46)).alloc (.cells #[.pointer (some ⟨Tryz.prog.globals.size, 46, none⟩), .pointer (some ⟨w.heap.size, 0, none⟩), .int .u64 150] 83)).cell? ⟨0, 0, none⟩ = some (.iface 113 (.agg #[.pointer (some ⟨Tryz.prog.globals.size, 39, none⟩)])) := by
  rw [World.cell?_alloc_lt _ _ ⟨0, 0, none⟩ (by first | (simp; done) | (simp; omega)), World.cell?_alloc_lt _ _ ⟨0, 0, none⟩ hlt]; exact hg
 have htl : t.block < w.heap.size := by
  rcases Nat.lt_or_ge t.block w.heap.size with h | h
  ·exact h
  ·simp [World.cell?, Array.getElem?_eq_none h] at ht0
 have el := as_elemV27 ⟨w.heap.size, 0, none⟩ t (((w.alloc (.cells #[.pointer (some t)] 46)).alloc (.cells #[.pointer (some ⟨Tryz.prog.globals.size, 46, none⟩), .pointer (some ⟨w.heap.size, 0, none⟩), .int .u64 150] 83)).alloc (.cells #[.pointer (some ⟨Tryz.prog.globals.size, 46, none⟩), .pointer (some ⟨w.heap.size, 0, none⟩), .int .u64 150] 83)) (by rw [World.cell?_alloc_lt _ _ ⟨w.heap.size, 0, none⟩ (by simp; omega)]; simp)
 have st := as_set25 t ⟨w.heap.size + 1 + 1 + 1, 0, none⟩ e old ((((w.alloc (.cells #[.pointer (some t)] 46)).alloc (.cells #[.pointer (some ⟨Tryz.prog.globals.size, 46, none⟩), .pointer (some ⟨w.heap.size, 0, none⟩), .int .u64 150] 83)).alloc (.cells #[.pointer (some ⟨Tryz.prog.globals.size, 46, none⟩), .pointer (some ⟨w.heap.size, 0, none⟩), .int .u64 150] 83)).alloc (.cells #[.pointer (some e)] 44))
  (by rw [World.cell?_alloc_at _ _ _ _ (by simp)]; rfl)
  (by rw [World.cell?_alloc_lt _ _ t (by simp; omega), World.cell?_alloc_lt _ _ t (by simp; omega), World.cell?_alloc_lt _ _ t (by simp; omega), World.cell?_alloc_lt _ _ t htl]; exact ht0)
  (by rw [World.frozen?_alloc_old _ _ t (by simp; omega), World.frozen?_alloc_old _ _ t (by simp; omega), World.frozen?_alloc_old _ _ t (by simp; omega), World.frozen?_alloc_old _ _ t (Nat.ne_of_lt htl)]; exact hf0)
 clear hg
 generalize Tryz.prog.globals.size = K at *
 go_enter Tryz.func16, Tryz.ntmps16
 go_wp2
 refine wp_loop_rounds 1 ?_
 rw [rounds_succ]
 go_wp2
 go_ret
 exact ⟨rfl, rfl⟩
/-- What the library's variable errors.errorType holds. -/
def ErT (w : World) : Prop := w.cell? ⟨0, 0, none⟩ = some (.iface 113 (.agg #[.pointer (some ⟨Tryz.prog.globals.size, 39, none⟩)]))
theorem ErT.ext {w w' : World} (h : ErT w) (he : Ext w w') : ErT w' := he.cell h
theorem asF_hit (e t : Addr) (old : Value) (w : World) (hg : ErT w) (ht0 : w.cell? t = some old) (hf0 : w.frozen? t = false) :
  Calls Tryz.prog 16 #[.iface 44 (.pointer (some e)), .iface 46 (.pointer (some t))] w fun ev w' => ev = .returned (.bool true) ∧ ∃ w1, Ext w w1 ∧ w' = w1.setCell t (.pointer (some e)) :=
 (asF_hit0 e t old w hg ht0 hf0).mono fun _ _ ⟨h1, h2⟩ => ⟨h1, _, ((((Ext.refl w).alloc _).alloc _).alloc _).alloc _, h2⟩
end
end
section
open Go.RowKit
set_option linter.unusedVariables false
set_option linter.unusedSimpArgs false
set_option maxRecDepth 20000 in
theorem Fault_nil (k : Int) (w : World) : Calls Tryz.prog 19 #[.nilIface, .agg #[.int .i64 0, .int .i64 k]] w fun e w' => e = .returned (.bool true) ∧ Ext w w' := by
 go_enter Tryz.func19, Tryz.ntmps19
 go_wp2
 try go_ret
 exact ⟨rfl, (Ext.refl w).alloc _⟩
set_option maxRecDepth 20000 in
set_option maxHeartbeats 4000000 in
theorem Fault_hit (c k : Int) (hc : c ≠ 0) (f : Nat) (w : World) (F : Blk w f 48 #[.int .i64 c, .int .i64 k]) (hg : ErT w) : Calls Tryz.prog 19 #[.iface 44 (.pointer (some ⟨f, 0, none⟩)), .agg #[.int .i64 c, .int .i64 k]] w fun e w' => e = .returned (.bool true) ∧ Ext w w' := by
  have hfl := F.lt
  have A := Blk.new w 50 #[.int .i64 c, .int .i64 k]
  have E := (Ext.refl w).alloc (Obj.cells #[.int .i64 c, .int .i64 k] 50)
  replace F := F.alloc (Obj.cells #[.int .i64 c, .int .i64 k] 50)
  have hz : (w.alloc (Obj.cells #[.int .i64 c, .int .i64 k] 50)).heap.size = w.heap.size + 1 := by simp
  generalize hV1 : w.alloc (Obj.cells #[.int .i64 c, .int .i64 k] 50) = V1 at *
  have P := Blk.new V1 44 #[.pointer none]
  replace E := E.alloc (Obj.cells #[.pointer none] 44)
  replace F := F.alloc (Obj.cells #[.pointer none] 44)
  replace A := A.alloc (Obj.cells #[.pointer none] 44)
  rw [hz] at P
  generalize hV2 : V1.alloc (Obj.cells #[.pointer none] 44) = V2 at *
  obtain ⟨p, hp⟩ : ∃ p, w.heap.size = p := ⟨_, rfl⟩
  rw [hp] at A P hfl hz
  have q1 := asF_hit ⟨f, 0, none⟩ ⟨p + 1, 0, none⟩ (.pointer none) V2.drew (hg.ext E.drew) (P.drew.cell 0) (P.drew.frozen 0)
  have q2 := fun W (h : W.cell? ⟨f, 0, none⟩ = some (.int .i64 c)) => isF_any ⟨f, 0, none⟩ c c W h
  rw [show (c == c) = true by simp] at q2
  have e1 : (c == 0) = false := beq_eq_false_iff_ne.2 hc
  have e2 : (c != 0) = true := by simpa using hc
  have e3 : decide (c = 0) = false := decide_eq_false hc
  have hwp : w.heap.size ≤ p + 1 := by omega
  have a0 : V2.cell? ⟨p, 0, none⟩ = some (.int .i64 c) := A.cell 0
  clear hc hg
  replace hz := hide hz
  replace hV1 := hide hV1
  replace hV2 := hide hV2
  replace hp := hide hp
  replace P := hide P
  replace E := hide E
  replace F := hide F
  replace A := hide A
  replace q1 := hide q1
  replace q2 := hide q2
  replace hfl := hide hfl
  replace hwp := hide hwp
  go_enter Tryz.func19, Tryz.ntmps19
  go_upto_region 1 with fail
  try rw [hV1.out]
  try simp only [hp.out]
  have a0' : V1.cell? ⟨p, 0, none⟩ = some (.int .i64 c) := by
    have h1 := (Blk.new w 50 #[.int .i64 c, .int .i64 k]).cell 0
    rw [hV1.out, hp.out] at h1
    exact h1
  go_upto_region 4 with fail
  try rw [hV2.out]
  try simp only [hz.out]
  clear hV1 hV2 a0' hz
  go_region_with (first
    | (go_at_call 16
       refine q1.out.mono ?_
       rintro e W1 ⟨rfl, W1', he, rfl⟩
       have P1 : Blk (W1'.setCell ⟨p + 1, 0, none⟩ (.pointer (some ⟨f, 0, none⟩))) (p + 1) 44 #[.pointer (some ⟨f, 0, none⟩)] := (P.out.drew.ext he).set_ 0 _
       have F1 := (F.out.drew.ext he).far (p := ⟨p + 1, 0, none⟩) (show f ≠ p + 1 by have := hfl.out; omega) (.pointer (some ⟨f, 0, none⟩))
       have A1 := (A.out.drew.ext he).far (p := ⟨p + 1, 0, none⟩) (show p ≠ p + 1 by omega) (.pointer (some ⟨f, 0, none⟩))
       have E1 := (E.out.drew.trans he).setCell (p := ⟨p + 1, 0, none⟩) hwp.out (.pointer (some ⟨f, 0, none⟩))
       generalize W1'.setCell ⟨p + 1, 0, none⟩ (.pointer (some ⟨f, 0, none⟩)) = W2 at P1 F1 A1 E1 ⊢
       have p0 : W2.cell? ⟨p + 1, 0, none⟩ = some (.pointer (some ⟨f, 0, none⟩)) := P1.cell 0
       have f0 : W2.cell? ⟨f, 0, none⟩ = some (.int .i64 c) := F1.cell 0
       have f1 : W2.cell? ⟨f, 1, none⟩ = some (.int .i64 k) := F1.cell 1
       have g0 : W2.cell? ⟨p, 0, none⟩ = some (.int .i64 c) := A1.cell 0
       have g1 : W2.cell? ⟨p, 1, none⟩ = some (.int .i64 k) := A1.cell 1
       have q2' := q2.out W2 f0
       clear P1 F1 A1 he
       replace E1 := hide E1
       replace q2' := hide q2')
    | (go_at_call 20
       refine q2'.out.mono ?_
       rintro e w_ ⟨rfl, rfl⟩))
  all_goals go_wp2
  all_goals try go_ret
  all_goals exact ⟨rfl, E1.out⟩
end
section
open Go.RowKit
set_option linter.unusedVariables false
set_option linter.unusedSimpArgs false
/-- What is left of the variables behind the guard. -/
structure PS2 (w W : World) (p k cf : Nat) (v : Value) (out : List EvS) : Prop where
  ext : Ext w W
  at_ : Blk W (p + 2) 3 #[.int .i64 (k : Int)]
  cfb : Blk W (p + 3) 3 #[.int .i64 (cf : Int)]
  ob : Blk W (p + 4) 22 #[v]
  own : Own EEv 31 W (p + 6) v out
theorem PS.two {w W W' : World} {p m k cf : Nat} {L : List (List UInt8)} {v : Value} {out : List EvS} (h : PS w W p m L k cf v out) (hb : But (p + 5) W W') : PS2 w W' p k cf v out :=
 have h1 := h.lo
 ⟨But.ext h.ext hb (by omega), h.at_.but hb (by omega), h.cfb.but hb (by omega), h.ob.but hb (by omega), h.own.kept hb.size fun b h1 h2 => hb.block b h2 (by omega)⟩
theorem parse_mem (w W2 : World) (L : List (List UInt8)) (m d : Nat) (E : Ext w W2) (hL : L.length = m + 1) (hm : m ≤ 1048576) (hb : w.heap.size < W2.heap.size) (hc : ∀ (j : Nat) (hj : j < L.length), W2.cell? ⟨w.heap.size, j, none⟩ = some (.string ⟨L[j].toArray⟩)) :
  ∃ W3 : World, (((((W2.alloc (Obj.cells #[.slice (some ⟨w.heap.size, 0, none⟩) (m + 1) d] 63)).alloc (Obj.cells #[.int .i64 (m : Int)] 3)).alloc (Obj.cells #[.int .i64 0] 3)).alloc (Obj.cells #[.int .i64 0] 3)).alloc (Obj.cells #[.slice none 0 0] 22)) = W3 ∧ W3.heap.size = W2.heap.size + 5 ∧ Ext w W3 ∧ PS w (W3.alloc (Obj.cells #[.int .i64 0] 23)) W2.heap.size m L 0 0 (.slice none 0 0) [] := by
 refine ⟨_, rfl, ?_⟩
 have z0 : W2.heap.size = W2.heap.size + 0 := rfl
 have a0 := Blk.new W2 63 #[.slice (some ⟨w.heap.size, 0, none⟩) (m + 1) d]
 have e0 := (Ext.refl W2).alloc (Obj.cells #[.slice (some ⟨w.heap.size, 0, none⟩) (m + 1) d] 63)
 have z1 : (W2.alloc (Obj.cells #[.slice (some ⟨w.heap.size, 0, none⟩) (m + 1) d] 63)).heap.size = W2.heap.size + 1 := by simp
 generalize W2.alloc (Obj.cells #[.slice (some ⟨w.heap.size, 0, none⟩) (m + 1) d] 63) = V1 at *
 have a1 := Blk.new V1 3 #[.int .i64 (m : Int)]
 have e1 := e0.alloc (Obj.cells #[.int .i64 (m : Int)] 3)
 replace a0 := a0.alloc (Obj.cells #[.int .i64 (m : Int)] 3)
 have z2 : (V1.alloc (Obj.cells #[.int .i64 (m : Int)] 3)).heap.size = W2.heap.size + 2 := by simp [z1]
 rw [z1] at a1
 generalize V1.alloc (Obj.cells #[.int .i64 (m : Int)] 3) = V2 at *
 have a2 := Blk.new V2 3 #[.int .i64 0]
 have e2 := e1.alloc (Obj.cells #[.int .i64 0] 3)
 replace a0 := a0.alloc (Obj.cells #[.int .i64 0] 3)
 replace a1 := a1.alloc (Obj.cells #[.int .i64 0] 3)
 have z3 : (V2.alloc (Obj.cells #[.int .i64 0] 3)).heap.size = W2.heap.size + 3 := by simp [z2]
 rw [z2] at a2
 generalize V2.alloc (Obj.cells #[.int .i64 0] 3) = V3 at *
 have a3 := Blk.new V3 3 #[.int .i64 0]
 have e3 := e2.alloc (Obj.cells #[.int .i64 0] 3)
 replace a0 := a0.alloc (Obj.cells #[.int .i64 0] 3)
 replace a1 := a1.alloc (Obj.cells #[.int .i64 0] 3)
 replace a2 := a2.alloc (Obj.cells #[.int .i64 0] 3)
 have z4 : (V3.alloc (Obj.cells #[.int .i64 0] 3)).heap.size = W2.heap.size + 4 := by simp [z3]
 rw [z3] at a3
 generalize V3.alloc (Obj.cells #[.int .i64 0] 3) = V4 at *
 have a4 := Blk.new V4 22 #[.slice none 0 0]
 have e4 := e3.alloc (Obj.cells #[.slice none 0 0] 22)
 replace a0 := a0.alloc (Obj.cells #[.slice none 0 0] 22)
 replace a1 := a1.alloc (Obj.cells #[.slice none 0 0] 22)
 replace a2 := a2.alloc (Obj.cells #[.slice none 0 0] 22)
 replace a3 := a3.alloc (Obj.cells #[.slice none 0 0] 22)
 have z5 : (V4.alloc (Obj.cells #[.slice none 0 0] 22)).heap.size = W2.heap.size + 5 := by simp [z4]
 rw [z4] at a4
 generalize V4.alloc (Obj.cells #[.slice none 0 0] 22) = V5 at *
 have a5 := Blk.new V5 23 #[.int .i64 0]
 have e5 := e4.alloc (Obj.cells #[.int .i64 0] 23)
 replace a0 := a0.alloc (Obj.cells #[.int .i64 0] 23)
 replace a1 := a1.alloc (Obj.cells #[.int .i64 0] 23)
 replace a2 := a2.alloc (Obj.cells #[.int .i64 0] 23)
 replace a3 := a3.alloc (Obj.cells #[.int .i64 0] 23)
 replace a4 := a4.alloc (Obj.cells #[.int .i64 0] 23)
 rw [z5] at a5
 refine ⟨z5, E.trans e4, ⟨by omega, by simp [z5], E.trans e5, hL, hm, ⟨w.heap.size, d, by rw [hL]; exact a0, hb, fun j hj => e5.cell (hc j hj)⟩, a1, a2, a3, a4, a5, Own.nil⟩⟩
/-- What script.Parse answers. -/
def ParP (s : List UInt8) (w : World) (e : Ending) (w' : World) : Prop :=
  ((∃ cfg evs v, parseS s = (cfg, evs, 0, 0) ∧ e = .returned (.tuple #[.string ⟨cfg.toArray⟩, v, .nilIface]) ∧ Own EEv 31 w' w.heap.size v evs) ∨
   (∃ (c : Int) (k f : Nat), c ≠ 0 ∧ parseS s = ([], [], c, k) ∧ e = .returned (.tuple #[.string ⟨#[]⟩, .slice none 0 0, .iface 44 (.pointer (some ⟨f, 0, none⟩))]) ∧ w.heap.size ≤ f ∧ Blk w' f 48 #[.int .i64 c, .int .i64 (k : Int)])) ∧ Ext w w'
set_option maxRecDepth 20000 in
set_option maxHeartbeats 4000000 in
theorem SParse_any (s : List UInt8) (hs : s.length ≤ 1048576) (w : World) (hT : Tab w) (hV : Vars w) (hD : Deb w) : Calls Tryz.prog 15 #[.string ⟨s.toArray⟩] w (ParP s w) := by
 have hmf : ∀ (fn : Fn) (first cap : Array Value) (w : World), (Instr.makeFunc fn first cap).run Tryz.prog w = .ok (.func fn first cap) w := fun _ _ _ _ => rfl
 have hps := parse_rest hs
 have hok : ∀ W cfg evs v, parseS s = (cfg, evs, 0, 0) → Own EEv 31 W w.heap.size v evs → Ext w W → ParP s w (.returned (.tuple #[.string ⟨cfg.toArray⟩, v, .nilIface])) W := fun W cfg evs v h1 h2 h3 => ⟨.inl ⟨cfg, evs, v, h1, rfl, h2⟩, h3⟩
 have hno : ∀ W c k f, c ≠ 0 → parseS s = ([], [], c, k) → w.heap.size ≤ f → Blk W f 48 #[.int .i64 c, .int .i64 (k : Int)] → Ext w W → ParP s w (.returned (.tuple #[.string ⟨#[]⟩, .slice none 0 0, .iface 44 (.pointer (some ⟨f, 0, none⟩))])) W := fun W c k f h1 h2 h3 h4 h5 => ⟨.inr ⟨c, k, f, h1, h2, rfl, h3, h4⟩, h5⟩
 generalize ParP s w = Post at *
 rw [hps] at hok hno
 have hsum := spl_size s
 have hwl : ∀ y ∈ spl 10 s, y.length ≤ 1048576 := fun y hy => Nat.le_trans (spl_len 10 s y hy) hs
 have hcnt := spl_cnt 10 s.length s (Nat.le_refl _)
 have qs := Split_any s 10 w hV hs
 obtain ⟨m, hm⟩ : ∃ m, (spl 10 s).length = m + 1 := ⟨(spl 10 s).length - 1, by have := List.length_pos_iff.2 (spl_ne 10 s); omega⟩
 have hq1 := fun W0 p h0 => Parse1_any s hs w W0 p m (spl 10 s) hT hV hD h0 hwl hsum
 have hm2 : m ≤ 1048576 := by omega
 have b1 : decide ((1048576 : Int) < (s.length : Int)) = false := decide_eq_false (by omega)
 generalize spl 10 s = L at *
 clear hT hV hD hwl hcnt hsum hps
 have w1 : IntKind.i64.wrap ((L.length : Int) - 1) = (m : Int) := by rw [IntKind.wrap_i64]; omega
 replace qs := hide qs
 replace hok := hide hok
 replace hno := hide hno
 replace hq1 := hide hq1
 replace hs := hide hs
 replace hm2 := hide hm2
 go_enter Tryz.func15, Tryz.ntmps15
 go_wp2_with fail
 refine qs.out.mono ?_
 rintro e W2 ⟨d, hd, rfl, he, hc⟩
 rw [hm] at hd ⊢
 clear w1
 have w2 : wrap64 (m : Int) = (m : Int) := wrap64_id (m : Int) (by omega) (by have := hm2.out; omega)
 have hb : w.heap.size < W2.heap.size := World.block_lt_of_cell? W2 _ (hc 0 (by omega))
 obtain ⟨W3, hW3, hz, E3, P3⟩ := parse_mem w W2 L m d he hm hm2.out hb hc
 have q1 := hq1.out _ _ P3
 have q := Guard_any 36 _ (fun _ _ => rfl) W3 (fun W => ∃ k cf v out, PS w W W2.heap.size m L k cf v out ∧ restC s 0 0 L = (s.take cf, out, 0, 0) ∧ cf ≤ s.length) (fun c W => ∃ k cf v out, PS w W W2.heap.size m L k cf v out ∧ restC s 0 0 L = ([], [], c, k) ∧ c ≠ 0)
  (q1.mono fun e W h => by
   rcases h with ⟨k, cf, v, out, h1, h2⟩ | ⟨c, k, cf, v, out, h1, h2⟩
   ·exact .inl ⟨h1, k, cf, v, out, h2⟩
   ·exact .inr ⟨c, h1, k, cf, v, out, h2⟩)
  (fun W ⟨k, cf, v, out, h, _⟩ => by rw [hz]; exact h.pe) (fun c W ⟨k, cf, v, out, h, _⟩ => by rw [hz]; exact h.pe)
  (fun e W => (∃ k cf v out, e = .returned (.int .i64 0) ∧ PS2 w W W2.heap.size k cf v out ∧ restC s 0 0 L = (s.take cf, out, 0, 0) ∧ cf ≤ s.length) ∨ (∃ (c : Int) (k cf : Nat) (v : Value) (out : List EvS), e = .returned (.int .i64 c) ∧ PS2 w W W2.heap.size k cf v out ∧ restC s 0 0 L = ([], [], c, k) ∧ c ≠ 0))
  (fun W W' ⟨k, cf, v, out, h, h2⟩ hb => .inl ⟨k, cf, v, out, rfl, h.two (hz ▸ hb), h2⟩) (fun c W W' ⟨k, cf, v, out, h, h2⟩ hb => .inr ⟨c, k, cf, v, out, rfl, h.two (hz ▸ hb), h2⟩)
 have hp : w.heap.size ≤ W2.heap.size := by omega
 clear q1 hq1 P3 hc he hd hb
 replace q := hide q
 replace E3 := hide E3
 replace hz := hide hz
 go_wp2_with fail
 refine q.out.mono ?_
 rintro e W4 (⟨k, cf, v, out, rfl, S, hr, hcf⟩ | ⟨c, k, cf, v, out, rfl, S, hr, hc⟩)
 ·have c0 : W4.cell? ⟨W2.heap.size + 3, 0, none⟩ = some (.int .i64 (cf : Int)) := S.cfb.cell 0
  have c1 : W4.cell? ⟨W2.heap.size + 4, 0, none⟩ = some v := S.ob.cell 0
  have hfin := fun n => hok.out (W4.drewN n) _ out v hr ((S.own.low (by omega)).drewN n) (S.ext.drewN n)
  have hx : (ByteArray.mk s.toArray).extract 0 cf = ⟨(s.take cf).toArray⟩ := by rw [ba_extract]; simp
  obtain ⟨va, vc, rfl⟩ := S.own.form
  clear S hr hok hno q
  generalize s.take cf = tk at *
  replace hfin := hide hfin
  go_upto_region 10 with fail
  go_quiet (fail)
  go_wp2
  exact bodyPost_ret (v := .tuple #[.string ⟨tk.toArray⟩, .slice va out.length vc, .nilIface]) (by simp [results, Tryz.results15, go_sem]) rfl (hfin.out _)
 ·have hFB := Blk.new W4 48 #[.int .i64 c, .int .i64 (k : Int)]
  have E5 := S.ext.alloc (Obj.cells #[.int .i64 c, .int .i64 (k : Int)] 48)
  have c0 : W4.cell? ⟨W2.heap.size + 2, 0, none⟩ = some (.int .i64 (k : Int)) := S.at_.cell 0
  have hsz := S.ext.size
  have hfin := hno.out _ c k W4.heap.size hc hr hsz hFB.drew E5.drew
  have e1 : (c == 0) = false := beq_eq_false_iff_ne.2 hc
  have e2 : (c != 0) = true := by simpa using hc
  have e3 : decide (c = 0) = false := decide_eq_false hc
  clear S hr hok hno q hFB E5 hsz hc
  replace hfin := hide hfin
  go_upto_region 9 with fail
  go_region
  all_goals go_wp2
  exact bodyPost_ret (v := .tuple #[.string ⟨#[]⟩, .slice none 0 0, .iface 44 (.pointer (some ⟨W4.heap.size, 0, none⟩))]) (by simp [results, Tryz.results15, go_sem]) rfl hfin.out
end
section
open Go.RowKit
set_option linter.unusedVariables false
set_option linter.unusedSimpArgs false
/-- In a configuration that ends in a line's end, a line is 'run' just if it stands between two lines' ends. -/
theorem nlRun_iff (c : List UInt8) (hc : c = [] ∨ c.getLast? = some 10) : nlRun <:+: 10 :: c ↔ runW ∈ spl 10 c := by
  revert hc
  refine spl_ind (P := fun c => (c = [] ∨ c.getLast? = some 10) → (nlRun <:+: 10 :: c ↔ runW ∈ spl 10 c)) 10 (fun s hs hc => ?_) (fun a b ha ih hc => ?_) c.length c (Nat.le_refl _)
  · have h0 : s = [] := by
      rcases hc with h | h
      · exact h
      · exact absurd (List.mem_of_getLast? h) hs
    subst h0
    constructor
    · rintro ⟨p, q, h⟩
      have := congrArg List.length h
      simp [nlRun, runW] at this
      omega
    · intro h
      rw [spl_no hs] at h
      simp [runW] at h
  · rw [nlRun_step ha, spl_at ha]
    have hb : b = [] ∨ b.getLast? = some 10 := by
      rcases hc with h | h
      · simp at h
      · rw [List.getLast?_append] at h
        cases b with
        | nil => exact .inl rfl
        | cons x r =>
          right
          rw [List.getLast?_cons_cons] at h
          cases hq : (x :: r).getLast? with
          | none => simp at hq
          | some y => rw [hq] at h; simpa using h
    rw [ih hb]
    simp only [List.cons_append, List.nil_append, List.mem_cons, List.singleton_append]
    constructor
    · rintro (h | h)
      · exact .inl h.symm
      · exact .inr h
    · rintro (h | h)
      · exact .inl h.symm
      · exact .inr h
theorem cfgOk_iff (c : List UInt8) (hc : c = [] ∨ c.getLast? = some 10) : cfgOk c = true ↔ ¬ nlRun <:+: 10 :: c := by
 unfold cfgOk
 rw [nlRun_iff c hc]
 have : (decide (c = []) || decide (c.getLast? = some 10)) = true := by simpa using hc
 rw [this]
 simp
theorem cfgOk_end {c : List UInt8} (hc : ¬ (c = [] ∨ c.getLast? = some 10)) : cfgOk c = false := by
 unfold cfgOk
 have : (decide (c = []) || decide (c.getLast? = some 10)) = false := by simpa using hc
 rw [this]
 rfl
theorem contains_iff (s sub : List UInt8) : Lib.contains s sub = true ↔ sub <:+: s := by
 unfold Lib.contains
 rw [decide_eq_true_eq]
 constructor
 ·intro h
  rcases Lib.index_spec s sub with ⟨h1, _⟩ | ⟨i, h1, h2, h3, _⟩
  ·omega
  ·have h4 : sub <+: s.drop i := by simpa [Lib.occAt] using h3
   exact h4.isInfix.trans (List.drop_suffix i s).isInfix
 ·rintro ⟨p, q, rfl⟩
  rcases Lib.index_spec (p ++ sub ++ q) sub with ⟨h1, h2⟩ | ⟨i, h1, _⟩
  ·have := h2 p.length (by simp)
   simp only [Lib.occAt, List.append_assoc, List.drop_left] at this
   have h9 : sub.isPrefixOf (sub ++ q) = true := List.isPrefixOf_iff_prefix.2 (List.prefix_append _ _)
   rw [h9] at this
   cases this
  ·omega
theorem suffix_iff (c : List UInt8) : Lib.hasSuffix c [10] = decide (c.getLast? = some 10) := by
 rw [Bool.eq_iff_iff, decide_eq_true_eq]
 unfold Lib.hasSuffix
 rw [List.isSuffixOf_iff_suffix]
 constructor
 ·rintro ⟨p, rfl⟩; simp
 ·intro h
  obtain ⟨p, hp⟩ := List.getLast?_eq_some_iff.1 h
  exact ⟨p, hp.symm⟩
/-- A configuration that may stand ahead of a script, as the program asks. -/
theorem cfgOk_prog (c : List UInt8) : cfgOk c = ((decide (c = []) || Lib.hasSuffix c [10]) && !Lib.contains (10 :: c) nlRun) := by
 rw [suffix_iff]
 by_cases h : c = [] ∨ c.getLast? = some 10
 ·have h1 : (decide (c = []) || decide (c.getLast? = some 10)) = true := by simpa using h
  rw [h1, Bool.true_and, Bool.eq_iff_iff, cfgOk_iff c h, Bool.not_eq_true', ← Bool.not_eq_true, contains_iff]
 ·have h1 : (decide (c = []) || decide (c.getLast? = some 10)) = false := by simpa using h
  rw [h1, cfgOk_end h]
  rfl
/-- The events' lines that are told up to the first one that may not be. -/
theorem tellL_len (l : List EvS) (h : l.all evOk = true) : (tellL l).length ≤ 131113 * l.length := by
  induction l with
  | nil => simp [tellL]
  | cons e r ih =>
    simp only [List.all_cons, Bool.and_eq_true] at h
    have h1 := evW_len h.1
    have h2 := ih h.2
    have : tellL (e :: r) = (evW e ++ [10]) ++ tellL r := rfl
    rw [this]
    simp only [List.length_append, List.length_cons, List.length_nil]
    omega
theorem tellL_snoc (l : List EvS) (e : EvS) : tellL (l ++ [e]) = tellL l ++ (evW e ++ [10]) := by simp [tellL]
end
section
open Go.RowKit
set_option linter.unusedVariables false
set_option linter.unusedSimpArgs false
theorem Bd.ext {B b : Nat} {l : List UInt8} {w w' : World} (h : Bd B b l w) (he : Ext w w') : Bd B b l w' := by
 have key : ∀ p, Lib.BuilderAt 69 5 B b p (Lib.byteCells l) w → Lib.BuilderAt 69 5 B b p (Lib.byteCells l) w' := fun p h => by
  have hlt := h.lt
  obtain ⟨hB, v, hbk, ⟨hl, h3⟩, hne⟩ := h
  refine ⟨hB, v, (he.block b hlt).trans hbk, ⟨hl, ?_⟩, hne⟩
  rcases h3 with h3 | ⟨g, cap, cur, rfl, hg, hh, r⟩
  ·exact .inl h3
  ·exact .inr ⟨g, cap, cur, rfl, hg, by rw [he.block g (Array.getElem?_eq_some_iff.1 hh).1]; exact hh, r⟩
 rcases h with h | h
 ·exact .inl (key _ h)
 ·exact .inr (key _ h)
theorem meas_step {n k : Nat} (h : k < n) : n - (intOf (.int .i64 ((k : Int) + 1))).toNat < n - (intOf (.int .i64 (k : Int))).toNat := by
 show n - ((k : Int) + 1).toNat < n - ((k : Int)).toNat
 omega
set_option maxRecDepth 20000 in
set_option maxHeartbeats 4000000 in
theorem SPrint_any (c : List UInt8) (hc : c.length ≤ 1048576) (l : List EvS) (a : Option Addr) (cp : Nat) (hl : l.length ≤ 16777216) (w : World) (hT : Tab w) (hV : Vars w) (hD : Deb w) (hs : Sl EEv w (· < w.heap.size) a l) :
    Calls Tryz.prog 9 #[.string ⟨c.toArray⟩, .slice a l.length cp] w fun e w' => e = .returned (.tuple #[.string ⟨(printS c l).1.toArray⟩, .int .i64 (printS c l).2]) ∧ Ext w w' := by
  have hR : ∀ s (x : Int) W, printS c l = (s, x) → Ext w W → (Ending.returned (.tuple #[.string ⟨s.toArray⟩, .int .i64 x]) = Ending.returned (.tuple #[.string ⟨(printS c l).1.toArray⟩, .int .i64 (printS c l).2]) ∧ Ext w W) := fun s x W h he => ⟨by rw [h], he⟩
  generalize hQ : (fun e w' => e = Ending.returned (.tuple #[.string ⟨(printS c l).1.toArray⟩, .int .i64 (printS c l).2]) ∧ Ext w w') = Post
  replace hR : ∀ s (x : Int) W, printS c l = (s, x) → Ext w W → Post (.returned (.tuple #[.string ⟨s.toArray⟩, .int .i64 x])) W := by rw [← hQ]; exact hR
  clear hQ
  obtain ⟨mx, hmx⟩ := hV.max
  have q1 := Tryz.strings_HasSuffix ⟨c.toArray⟩ ⟨#[10]⟩ w (by simp [ByteArray.size]; omega)
  have g1 : ((ByteArray.mk #[10]) ++ ⟨c.toArray⟩).data.toList = 10 :: c := by simp
  have g2 : (ByteArray.mk #[10, 114, 117, 110, 10]).data.toList = nlRun := rfl
  have g3 : (ByteArray.mk #[10]).data.toList = [10] := rfl
  have g4 : (ByteArray.mk c.toArray).data.toList = c := rfl
  have q2 := Tryz.strings_Contains ((ByteArray.mk #[10]) ++ ⟨c.toArray⟩) ⟨#[10, 114, 117, 110, 10]⟩ mx w (by simp [ByteArray.size]; omega) hmx
  rw [g1, g2] at q2
  rw [g3, g4] at q1
  have hcp := cfgOk_prog c
  have hp1 : cfgOk c = false → printS c l = ([], 2) := fun h => by unfold printS; rw [if_pos h]
  have z1 : ¬ 9223372036854775807 < 1 + c.length := by omega
  have z2 : ¬ 9223372036854775807 < c.length + 3 := by omega
  have z3 : ¬ 9223372036854775807 < c.length + 3 + 1 := by omega
  clear g1 g2 g3 g4 hmx
  generalize Lib.contains (10 :: c) nlRun = bc at *
  generalize Lib.hasSuffix c [10] = bs at *
  replace hR := hide hR
  replace hT := hide hT
  replace hV := hide hV
  replace hD := hide hD
  replace hs := hide hs
  replace hp1 := hide hp1
  replace q1 := hide q1
  replace q2 := hide q2
  replace hc := hide hc
  replace hcp := hide hcp
  go_enter Tryz.func9, Tryz.ntmps9
  go_upto_region 1 with fail
  go_cut [22] (fun s22 wx => s22 = .bool (!cfgOk c) ∧ w = wx)
  case first =>
    by_cases hc0 : c = []
    · have e0 : c.isEmpty = true := by simpa using hc0
      have e1 : (c == []) = true := beq_iff_eq.2 hc0
      have hk : cfgOk c = !bc := by rw [hcp.out, decide_eq_true hc0]; simp
      clear hc0
      replace hk := hide hk
      go_wp2_with (first | (go_at_call 25; refine q1.out.mono ?_; rintro e w1 ⟨rfl, rfl⟩) | (go_at_call 26; refine q2.out.mono ?_; rintro e w1 ⟨rfl, rfl⟩))
      go_meet
      case rel => exact ⟨by rw [hk.out, Bool.not_not], rfl⟩
    · have e0 : c.isEmpty = false := by simpa using hc0
      have e1 : (c == []) = false := beq_eq_false_iff_ne.2 hc0
      have hk : cfgOk c = (bs && !bc) := by rw [hcp.out, decide_eq_false hc0]; simp
      clear hc0
      replace hk := hide hk
      cases bs
      · go_wp2_with (first | (go_at_call 25; refine q1.out.mono ?_; rintro e w1 ⟨rfl, rfl⟩) | (go_at_call 26; refine q2.out.mono ?_; rintro e w1 ⟨rfl, rfl⟩))
        go_meet
        case rel => exact ⟨by rw [hk.out]; rfl, rfl⟩
      · go_wp2_with (first | (go_at_call 25; refine q1.out.mono ?_; rintro e w1 ⟨rfl, rfl⟩) | (go_at_call 26; refine q2.out.mono ?_; rintro e w1 ⟨rfl, rfl⟩))
        go_meet
        case rel => exact ⟨by rw [hk.out, Bool.true_and, Bool.not_not], rfl⟩
  case rest =>
    obtain ⟨rfl, rfl⟩ := hcut
    cases hk : cfgOk c with
    | false =>
      have hf := hide (hp1.out hk)
      clear hk
      go_wp2
      try go_ret2
      exact hR.out _ _ _ hf.out (Ext.refl _)
    | true =>
      by_cases hl5 : 512 < l.length
      · have b1 : decide ((512 : Int) < (l.length : Int)) = true := decide_eq_true (by omega)
        have hf : printS c l = ([], 3) := by unfold printS; rw [if_neg (by rw [hk]; decide), if_pos hl5]
        clear hk hl5 hl z1 z2 z3
        replace hf := hide hf
        go_wp2
        try go_ret2
        exact hR.out _ _ _ hf.out (Ext.refl _)
      have b1 : decide ((512 : Int) < (l.length : Int)) = false := decide_eq_false (by omega)
      have hpr : printS c l = if l.all evOk = false then ([], 2) else if 1048576 < (textScr c l).length then ([], 3) else (textScr c l, 0) := by unfold printS; rw [if_neg (by rw [hk]; decide), if_neg hl5]
      have hl6 : l.length ≤ 512 := by omega
      clear hl5 hl
      have hB0 : Bd w.heap.size w.heap.size [] (w.alloc (Obj.cells #[.pointer none, .slice none 0 0] 69)) := .inl ⟨Nat.le_refl _, _, Array.getElem?_push_size, World.ownsRow_nil _ _ _ _, by simp [Value.ownBlock]⟩
      have hs6 : ((ByteArray.mk c.toArray) ++ ⟨#[114, 117, 110]⟩) ++ ⟨#[10]⟩ = (⟨(c ++ (runW ++ [10])).toArray⟩ : ByteArray) := by apply ByteArray.ext; simp [runW]
      have qW := BWriteString_any w.heap.size w.heap.size [] (c ++ (runW ++ [10])) _ hB0 (by have := hc.out; simp [runW]; omega) (by simp)
      replace hpr := hide hpr
      replace hl6 := hide hl6
      replace qW := hide qW
      replace hs6 := hide hs6
      go_wp2_with (go_at_call 27; rw [hs6.out]; refine qW.out.mono ?_; rintro e W1 ⟨rfl, hB1, hE1⟩)
      have E1 : Ext w W1 := Below.trans ((Ext.refl w).alloc _) hE1
      rw [List.nil_append] at hB1
      clear hE1 qW hs6 hB0 hp1 hcp q1 q2 z1 z2 z3 b1 bc bs
      generalize hT0 : c ++ (runW ++ [10]) = T0 at *
      have hT0l : T0.length ≤ 1048580 := by have := hc.out; rw [← hT0]; simp [runW]; omega
      have htx : textScr c l = T0 ++ tellL l := by rw [← hT0]; simp [textScr]
      rw [htx] at hpr
      clear htx hT0 hk
      replace hT0l := hide hT0l
      go_loopw [32] (fun i wr => ∃ k : Nat, k ≤ l.length ∧ i = .int .i64 k ∧ Bd w.heap.size w.heap.size (T0 ++ tellL (l.take k)) wr ∧ Ext w wr ∧ (l.take k).all evOk = true) (fun i _ => l.length - (intOf i).toNat)
      case atStart => exact ⟨0, Nat.zero_le _, rfl, by simpa [tellL] using hB1, E1, rfl⟩
      case round =>
        clear hB1 E1
        obtain ⟨k, hk, rfl, hB, E, hall⟩ := hrel
        have hsz := E.size
        have hlen : (T0 ++ tellL (l.take k)).length ≤ 1048580 + 131113 * 512 := by
          have h1 := tellL_len _ hall
          have h2 : (l.take k).length ≤ 512 := by rw [List.length_take]; have := hl6.out; omega
          rw [List.length_append]
          have := Nat.mul_le_mul_left 131113 h2
          have := hT0l.out
          omega
        by_cases hlt : k < l.length
        · obtain ⟨b, off, rfl, _, hin, hcell⟩ := EEv.at (hs.out.ext E) k hlt
          have hsn : l.take (k + 1) = l.take k ++ [l[k]] := List.take_succ_eq_append_getElem hlt
          have q := fun W (h : Ext w W) => SLineE_any l[k] hin W (hT.out.ext h) (hV.out.ext h) (hD.out.ext h)
          have hbad : evOk l[k] = false → printS c l = ([], 2) := fun h => by
            rw [hpr.out, if_pos]
            rw [← Bool.not_eq_true, List.all_eq_true]
            intro h9
            rw [h9 _ (List.getElem_mem hlt)] at h
            cases h
          have hgd : evOk l[k] = true → (l.take (k + 1)).all evOk = true := fun h => by rw [hsn, List.all_append, hall]; simp [h]
          have htl : tellL (l.take (k + 1)) = tellL (l.take k) ++ (evW l[k] ++ [10]) := by rw [hsn, tellL_snoc]
          have hwl := fun h : evOk l[k] = true => evW_len h
          generalize hX : T0 ++ tellL (l.take k) = X at *
          generalize l[k] = e at *
          obtain ⟨kd, cn, ad, pr, by_, tk, dr⟩ := e
          have x0 : wr.cell? ⟨b, off + k * 7, none⟩ = some (.int .i64 kd) := hcell 0 _ rfl
          have x1 : wr.cell? ⟨b, off + k * 7 + 1, none⟩ = some (.int .i64 cn) := hcell 1 _ rfl
          have x2 : wr.cell? ⟨b, off + k * 7 + 2, none⟩ = some (.string ⟨ad.toArray⟩) := hcell 2 _ rfl
          have x3 : wr.cell? ⟨b, off + k * 7 + 3, none⟩ = some (.string ⟨pr.toArray⟩) := hcell 3 _ rfl
          have x4 : wr.cell? ⟨b, off + k * 7 + 4, none⟩ = some (.string ⟨by_.toArray⟩) := hcell 4 _ rfl
          have x5 : wr.cell? ⟨b, off + k * 7 + 5, none⟩ = some (.int .i64 tk) := hcell 5 _ rfl
          have x6 : wr.cell? ⟨b, off + k * 7 + 6, none⟩ = some (.int .u32 (dr.toNat : Int)) := hcell 6 _ rfl
          simp only [evCs] at q
          have E2 := E.alloc (Obj.cells #[.int .i64 kd, .int .i64 cn, .string ⟨ad.toArray⟩, .string ⟨pr.toArray⟩, .string ⟨by_.toArray⟩, .int .i64 tk, .int .u32 (dr.toNat : Int)] 31)
          replace q := q _ E2
          unfold evT at q
          clear hcell hin
          cases hok : evOk ⟨kd, cn, ad, pr, by_, tk, dr⟩ with
          | false =>
            rw [if_neg (by rw [hok]; decide)] at q
            have hf := hbad hok
            clear hbad hgd htl hwl hok hsn hX hlen hall hB hk
            replace q := hide q
            replace hf := hide hf
            replace E := hide E
            replace E2 := hide E2
            go_wp2_with fail
            refine q.out.mono ?_
            rintro e1 W3 ⟨rfl, he⟩
            have E3 := E2.out.trans he
            clear q he
            replace E3 := hide E3
            go_wp2
            try go_ret2
            exact hR.out _ _ _ hf.out E3.out
          | true =>
            rw [if_pos hok] at q
            have hwl2 := hwl hok
            have hgd2 := hgd hok
            have hB2 : Bd w.heap.size w.heap.size X (wr.alloc (Obj.cells #[.int .i64 kd, .int .i64 cn, .string ⟨ad.toArray⟩, .string ⟨pr.toArray⟩, .string ⟨by_.toArray⟩, .int .i64 tk, .int .u32 (dr.toNat : Int)] 31)) := hB.ext ((Ext.refl wr).alloc _)
            clear hbad hgd hwl hok hsn hall hB
            have w9 : wrap64 ((k : Int) + 1) = (k : Int) + 1 := wrap64_id _ (by omega) (by have := hl6.out; omega)
            generalize evW ⟨kd, cn, ad, pr, by_, tk, dr⟩ = tw at *
            have z9 : ¬ 9223372036854775807 < tw.length + 1 := by omega
            have hs9 : (ByteArray.mk tw.toArray) ++ ⟨#[10]⟩ = (⟨(tw ++ [10]).toArray⟩ : ByteArray) := by apply ByteArray.ext; simp
            replace q := hide q
            replace E := hide E
            replace E2 := hide E2
            replace hwl2 := hide hwl2
            replace hgd2 := hide hgd2
            replace hB2 := hide hB2
            replace htl := hide htl
            replace hX := hide hX
            replace hlen := hide hlen
            replace hs9 := hide hs9
            go_wp2_with fail
            refine q.out.mono ?_
            rintro e1 W3 ⟨rfl, he⟩
            have E3 := E2.out.trans he
            have hB3 : Bd w.heap.size w.heap.size X W3 := hB2.out.ext he
            have hsz3 := E3.size
            have qW := BWriteString_any w.heap.size w.heap.size X (tw ++ [10]) W3 hB3 (by have := hlen.out; have := hwl2.out; simp; omega) hsz3
            clear q he
            replace E3 := hide E3
            replace qW := hide qW
            replace hB3 := hide hB3
            go_wp2_with (go_at_call 27; rw [hs9.out]; refine qW.out.mono ?_; rintro e W4 ⟨rfl, hB4, hE4⟩; have E4 := hide (Below.trans E3.out hE4 : Ext w W4); replace hB4 := hide hB4; clear hE4)
            go_roundw
            case rel => exact ⟨k + 1, by omega, by go_num, by rw [htl.out, ← List.append_assoc, hX.out]; exact hB4.out, E4.out, hgd2.out⟩
            case measure => rw [w9]; exact meas_step hlt
        · obtain rfl : k = l.length := by omega
          rw [List.take_length] at hB hall hlen
          have hpr2 := hpr.out
          rw [if_neg (by rw [hall]; decide)] at hpr2
          generalize T0 ++ tellL l = X at *
          have q := Tryz.Builder_Len w.heap.size w.heap.size (Lib.byteCells X) wr hB
          rw [byteCells_len] at q
          have q2 := Tryz.Builder_String_any w.heap.size w.heap.size X wr hB hsz
          by_cases hx : 1048576 < X.length
          · have b1 : decide ((1048576 : Int) < (X.length : Int)) = true := decide_eq_true (by omega)
            rw [if_pos hx] at hpr2
            clear hall hlen hB hx hk q2
            replace q := hide q
            replace hpr2 := hide hpr2
            replace E := hide E
            go_wp2_with (go_at_call 28; refine q.out.mono ?_; rintro e W2 ⟨rfl, rfl⟩)
            try go_ret2
            exact hR.out _ _ _ hpr2.out E.out
          · have b1 : decide ((1048576 : Int) < (X.length : Int)) = false := decide_eq_false (by omega)
            rw [if_neg hx] at hpr2
            clear hall hlen hB hx hk
            replace q := hide q
            replace q2 := hide q2
            replace hpr2 := hide hpr2
            replace E := hide E
            go_wp2_with (first | (go_at_call 28; refine q.out.mono ?_; rintro e W2 ⟨rfl, rfl⟩) | (go_at_call 29; refine q2.out.mono ?_; rintro e W3 ⟨rfl, hE3⟩; have E3 := hide (Below.trans E.out hE3 : Ext w W3); clear hE3))
            try go_ret2
            exact hR.out _ _ _ hpr2.out E3.out
end
section
open Go.RowKit
set_option linter.unusedVariables false
set_option linter.unusedSimpArgs false
def wkC : List UInt8 := [97, 115, 32, 49, 10]
def wkL : List EvS := [⟨6, 0, [], [], [], 5, 0⟩, ⟨4, 1, [], [], [0, 255], 0, 0⟩, ⟨10, 0, [], [], [], 0, 0⟩]
def wkT : List UInt8 := [97, 115, 32, 49, 10, 114, 117, 110, 10, 116, 105, 99, 107, 32, 53, 10, 100, 97, 116, 97, 32, 49, 32, 48, 48, 102, 102, 10, 100, 114, 97, 105, 110, 10]
theorem wk_text : textScr wkC wkL = wkT := by decide +kernel
theorem wk_ok : cfgOk wkC = true ∧ wkL.all evOk = true := by decide +kernel
theorem wk_parse : parseS wkT = (wkC, wkL, 0, 0) := by
 rw [← wk_text]
 exact parse_print wk_ok.1 (by decide) wk_ok.2 (by rw [wk_text]; decide)
theorem wk_print : printS wkC wkL = (wkT, 0) := by
 unfold printS
 rw [if_neg (by rw [wk_ok.1]; decide), if_neg (by decide), if_neg (by rw [wk_ok.2]; decide), wk_text, if_neg (by decide)]
set_option maxRecDepth 20000 in
set_option maxHeartbeats 4000000 in
theorem Works35_any (w : World) (hT : Tab w) (hV : Vars w) (hD : Deb w) : Calls Tryz.prog 11 #[] w fun e w' => e = .returned (.bool true) ∧ Ext w w' := by
 have q1 := SParse_any wkT (by decide) w hT hV hD
 unfold ParP at q1
 rw [wk_parse] at q1
 have q2 := fun W a cp (h : Ext w W) hs => SPrint_any wkC (by decide) wkL a cp (by decide) W (hT.ext h) (hV.ext h) (hD.ext h) hs
 rw [wk_print] at q2
 clear hT hV hD
 unfold wkT at q1 q2
 unfold wkC at q1 q2
 replace q1 := hide q1
 replace q2 := hide q2
 go_enter Tryz.func11, Tryz.ntmps11
 go_wp2_with fail
 refine q1.out.mono ?_
 rintro e W1 ⟨⟨cfg, evs, v, h1, rfl, O⟩ | ⟨c, k, f, h0, h1, _⟩, E⟩
 ·injection h1 with h1 h2
  injection h2 with h2 _
  subst h1 h2
  obtain ⟨a, cp, rfl, hsl⟩ := O.sl
  have q := q2.out W1 a cp E (hsl.mono fun b h => h.2)
  obtain ⟨b, off, rfl, _, _, hc0⟩ := EEv.at hsl 0 (by decide)
  obtain ⟨b', off', hbb, _, _, hc1⟩ := EEv.at hsl 1 (by decide)
  injection hbb with hbb
  injection hbb with hbb hoo
  subst hbb hoo
  have x0 : W1.cell? ⟨b, off + 5, none⟩ = some (.int .i64 5) := hc0 5 _ rfl
  have x1 : W1.cell? ⟨b, off + 7 + 4, none⟩ = some (.string ⟨#[0, 255]⟩) := hc1 4 _ rfl
  clear hc0 hc1 hsl O q1 q2
  replace q := hide q
  replace E := hide E
  simp only [show wkL.length = 3 from rfl] at *
  go_wp2_with fail
  refine q.out.mono ?_
  rintro e W2 ⟨rfl, E2⟩
  have y0 := E2.cell x0
  have y1 := E2.cell x1
  have E3 := E.out.trans E2
  clear x0 x1 E2 E q
  replace E3 := hide E3
  go_wp2
  trace_state
  go_ret
  exact ⟨rfl, E3.out⟩
 ·injection h1 with _ h1
  injection h1 with _ h1
  injection h1 with h1 _
  exact absurd h1.symm h0
end
section
open Go.RowKit
set_option linter.unusedVariables false
set_option linter.unusedSimpArgs false
theorem scanE_few : ∀ (r : List (List UInt8)) (at_ : Nat) (out : List EvS), out.length ≤ 512 → (scanE at_ out r).1.length ≤ 512
  | [], _, out, h => h
  | [x], _, out, h => by
    unfold scanE
    split
    · exact h
    · exact Nat.zero_le _
  | x :: y :: r, at_, out, h => by
    unfold scanE
    split
    · exact Nat.zero_le _
    · split
      · exact Nat.zero_le _
      · exact scanE_few (y :: r) _ _ (by simp; omega)
theorem parse_few {s cfg : List UInt8} {l : List EvS} {c : Int} {k : Nat} (h : parseS s = (cfg, l, c, k)) : l.length ≤ 512 := by
 have h1 : (parseS s).2.1 = l := by rw [h]
 rw [← h1]
 unfold parseS
 split
 ·exact Nat.zero_le _
 split
 ·exact Nat.zero_le _
 ·rename_i at_ cf r _
  have h2 := scanE_few r (at_ + 1) [] (Nat.zero_le _)
  generalize scanE (at_ + 1) [] r = q at h2
  obtain ⟨o, c', p'⟩ := q
  dsimp only at h2 ⊢
  split
  ·exact h2
  ·exact Nat.zero_le _
set_option maxRecDepth 20000 in
set_option maxHeartbeats 4000000 in
theorem ScriptReads_walk (s : List UInt8) (w : World) (hs : s.length ≤ 1048576) (hT : Tab w) (hD : Deb w) (hV : Vars w) (hg : ErT w) :
  Calls Tryz.prog 5 #[.string ⟨s.toArray⟩] w fun e w' => e = .returned (.bool true) ∧ Ext w w' := by
 have qw := fun W (h : Ext w W) => Works35_any W (hT.ext h) (hV.ext h) (hD.ext h)
 have qp := SParse_any s hs w hT hV hD
 have qd := fun W => DParse_any s hs W
 have hg2 := fun W (h : Ext w W) => hg.ext h
 clear hT hD hV hg
 unfold ParP at qp
 unfold DPaP at qd
 replace qw := hide qw
 replace qp := hide qp
 replace qd := hide qd
 replace hg2 := hide hg2
 go_enter Tryz.func5, Tryz.ntmps5
 go_wp2_with fail
 refine qp.out.mono ?_
 rintro e W1 ⟨⟨cfg, evs, v, hps, rfl, O⟩ | ⟨c, k, f, hc, hps, rfl, hf, F⟩, E1⟩
 ·have hfew := parse_few hps
  obtain ⟨va, vc, rfl, hs1⟩ := O.sl
  replace E1 := hide E1
  go_wp2_with fail
  refine (qd.out _).mono ?_
  rintro e W2 ⟨⟨cfg2, evs2, v2, c2, k2, hps2, rfl, O2⟩, E2⟩
  rw [hps] at hps2
  injection hps2 with h1 h2
  injection h2 with h2 h3
  injection h3 with h3 h4
  subst h1 h2 h3 h4
  obtain ⟨va2, vc2, rfl, hs2⟩ := O2.sl
  have eA := (Ext.refl W2).alloc (Obj.cells #[.int .i64 0, .int .i64 0] 50)
  have E3 := E1.out.trans (E2.trans eA)
  have N := Blk.new W2 50 #[.int .i64 0, .int .i64 0]
  have s1 : Sl EEv (W2.alloc (Obj.cells #[.int .i64 0, .int .i64 0] 50)) (· < (W2.alloc (Obj.cells #[.int .i64 0, .int .i64 0] 50)).heap.size) va evs := (hs1.mono fun b h => h.2).ext (E2.trans eA)
  have s2 : Sl EEv (W2.alloc (Obj.cells #[.int .i64 0, .int .i64 0] 50)) (· < (W2.alloc (Obj.cells #[.int .i64 0, .int .i64 0] 50)).heap.size) va2 evs := (hs2.mono fun b h => h.2).ext eA
  have q := DSame_any va vc evs va2 vc2 evs _ (by omega) (by omega) s1 s2
  rw [decide_eq_true rfl] at q
  clear O O2 hs1 hs2 s1 s2 E2 eA hps hfew
  go_upto_region 3 with fail
  generalize W2.alloc (Obj.cells #[.int .i64 0, .int .i64 0] 50) = W3 at N E3 q ⊢
  generalize W2.heap.size = n2 at N ⊢
  have n0 : W3.cell? ⟨n2, 0, none⟩ = some (.int .i64 0) := N.cell 0
  have n1 : W3.cell? ⟨n2, 1, none⟩ = some (.int .i64 0) := N.cell 1
  generalize evs.length = en at *
  replace E3 := hide E3
  replace q := hide q
  replace N := hide N
  go_wp2_with fail
  refine q.out.mono ?_
  rintro e W4 ⟨rfl, he⟩
  have m0 := he.cell n0
  have m1 := he.cell n1
  have E4 := E3.out.trans he
  clear n0 n1 he q N
  replace E4 := hide E4
  go_wp2_with fail
  refine (Fault_nil 0 _).mono ?_
  rintro e W5 ⟨rfl, he⟩
  have E5 := E4.out.trans he
  clear he m0 m1
  replace E5 := hide E5
  go_wp2_with fail
  refine (qw.out _ E5.out).mono ?_
  rintro e W6 ⟨rfl, he⟩
  have E6 := E5.out.trans he
  clear he
  replace E6 := hide E6
  go_wp2
  try go_ret
  exact ⟨rfl, E6.out⟩
 ·go_wp2_with fail
  refine (qd.out _).mono ?_
  rintro e W2 ⟨⟨cfg2, evs2, v2, c2, k2, hps2, rfl, O2⟩, E2⟩
  rw [hps] at hps2
  injection hps2 with h1 h2
  injection h2 with h2 h3
  injection h3 with h3 h4
  subst h1 h2 h3 h4
  obtain ⟨va2, vc2, rfl, hs2⟩ := O2.sl
  have eA := (Ext.refl W2).alloc (Obj.cells #[.int .i64 c, .int .i64 (k : Int)] 50)
  have E3 := E1.trans (E2.trans eA)
  have N := Blk.new W2 50 #[.int .i64 c, .int .i64 (k : Int)]
  have F3 := (F.ext E2).alloc (Obj.cells #[.int .i64 c, .int .i64 (k : Int)] 50)
  have s2 : Sl EEv (W2.alloc (Obj.cells #[.int .i64 c, .int .i64 (k : Int)] 50)) (· < (W2.alloc (Obj.cells #[.int .i64 c, .int .i64 (k : Int)] 50)).heap.size) va2 ([] : List EvS) := (hs2.mono fun b h => h.2).ext eA
  have q := DSame_any none 0 ([] : List EvS) va2 vc2 [] _ (by simp) (by simp) (.inl rfl) s2
  rw [decide_eq_true rfl] at q
  simp only [List.length_nil] at q ⊢
  clear O2 hs2 s2 E2 eA hps F
  go_upto_region 3 with fail
  generalize W2.alloc (Obj.cells #[.int .i64 c, .int .i64 (k : Int)] 50) = W3 at N E3 q F3 ⊢
  generalize W2.heap.size = n2 at N ⊢
  have n0 : W3.cell? ⟨n2, 0, none⟩ = some (.int .i64 c) := N.cell 0
  have n1 : W3.cell? ⟨n2, 1, none⟩ = some (.int .i64 (k : Int)) := N.cell 1
  replace E3 := hide E3
  replace q := hide q
  replace N := hide N
  replace F3 := hide F3
  replace hc := hide hc
  go_wp2_with fail
  refine q.out.mono ?_
  rintro e W4 ⟨rfl, he⟩
  have m0 := he.cell n0
  have m1 := he.cell n1
  have E4 := E3.out.trans he
  have F4 := F3.out.ext he
  have q2 := Fault_hit c (k : Int) hc.out f W4 F4 (hg2.out _ E4)
  clear n0 n1 he q N F3
  replace E4 := hide E4
  replace F4 := hide F4
  replace q2 := hide q2
  go_wp2_with fail
  refine q2.out.mono ?_
  rintro e W5 ⟨rfl, he⟩
  have E5 := E4.out.trans he
  clear he m0 m1
  replace E5 := hide E5
  go_wp2_with fail
  refine (qw.out _ E5.out).mono ?_
  rintro e W6 ⟨rfl, he⟩
  have E6 := E5.out.trans he
  clear he
  replace E6 := hide E6
  go_wp2
  try go_ret
  exact ⟨rfl, E6.out⟩
end
end Go.Proofs.YtkinghadgmbhbaaGreatDoor
