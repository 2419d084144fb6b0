/- Chapter 35, walks: the document's events (heraldref35): may it be, its line. Chapter 35, walks: the document's line of an event (heraldref35.Line). Printed by genline.py. Walks: an address read, by the document. Chapter 35, walks: the document's event of a line (heraldref35.Event). Printed by gendev.py. Chapter 35, walks: a script read of its text (script.Parse). -/
import Derived.WalkKit
import Derived.Below
import Derived.Outline
import Derived.LoopTactic
import Derived.Laws.OwnMore
import Derived.Deep.AppendLies
import Derived.Deep.Draws
import Derived.Lib.Hide
import Derived.BigQuiet
import Derived.Deep.QuietTactic
import Derived.WalkSpells
import Derived.WalkLawsBesides
import Derived.Deep.RegionHeld3
import Derived.Deep.DrawnRows
import Derived.Deep.RegionLaw
import Derived.Test.YtkinghadgmbhbaaGreatDoorProg
import Derived.Test.YtkinghadgmbhbaaGreatDoorShelf
import Derived.Lib.ConvBytes
import Derived.Lib.Bytealg
import Derived.Lib.Small
import Derived.Lib.SplitLaws
import Derived.Lib.ParseIntB
import Derived.Lib.ParseIntBCases
import Derived.Lib.ItoaNum
import Derived.Lib.Join
import Derived.Test.YtkinghadgmbhbaaGreatDoorShelf2
import Derived.Lib.UnsafeStr
import Derived.Shelf.RegionOpenPlain
import Derived.Laws.StructEq
import Derived.Lib.QuietBelow
import Derived.Test.YtkinghadgmbhbaaGreatDoorRows
import Derived.ProofKit
import Derived.Deep.Slices
import Derived.Shelf.GgClosure.StringsRunes
import Derived.Lib.ItoaMem
import Derived.Lib.ItoaLen
import Derived.Shelf.Strings.Builder1
import Derived.Orders
import Derived.StillTail
import Derived.Defers
import Derived.Recover
import Derived.Laws.EntriesVeiled
import Derived.Deep.DeepCutAuto
import Derived.Maps.OwnSet
import Derived.Maps.Views
import Derived.Maps.Range
import Derived.DeepKeys5
import Derived.Deep.Cut
import Derived.Test.YtkinghadgmbhbaaGreatDoorPA01
import Derived.Test.YtkinghadgmbhbaaGreatDoorPA02
import Derived.Test.YtkinghadgmbhbaaGreatDoorPA03
import Derived.Test.YtkinghadgmbhbaaGreatDoorPA04
namespace Go.Proofs.YtkinghadgmbhbaaGreatDoor
section
open Go.RowKit
set_option linter.unusedVariables false
set_option linter.unusedSimpArgs false
theorem DConn_any (n : Int) (w : World) : Calls Tryz.prog 53 #[.int .i64 n] w fun e w' => e = .returned (.bool (connOk n)) ∧ w = w' := by
 by_cases h1 : 1 ≤ n
 ·by_cases h2 : n ≤ 64
  ·have hc : connOk n = true := decide_eq_true ⟨h1, h2⟩
   have b1 : decide (1 ≤ n) = true := decide_eq_true h1
   have b2 : decide (n ≤ 64) = true := decide_eq_true h2
   rw [hc]
   clear hc
   go_enter Tryz.func53, Tryz.ntmps53
   go_wp2
   go_ret
   exact ⟨rfl, rfl⟩
  ·have hc : connOk n = false := decide_eq_false fun h => h2 h.2
   have b1 : decide (1 ≤ n) = true := decide_eq_true h1
   have b2 : decide (n ≤ 64) = false := decide_eq_false h2
   rw [hc]
   clear hc
   go_enter Tryz.func53, Tryz.ntmps53
   go_wp2
   go_ret
   exact ⟨rfl, rfl⟩
 ·have hc : connOk n = false := decide_eq_false fun h => h1 h.1
  have b1 : decide (1 ≤ n) = false := decide_eq_false h1
  rw [hc]
  clear hc
  go_enter Tryz.func53, Tryz.ntmps53
  go_wp2
  go_ret
  exact ⟨rfl, rfl⟩
theorem DAdr_any (s : List UInt8) (w : World) : Calls Tryz.prog 73 #[.string ⟨s.toArray⟩] w fun e w' => e = .returned (.bool (decide (s.length = 4 ∨ s.length = 16))) ∧ w = w' := by
 by_cases h1 : s.length = 4
 ·have hc : decide (s.length = 4 ∨ s.length = 16) = true := decide_eq_true (.inl h1)
  rw [hc]
  clear hc
  go_enter Tryz.func73, Tryz.ntmps73
  go_wp2
  go_ret
  exact ⟨rfl, rfl⟩
 ·by_cases h2 : s.length = 16
  ·have hc : decide (s.length = 4 ∨ s.length = 16) = true := decide_eq_true (.inr h2)
   rw [hc]
   clear hc h1
   go_enter Tryz.func73, Tryz.ntmps73
   go_wp2
   go_ret
   exact ⟨rfl, rfl⟩
  ·have hc : decide (s.length = 4 ∨ s.length = 16) = false := decide_eq_false fun h => h.elim h1 h2
   rw [hc]
   clear hc
   have b1 : ((s.length : Int) == 4) = false := beq_eq_false_iff_ne.2 (by omega)
   have b2 : ((s.length : Int) == 16) = false := beq_eq_false_iff_ne.2 (by omega)
   go_enter Tryz.func73, Tryz.ntmps73
   go_wp2
   go_ret
   exact ⟨rfl, rfl⟩
theorem DNum35_any (n : Int) (h0 : 0 ≤ n) (h1 : n ≤ 9223372036854775807) (w : World) : Calls Tryz.prog 46 #[.int .i64 n] w fun e w' => e = .returned (.string ⟨(digS 10 n.toNat).toArray⟩) ∧ Ext w w' := by
 have q := RNumber_any 10 (by decide) (by decide) n.toNat (by omega) w
 have hw : IntKind.u64.wrap n = (n.toNat : Int) := by rw [IntKind.wrap_u64]; omega
 have hn : n = (n.toNat : Int) := by omega
 generalize digS 10 n.toNat = d at *
 generalize n.toNat = m at *
 subst hn
 clear h0 h1
 replace q := hide q
 go_enter Tryz.func46, Tryz.ntmps46
 go_wp2_with fail
 refine q.out.mono ?_
 rintro e W1 ⟨rfl, he⟩
 go_wp2
 go_ret
 exact ⟨rfl, he⟩
theorem DByt35_any (b : List UInt8) (hb : b.length ≤ 1048576) (w : World) : Calls Tryz.prog 47 #[.string ⟨b.toArray⟩] w fun e w' => e = .returned (.string ⟨(wordB b).toArray⟩) ∧ Ext w w' := by
  have q := DHex_any b hb w
  cases b with
  | nil =>
    clear q
    go_enter Tryz.func47, Tryz.ntmps47
    go_wp2
    go_ret
    exact ⟨rfl, Ext.refl _⟩
  | cons x r =>
    have hR : ∀ h W, hexS (x :: r) = h → Ext w W → (Ending.returned (.string ⟨h.toArray⟩) = Ending.returned (.string ⟨(wordB (x :: r)).toArray⟩) ∧ Ext w W) := fun h W hh he => ⟨by unfold wordB; rw [if_neg (by simp), hh], he⟩
    generalize hexS (x :: r) = hx at *
    replace q := hide q
    replace hR := hide hR
    go_enter Tryz.func47, Tryz.ntmps47
    go_wp2_with fail
    refine q.out.mono ?_
    rintro e w1 ⟨rfl, he⟩
    go_wp2
    go_ret
    exact hR.out _ _ rfl he
set_option maxRecDepth 20000 in
set_option maxHeartbeats 4000000 in
theorem DMay_any (e : EvS) (w : World) : Calls Tryz.prog 44 #[.agg (evCs e).toArray] w fun e' w' => e' = .returned (.bool (evOk e)) ∧ Ext w w' := by
  obtain ⟨kd, cn, ad, pr, by_, tk, dr⟩ := e
  have A := Blk.new w 31 #[.int .i64 kd, .int .i64 cn, .string ⟨ad.toArray⟩, .string ⟨pr.toArray⟩, .string ⟨by_.toArray⟩, .int .i64 tk, .int .u32 (dr.toNat : Int)]
  have E1 := (Ext.refl w).alloc (Obj.cells #[.int .i64 kd, .int .i64 cn, .string ⟨ad.toArray⟩, .string ⟨pr.toArray⟩, .string ⟨by_.toArray⟩, .int .i64 tk, .int .u32 (dr.toNat : Int)] 31)
  have hz : (w.alloc (Obj.cells #[.int .i64 kd, .int .i64 cn, .string ⟨ad.toArray⟩, .string ⟨pr.toArray⟩, .string ⟨by_.toArray⟩, .int .i64 tk, .int .u32 (dr.toNat : Int)] 31)).heap.size = w.heap.size + 1 := by simp
  generalize hV1 : w.alloc (Obj.cells #[.int .i64 kd, .int .i64 cn, .string ⟨ad.toArray⟩, .string ⟨pr.toArray⟩, .string ⟨by_.toArray⟩, .int .i64 tk, .int .u32 (dr.toNat : Int)] 31) = V1 at A E1 hz
  have B := Blk.new V1 31 #[.int .i64 kd, .int .i64 0, .string ⟨#[]⟩, .string ⟨#[]⟩, .string ⟨#[]⟩, .int .i64 0, .int .u32 0]
  have E2 := E1.alloc (Obj.cells #[.int .i64 kd, .int .i64 0, .string ⟨#[]⟩, .string ⟨#[]⟩, .string ⟨#[]⟩, .int .i64 0, .int .u32 0] 31)
  replace A := A.alloc (Obj.cells #[.int .i64 kd, .int .i64 0, .string ⟨#[]⟩, .string ⟨#[]⟩, .string ⟨#[]⟩, .int .i64 0, .int .u32 0] 31)
  rw [hz] at B
  generalize hV2 : V1.alloc (Obj.cells #[.int .i64 kd, .int .i64 0, .string ⟨#[]⟩, .string ⟨#[]⟩, .string ⟨#[]⟩, .int .i64 0, .int .u32 0] 31) = V2 at A B E2
  generalize hp : w.heap.size = p at A B
  clear E1 hz
  simp only [evCs]
  replace hV1 := hide hV1
  replace hV2 := hide hV2
  replace hp := hide hp
  replace A := hide A
  replace B := hide B
  replace E2 := hide E2
  go_enter Tryz.func44, Tryz.ntmps44
  go_upto_region 2 with fail
  try rw [hV1.out]
  try rw [hV2.out]
  try simp only [hp.out]
  have c0 : V2.cell? ⟨p, 0, none⟩ = some (.int .i64 kd) := A.out.cell 0
  go_upto_block 0 with fail
  clear hV1 hV2
  have hpw : w.heap.size ≤ p + 1 := by have := hp.out; omega
  go_cut [4] (fun s4 wx => ∃ (b : Bool) (e2 : EvS), s4 = .bool b ∧ Blk wx p 31 #[.int .i64 kd, .int .i64 cn, .string ⟨ad.toArray⟩, .string ⟨pr.toArray⟩, .string ⟨by_.toArray⟩, .int .i64 tk, .int .u32 (dr.toNat : Int)] ∧ Blk wx (p + 1) 31 (evCs e2).toArray ∧ Ext w wx ∧ evOk ⟨kd, cn, ad, pr, by_, tk, dr⟩ = (b && decide ((⟨kd, cn, ad, pr, by_, tk, dr⟩ : EvS) = e2)))
  case first =>
    have c1 : V2.cell? ⟨p, 1, none⟩ = some (.int .i64 cn) := A.out.cell 1
    have c2 : V2.cell? ⟨p, 2, none⟩ = some (.string ⟨ad.toArray⟩) := A.out.cell 2
    have c3 : V2.cell? ⟨p, 3, none⟩ = some (.string ⟨pr.toArray⟩) := A.out.cell 3
    have c4 : V2.cell? ⟨p, 4, none⟩ = some (.string ⟨by_.toArray⟩) := A.out.cell 4
    have c5 : V2.cell? ⟨p, 5, none⟩ = some (.int .i64 tk) := A.out.cell 5
    have c6 : V2.cell? ⟨p, 6, none⟩ = some (.int .u32 (dr.toNat : Int)) := A.out.cell 6
    have d1 : V2.cell? ⟨p + 1, 1, none⟩ = some (.int .i64 0) := B.out.cell 1
    have d2 : V2.cell? ⟨p + 1, 2, none⟩ = some (.string ⟨#[]⟩) := B.out.cell 2
    have d3 : V2.cell? ⟨p + 1, 3, none⟩ = some (.string ⟨#[]⟩) := B.out.cell 3
    have d4 : V2.cell? ⟨p + 1, 4, none⟩ = some (.string ⟨#[]⟩) := B.out.cell 4
    have d5 : V2.cell? ⟨p + 1, 5, none⟩ = some (.int .i64 0) := B.out.cell 5
    have d6 : V2.cell? ⟨p + 1, 6, none⟩ = some (.int .u32 0) := B.out.cell 6
    have fd := fun i => B.out.frozen i
    by_cases hk1 : kd = 1
    · subst hk1
      have hA : Blk ((V2.setCell ⟨p + 1, 1, none⟩ (.int .i64 cn)).setCell ⟨p + 1, 2, none⟩ (.string ⟨ad.toArray⟩)) p 31 #[.int .i64 1, .int .i64 cn, .string ⟨ad.toArray⟩, .string ⟨pr.toArray⟩, .string ⟨by_.toArray⟩, .int .i64 tk, .int .u32 (dr.toNat : Int)] := ((A.out.far (p := ⟨p + 1, 1, none⟩) (show p ≠ p + 1 by omega) (.int .i64 cn)).far (p := ⟨p + 1, 2, none⟩) (show p ≠ p + 1 by omega) (.string ⟨ad.toArray⟩))
      have hB : Blk ((V2.setCell ⟨p + 1, 1, none⟩ (.int .i64 cn)).setCell ⟨p + 1, 2, none⟩ (.string ⟨ad.toArray⟩)) (p + 1) 31 (evCs ⟨1, cn, ad, [], [], 0, 0⟩).toArray := ((B.out.set_ 1 (.int .i64 cn)).set_ 2 (.string ⟨ad.toArray⟩))
      have hE : Ext w ((V2.setCell ⟨p + 1, 1, none⟩ (.int .i64 cn)).setCell ⟨p + 1, 2, none⟩ (.string ⟨ad.toArray⟩)) := ((E2.out.setCell (p := ⟨p + 1, 1, none⟩) hpw (.int .i64 cn)).setCell (p := ⟨p + 1, 2, none⟩) hpw (.string ⟨ad.toArray⟩))
      have hok : evOk ⟨1, cn, ad, pr, by_, tk, dr⟩ = (decide ((⟨1, cn, ad, pr, by_, tk, dr⟩ : EvS) = ⟨1, cn, ad, [], [], 0, 0⟩) && (connOk cn && decide (ad.length = 4 ∨ ad.length = 16))) := rfl
      replace hA := hide hA
      replace hB := hide hB
      replace hE := hide hE
      replace hok := hide hok
      cases hc : connOk cn with
      | false =>
        have hcc := hide hc
        have q := DConn_any cn
        rw [hc] at q
        clear hc
        replace q := hide q
        go_wp2_with (first | (go_at_call 53; refine (q.out _).mono ?_; rintro e9 w9 ⟨rfl, rfl⟩))
        go_meet
        case rel => exact ⟨false, ⟨1, cn, ad, [], [], 0, 0⟩, rfl, hA.out, hB.out, hE.out, by rw [hok.out, hcc.out]; simp⟩
      | true =>
        have hcc := hide hc
        have q := DConn_any cn
        rw [hc] at q
        clear hc
        replace q := hide q
        go_wp2_with (first | (go_at_call 53; refine (q.out _).mono ?_; rintro e9 w9 ⟨rfl, rfl⟩) | (go_at_call 73; refine (DAdr_any _ _).mono ?_; rintro e9 w9 ⟨rfl, rfl⟩))
        go_meet
        case rel => exact ⟨decide (ad.length = 4 ∨ ad.length = 16), ⟨1, cn, ad, [], [], 0, 0⟩, by first | rfl | simp, hA.out, hB.out, hE.out, by rw [hok.out, hcc.out, Bool.true_and, Bool.and_comm]⟩
    have g1 : (kd == 1) = false := beq_eq_false_iff_ne.2 hk1
    have g1b : decide (kd = 1) = false := decide_eq_false hk1
    by_cases hk2 : kd = 2
    · subst hk2
      have hA : Blk ((V2.setCell ⟨p + 1, 1, none⟩ (.int .i64 cn)).setCell ⟨p + 1, 3, none⟩ (.string ⟨pr.toArray⟩)) p 31 #[.int .i64 2, .int .i64 cn, .string ⟨ad.toArray⟩, .string ⟨pr.toArray⟩, .string ⟨by_.toArray⟩, .int .i64 tk, .int .u32 (dr.toNat : Int)] := ((A.out.far (p := ⟨p + 1, 1, none⟩) (show p ≠ p + 1 by omega) (.int .i64 cn)).far (p := ⟨p + 1, 3, none⟩) (show p ≠ p + 1 by omega) (.string ⟨pr.toArray⟩))
      have hB : Blk ((V2.setCell ⟨p + 1, 1, none⟩ (.int .i64 cn)).setCell ⟨p + 1, 3, none⟩ (.string ⟨pr.toArray⟩)) (p + 1) 31 (evCs ⟨2, cn, [], pr, [], 0, 0⟩).toArray := ((B.out.set_ 1 (.int .i64 cn)).set_ 3 (.string ⟨pr.toArray⟩))
      have hE : Ext w ((V2.setCell ⟨p + 1, 1, none⟩ (.int .i64 cn)).setCell ⟨p + 1, 3, none⟩ (.string ⟨pr.toArray⟩)) := ((E2.out.setCell (p := ⟨p + 1, 1, none⟩) hpw (.int .i64 cn)).setCell (p := ⟨p + 1, 3, none⟩) hpw (.string ⟨pr.toArray⟩))
      have hok : evOk ⟨2, cn, ad, pr, by_, tk, dr⟩ = (decide ((⟨2, cn, ad, pr, by_, tk, dr⟩ : EvS) = ⟨2, cn, [], pr, [], 0, 0⟩) && (connOk cn && nameOk pr)) := rfl
      replace hA := hide hA
      replace hB := hide hB
      replace hE := hide hE
      replace hok := hide hok
      cases hc : connOk cn with
      | false =>
        have hcc := hide hc
        have q := DConn_any cn
        rw [hc] at q
        clear hc
        replace q := hide q
        go_wp2_with (first | (go_at_call 53; refine (q.out _).mono ?_; rintro e9 w9 ⟨rfl, rfl⟩))
        go_meet
        case rel => exact ⟨false, ⟨2, cn, [], pr, [], 0, 0⟩, rfl, hA.out, hB.out, hE.out, by rw [hok.out, hcc.out]; simp⟩
      | true =>
        have hcc := hide hc
        have q := DConn_any cn
        rw [hc] at q
        clear hc
        replace q := hide q
        go_wp2_with (first | (go_at_call 53; refine (q.out _).mono ?_; rintro e9 w9 ⟨rfl, rfl⟩) | (go_at_call 52; refine (RName_any _ _).mono ?_; rintro e9 w9 ⟨rfl, rfl⟩))
        go_meet
        case rel => exact ⟨nameOk pr, ⟨2, cn, [], pr, [], 0, 0⟩, by first | rfl | simp, hA.out, hB.out, hE.out, by rw [hok.out, hcc.out, Bool.true_and, Bool.and_comm]⟩
    have g2 : (kd == 2) = false := beq_eq_false_iff_ne.2 hk2
    have g2b : decide (kd = 2) = false := decide_eq_false hk2
    by_cases hk3 : kd = 3
    · subst hk3
      have hA : Blk (V2.setCell ⟨p + 1, 3, none⟩ (.string ⟨pr.toArray⟩)) p 31 #[.int .i64 3, .int .i64 cn, .string ⟨ad.toArray⟩, .string ⟨pr.toArray⟩, .string ⟨by_.toArray⟩, .int .i64 tk, .int .u32 (dr.toNat : Int)] := (A.out.far (p := ⟨p + 1, 3, none⟩) (show p ≠ p + 1 by omega) (.string ⟨pr.toArray⟩))
      have hB : Blk (V2.setCell ⟨p + 1, 3, none⟩ (.string ⟨pr.toArray⟩)) (p + 1) 31 (evCs ⟨3, 0, [], pr, [], 0, 0⟩).toArray := (B.out.set_ 3 (.string ⟨pr.toArray⟩))
      have hE : Ext w (V2.setCell ⟨p + 1, 3, none⟩ (.string ⟨pr.toArray⟩)) := (E2.out.setCell (p := ⟨p + 1, 3, none⟩) hpw (.string ⟨pr.toArray⟩))
      have hok : evOk ⟨3, cn, ad, pr, by_, tk, dr⟩ = (decide ((⟨3, cn, ad, pr, by_, tk, dr⟩ : EvS) = ⟨3, 0, [], pr, [], 0, 0⟩) && nameOk pr) := rfl
      replace hA := hide hA
      replace hB := hide hB
      replace hE := hide hE
      replace hok := hide hok
      go_wp2_with (first | (go_at_call 52; refine (RName_any _ _).mono ?_; rintro e9 w9 ⟨rfl, rfl⟩))
      go_meet
      case rel => exact ⟨nameOk pr, ⟨3, 0, [], pr, [], 0, 0⟩, rfl, hA.out, hB.out, hE.out, by rw [hok.out, Bool.and_comm]⟩
    have g3 : (kd == 3) = false := beq_eq_false_iff_ne.2 hk3
    have g3b : decide (kd = 3) = false := decide_eq_false hk3
    by_cases hk4 : kd = 4
    · subst hk4
      have hA : Blk ((V2.setCell ⟨p + 1, 1, none⟩ (.int .i64 cn)).setCell ⟨p + 1, 4, none⟩ (.string ⟨by_.toArray⟩)) p 31 #[.int .i64 4, .int .i64 cn, .string ⟨ad.toArray⟩, .string ⟨pr.toArray⟩, .string ⟨by_.toArray⟩, .int .i64 tk, .int .u32 (dr.toNat : Int)] := ((A.out.far (p := ⟨p + 1, 1, none⟩) (show p ≠ p + 1 by omega) (.int .i64 cn)).far (p := ⟨p + 1, 4, none⟩) (show p ≠ p + 1 by omega) (.string ⟨by_.toArray⟩))
      have hB : Blk ((V2.setCell ⟨p + 1, 1, none⟩ (.int .i64 cn)).setCell ⟨p + 1, 4, none⟩ (.string ⟨by_.toArray⟩)) (p + 1) 31 (evCs ⟨4, cn, [], [], by_, 0, 0⟩).toArray := ((B.out.set_ 1 (.int .i64 cn)).set_ 4 (.string ⟨by_.toArray⟩))
      have hE : Ext w ((V2.setCell ⟨p + 1, 1, none⟩ (.int .i64 cn)).setCell ⟨p + 1, 4, none⟩ (.string ⟨by_.toArray⟩)) := ((E2.out.setCell (p := ⟨p + 1, 1, none⟩) hpw (.int .i64 cn)).setCell (p := ⟨p + 1, 4, none⟩) hpw (.string ⟨by_.toArray⟩))
      have hok : evOk ⟨4, cn, ad, pr, by_, tk, dr⟩ = (decide ((⟨4, cn, ad, pr, by_, tk, dr⟩ : EvS) = ⟨4, cn, [], [], by_, 0, 0⟩) && (connOk cn && decide (by_.length ≤ 16384))) := rfl
      replace hA := hide hA
      replace hB := hide hB
      replace hE := hide hE
      replace hok := hide hok
      cases hc : connOk cn with
      | false =>
        have hcc := hide hc
        have q := DConn_any cn
        rw [hc] at q
        clear hc
        replace q := hide q
        go_wp2_with (first | (go_at_call 53; refine (q.out _).mono ?_; rintro e9 w9 ⟨rfl, rfl⟩))
        go_meet
        case rel => exact ⟨false, ⟨4, cn, [], [], by_, 0, 0⟩, rfl, hA.out, hB.out, hE.out, by rw [hok.out, hcc.out]; simp⟩
      | true =>
        have hcc := hide hc
        have q := DConn_any cn
        rw [hc] at q
        clear hc
        replace q := hide q
        by_cases hl : by_.length ≤ 16384
        · have b1 : decide ((by_.length : Int) ≤ 16384) = true := decide_eq_true (by omega)
          have hll := hide hl
          clear hl
          go_wp2_with (first | (go_at_call 53; refine (q.out _).mono ?_; rintro e9 w9 ⟨rfl, rfl⟩))
          go_meet
          case rel => exact ⟨true, ⟨4, cn, [], [], by_, 0, 0⟩, rfl, hA.out, hB.out, hE.out, by rw [hok.out, hcc.out, decide_eq_true hll.out]; simp⟩
        · have b1 : decide ((by_.length : Int) ≤ 16384) = false := decide_eq_false (by omega)
          have hll := hide hl
          clear hl
          go_wp2_with (first | (go_at_call 53; refine (q.out _).mono ?_; rintro e9 w9 ⟨rfl, rfl⟩))
          go_meet
          case rel => exact ⟨false, ⟨4, cn, [], [], by_, 0, 0⟩, rfl, hA.out, hB.out, hE.out, by rw [hok.out, hcc.out, decide_eq_false hll.out]; simp⟩
    have g4 : (kd == 4) = false := beq_eq_false_iff_ne.2 hk4
    have g4b : decide (kd = 4) = false := decide_eq_false hk4
    by_cases hk5 : kd = 5
    · subst hk5
      have hA : Blk (V2.setCell ⟨p + 1, 1, none⟩ (.int .i64 cn)) p 31 #[.int .i64 5, .int .i64 cn, .string ⟨ad.toArray⟩, .string ⟨pr.toArray⟩, .string ⟨by_.toArray⟩, .int .i64 tk, .int .u32 (dr.toNat : Int)] := (A.out.far (p := ⟨p + 1, 1, none⟩) (show p ≠ p + 1 by omega) (.int .i64 cn))
      have hB : Blk (V2.setCell ⟨p + 1, 1, none⟩ (.int .i64 cn)) (p + 1) 31 (evCs ⟨5, cn, [], [], [], 0, 0⟩).toArray := (B.out.set_ 1 (.int .i64 cn))
      have hE : Ext w (V2.setCell ⟨p + 1, 1, none⟩ (.int .i64 cn)) := (E2.out.setCell (p := ⟨p + 1, 1, none⟩) hpw (.int .i64 cn))
      have hok : evOk ⟨5, cn, ad, pr, by_, tk, dr⟩ = (decide ((⟨5, cn, ad, pr, by_, tk, dr⟩ : EvS) = ⟨5, cn, [], [], [], 0, 0⟩) && connOk cn) := rfl
      replace hA := hide hA
      replace hB := hide hB
      replace hE := hide hE
      replace hok := hide hok
      go_wp2_with (first | (go_at_call 53; refine (DConn_any _ _).mono ?_; rintro e9 w9 ⟨rfl, rfl⟩))
      go_meet
      case rel => exact ⟨connOk cn, ⟨5, cn, [], [], [], 0, 0⟩, rfl, hA.out, hB.out, hE.out, by rw [hok.out, Bool.and_comm]⟩
    have g5 : (kd == 5) = false := beq_eq_false_iff_ne.2 hk5
    have g5b : decide (kd = 5) = false := decide_eq_false hk5
    by_cases hk6 : kd = 6
    · subst hk6
      have hA : Blk (V2.setCell ⟨p + 1, 5, none⟩ (.int .i64 tk)) p 31 #[.int .i64 6, .int .i64 cn, .string ⟨ad.toArray⟩, .string ⟨pr.toArray⟩, .string ⟨by_.toArray⟩, .int .i64 tk, .int .u32 (dr.toNat : Int)] := (A.out.far (p := ⟨p + 1, 5, none⟩) (show p ≠ p + 1 by omega) (.int .i64 tk))
      have hB : Blk (V2.setCell ⟨p + 1, 5, none⟩ (.int .i64 tk)) (p + 1) 31 (evCs ⟨6, 0, [], [], [], tk, 0⟩).toArray := (B.out.set_ 5 (.int .i64 tk))
      have hE : Ext w (V2.setCell ⟨p + 1, 5, none⟩ (.int .i64 tk)) := (E2.out.setCell (p := ⟨p + 1, 5, none⟩) hpw (.int .i64 tk))
      have hok : evOk ⟨6, cn, ad, pr, by_, tk, dr⟩ = (decide ((⟨6, cn, ad, pr, by_, tk, dr⟩ : EvS) = ⟨6, 0, [], [], [], tk, 0⟩) && decide (1 ≤ tk ∧ tk ≤ 4096)) := rfl
      replace hA := hide hA
      replace hB := hide hB
      replace hE := hide hE
      replace hok := hide hok
      by_cases h1 : 1 ≤ tk
      · have b1 : decide (1 ≤ tk) = true := decide_eq_true h1
        by_cases h2 : tk ≤ 4096
        · have b2 : decide (tk ≤ 4096) = true := decide_eq_true h2
          have hc : decide (1 ≤ tk ∧ tk ≤ 4096) = true := decide_eq_true ⟨h1, h2⟩
          clear h1 h2
          replace hc := hide hc
          go_wp2_with fail
          go_meet
          case rel => exact ⟨true, ⟨6, 0, [], [], [], tk, 0⟩, rfl, hA.out, hB.out, hE.out, by rw [hok.out, hc.out]; simp⟩
        · have b2 : decide (tk ≤ 4096) = false := decide_eq_false h2
          have hc : decide (1 ≤ tk ∧ tk ≤ 4096) = false := decide_eq_false fun h => h2 h.2
          clear h1 h2
          replace hc := hide hc
          go_wp2_with fail
          go_meet
          case rel => exact ⟨false, ⟨6, 0, [], [], [], tk, 0⟩, rfl, hA.out, hB.out, hE.out, by rw [hok.out, hc.out]; simp⟩
      · have b1 : decide (1 ≤ tk) = false := decide_eq_false h1
        have hc : decide (1 ≤ tk ∧ tk ≤ 4096) = false := decide_eq_false fun h => h1 h.1
        clear h1
        replace hc := hide hc
        go_wp2_with fail
        go_meet
        case rel => exact ⟨false, ⟨6, 0, [], [], [], tk, 0⟩, rfl, hA.out, hB.out, hE.out, by rw [hok.out, hc.out]; simp⟩
    have g6 : (kd == 6) = false := beq_eq_false_iff_ne.2 hk6
    have g6b : decide (kd = 6) = false := decide_eq_false hk6
    by_cases hk7 : kd = 7
    · subst hk7
      have hA : Blk (V2.setCell ⟨p + 1, 4, none⟩ (.string ⟨by_.toArray⟩)) p 31 #[.int .i64 7, .int .i64 cn, .string ⟨ad.toArray⟩, .string ⟨pr.toArray⟩, .string ⟨by_.toArray⟩, .int .i64 tk, .int .u32 (dr.toNat : Int)] := (A.out.far (p := ⟨p + 1, 4, none⟩) (show p ≠ p + 1 by omega) (.string ⟨by_.toArray⟩))
      have hB : Blk (V2.setCell ⟨p + 1, 4, none⟩ (.string ⟨by_.toArray⟩)) (p + 1) 31 (evCs ⟨7, 0, [], [], by_, 0, 0⟩).toArray := (B.out.set_ 4 (.string ⟨by_.toArray⟩))
      have hE : Ext w (V2.setCell ⟨p + 1, 4, none⟩ (.string ⟨by_.toArray⟩)) := (E2.out.setCell (p := ⟨p + 1, 4, none⟩) hpw (.string ⟨by_.toArray⟩))
      have hok : evOk ⟨7, cn, ad, pr, by_, tk, dr⟩ = (decide ((⟨7, cn, ad, pr, by_, tk, dr⟩ : EvS) = ⟨7, 0, [], [], by_, 0, 0⟩) && decide (by_.length ≤ 65536)) := rfl
      replace hA := hide hA
      replace hB := hide hB
      replace hE := hide hE
      replace hok := hide hok
      by_cases hl : by_.length ≤ 65536
      · have b1 : decide ((by_.length : Int) ≤ 65536) = true := decide_eq_true (by omega)
        have hll := hide hl
        clear hl
        go_wp2_with fail
        go_meet
        case rel => exact ⟨true, ⟨7, 0, [], [], by_, 0, 0⟩, rfl, hA.out, hB.out, hE.out, by rw [hok.out, decide_eq_true hll.out]; simp⟩
      · have b1 : decide ((by_.length : Int) ≤ 65536) = false := decide_eq_false (by omega)
        have hll := hide hl
        clear hl
        go_wp2_with fail
        go_meet
        case rel => exact ⟨false, ⟨7, 0, [], [], by_, 0, 0⟩, rfl, hA.out, hB.out, hE.out, by rw [hok.out, decide_eq_false hll.out]; simp⟩
    have g7 : (kd == 7) = false := beq_eq_false_iff_ne.2 hk7
    have g7b : decide (kd = 7) = false := decide_eq_false hk7
    by_cases hk8 : kd = 8
    · subst hk8
      have hA : Blk (V2.setCell ⟨p + 1, 4, none⟩ (.string ⟨by_.toArray⟩)) p 31 #[.int .i64 8, .int .i64 cn, .string ⟨ad.toArray⟩, .string ⟨pr.toArray⟩, .string ⟨by_.toArray⟩, .int .i64 tk, .int .u32 (dr.toNat : Int)] := (A.out.far (p := ⟨p + 1, 4, none⟩) (show p ≠ p + 1 by omega) (.string ⟨by_.toArray⟩))
      have hB : Blk (V2.setCell ⟨p + 1, 4, none⟩ (.string ⟨by_.toArray⟩)) (p + 1) 31 (evCs ⟨8, 0, [], [], by_, 0, 0⟩).toArray := (B.out.set_ 4 (.string ⟨by_.toArray⟩))
      have hE : Ext w (V2.setCell ⟨p + 1, 4, none⟩ (.string ⟨by_.toArray⟩)) := (E2.out.setCell (p := ⟨p + 1, 4, none⟩) hpw (.string ⟨by_.toArray⟩))
      have hok : evOk ⟨8, cn, ad, pr, by_, tk, dr⟩ = (decide ((⟨8, cn, ad, pr, by_, tk, dr⟩ : EvS) = ⟨8, 0, [], [], by_, 0, 0⟩) && decide (by_.length ≤ 16384)) := rfl
      replace hA := hide hA
      replace hB := hide hB
      replace hE := hide hE
      replace hok := hide hok
      by_cases hl : by_.length ≤ 16384
      · have b1 : decide ((by_.length : Int) ≤ 16384) = true := decide_eq_true (by omega)
        have hll := hide hl
        clear hl
        go_wp2_with fail
        go_meet
        case rel => exact ⟨true, ⟨8, 0, [], [], by_, 0, 0⟩, rfl, hA.out, hB.out, hE.out, by rw [hok.out, decide_eq_true hll.out]; simp⟩
      · have b1 : decide ((by_.length : Int) ≤ 16384) = false := decide_eq_false (by omega)
        have hll := hide hl
        clear hl
        go_wp2_with fail
        go_meet
        case rel => exact ⟨false, ⟨8, 0, [], [], by_, 0, 0⟩, rfl, hA.out, hB.out, hE.out, by rw [hok.out, decide_eq_false hll.out]; simp⟩
    have g8 : (kd == 8) = false := beq_eq_false_iff_ne.2 hk8
    have g8b : decide (kd = 8) = false := decide_eq_false hk8
    by_cases hk9 : kd = 9
    · subst hk9
      have hA : Blk (V2.setCell ⟨p + 1, 6, none⟩ (.int .u32 (dr.toNat : Int))) p 31 #[.int .i64 9, .int .i64 cn, .string ⟨ad.toArray⟩, .string ⟨pr.toArray⟩, .string ⟨by_.toArray⟩, .int .i64 tk, .int .u32 (dr.toNat : Int)] := (A.out.far (p := ⟨p + 1, 6, none⟩) (show p ≠ p + 1 by omega) (.int .u32 (dr.toNat : Int)))
      have hB : Blk (V2.setCell ⟨p + 1, 6, none⟩ (.int .u32 (dr.toNat : Int))) (p + 1) 31 (evCs ⟨9, 0, [], [], [], 0, dr⟩).toArray := (B.out.set_ 6 (.int .u32 (dr.toNat : Int)))
      have hE : Ext w (V2.setCell ⟨p + 1, 6, none⟩ (.int .u32 (dr.toNat : Int))) := (E2.out.setCell (p := ⟨p + 1, 6, none⟩) hpw (.int .u32 (dr.toNat : Int)))
      have hok : evOk ⟨9, cn, ad, pr, by_, tk, dr⟩ = decide ((⟨9, cn, ad, pr, by_, tk, dr⟩ : EvS) = ⟨9, 0, [], [], [], 0, dr⟩) := rfl
      replace hA := hide hA
      replace hB := hide hB
      replace hE := hide hE
      replace hok := hide hok
      go_wp2_with fail
      go_meet
      case rel => exact ⟨true, ⟨9, 0, [], [], [], 0, dr⟩, rfl, hA.out, hB.out, hE.out, by rw [hok.out, Bool.true_and]⟩
    have g9 : (kd == 9) = false := beq_eq_false_iff_ne.2 hk9
    have g9b : decide (kd = 9) = false := decide_eq_false hk9
    by_cases hk10 : kd = 10
    · subst hk10
      have hA : Blk V2 p 31 #[.int .i64 10, .int .i64 cn, .string ⟨ad.toArray⟩, .string ⟨pr.toArray⟩, .string ⟨by_.toArray⟩, .int .i64 tk, .int .u32 (dr.toNat : Int)] := A.out
      have hB : Blk V2 (p + 1) 31 (evCs ⟨10, 0, [], [], [], 0, 0⟩).toArray := B.out
      have hE : Ext w V2 := E2.out
      have hok : evOk ⟨10, cn, ad, pr, by_, tk, dr⟩ = decide ((⟨10, cn, ad, pr, by_, tk, dr⟩ : EvS) = ⟨10, 0, [], [], [], 0, 0⟩) := rfl
      replace hA := hide hA
      replace hB := hide hB
      replace hE := hide hE
      replace hok := hide hok
      go_wp2_with fail
      go_meet
      case rel => exact ⟨true, ⟨10, 0, [], [], [], 0, 0⟩, rfl, hA.out, hB.out, hE.out, by rw [hok.out, Bool.true_and]⟩
    have g10 : (kd == 10) = false := beq_eq_false_iff_ne.2 hk10
    have g10b : decide (kd = 10) = false := decide_eq_false hk10
    have hr : evOk ⟨kd, cn, ad, pr, by_, tk, dr⟩ = false := by simp [evOk, hk1, hk2, hk3, hk4, hk5, hk6, hk7, hk8, hk9, hk10]
    clear hk1 hk2 hk3 hk4 hk5 hk6 hk7 hk8 hk9 hk10
    replace hr := hide hr
    go_wp2_with fail
    go_meet
    case rel => exact ⟨false, ⟨kd, 0, [], [], [], 0, 0⟩, rfl, A.out, B.out, E2.out, by rw [hr.out]; rfl⟩
  case rest =>
    clear A B E2 c0
    obtain ⟨b, e2, rfl, A, B, E, hr⟩ := hcut
    have hq := fun W => run_eqEv W ⟨kd, cn, ad, pr, by_, tk, dr⟩ e2
    generalize decide ((⟨kd, cn, ad, pr, by_, tk, dr⟩ : EvS) = e2) = t at *
    obtain ⟨kd2, cn2, ad2, pr2, by2, tk2, dr2⟩ := e2
    simp only [evCs] at B hq
    have c0 : wc.cell? ⟨p, 0, none⟩ = some (.int .i64 kd) := A.cell 0
    have c1 : wc.cell? ⟨p, 1, none⟩ = some (.int .i64 cn) := A.cell 1
    have c2 : wc.cell? ⟨p, 2, none⟩ = some (.string ⟨ad.toArray⟩) := A.cell 2
    have c3 : wc.cell? ⟨p, 3, none⟩ = some (.string ⟨pr.toArray⟩) := A.cell 3
    have c4 : wc.cell? ⟨p, 4, none⟩ = some (.string ⟨by_.toArray⟩) := A.cell 4
    have c5 : wc.cell? ⟨p, 5, none⟩ = some (.int .i64 tk) := A.cell 5
    have c6 : wc.cell? ⟨p, 6, none⟩ = some (.int .u32 (dr.toNat : Int)) := A.cell 6
    have d0 : wc.cell? ⟨p + 1, 0, none⟩ = some (.int .i64 kd2) := B.cell 0
    have d1 : wc.cell? ⟨p + 1, 1, none⟩ = some (.int .i64 cn2) := B.cell 1
    have d2 : wc.cell? ⟨p + 1, 2, none⟩ = some (.string ⟨ad2.toArray⟩) := B.cell 2
    have d3 : wc.cell? ⟨p + 1, 3, none⟩ = some (.string ⟨pr2.toArray⟩) := B.cell 3
    have d4 : wc.cell? ⟨p + 1, 4, none⟩ = some (.string ⟨by2.toArray⟩) := B.cell 4
    have d5 : wc.cell? ⟨p + 1, 5, none⟩ = some (.int .i64 tk2) := B.cell 5
    have d6 : wc.cell? ⟨p + 1, 6, none⟩ = some (.int .u32 (dr2.toNat : Int)) := B.cell 6
    clear A B
    replace E := hide E
    replace hr := hide hr
    cases b
    · go_wp2
      go_ret
      exact ⟨by rw [hr.out]; rfl, E.out⟩
    · go_wp2
      go_ret
      exact ⟨by rw [hr.out, Bool.true_and]; rfl, E.out⟩
end
section
open Go.RowKit
set_option linter.unusedVariables false
set_option linter.unusedSimpArgs false
/-- An event that may be is small. -/
structure EvSm (e : EvS) : Prop where
  conn : 0 ≤ e.conn ∧ e.conn ≤ 64
  addr : e.addr.length ≤ 16
  peer : e.peer.length ≤ 16
  bytes : e.bytes.length ≤ 65536
  ticks : 0 ≤ e.ticks ∧ e.ticks ≤ 4096
theorem EvSm.mk' {e : EvS} (k c : Int) (a p b : List UInt8) (t : Int) (d : UInt32) (he : e = ⟨k, c, a, p, b, t, d⟩) (h2 : 0 ≤ c ∧ c ≤ 64) (h3 : a.length ≤ 16) (h4 : p.length ≤ 16) (h5 : b.length ≤ 65536) (h6 : 0 ≤ t ∧ t ≤ 4096) : EvSm e := by
 subst he
 exact ⟨h2, h3, h4, h5, h6⟩
theorem evOk_len {s : List UInt8} (h : nameOk s = true) : s.length ≤ 16 := by
 unfold nameOk at h
 simp only [Bool.and_eq_true, decide_eq_true_eq] at h
 exact h.2.1
theorem evOk_sm {e : EvS} (h : evOk e = true) : EvSm e := by
 unfold evOk connOk at h
 by_cases k1 : e.kind = 1
 ·rw [if_pos k1] at h
  simp only [Bool.and_eq_true, decide_eq_true_eq] at h
  obtain ⟨he, hc, ha⟩ := h
  exact EvSm.mk' _ _ _ _ _ _ _ he ⟨by omega, by omega⟩ (by rcases ha with h | h <;> omega) (by simp) (by simp) (by simp)
 rw [if_neg k1] at h
 by_cases k2 : e.kind = 2
 ·rw [if_pos k2] at h
  simp only [Bool.and_eq_true, decide_eq_true_eq] at h
  obtain ⟨he, hc, ha⟩ := h
  exact EvSm.mk' _ _ _ _ _ _ _ he ⟨by omega, by omega⟩ (by simp) (evOk_len ha) (by simp) (by simp)
 rw [if_neg k2] at h
 by_cases k3 : e.kind = 3
 ·rw [if_pos k3] at h
  simp only [Bool.and_eq_true, decide_eq_true_eq] at h
  obtain ⟨he, ha⟩ := h
  exact EvSm.mk' _ _ _ _ _ _ _ he (by decide) (by simp) (evOk_len ha) (by simp) (by simp)
 rw [if_neg k3] at h
 by_cases k4 : e.kind = 4
 ·rw [if_pos k4] at h
  simp only [Bool.and_eq_true, decide_eq_true_eq] at h
  obtain ⟨he, hc, ha⟩ := h
  exact EvSm.mk' _ _ _ _ _ _ _ he ⟨by omega, by omega⟩ (by simp) (by simp) (by omega) (by simp)
 rw [if_neg k4] at h
 by_cases k5 : e.kind = 5
 ·rw [if_pos k5] at h
  simp only [Bool.and_eq_true, decide_eq_true_eq] at h
  obtain ⟨he, hc⟩ := h
  exact EvSm.mk' _ _ _ _ _ _ _ he ⟨by omega, by omega⟩ (by simp) (by simp) (by simp) (by simp)
 rw [if_neg k5] at h
 by_cases k6 : e.kind = 6
 ·rw [if_pos k6] at h
  simp only [Bool.and_eq_true, decide_eq_true_eq] at h
  obtain ⟨he, ht⟩ := h
  exact EvSm.mk' _ _ _ _ _ _ _ he (by decide) (by simp) (by simp) (by simp) (⟨by omega, by omega⟩)
 rw [if_neg k6] at h
 by_cases k7 : e.kind = 7
 ·rw [if_pos k7] at h
  simp only [Bool.and_eq_true, decide_eq_true_eq] at h
  obtain ⟨he, hb⟩ := h
  exact EvSm.mk' _ _ _ _ _ _ _ he (by decide) (by simp) (by simp) (hb) (by simp)
 rw [if_neg k7] at h
 by_cases k8 : e.kind = 8
 ·rw [if_pos k8] at h
  simp only [Bool.and_eq_true, decide_eq_true_eq] at h
  obtain ⟨he, hb⟩ := h
  exact EvSm.mk' _ _ _ _ _ _ _ he (by decide) (by simp) (by simp) (by omega) (by simp)
 rw [if_neg k8] at h
 by_cases k9 : e.kind = 9
 ·rw [if_pos k9] at h
  simp only [Bool.and_eq_true, decide_eq_true_eq] at h
  have he := h
  exact EvSm.mk' _ _ _ _ _ _ _ he (by decide) (by simp) (by simp) (by simp) (by simp)
 rw [if_neg k9] at h
 by_cases k10 : e.kind = 10
 ·rw [if_pos k10] at h
  simp only [Bool.and_eq_true, decide_eq_true_eq] at h
  have he := h
  exact EvSm.mk' _ _ _ _ _ _ _ he (by decide) (by simp) (by simp) (by simp) (by simp)
 rw [if_neg k10] at h
 cases h
set_option maxRecDepth 20000 in
set_option maxHeartbeats 8000000 in
theorem DLine_any (e : EvS) (w : World) : Calls Tryz.prog 21 #[.agg (evCs e).toArray] w fun e' w' => e' = .returned (.tuple #[.string ⟨(evT e).1.toArray⟩, .int .i64 (evT e).2]) ∧ Ext w w' := by
  have hR : ∀ (bs : ByteArray) W, evOk e = true → bs = ⟨(evW e).toArray⟩ → Ext w W → (Ending.returned (.tuple #[.string bs, .int .i64 0]) = Ending.returned (.tuple #[.string ⟨(evT e).1.toArray⟩, .int .i64 (evT e).2]) ∧ Ext w W) := fun bs W h1 h2 he => ⟨by unfold evT; rw [if_pos h1, h2], he⟩
  have hN : ∀ W, evOk e = false → Ext w W → (Ending.returned (.tuple #[.string ⟨#[]⟩, .int .i64 2]) = Ending.returned (.tuple #[.string ⟨(evT e).1.toArray⟩, .int .i64 (evT e).2]) ∧ Ext w W) := fun W h1 he => ⟨by unfold evT; rw [if_neg (by rw [h1]; decide)], he⟩
  have qm := fun W => DMay_any e W
  generalize hQ : (fun e' w' => e' = Ending.returned (.tuple #[.string ⟨(evT e).1.toArray⟩, .int .i64 (evT e).2]) ∧ Ext w w') = Post
  replace hR : ∀ (bs : ByteArray) W, evOk e = true → bs = ⟨(evW e).toArray⟩ → Ext w W → Post (.returned (.tuple #[.string bs, .int .i64 0])) W := by rw [← hQ]; exact hR
  replace hN : ∀ W, evOk e = false → Ext w W → Post (.returned (.tuple #[.string ⟨#[]⟩, .int .i64 2])) W := by rw [← hQ]; exact hN
  clear hQ
  have hsm := fun h : evOk e = true => evOk_sm h
  obtain ⟨kd, cn, ad, pr, by_, tk, dr⟩ := e
  have A := Blk.new w 31 #[.int .i64 kd, .int .i64 cn, .string ⟨ad.toArray⟩, .string ⟨pr.toArray⟩, .string ⟨by_.toArray⟩, .int .i64 tk, .int .u32 (dr.toNat : Int)]
  have E1 := (Ext.refl w).alloc (Obj.cells #[.int .i64 kd, .int .i64 cn, .string ⟨ad.toArray⟩, .string ⟨pr.toArray⟩, .string ⟨by_.toArray⟩, .int .i64 tk, .int .u32 (dr.toNat : Int)] 31)
  generalize hV1 : w.alloc (Obj.cells #[.int .i64 kd, .int .i64 cn, .string ⟨ad.toArray⟩, .string ⟨pr.toArray⟩, .string ⟨by_.toArray⟩, .int .i64 tk, .int .u32 (dr.toNat : Int)] 31) = V1 at A E1
  generalize hp : w.heap.size = p at A
  simp only [evCs] at qm ⊢
  replace hV1 := hide hV1
  replace hp := hide hp
  replace A := hide A
  replace E1 := hide E1
  replace qm := hide qm
  replace hR := hide hR
  replace hN := hide hN
  replace hsm := hide hsm
  go_enter Tryz.func21, Tryz.ntmps21
  go_upto_region 1 with fail
  rw [hV1.out]
  simp only [hp.out]
  have c0 : V1.cell? ⟨p, 0, none⟩ = some (.int .i64 kd) := A.out.cell 0
  have c1 : V1.cell? ⟨p, 1, none⟩ = some (.int .i64 cn) := A.out.cell 1
  have c2 : V1.cell? ⟨p, 2, none⟩ = some (.string ⟨ad.toArray⟩) := A.out.cell 2
  have c3 : V1.cell? ⟨p, 3, none⟩ = some (.string ⟨pr.toArray⟩) := A.out.cell 3
  have c4 : V1.cell? ⟨p, 4, none⟩ = some (.string ⟨by_.toArray⟩) := A.out.cell 4
  have c5 : V1.cell? ⟨p, 5, none⟩ = some (.int .i64 tk) := A.out.cell 5
  have c6 : V1.cell? ⟨p, 6, none⟩ = some (.int .u32 (dr.toNat : Int)) := A.out.cell 6
  clear hV1 hp
  cases hok : evOk ⟨kd, cn, ad, pr, by_, tk, dr⟩ with
  | false =>
    have q := qm.out V1
    rw [hok] at q
    have hN2 := fun W => hN.out W hok
    clear hok hR hN qm hsm
    replace q := hide q
    replace hN2 := hide hN2
    go_wp2_with fail
    refine q.out.mono ?_
    rintro e1 W2 ⟨rfl, he⟩
    go_wp2
    try go_ret2
    exact hN2.out _ (E1.out.trans he)
  | true =>
    have q := qm.out V1
    rw [hok] at q
    have hR2 := fun bs W => hR.out bs W hok
    obtain ⟨s1, s2, s3, s4, s5⟩ := hsm.out hok
    dsimp only at s1 s2 s3 s4 s5
    have hkd : kd ≠ 1 → kd ≠ 2 → kd ≠ 3 → kd ≠ 4 → kd ≠ 5 → kd ≠ 6 → kd ≠ 7 → kd ≠ 8 → kd ≠ 9 → kd = 10 := fun a1 a2 a3 a4 a5 a6 a7 a8 a9 => by
      rcases Classical.em (kd = 10) with h | h
      · exact h
      · have : evOk ⟨kd, cn, ad, pr, by_, tk, dr⟩ = false := by simp [evOk, a1, a2, a3, a4, a5, a6, a7, a8, a9, h]
        rw [hok] at this; cases this
    clear hok hR hN qm hsm
    replace q := hide q
    replace hR2 := hide hR2
    replace s1 := hide s1
    replace s2 := hide s2
    replace s3 := hide s3
    replace s4 := hide s4
    replace s5 := hide s5
    replace hkd := hide hkd
    go_wp2_with fail
    refine q.out.mono ?_
    rintro e1 W2 ⟨rfl, he⟩
    have E2 := E1.out.trans he
    have A2 := A.out.ext he
    clear he q E1 A c0 c1 c2 c3 c4 c5 c6
    have c0 : W2.cell? ⟨p, 0, none⟩ = some (.int .i64 kd) := A2.cell 0
    go_upto_block 0 with fail

    by_cases hk1 : kd = 1
    · subst hk1
      clear hkd
      have c2 : W2.cell? ⟨p, 2, none⟩ = some (.string ⟨ad.toArray⟩) := A2.cell 2
      have q := RAddrText_any ad (by have := s2.out; omega) W2
      have hal := addrT_len (a := ad)
      obtain ⟨a, ec, hat⟩ : ∃ a ec, addrT ad = (a, ec) := ⟨_, _, rfl⟩
      rw [hat] at q hal
      dsimp only at hal
      replace q := hide q
      replace hat := hide hat
      go_wp2_with fail
      refine q.out.mono ?_
      rintro e3 W3 ⟨rfl, he3⟩
      have E3 := E2.trans he3
      have A3 := A2.ext he3
      clear c0 c2 q E2 A2 he3
      have c1 : W3.cell? ⟨p, 1, none⟩ = some (.int .i64 cn) := A3.cell 1
      have q := DNum35_any cn s1.out.1 (by have := s1.out; omega) W3
      have hdl : (digS 10 cn.toNat).length ≤ 10 := dig10 (by have := s1.out; omega)
      obtain ⟨d, hd⟩ : ∃ d, digS 10 cn.toNat = d := ⟨_, rfl⟩
      rw [hd] at q hdl
      have z0 : ¬ 9223372036854775807 < 3 + d.length := by omega
      have z1 : ¬ 9223372036854775807 < 3 + d.length + 1 := by omega
      have z2 : ¬ 9223372036854775807 < 3 + d.length + 1 + a.length := by omega
      replace q := hide q
      replace hd := hide hd
      replace E3 := hide E3
      replace hal := hide hal
      replace hdl := hide hdl
      go_wp2_with fail
      refine q.out.mono ?_
      rintro e4 W4 ⟨rfl, he4⟩
      have E4 := hide (E3.out.trans he4)
      clear q he4
      go_wp2
      try go_ret2
      exact hR2.out _ _ (by apply ByteArray.ext; simp [evW, evWs, Lib.join, hd.out, hat.out]) E4.out
    have g1 : (kd == 1) = false := beq_eq_false_iff_ne.2 hk1
    have g1b : decide (kd = 1) = false := decide_eq_false hk1
    by_cases hk2 : kd = 2
    · subst hk2
      clear hkd
      have c1 : W2.cell? ⟨p, 1, none⟩ = some (.int .i64 cn) := A2.cell 1
      have c3 : W2.cell? ⟨p, 3, none⟩ = some (.string ⟨pr.toArray⟩) := A2.cell 3
      have qn := fun W => DNum35_any cn s1.out.1 (by have := s1.out; omega) W
      have hdl : (digS 10 cn.toNat).length ≤ 10 := dig10 (by have := s1.out; omega)
      obtain ⟨d, hd⟩ : ∃ d, digS 10 cn.toNat = d := ⟨_, rfl⟩
      rw [hd] at qn hdl
      have hpl := s3.out
      have z0 : ¬ 9223372036854775807 < 3 + d.length := by omega
      have z1 : ¬ 9223372036854775807 < 3 + d.length + 1 := by omega
      have z2 : ¬ 9223372036854775807 < 3 + d.length + 1 + pr.length := by omega
      replace qn := hide qn
      replace hd := hide hd
      replace hdl := hide hdl
      replace hpl := hide hpl
      go_upto_region 8 with fail
      go_region_with (go_at_call 46; refine (qn.out _).mono ?_; rintro e3 W3 ⟨rfl, he3⟩; have c3b := he3.cell c3; have E3 := hide ((E2.drew).trans he3); clear he3)
      all_goals go_wp2
      all_goals try go_ret2
      all_goals exact hR2.out _ _ (by apply ByteArray.ext; simp [evW, evWs, Lib.join, hd.out]) E3.out
    have g2 : (kd == 2) = false := beq_eq_false_iff_ne.2 hk2
    have g2b : decide (kd = 2) = false := decide_eq_false hk2
    by_cases hk3 : kd = 3
    · subst hk3
      clear hkd
      have c3 : W2.cell? ⟨p, 3, none⟩ = some (.string ⟨pr.toArray⟩) := A2.cell 3
      have hpl := s3.out
      have z0 : ¬ 9223372036854775807 < 7 + pr.length := by omega
      replace E2 := hide E2
      replace hpl := hide hpl
      go_wp2_with fail
      try go_ret2
      exact hR2.out _ _ (by apply ByteArray.ext; simp [evW, evWs, Lib.join, List.append_assoc]) E2.out
    have g3 : (kd == 3) = false := beq_eq_false_iff_ne.2 hk3
    have g3b : decide (kd = 3) = false := decide_eq_false hk3
    by_cases hk4 : kd = 4
    · subst hk4
      clear hkd
      have c1 : W2.cell? ⟨p, 1, none⟩ = some (.int .i64 cn) := A2.cell 1
      have c4 : W2.cell? ⟨p, 4, none⟩ = some (.string ⟨by_.toArray⟩) := A2.cell 4
      have qn := fun W => DNum35_any cn s1.out.1 (by have := s1.out; omega) W
      have hdl : (digS 10 cn.toNat).length ≤ 10 := dig10 (by have := s1.out; omega)
      obtain ⟨d, hd⟩ : ∃ d, digS 10 cn.toNat = d := ⟨_, rfl⟩
      rw [hd] at qn hdl
      have qb := fun W => DByt35_any by_ (by have := s4.out; omega) W
      have hwl := wordB_len by_
      obtain ⟨wd, hwd⟩ : ∃ wd, wordB by_ = wd := ⟨_, rfl⟩
      rw [hwd] at qb hwl
      have hbl := s4.out
      have z0 : ¬ 9223372036854775807 < 5 + d.length := by omega
      have z1 : ¬ 9223372036854775807 < 5 + d.length + 1 := by omega
      have z2 : ¬ 9223372036854775807 < 5 + d.length + 1 + wd.length := by omega
      replace qn := hide qn
      replace hd := hide hd
      replace hdl := hide hdl
      replace qb := hide qb
      replace hwd := hide hwd
      replace hwl := hide hwl
      replace hbl := hide hbl
      go_upto_region 12 with fail
      go_region_with (first | (go_at_call 46; refine (qn.out _).mono ?_; rintro e3 W3 ⟨rfl, he3⟩; have c4b := he3.cell c4; have E3 := hide ((E2.drew).trans he3); clear he3) | (go_at_call 47; refine (qb.out _).mono ?_; rintro e4 W4 ⟨rfl, he4⟩; have E4 := hide (E3.out.trans he4); clear he4))
      all_goals go_wp2
      all_goals try go_ret2
      all_goals exact hR2.out _ _ (by apply ByteArray.ext; simp [evW, evWs, Lib.join, hd.out, hwd.out]) E4.out
    have g4 : (kd == 4) = false := beq_eq_false_iff_ne.2 hk4
    have g4b : decide (kd = 4) = false := decide_eq_false hk4
    by_cases hk5 : kd = 5
    · subst hk5
      clear hkd
      have c1 : W2.cell? ⟨p, 1, none⟩ = some (.int .i64 cn) := A2.cell 1
      have q := DNum35_any cn s1.out.1 (by have := s1.out; omega) W2
      have hdl : (digS 10 cn.toNat).length ≤ 10 := dig10 (by have := s1.out; omega)
      obtain ⟨d, hd⟩ : ∃ d, digS 10 cn.toNat = d := ⟨_, rfl⟩
      rw [hd] at q hdl
      have z0 : ¬ 9223372036854775807 < 6 + d.length := by omega
      replace q := hide q
      replace hd := hide hd
      replace hdl := hide hdl
      replace E2 := hide E2
      go_wp2_with fail
      refine q.out.mono ?_
      rintro e4 W4 ⟨rfl, he4⟩
      have E4 := hide (E2.out.trans he4)
      clear q he4
      go_wp2
      try go_ret2
      exact hR2.out _ _ (by apply ByteArray.ext; simp [evW, evWs, Lib.join, hd.out]) E4.out
    have g5 : (kd == 5) = false := beq_eq_false_iff_ne.2 hk5
    have g5b : decide (kd = 5) = false := decide_eq_false hk5
    by_cases hk6 : kd = 6
    · subst hk6
      clear hkd
      have c5 : W2.cell? ⟨p, 5, none⟩ = some (.int .i64 tk) := A2.cell 5
      have q := DNum35_any tk s5.out.1 (by have := s5.out; omega) W2
      have hdl : (digS 10 tk.toNat).length ≤ 10 := dig10 (by have := s5.out; omega)
      obtain ⟨d, hd⟩ : ∃ d, digS 10 tk.toNat = d := ⟨_, rfl⟩
      rw [hd] at q hdl
      have z0 : ¬ 9223372036854775807 < 5 + d.length := by omega
      replace q := hide q
      replace hd := hide hd
      replace hdl := hide hdl
      replace E2 := hide E2
      go_wp2_with fail
      refine q.out.mono ?_
      rintro e4 W4 ⟨rfl, he4⟩
      have E4 := hide (E2.out.trans he4)
      clear q he4
      go_wp2
      try go_ret2
      exact hR2.out _ _ (by apply ByteArray.ext; simp [evW, evWs, Lib.join, hd.out]) E4.out
    have g6 : (kd == 6) = false := beq_eq_false_iff_ne.2 hk6
    have g6b : decide (kd = 6) = false := decide_eq_false hk6
    by_cases hk7 : kd = 7
    · subst hk7
      clear hkd
      have c4 : W2.cell? ⟨p, 4, none⟩ = some (.string ⟨by_.toArray⟩) := A2.cell 4
      have q := DByt35_any by_ (by have := s4.out; omega) W2
      have hwl := wordB_len by_
      obtain ⟨wd, hwd⟩ : ∃ wd, wordB by_ = wd := ⟨_, rfl⟩
      rw [hwd] at q hwl
      have hbl := s4.out
      have z0 : ¬ 9223372036854775807 < 5 + wd.length := by omega
      replace q := hide q
      replace hwd := hide hwd
      replace hwl := hide hwl
      replace hbl := hide hbl
      replace E2 := hide E2
      go_wp2_with fail
      refine q.out.mono ?_
      rintro e4 W4 ⟨rfl, he4⟩
      have E4 := hide (E2.out.trans he4)
      clear q he4
      go_wp2
      try go_ret2
      exact hR2.out _ _ (by apply ByteArray.ext; simp [evW, evWs, Lib.join, hwd.out]) E4.out
    have g7 : (kd == 7) = false := beq_eq_false_iff_ne.2 hk7
    have g7b : decide (kd = 7) = false := decide_eq_false hk7
    by_cases hk8 : kd = 8
    · subst hk8
      clear hkd
      have c4 : W2.cell? ⟨p, 4, none⟩ = some (.string ⟨by_.toArray⟩) := A2.cell 4
      have q := DByt35_any by_ (by have := s4.out; omega) W2
      have hwl := wordB_len by_
      obtain ⟨wd, hwd⟩ : ∃ wd, wordB by_ = wd := ⟨_, rfl⟩
      rw [hwd] at q hwl
      have hbl := s4.out
      have z0 : ¬ 9223372036854775807 < 4 + wd.length := by omega
      replace q := hide q
      replace hwd := hide hwd
      replace hwl := hide hwl
      replace hbl := hide hbl
      replace E2 := hide E2
      go_wp2_with fail
      refine q.out.mono ?_
      rintro e4 W4 ⟨rfl, he4⟩
      have E4 := hide (E2.out.trans he4)
      clear q he4
      go_wp2
      try go_ret2
      exact hR2.out _ _ (by apply ByteArray.ext; simp [evW, evWs, Lib.join, hwd.out]) E4.out
    have g8 : (kd == 8) = false := beq_eq_false_iff_ne.2 hk8
    have g8b : decide (kd = 8) = false := decide_eq_false hk8
    by_cases hk9 : kd = 9
    · subst hk9
      clear hkd
      have c6 : W2.cell? ⟨p, 6, none⟩ = some (.int .u32 (dr.toNat : Int)) := A2.cell 6
      have hdrl := dr.toNat_lt
      have hw : IntKind.i64.wrap (dr.toNat : Int) = (dr.toNat : Int) := by rw [IntKind.wrap_i64]; omega
      have q := DNum35_any (dr.toNat : Int) (by omega) (by omega) W2
      rw [Int.toNat_natCast] at q
      have hdl : (digS 10 dr.toNat).length ≤ 10 := dig10 (by omega)
      obtain ⟨d, hd⟩ : ∃ d, digS 10 dr.toNat = d := ⟨_, rfl⟩
      clear hdrl
      rw [hd] at q hdl
      have z0 : ¬ 9223372036854775807 < 5 + d.length := by omega
      replace q := hide q
      replace hd := hide hd
      replace hdl := hide hdl
      replace E2 := hide E2
      go_wp2_with fail
      refine q.out.mono ?_
      rintro e4 W4 ⟨rfl, he4⟩
      have E4 := hide (E2.out.trans he4)
      clear q he4
      go_wp2
      try go_ret2
      exact hR2.out _ _ (by apply ByteArray.ext; simp [evW, evWs, Lib.join, hd.out]) E4.out
    have g9 : (kd == 9) = false := beq_eq_false_iff_ne.2 hk9
    have g9b : decide (kd = 9) = false := decide_eq_false hk9
    obtain rfl := hkd.out hk1 hk2 hk3 hk4 hk5 hk6 hk7 hk8 hk9
    clear hkd hk1 hk2 hk3 hk4 hk5 hk6 hk7 hk8 hk9
    replace E2 := hide E2
    go_wp2_with fail
    try go_ret2
    exact hR2.out _ _ (by apply ByteArray.ext; simp [evW, evWs, Lib.join]) E2.out
end
section
open Go.RowKit Go.Sort
set_option linter.unusedVariables false
def SpR (P : List (List UInt8)) (w : World) (e : Ending) (w' : World) : Prop :=
 Ext w w' ∧ ∃ g o d, e = .returned (.slice (some ⟨g, o, none⟩) P.length d) ∧ P.length ≤ d ∧ ∀ k, (h : k < P.length) → w'.cell? ⟨g, o + k, none⟩ = some (.string ⟨P[k].toArray⟩)
theorem RSplit46 (s : List UInt8) (hs : s.length ≤ 1048576) (w : World) : Calls Tryz.prog 30 #[.string ⟨s.toArray⟩, .int .u8 46] w (SpR (spl 46 s) w) := RSplit_any s hs 46 w
theorem RSplit58 (s : List UInt8) (hs : s.length ≤ 1048576) (w : World) : Calls Tryz.prog 30 #[.string ⟨s.toArray⟩, .int .u8 58] w (SpR (spl 58 s) w) := RSplit_any s hs 58 w
theorem RSplit32 (s : List UInt8) (hs : s.length ≤ 1048576) (w : World) : Calls Tryz.prog 30 #[.string ⟨s.toArray⟩, .int .u8 32] w (SpR (spl 32 s) w) := RSplit_any s hs 32 w
theorem RRead8 (s : List UInt8) (hs : s.length ≤ 1048576) (w : World) : Calls Tryz.prog 80 #[.string ⟨s.toArray⟩, .int .u64 10, .int .u64 255] w (RdP 10 255 s w) := RRead_any 10 255 (by decide) (by decide) (by decide) (by decide) s hs w
theorem RRead16 (s : List UInt8) (hs : s.length ≤ 1048576) (w : World) : Calls Tryz.prog 80 #[.string ⟨s.toArray⟩, .int .u64 16, .int .u64 65535] w (RdP 16 65535 s w) := RRead_any 16 65535 (by decide) (by decide) (by decide) (by decide) s hs w
theorem addr_long {s : List UInt8} (h : 40 < s.length) : addrC s = ([], 4) := by
 rcases addrC_err s with h1 | h1
 ·have := (addr_text h1).2.2
  omega
 ·exact h1
set_option maxRecDepth 20000 in
set_option maxHeartbeats 2000000 in
theorem RAddrL_any (s : List UInt8) (hs : 40 < s.length) (w : World) :
  Calls Tryz.prog 54 #[.string ⟨s.toArray⟩] w (AdP s w) := by
 have hz : (ByteArray.mk s.toArray).size = s.length := ba_size s
 have b1 : decide ((40 : Int) < (s.length : Int)) = true := decide_eq_true (by omega)
 have hC := hide (addr_long hs)
 go_enter Tryz.func54, Tryz.ntmps54
 go_wp2
 go_ret2
 exact AdP.of hC.out (Ext.refl _)
set_option maxRecDepth 20000 in
set_option maxHeartbeats 2000000 in
theorem RAddr4_any (s : List UInt8) (hs : s.length ≤ 40) (h4 : (spl 46 s).length = 4) (w : World) :
    Calls Tryz.prog 54 #[.string ⟨s.toArray⟩] w (AdP s w) := by
  have hz : (ByteArray.mk s.toArray).size = s.length := ba_size s
  have b1 : decide ((40 : Int) < (s.length : Int)) = false := decide_eq_false (by omega)
  have hS := RSplit46 s (by omega) w
  have hS2 := fun W => RSplit58 s (by omega) W
  have hnum := fun (x : List UInt8) (hx : x ∈ spl 46 s) W => RRead8 x (Nat.le_trans (spl_len 46 s x hx) (by omega)) W
  have hC : addrC s = (match rdAll 10 255 (spl 46 s) with | some l => (l.map UInt8.ofNat, 0) | none => ([], 4)) := if_pos h4
  generalize spl 46 s = P at hS hnum hC h4
  generalize spl 58 s = P8 at hS2
  replace hS := hide hS
  replace hS2 := hide hS2
  replace hnum := hide hnum
  replace hC := hide hC
  go_enter Tryz.func54, Tryz.ntmps54
  go_wp2_with fail
  refine hS.out.mono ?_
  rintro e w1 ⟨hEw1, g1, o1, d1, rfl, hd1, hc1⟩
  rw [h4] at hd1
  rw [h4]
  clear hS
  replace hc1 := hide hc1
  replace hEw1 := hide hEw1
  go_wp2_with fail
  refine (hS2.out _).mono ?_
  rintro e w2 ⟨hEw2, g2, o2, d2, rfl, hd2, _⟩
  have hEw := hide (hEw1.out.trans hEw2)
  replace hc1 := hide fun k h => hEw2.cell (hc1.out k h)
  clear hS2 hEw1 hEw2
  generalize P8.length = l8 at hd2 ⊢
  go_wp2_with fail
  go_loopw [6, 7] (fun v q wr => ∃ (k : Nat) (ns : List Nat), k ≤ 4 ∧ q = .int .i64 (k : Int) ∧ rdAll 10 255 (P.take k) = some ns ∧ ns.length = k ∧ OwnB 5 wr w2.heap.size v (ns.map UInt8.ofNat) ∧ Ext w2 wr) (fun _ q _ => 4 - (intOf q).toNat)
  case atStart => exact ⟨0, [], by omega, rfl, by rw [List.take_zero]; rfl, rfl, OwnB.nil, Ext.refl _⟩
  case round =>
    obtain ⟨k, ns, hk, rfl, hrd, hnl, hown, hE⟩ := hrel
    rename World => W0
    have hz0 := hE.size
    obtain ⟨vo, dd, rfl⟩ := hown.form
    have hlk : (ns.map UInt8.ofNat).length = k := by rw [List.length_map, hnl]
    rw [hlk] at hown ⊢
    replace hlk := hide hlk
    replace hE := hide hE
    replace hown := hide hown
    by_cases hlt : k < 4
    · have hkP : k < P.length := by omega
      have x0 : W0.cell? ⟨g1, o1 + k, none⟩ = some (.string ⟨(P[k]'hkP).toArray⟩) := hE.out.cell (hc1.out k hkP)
      have hn := hnum.out (P[k]'hkP) (List.getElem_mem hkP) W0
      have hbad : rdN 10 255 (P[k]'hkP) = none → addrC s = ([], 4) := fun h => by rw [hC.out, rdAll_bad (List.getElem_mem hkP) h]
      have hnx := fun n (h : rdN 10 255 (P[k]'hkP) = some n) => rdAll_next hkP hrd h
      have hmost := fun n (h : rdN 10 255 (P[k]'hkP) = some n) => ((rdN_iff (b := 10) (by decide) (by decide)).1 h).1
      generalize (P[k]'hkP) = wd at x0 hn hbad hnx hmost
      replace hrd := hide hrd
      replace hnl := hide hnl
      cases hr : rdN 10 255 wd with
      | none =>
        have hb := hbad hr
        clear hbad hmost hnx
        replace hb := hide hb
        unfold RdP at hn
        rw [hr] at hn
        replace hn := hide hn
        replace hr := hide hr
        go_wp2_with fail
        refine hn.out.mono ?_
        rintro e w3 ⟨⟨z, _, rfl, _⟩, he3⟩
        have hE3 := hide (hEw.out.trans (hE.out.trans he3))
        clear he3
        go_wp2
        go_ret2
        exact AdP.of hb.out hE3.out
      | some n =>
        have hm := hmost n hr
        have hnx2 := hnx n hr
        clear hbad hmost hnx
        unfold RdP at hn
        rw [hr] at hn
        replace hn := hide hn
        replace hr := hide hr
        have hw8 : IntKind.u8.wrap (n : Int) = ((UInt8.ofNat n).toNat : Int) := by rw [IntKind.wrap_u8, UInt8.toNat_ofNat']; omega
        have hap : ns.map UInt8.ofNat ++ [UInt8.ofNat n] = (ns ++ [n]).map UInt8.ofNat := by simp
        generalize hu : UInt8.ofNat n = u at hw8 hap
        replace hu := hide hu
        replace hap := hide hap
        replace hnx2 := hide hnx2
        replace hm := hide hm
        go_wp2_with fail
        refine hn.out.mono ?_
        rintro e w3 ⟨⟨z, _, rfl, hz⟩, he3⟩
        obtain rfl := hz n rfl
        have hown3 := hide (hown.out.ext he3)
        have hE3 := hide (hE.out.trans he3)
        have hz3 := he3.size
        clear he3 hz
        go_wp2_with (at_builtin
                     have hox := hown3.out.alloc (Obj.cells #[.int .u8 (u.toNat : Int)] 5)
                     refine wpList_appendB rfl _ _ _ rfl okB8 okB8z rfl hox (by simp; omega) [u] rfl (by rw [hlk.out]; simp; omega) (byte_new _ _ _) ?_
                     intro v' w5 hown1 hg hat)
        go_roundw
        case rel => exact ⟨k + 1, ns ++ [n], by omega, by go_num, hnx2.out, by simp [hnl.out], by rw [← hap.out]; exact hown1, (hE3.out.alloc _).push (fun j hj => (hown3.out.lt j hj).1) hg⟩
        case measure => simp [intOf]; omega
    · obtain rfl : k = 4 := by omega
      rw [List.take_of_length_le (by omega)] at hrd
      have hfin : addrC s = (ns.map UInt8.ofNat, 0) := by rw [hC.out, hrd]
      have kd := run_stringB (P := Tryz.prog) (src := 65) (dst := 9) Tryz.underlying65 Tryz.underlying5 Tryz.underlying9 hown.out
      replace hfin := hide hfin
      replace hrd := hide hrd
      replace hnl := hide hnl
      go_wp2
      go_ret2
      exact AdP.of hfin.out (hEw.out.trans hE.out)
set_option maxRecDepth 20000 in
set_option maxHeartbeats 2000000 in
theorem RAddr16_any (s : List UInt8) (hs : s.length ≤ 40) (h4 : (spl 46 s).length ≠ 4) (w : World) :
    Calls Tryz.prog 54 #[.string ⟨s.toArray⟩] w (AdP s w) := by
  have hz : (ByteArray.mk s.toArray).size = s.length := ba_size s
  have b1 : decide ((40 : Int) < (s.length : Int)) = false := decide_eq_false (by omega)
  have hS := RSplit46 s (by omega) w
  have b4 : ((((spl 46 s).length : Nat) : Int) == 4) = false := by rw [beq_eq_false_iff_ne]; omega
  have hS2 := fun W => RSplit58 s (by omega) W
  have hnum := fun (x : List UInt8) (hx : x ∈ spl 58 s) W => RRead16 x (Nat.le_trans (spl_len 58 s x hx) (by omega)) W
  by_cases h8 : (spl 58 s).length = 8
  · have hC : addrC s = (match rdAll 16 65535 (spl 58 s) with | some l => (l.flatMap unpair, 0) | none => ([], 4)) := by unfold addrC; rw [if_neg h4, if_pos h8]; cases rdAll 16 65535 (spl 58 s) <;> rfl
    generalize spl 46 s = P4 at b4 hS h4
    generalize spl 58 s = P at hS2 hnum hC h8
    replace hS := hide hS
    replace hS2 := hide hS2
    replace hnum := hide hnum
    replace hC := hide hC
    have h4' : ¬ P4.length = 4 := h4
    go_enter Tryz.func54, Tryz.ntmps54
    go_wp2_with fail
    refine hS.out.mono ?_
    rintro e w1 ⟨hEw1, g1, o1, d1, rfl, hd1, _⟩
    replace hEw1 := hide hEw1
    generalize P4.length = l4 at hd1 b4 h4 h4' ⊢
    go_wp2_with fail
    refine (hS2.out _).mono ?_
    rintro e w2 ⟨hEw2, g2, o2, d2, rfl, hd2, hc1⟩
    have hEw := hide (hEw1.out.trans hEw2)
    clear hEw2 hEw1
    rw [h8] at hd2
    rw [h8]
    clear hS hS2
    replace hc1 := hide hc1
    go_wp2_with fail
    go_loopw [6, 10] (fun v q wr => ∃ (k : Nat) (ns : List Nat), k ≤ 8 ∧ q = .int .i64 (k : Int) ∧ rdAll 16 65535 (P.take k) = some ns ∧ ns.length = k ∧ OwnB 5 wr w2.heap.size v (ns.flatMap unpair) ∧ Ext w2 wr) (fun _ q _ => 8 - (intOf q).toNat)
    case atStart => exact ⟨0, [], by omega, rfl, by rw [List.take_zero]; rfl, rfl, OwnB.nil, Ext.refl _⟩
    case round =>
      obtain ⟨k, ns, hk, rfl, hrd, hnl, hown, hE⟩ := hrel
      rename World => W0
      have hz0 := hE.size
      obtain ⟨vo, dd, rfl⟩ := hown.form
      have hlk : (ns.flatMap unpair).length = 2 * k := by rw [unpair_len, hnl]
      rw [hlk] at hown ⊢
      replace hlk := hide hlk
      replace hE := hide hE
      replace hown := hide hown
      by_cases hlt : k < 8
      · have hkP : k < P.length := by omega
        have x0 : W0.cell? ⟨g2, o2 + k, none⟩ = some (.string ⟨(P[k]'hkP).toArray⟩) := hE.out.cell (hc1.out k hkP)
        have hn := hnum.out (P[k]'hkP) (List.getElem_mem hkP) W0
        have hbad : rdN 16 65535 (P[k]'hkP) = none → addrC s = ([], 4) := fun h => by rw [hC.out, rdAll_bad (List.getElem_mem hkP) h]
        have hnx := fun n (h : rdN 16 65535 (P[k]'hkP) = some n) => rdAll_next hkP hrd h
        have hmost := fun n (h : rdN 16 65535 (P[k]'hkP) = some n) => ((rdN_iff (b := 16) (by decide) (by decide)).1 h).1
        generalize (P[k]'hkP) = wd at x0 hn hbad hnx hmost
        replace hrd := hide hrd
        replace hnl := hide hnl
        cases hr : rdN 16 65535 wd with
        | none =>
          have hb := hbad hr
          clear hbad hmost hnx
          replace hb := hide hb
          unfold RdP at hn
          rw [hr] at hn
          replace hn := hide hn
          replace hr := hide hr
          go_wp2_with fail
          refine hn.out.mono ?_
          rintro e w3 ⟨⟨z, _, rfl, _⟩, he3⟩
          have hE3 := hide (hEw.out.trans (hE.out.trans he3))
          clear he3
          go_wp2
          go_ret2
          exact AdP.of hb.out hE3.out
        | some n =>
          have hm := hmost n hr
          have hnx2 := hnx n hr
          clear hbad hmost hnx
          unfold RdP at hn
          rw [hr] at hn
          replace hn := hide hn
          replace hr := hide hr
          have hw8 : IntKind.u8.wrap (n : Int) = ((UInt8.ofNat n).toNat : Int) := by rw [IntKind.wrap_u8, UInt8.toNat_ofNat']; omega
          have hw9 : IntKind.u8.wrap ((n : Int) / 256) = ((UInt8.ofNat (n / 256)).toNat : Int) := by rw [IntKind.wrap_u8, UInt8.toNat_ofNat']; omega
          have hap : ns.flatMap unpair ++ [UInt8.ofNat (n / 256), UInt8.ofNat n] = (ns ++ [n]).flatMap unpair := by simp [unpair]
          generalize hu : UInt8.ofNat n = u at hw8 hap
          generalize hu2 : UInt8.ofNat (n / 256) = u2 at hw9 hap
          replace hu := hide hu
          replace hu2 := hide hu2
          replace hap := hide hap
          replace hnx2 := hide hnx2
          replace hm := hide hm
          go_wp2_with fail
          refine hn.out.mono ?_
          rintro e w3 ⟨⟨z, _, rfl, hz⟩, he3⟩
          obtain rfl := hz n rfl
          have hown3 := hide (hown.out.ext he3)
          have hE3 := hide (hE.out.trans he3)
          have hz3 := he3.size
          clear he3 hz
          go_wp2_with (at_builtin
                       have hox := hown3.out.alloc (Obj.cells #[.int .u8 (u2.toNat : Int), .int .u8 (u.toNat : Int)] 5)
                       refine wpList_appendB rfl _ _ _ rfl okB8 okB8z rfl hox (by simp; omega) [u2, u] rfl (by rw [hlk.out]; simp; omega) (byte_new2 _ _ _ _) ?_
                       intro v' w5 hown1 hg hat)
          go_roundw
          case rel => exact ⟨k + 1, ns ++ [n], by omega, by go_num, hnx2.out, by simp [hnl.out], by rw [← hap.out]; exact hown1, (hE3.out.alloc _).push (fun j hj => (hown3.out.lt j hj).1) hg⟩
          case measure => simp [intOf]; omega
      · obtain rfl : k = 8 := by omega
        rw [List.take_of_length_le (by omega)] at hrd
        have hfin : addrC s = (ns.flatMap unpair, 0) := by rw [hC.out, hrd]
        have kd := run_stringB (P := Tryz.prog) (src := 65) (dst := 9) Tryz.underlying65 Tryz.underlying5 Tryz.underlying9 hown.out
        replace hfin := hide hfin
        replace hrd := hide hrd
        replace hnl := hide hnl
        go_wp2
        go_ret2
        exact AdP.of hfin.out (hEw.out.trans hE.out)
  · have hC : addrC s = ([], 4) := by unfold addrC; rw [if_neg h4, if_neg h8]
    have b8 : ((((spl 58 s).length : Nat) : Int) != 8) = true := by rw [bne_iff_ne]; omega
    have h8' : ¬ (((spl 58 s).length : Nat) : Int) = 8 := by omega
    clear hnum
    generalize spl 46 s = P4 at b4 hS h4
    generalize spl 58 s = P8 at b8 hS2 h8 h8'
    replace hS := hide hS
    replace hS2 := hide hS2
    replace hC := hide hC
    go_enter Tryz.func54, Tryz.ntmps54
    go_wp2_with fail
    refine hS.out.mono ?_
    rintro e w1 ⟨hEw1, g1, o1, d1, rfl, hd1, _⟩
    replace hEw1 := hide hEw1
    generalize P4.length = l4 at hd1 b4 h4 ⊢
    go_wp2_with fail
    refine (hS2.out _).mono ?_
    rintro e w2 ⟨hEw2, g2, o2, d2, rfl, hd2, _⟩
    have hEw := hide (hEw1.out.trans hEw2)
    clear hEw2 hEw1
    generalize P8.length = l8 at hd2 b8 h8 h8' ⊢
    go_wp2
    go_ret2
    exact AdP.of hC.out hEw.out
theorem RAddr_any (s : List UInt8) (w : World) :
  Calls Tryz.prog 54 #[.string ⟨s.toArray⟩] w (AdP s w) := by
 by_cases hs : s.length ≤ 40
 ·by_cases h4 : (spl 46 s).length = 4
  ·exact RAddr4_any s hs h4 w
  ·exact RAddr16_any s hs h4 w
 ·exact RAddrL_any s (by omega) w
end
section
open Go.RowKit
set_option linter.unusedVariables false
set_option linter.unusedSimpArgs false
theorem smallS_le (s : List UInt8) : smallS s ≤ 4294967295 := by
 unfold smallS
 cases h : rdN 10 4294967295 s with
 | none => exact Nat.zero_le _
 | some n => exact ((rdN_iff (by decide) (by decide)).1 h).1
theorem DSmall_any (s : List UInt8) (hs : s.length ≤ 1048576) (w : World) : Calls Tryz.prog 56 #[.string ⟨s.toArray⟩] w fun e w' => e = .returned (.int .i64 (smallS s : Int)) ∧ Ext w w' := by
  have q := RRead_any 10 4294967295 (by decide) (by decide) (by decide) (by decide) s hs w
  unfold RdP at q
  unfold smallS
  have hb : ∀ n, rdN 10 4294967295 s = some n → n ≤ 4294967295 := fun n h => ((rdN_iff (by decide) (by decide)).1 h).1
  cases hr : rdN 10 4294967295 s with
  | none =>
    rw [hr] at q
    clear hb hr hs
    replace q := hide q
    go_enter Tryz.func56, Tryz.ntmps56
    go_wp2_with fail
    refine q.out.mono ?_
    rintro e w1 ⟨⟨x, _, rfl, _⟩, he⟩
    replace he := hide he
    simp only [Option.isSome_none]
    go_wp2
    go_ret
    exact ⟨rfl, he.out⟩
  | some n =>
    rw [hr] at q hb
    have hn := hb n rfl
    have hw : IntKind.i64.wrap (n : Int) = (n : Int) := by rw [IntKind.wrap_i64]; omega
    clear hb hr hs hn
    replace q := hide q
    go_enter Tryz.func56, Tryz.ntmps56
    go_wp2_with fail
    refine q.out.mono ?_
    rintro e w1 ⟨⟨x, _, rfl, hx⟩, he⟩
    obtain rfl : n = x := hx n rfl
    clear hx
    replace he := hide he
    simp only [Option.isSome_some]
    go_wp2
    go_ret
    exact ⟨rfl, he.out⟩
theorem DUnh_any (s : List UInt8) (hs : s.length ≤ 1048576) (w : World) : Calls Tryz.prog 57 #[.string ⟨s.toArray⟩] w fun e w' => e = .returned (.string ⟨(unhexD s).toArray⟩) ∧ Ext w w' := by
 have q := DUnhex_any s hs w
 unfold UnP at q
 unfold unhexD
 generalize (unhexS s).getD [] = u at *
 replace q := hide q
 go_enter Tryz.func57, Tryz.ntmps57
 go_wp2_with fail
 refine q.out.mono ?_
 rintro e w1 ⟨⟨c, rfl, _⟩, he⟩
 go_wp2
 go_ret
 exact ⟨rfl, he⟩
theorem DWord_any (g off d : Nat) (l : List (List UInt8)) (n : Nat) (hl : l.length ≤ 16777216) (hn : n ≤ 16) (w : World) (h : ∀ k, (hk : k < l.length) → w.cell? ⟨g, off + k, none⟩ = some (.string ⟨l[k].toArray⟩)) :
  Calls Tryz.prog 55 #[.slice (some ⟨g, off, none⟩) l.length d, .int .i64 (n : Int)] w fun e w' => e = .returned (.string ⟨(wAt l n).toArray⟩) ∧ w = w' := by
 by_cases hk : n < l.length
 ·have c0 := h n hk
  have hw : wAt l n = l[n] := by unfold wAt; simp [List.getD, hk]
  rw [hw]
  clear h hw
  generalize l[n] = x at *
  generalize l.length = L at *
  have b1 : decide ((n : Int) < (L : Int)) = true := decide_eq_true (by omega)
  clear hl hn
  go_enter Tryz.func55, Tryz.ntmps55
  go_wp2
  go_ret
  exact ⟨rfl, rfl⟩
 ·have hw : wAt l n = [] := by unfold wAt; simp [List.getD, List.getElem?_eq_none (Nat.le_of_not_lt hk)]
  rw [hw]
  clear h hw
  generalize l.length = L at *
  have b1 : decide ((n : Int) < (L : Int)) = false := decide_eq_false (by omega)
  clear hl hn
  go_enter Tryz.func55, Tryz.ntmps55
  go_wp2
  go_ret
  exact ⟨rfl, rfl⟩
theorem wAt_len {l : List (List UInt8)} {m : Nat} (h : ∀ y ∈ l, y.length ≤ m) (n : Nat) : (wAt l n).length ≤ m := by
 by_cases hk : n < l.length
 ·have hw : wAt l n = l[n] := by unfold wAt; simp [List.getD, hk]
  rw [hw]; exact h _ (List.getElem_mem hk)
 ·have hw : wAt l n = [] := by unfold wAt; simp [List.getD, List.getElem?_eq_none (Nat.le_of_not_lt hk)]
  rw [hw]; exact Nat.zero_le _
def ddE (s : List UInt8) (l : List (List UInt8)) : EvS × Bool := if evT (candE l) = (s, 0) then (candE l, true) else (zeroEv, false)
set_option maxRecDepth 20000 in
set_option maxHeartbeats 8000000 in
theorem DEvent_any (s : List UInt8) (hs : s.length ≤ 1048576) (w : World) : Calls Tryz.prog 24 #[.string ⟨s.toArray⟩] w fun e' w' => e' = .returned (.tuple #[.agg (evCs (docE s).1).toArray, .bool (docE s).2]) ∧ Ext w w' := by
 have Z := Blk.new w 31 #[.int .i64 0, .int .i64 0, .string ⟨#[]⟩, .string ⟨#[]⟩, .string ⟨#[]⟩, .int .i64 0, .int .u32 0]
 have E := (Ext.refl w).alloc (Obj.cells #[.int .i64 0, .int .i64 0, .string ⟨#[]⟩, .string ⟨#[]⟩, .string ⟨#[]⟩, .int .i64 0, .int .u32 0] 31)
 have hz1 : (w.alloc (Obj.cells #[.int .i64 0, .int .i64 0, .string ⟨#[]⟩, .string ⟨#[]⟩, .string ⟨#[]⟩, .int .i64 0, .int .u32 0] 31)).heap.size = w.heap.size + 1 := by simp
 generalize hW1 : w.alloc (Obj.cells #[.int .i64 0, .int .i64 0, .string ⟨#[]⟩, .string ⟨#[]⟩, .string ⟨#[]⟩, .int .i64 0, .int .u32 0] 31) = W1 at Z E hz1
 by_cases hlong : 131112 < s.length
 ·have hd : docE s = (zeroEv, false) := if_pos hlong
  rw [hd]
  have b1 : decide ((131112 : Int) < (s.length : Int)) = true := decide_eq_true (by omega)
  clear hd hlong hs
  have r0 : W1.cell? ⟨w.heap.size, 0, none⟩ = some (.int .i64 0) := Z.cell 0
  have r1 : W1.cell? ⟨w.heap.size, 1, none⟩ = some (.int .i64 0) := Z.cell 1
  have r2 : W1.cell? ⟨w.heap.size, 2, none⟩ = some (.string ⟨#[]⟩) := Z.cell 2
  have r3 : W1.cell? ⟨w.heap.size, 3, none⟩ = some (.string ⟨#[]⟩) := Z.cell 3
  have r4 : W1.cell? ⟨w.heap.size, 4, none⟩ = some (.string ⟨#[]⟩) := Z.cell 4
  have r5 : W1.cell? ⟨w.heap.size, 5, none⟩ = some (.int .i64 0) := Z.cell 5
  have r6 : W1.cell? ⟨w.heap.size, 6, none⟩ = some (.int .u32 0) := Z.cell 6
  have rf := fun i => Z.frozen i
  have hE := E.set7 (Nat.le_refl _) (.int .i64 0) (.int .i64 0) (.string ⟨#[]⟩) (.string ⟨#[]⟩) (.string ⟨#[]⟩) (.int .i64 0) (.int .u32 0)
  have hRZ := Z.fill7 (.int .i64 0) (.int .i64 0) (.string ⟨#[]⟩) (.string ⟨#[]⟩) (.string ⟨#[]⟩) (.int .i64 0) (.int .u32 0)
  have z0 := hRZ.cell 0
  have z1 := hRZ.cell 1
  have z2 := hRZ.cell 2
  have z3 := hRZ.cell 3
  have z4 := hRZ.cell 4
  have z5 := hRZ.cell 5
  have z6 := hRZ.cell 6
  simp at z0 z1 z2 z3 z4 z5 z6
  clear hRZ Z E hz1
  replace hE := hide hE
  go_enter Tryz.func24, Tryz.ntmps24
  go_wp2
  exact bodyPost_ret (v := .tuple #[.agg #[.int .i64 0, .int .i64 0, .string ⟨#[]⟩, .string ⟨#[]⟩, .string ⟨#[]⟩, .int .i64 0, .int .u32 0], .bool false]) (by simp [results, Tryz.results24, go_sem, z0, z1, z2, z3, z4, z5, z6]) rfl ⟨rfl, hE.out⟩
 have hdoc : docE s = ddE s (spl 32 s) := if_neg hlong
 rw [hdoc]
 clear hdoc
 have b1 : decide ((131112 : Int) < (s.length : Int)) = false := decide_eq_false (by omega)
 have qs := RSplit32 s hs W1
 unfold SpR at qs
 have hwl : ∀ y ∈ spl 32 s, y.length ≤ 1048576 := fun y hy => Nat.le_trans (spl_len 32 s y hy) hs
 have hnil := spl_ne 32 s
 have hcnt := spl_cnt 32 s.length s (Nat.le_refl _)
 generalize spl 32 s = l at *
 have hlw := wAt_len hwl
 have hll : l.length ≤ 1048577 := by omega
 clear hs hlong hcnt hwl
 replace qs := hide qs
 replace hnil := hide hnil
 replace hlw := hide hlw
 replace hll := hide hll
 replace Z := hide Z
 replace E := hide E
 replace hz1 := hide hz1
 go_enter Tryz.func24, Tryz.ntmps24
 go_wp2_with fail
 clear hW1
 refine qs.out.mono ?_
 rintro e W2 ⟨he2, g, off, d, rfl, _, hcell⟩
 have B := Blk.new W2 31 #[.int .i64 0, .int .i64 0, .string ⟨#[]⟩, .string ⟨#[]⟩, .string ⟨#[]⟩, .int .i64 0, .int .u32 0]
 have eA := (Ext.refl W2).alloc (Obj.cells #[.int .i64 0, .int .i64 0, .string ⟨#[]⟩, .string ⟨#[]⟩, .string ⟨#[]⟩, .int .i64 0, .int .u32 0] 31)
 have E3 := (E.out.trans he2).alloc (Obj.cells #[.int .i64 0, .int .i64 0, .string ⟨#[]⟩, .string ⟨#[]⟩, .string ⟨#[]⟩, .int .i64 0, .int .u32 0] 31)
 have Z3 := (Z.out.ext he2).alloc (Obj.cells #[.int .i64 0, .int .i64 0, .string ⟨#[]⟩, .string ⟨#[]⟩, .string ⟨#[]⟩, .int .i64 0, .int .u32 0] 31)
 have hcell3 := fun k hk => eA.cell (hcell k hk)
 have hsz2 := he2.size
 generalize hW3 : W2.alloc (Obj.cells #[.int .i64 0, .int .i64 0, .string ⟨#[]⟩, .string ⟨#[]⟩, .string ⟨#[]⟩, .int .i64 0, .int .u32 0] 31) = W3 at B E3 Z3 hcell3
 generalize hp : W2.heap.size = p at B hsz2
 have hpw : w.heap.size < p := by have := hz1.out; omega
 have hl0 : 0 < l.length := List.length_pos_iff.2 hnil.out
 have qw := fun (n : Nat) (hn : n ≤ 16) W (h : Ext W3 W) => DWord_any g off d l n (by have := hll.out; omega) hn W (fun k hk => h.cell (hcell3 k hk))
 have x0 : W3.cell? ⟨g, off, none⟩ = some (.string ⟨(wAt l 0).toArray⟩) := by
  have := hcell3 0 hl0
  rw [show wAt l 0 = l[0] by unfold wAt; simp [List.getD, hl0]]
  exact this
 obtain ⟨k0, hk0⟩ : ∃ k0, wAt l 0 = k0 := ⟨_, rfl⟩
 rw [hk0] at x0
 clear hcell hcell3 eA he2 Z E qs hsz2 hz1 hnil
 replace hW3 := hide hW3
 replace hp := hide hp
 replace B := hide B
 replace E3 := hide E3
 replace Z3 := hide Z3
 replace qw := hide qw
 replace hk0 := hide hk0
 go_upto_region 5 with fail
 try rw [hW3.out]
 try simp only [hp.out]
 clear hW3
 go_upto_block 0 with fail
 clear x0
 go_cut [6] (fun s6 wx => Ext w wx ∧ Blk wx w.heap.size 31 #[.int .i64 0, .int .i64 0, .string ⟨#[]⟩, .string ⟨#[]⟩, .string ⟨#[]⟩, .int .i64 0, .int .u32 0] ∧ Blk wx p 31 (evCs (candE l)).toArray)
 case first =>
  by_cases hx1 : k0 = [105, 110]
  ·subst hx1
   have q := qw.out 2 (by decide) W3 (Ext.refl W3)
   replace q := hide q
   go_wp2_with fail
   refine q.out.mono ?_
   rintro e9 w9 ⟨rfl, rfl⟩
   clear q
   obtain ⟨a, ec, hac⟩ : ∃ a ec, addrC (wAt l 2) = (a, ec) := ⟨_, _, rfl⟩
   have q := RAddr_any (wAt l 2) W3
   unfold AdP at q
   rw [hac] at q
   replace q := hide q
   replace hac := hide hac
   go_wp2_with fail
   refine q.out.mono ?_
   rintro e9 V4 ⟨rfl, he4⟩
   have F4 := (Ext.refl W3).trans he4
   clear q he4
   have q := qw.out 1 (by decide) V4 F4
   replace q := hide q
   go_wp2_with fail
   refine q.out.mono ?_
   rintro e9 w9 ⟨rfl, rfl⟩
   clear q
   have q := DSmall_any (wAt l 1) (hlw.out 1) V4
   replace q := hide q
   go_wp2_with fail
   refine q.out.mono ?_
   rintro e9 V5 ⟨rfl, he5⟩
   have F5 := F4.trans he5
   clear q he5
   have Bn := B.out.ext F5
   have Zn := Z3.out.ext F5
   have En := E3.out.trans F5
   have c0 : V5.cell? ⟨p, 0, none⟩ = some (.int .i64 0) := Bn.cell 0
   have c1 : V5.cell? ⟨p, 1, none⟩ = some (.int .i64 0) := Bn.cell 1
   have c2 : V5.cell? ⟨p, 2, none⟩ = some (.string ⟨#[]⟩) := Bn.cell 2
   have c3 : V5.cell? ⟨p, 3, none⟩ = some (.string ⟨#[]⟩) := Bn.cell 3
   have c4 : V5.cell? ⟨p, 4, none⟩ = some (.string ⟨#[]⟩) := Bn.cell 4
   have c5 : V5.cell? ⟨p, 5, none⟩ = some (.int .i64 0) := Bn.cell 5
   have c6 : V5.cell? ⟨p, 6, none⟩ = some (.int .u32 0) := Bn.cell 6
   have cf := fun i => Bn.frozen i
   have hB := Bn.fill7 (.int .i64 1) (.int .i64 (smallS (wAt l 1) : Int)) (.string ⟨a.toArray⟩) (.string ⟨#[]⟩) (.string ⟨#[]⟩) (.int .i64 0) (.int .u32 0)
   have hE := En.set7 (Nat.le_of_lt hpw) (.int .i64 1) (.int .i64 (smallS (wAt l 1) : Int)) (.string ⟨a.toArray⟩) (.string ⟨#[]⟩) (.string ⟨#[]⟩) (.int .i64 0) (.int .u32 0)
   have hZ := (((((((Zn.far (p := ⟨p, 0, none⟩) (show w.heap.size ≠ p by omega) (.int .i64 1)).far (p := ⟨p, 1, none⟩) (show w.heap.size ≠ p by omega) (.int .i64 (smallS (wAt l 1) : Int))).far (p := ⟨p, 2, none⟩) (show w.heap.size ≠ p by omega) (.string ⟨a.toArray⟩)).far (p := ⟨p, 3, none⟩) (show w.heap.size ≠ p by omega) (.string ⟨#[]⟩)).far (p := ⟨p, 4, none⟩) (show w.heap.size ≠ p by omega) (.string ⟨#[]⟩)).far (p := ⟨p, 5, none⟩) (show w.heap.size ≠ p by omega) (.int .i64 0)).far (p := ⟨p, 6, none⟩) (show w.heap.size ≠ p by omega) (.int .u32 0))
   have hc : candE l = ⟨1, (smallS (wAt l 1) : Int), a, [], [], 0, 0⟩ := by simp [candE, hk0.out, hac.out]
   clear Bn Zn En
   replace hB := hide hB
   replace hE := hide hE
   replace hZ := hide hZ
   replace hc := hide hc
   go_wp2_with fail
   go_meet
   case rel => exact ⟨hE.out, hZ.out, by rw [hc.out]; exact hB.out⟩
  have g1a : (k0 == [105, 110]) = false := beq_eq_false_iff_ne.2 hx1
  have g1b : (k0 != [105, 110]) = true := by simpa using hx1
  by_cases hx2 : k0 = [117, 112]
  ·subst hx2
   have q := qw.out 1 (by decide) W3 (Ext.refl W3)
   replace q := hide q
   go_wp2_with fail
   refine q.out.mono ?_
   rintro e9 w9 ⟨rfl, rfl⟩
   clear q
   have q := DSmall_any (wAt l 1) (hlw.out 1) W3
   replace q := hide q
   go_wp2_with fail
   refine q.out.mono ?_
   rintro e9 V4 ⟨rfl, he4⟩
   have F4 := (Ext.refl W3).trans he4
   clear q he4
   have q := qw.out 2 (by decide) V4 F4
   replace q := hide q
   go_wp2_with fail
   refine q.out.mono ?_
   rintro e9 w9 ⟨rfl, rfl⟩
   clear q
   have Bn := B.out.ext F4
   have Zn := Z3.out.ext F4
   have En := E3.out.trans F4
   have c0 : V4.cell? ⟨p, 0, none⟩ = some (.int .i64 0) := Bn.cell 0
   have c1 : V4.cell? ⟨p, 1, none⟩ = some (.int .i64 0) := Bn.cell 1
   have c2 : V4.cell? ⟨p, 2, none⟩ = some (.string ⟨#[]⟩) := Bn.cell 2
   have c3 : V4.cell? ⟨p, 3, none⟩ = some (.string ⟨#[]⟩) := Bn.cell 3
   have c4 : V4.cell? ⟨p, 4, none⟩ = some (.string ⟨#[]⟩) := Bn.cell 4
   have c5 : V4.cell? ⟨p, 5, none⟩ = some (.int .i64 0) := Bn.cell 5
   have c6 : V4.cell? ⟨p, 6, none⟩ = some (.int .u32 0) := Bn.cell 6
   have cf := fun i => Bn.frozen i
   have hB := Bn.fill7 (.int .i64 2) (.int .i64 (smallS (wAt l 1) : Int)) (.string ⟨#[]⟩) (.string ⟨(wAt l 2).toArray⟩) (.string ⟨#[]⟩) (.int .i64 0) (.int .u32 0)
   have hE := En.set7 (Nat.le_of_lt hpw) (.int .i64 2) (.int .i64 (smallS (wAt l 1) : Int)) (.string ⟨#[]⟩) (.string ⟨(wAt l 2).toArray⟩) (.string ⟨#[]⟩) (.int .i64 0) (.int .u32 0)
   have hZ := (((((((Zn.far (p := ⟨p, 0, none⟩) (show w.heap.size ≠ p by omega) (.int .i64 2)).far (p := ⟨p, 1, none⟩) (show w.heap.size ≠ p by omega) (.int .i64 (smallS (wAt l 1) : Int))).far (p := ⟨p, 2, none⟩) (show w.heap.size ≠ p by omega) (.string ⟨#[]⟩)).far (p := ⟨p, 3, none⟩) (show w.heap.size ≠ p by omega) (.string ⟨(wAt l 2).toArray⟩)).far (p := ⟨p, 4, none⟩) (show w.heap.size ≠ p by omega) (.string ⟨#[]⟩)).far (p := ⟨p, 5, none⟩) (show w.heap.size ≠ p by omega) (.int .i64 0)).far (p := ⟨p, 6, none⟩) (show w.heap.size ≠ p by omega) (.int .u32 0))
   have hc : candE l = ⟨2, (smallS (wAt l 1) : Int), [], wAt l 2, [], 0, 0⟩ := by simp [candE, hk0.out]
   clear Bn Zn En
   replace hB := hide hB
   replace hE := hide hE
   replace hZ := hide hZ
   replace hc := hide hc
   go_wp2_with fail
   go_meet
   case rel => exact ⟨hE.out, hZ.out, by rw [hc.out]; exact hB.out⟩
  have g2a : (k0 == [117, 112]) = false := beq_eq_false_iff_ne.2 hx2
  have g2b : (k0 != [117, 112]) = true := by simpa using hx2
  by_cases hx3 : k0 = [114, 101, 102, 117, 115, 101]
  ·subst hx3
   have q := qw.out 1 (by decide) W3 (Ext.refl W3)
   replace q := hide q
   go_wp2_with fail
   refine q.out.mono ?_
   rintro e9 w9 ⟨rfl, rfl⟩
   clear q
   have Bn := B.out.ext (Ext.refl W3)
   have Zn := Z3.out.ext (Ext.refl W3)
   have En := E3.out.trans (Ext.refl W3)
   have c0 : W3.cell? ⟨p, 0, none⟩ = some (.int .i64 0) := Bn.cell 0
   have c1 : W3.cell? ⟨p, 1, none⟩ = some (.int .i64 0) := Bn.cell 1
   have c2 : W3.cell? ⟨p, 2, none⟩ = some (.string ⟨#[]⟩) := Bn.cell 2
   have c3 : W3.cell? ⟨p, 3, none⟩ = some (.string ⟨#[]⟩) := Bn.cell 3
   have c4 : W3.cell? ⟨p, 4, none⟩ = some (.string ⟨#[]⟩) := Bn.cell 4
   have c5 : W3.cell? ⟨p, 5, none⟩ = some (.int .i64 0) := Bn.cell 5
   have c6 : W3.cell? ⟨p, 6, none⟩ = some (.int .u32 0) := Bn.cell 6
   have cf := fun i => Bn.frozen i
   have hB := Bn.fill7 (.int .i64 3) (.int .i64 0) (.string ⟨#[]⟩) (.string ⟨(wAt l 1).toArray⟩) (.string ⟨#[]⟩) (.int .i64 0) (.int .u32 0)
   have hE := En.set7 (Nat.le_of_lt hpw) (.int .i64 3) (.int .i64 0) (.string ⟨#[]⟩) (.string ⟨(wAt l 1).toArray⟩) (.string ⟨#[]⟩) (.int .i64 0) (.int .u32 0)
   have hZ := (((((((Zn.far (p := ⟨p, 0, none⟩) (show w.heap.size ≠ p by omega) (.int .i64 3)).far (p := ⟨p, 1, none⟩) (show w.heap.size ≠ p by omega) (.int .i64 0)).far (p := ⟨p, 2, none⟩) (show w.heap.size ≠ p by omega) (.string ⟨#[]⟩)).far (p := ⟨p, 3, none⟩) (show w.heap.size ≠ p by omega) (.string ⟨(wAt l 1).toArray⟩)).far (p := ⟨p, 4, none⟩) (show w.heap.size ≠ p by omega) (.string ⟨#[]⟩)).far (p := ⟨p, 5, none⟩) (show w.heap.size ≠ p by omega) (.int .i64 0)).far (p := ⟨p, 6, none⟩) (show w.heap.size ≠ p by omega) (.int .u32 0))
   have hc : candE l = ⟨3, 0, [], wAt l 1, [], 0, 0⟩ := by simp [candE, hk0.out]
   clear Bn Zn En
   replace hB := hide hB
   replace hE := hide hE
   replace hZ := hide hZ
   replace hc := hide hc
   go_wp2_with fail
   go_meet
   case rel => exact ⟨hE.out, hZ.out, by rw [hc.out]; exact hB.out⟩
  have g3a : (k0 == [114, 101, 102, 117, 115, 101]) = false := beq_eq_false_iff_ne.2 hx3
  have g3b : (k0 != [114, 101, 102, 117, 115, 101]) = true := by simpa using hx3
  by_cases hx4 : k0 = [100, 97, 116, 97]
  ·subst hx4
   have q := qw.out 1 (by decide) W3 (Ext.refl W3)
   replace q := hide q
   go_wp2_with fail
   refine q.out.mono ?_
   rintro e9 w9 ⟨rfl, rfl⟩
   clear q
   have q := DSmall_any (wAt l 1) (hlw.out 1) W3
   replace q := hide q
   go_wp2_with fail
   refine q.out.mono ?_
   rintro e9 V4 ⟨rfl, he4⟩
   have F4 := (Ext.refl W3).trans he4
   clear q he4
   have q := qw.out 2 (by decide) V4 F4
   replace q := hide q
   go_wp2_with fail
   refine q.out.mono ?_
   rintro e9 w9 ⟨rfl, rfl⟩
   clear q
   have q := DUnh_any (wAt l 2) (hlw.out 2) V4
   replace q := hide q
   go_wp2_with fail
   refine q.out.mono ?_
   rintro e9 V5 ⟨rfl, he5⟩
   have F5 := F4.trans he5
   clear q he5
   have Bn := B.out.ext F5
   have Zn := Z3.out.ext F5
   have En := E3.out.trans F5
   have c0 : V5.cell? ⟨p, 0, none⟩ = some (.int .i64 0) := Bn.cell 0
   have c1 : V5.cell? ⟨p, 1, none⟩ = some (.int .i64 0) := Bn.cell 1
   have c2 : V5.cell? ⟨p, 2, none⟩ = some (.string ⟨#[]⟩) := Bn.cell 2
   have c3 : V5.cell? ⟨p, 3, none⟩ = some (.string ⟨#[]⟩) := Bn.cell 3
   have c4 : V5.cell? ⟨p, 4, none⟩ = some (.string ⟨#[]⟩) := Bn.cell 4
   have c5 : V5.cell? ⟨p, 5, none⟩ = some (.int .i64 0) := Bn.cell 5
   have c6 : V5.cell? ⟨p, 6, none⟩ = some (.int .u32 0) := Bn.cell 6
   have cf := fun i => Bn.frozen i
   have hB := Bn.fill7 (.int .i64 4) (.int .i64 (smallS (wAt l 1) : Int)) (.string ⟨#[]⟩) (.string ⟨#[]⟩) (.string ⟨(unhexD (wAt l 2)).toArray⟩) (.int .i64 0) (.int .u32 0)
   have hE := En.set7 (Nat.le_of_lt hpw) (.int .i64 4) (.int .i64 (smallS (wAt l 1) : Int)) (.string ⟨#[]⟩) (.string ⟨#[]⟩) (.string ⟨(unhexD (wAt l 2)).toArray⟩) (.int .i64 0) (.int .u32 0)
   have hZ := (((((((Zn.far (p := ⟨p, 0, none⟩) (show w.heap.size ≠ p by omega) (.int .i64 4)).far (p := ⟨p, 1, none⟩) (show w.heap.size ≠ p by omega) (.int .i64 (smallS (wAt l 1) : Int))).far (p := ⟨p, 2, none⟩) (show w.heap.size ≠ p by omega) (.string ⟨#[]⟩)).far (p := ⟨p, 3, none⟩) (show w.heap.size ≠ p by omega) (.string ⟨#[]⟩)).far (p := ⟨p, 4, none⟩) (show w.heap.size ≠ p by omega) (.string ⟨(unhexD (wAt l 2)).toArray⟩)).far (p := ⟨p, 5, none⟩) (show w.heap.size ≠ p by omega) (.int .i64 0)).far (p := ⟨p, 6, none⟩) (show w.heap.size ≠ p by omega) (.int .u32 0))
   have hc : candE l = ⟨4, (smallS (wAt l 1) : Int), [], [], unhexD (wAt l 2), 0, 0⟩ := by simp [candE, hk0.out]
   clear Bn Zn En
   replace hB := hide hB
   replace hE := hide hE
   replace hZ := hide hZ
   replace hc := hide hc
   go_wp2_with fail
   go_meet
   case rel => exact ⟨hE.out, hZ.out, by rw [hc.out]; exact hB.out⟩
  have g4a : (k0 == [100, 97, 116, 97]) = false := beq_eq_false_iff_ne.2 hx4
  have g4b : (k0 != [100, 97, 116, 97]) = true := by simpa using hx4
  by_cases hx5 : k0 = [99, 108, 111, 115, 101]
  ·subst hx5
   have q := qw.out 1 (by decide) W3 (Ext.refl W3)
   replace q := hide q
   go_wp2_with fail
   refine q.out.mono ?_
   rintro e9 w9 ⟨rfl, rfl⟩
   clear q
   have q := DSmall_any (wAt l 1) (hlw.out 1) W3
   replace q := hide q
   go_wp2_with fail
   refine q.out.mono ?_
   rintro e9 V4 ⟨rfl, he4⟩
   have F4 := (Ext.refl W3).trans he4
   clear q he4
   have Bn := B.out.ext F4
   have Zn := Z3.out.ext F4
   have En := E3.out.trans F4
   have c0 : V4.cell? ⟨p, 0, none⟩ = some (.int .i64 0) := Bn.cell 0
   have c1 : V4.cell? ⟨p, 1, none⟩ = some (.int .i64 0) := Bn.cell 1
   have c2 : V4.cell? ⟨p, 2, none⟩ = some (.string ⟨#[]⟩) := Bn.cell 2
   have c3 : V4.cell? ⟨p, 3, none⟩ = some (.string ⟨#[]⟩) := Bn.cell 3
   have c4 : V4.cell? ⟨p, 4, none⟩ = some (.string ⟨#[]⟩) := Bn.cell 4
   have c5 : V4.cell? ⟨p, 5, none⟩ = some (.int .i64 0) := Bn.cell 5
   have c6 : V4.cell? ⟨p, 6, none⟩ = some (.int .u32 0) := Bn.cell 6
   have cf := fun i => Bn.frozen i
   have hB := Bn.fill7 (.int .i64 5) (.int .i64 (smallS (wAt l 1) : Int)) (.string ⟨#[]⟩) (.string ⟨#[]⟩) (.string ⟨#[]⟩) (.int .i64 0) (.int .u32 0)
   have hE := En.set7 (Nat.le_of_lt hpw) (.int .i64 5) (.int .i64 (smallS (wAt l 1) : Int)) (.string ⟨#[]⟩) (.string ⟨#[]⟩) (.string ⟨#[]⟩) (.int .i64 0) (.int .u32 0)
   have hZ := (((((((Zn.far (p := ⟨p, 0, none⟩) (show w.heap.size ≠ p by omega) (.int .i64 5)).far (p := ⟨p, 1, none⟩) (show w.heap.size ≠ p by omega) (.int .i64 (smallS (wAt l 1) : Int))).far (p := ⟨p, 2, none⟩) (show w.heap.size ≠ p by omega) (.string ⟨#[]⟩)).far (p := ⟨p, 3, none⟩) (show w.heap.size ≠ p by omega) (.string ⟨#[]⟩)).far (p := ⟨p, 4, none⟩) (show w.heap.size ≠ p by omega) (.string ⟨#[]⟩)).far (p := ⟨p, 5, none⟩) (show w.heap.size ≠ p by omega) (.int .i64 0)).far (p := ⟨p, 6, none⟩) (show w.heap.size ≠ p by omega) (.int .u32 0))
   have hc : candE l = ⟨5, (smallS (wAt l 1) : Int), [], [], [], 0, 0⟩ := by simp [candE, hk0.out]
   clear Bn Zn En
   replace hB := hide hB
   replace hE := hide hE
   replace hZ := hide hZ
   replace hc := hide hc
   go_wp2_with fail
   go_meet
   case rel => exact ⟨hE.out, hZ.out, by rw [hc.out]; exact hB.out⟩
  have g5a : (k0 == [99, 108, 111, 115, 101]) = false := beq_eq_false_iff_ne.2 hx5
  have g5b : (k0 != [99, 108, 111, 115, 101]) = true := by simpa using hx5
  by_cases hx6 : k0 = [116, 105, 99, 107]
  ·subst hx6
   have q := qw.out 1 (by decide) W3 (Ext.refl W3)
   replace q := hide q
   go_wp2_with fail
   refine q.out.mono ?_
   rintro e9 w9 ⟨rfl, rfl⟩
   clear q
   have q := DSmall_any (wAt l 1) (hlw.out 1) W3
   replace q := hide q
   go_wp2_with fail
   refine q.out.mono ?_
   rintro e9 V4 ⟨rfl, he4⟩
   have F4 := (Ext.refl W3).trans he4
   clear q he4
   have Bn := B.out.ext F4
   have Zn := Z3.out.ext F4
   have En := E3.out.trans F4
   have c0 : V4.cell? ⟨p, 0, none⟩ = some (.int .i64 0) := Bn.cell 0
   have c1 : V4.cell? ⟨p, 1, none⟩ = some (.int .i64 0) := Bn.cell 1
   have c2 : V4.cell? ⟨p, 2, none⟩ = some (.string ⟨#[]⟩) := Bn.cell 2
   have c3 : V4.cell? ⟨p, 3, none⟩ = some (.string ⟨#[]⟩) := Bn.cell 3
   have c4 : V4.cell? ⟨p, 4, none⟩ = some (.string ⟨#[]⟩) := Bn.cell 4
   have c5 : V4.cell? ⟨p, 5, none⟩ = some (.int .i64 0) := Bn.cell 5
   have c6 : V4.cell? ⟨p, 6, none⟩ = some (.int .u32 0) := Bn.cell 6
   have cf := fun i => Bn.frozen i
   have hB := Bn.fill7 (.int .i64 6) (.int .i64 0) (.string ⟨#[]⟩) (.string ⟨#[]⟩) (.string ⟨#[]⟩) (.int .i64 (smallS (wAt l 1) : Int)) (.int .u32 0)
   have hE := En.set7 (Nat.le_of_lt hpw) (.int .i64 6) (.int .i64 0) (.string ⟨#[]⟩) (.string ⟨#[]⟩) (.string ⟨#[]⟩) (.int .i64 (smallS (wAt l 1) : Int)) (.int .u32 0)
   have hZ := (((((((Zn.far (p := ⟨p, 0, none⟩) (show w.heap.size ≠ p by omega) (.int .i64 6)).far (p := ⟨p, 1, none⟩) (show w.heap.size ≠ p by omega) (.int .i64 0)).far (p := ⟨p, 2, none⟩) (show w.heap.size ≠ p by omega) (.string ⟨#[]⟩)).far (p := ⟨p, 3, none⟩) (show w.heap.size ≠ p by omega) (.string ⟨#[]⟩)).far (p := ⟨p, 4, none⟩) (show w.heap.size ≠ p by omega) (.string ⟨#[]⟩)).far (p := ⟨p, 5, none⟩) (show w.heap.size ≠ p by omega) (.int .i64 (smallS (wAt l 1) : Int))).far (p := ⟨p, 6, none⟩) (show w.heap.size ≠ p by omega) (.int .u32 0))
   have hc : candE l = ⟨6, 0, [], [], [], (smallS (wAt l 1) : Int), 0⟩ := by simp [candE, hk0.out]
   clear Bn Zn En
   replace hB := hide hB
   replace hE := hide hE
   replace hZ := hide hZ
   replace hc := hide hc
   go_wp2_with fail
   go_meet
   case rel => exact ⟨hE.out, hZ.out, by rw [hc.out]; exact hB.out⟩
  have g6a : (k0 == [116, 105, 99, 107]) = false := beq_eq_false_iff_ne.2 hx6
  have g6b : (k0 != [116, 105, 99, 107]) = true := by simpa using hx6
  by_cases hx7 : k0 = [108, 111, 97, 100]
  ·subst hx7
   have q := qw.out 1 (by decide) W3 (Ext.refl W3)
   replace q := hide q
   go_wp2_with fail
   refine q.out.mono ?_
   rintro e9 w9 ⟨rfl, rfl⟩
   clear q
   have q := DUnh_any (wAt l 1) (hlw.out 1) W3
   replace q := hide q
   go_wp2_with fail
   refine q.out.mono ?_
   rintro e9 V4 ⟨rfl, he4⟩
   have F4 := (Ext.refl W3).trans he4
   clear q he4
   have Bn := B.out.ext F4
   have Zn := Z3.out.ext F4
   have En := E3.out.trans F4
   have c0 : V4.cell? ⟨p, 0, none⟩ = some (.int .i64 0) := Bn.cell 0
   have c1 : V4.cell? ⟨p, 1, none⟩ = some (.int .i64 0) := Bn.cell 1
   have c2 : V4.cell? ⟨p, 2, none⟩ = some (.string ⟨#[]⟩) := Bn.cell 2
   have c3 : V4.cell? ⟨p, 3, none⟩ = some (.string ⟨#[]⟩) := Bn.cell 3
   have c4 : V4.cell? ⟨p, 4, none⟩ = some (.string ⟨#[]⟩) := Bn.cell 4
   have c5 : V4.cell? ⟨p, 5, none⟩ = some (.int .i64 0) := Bn.cell 5
   have c6 : V4.cell? ⟨p, 6, none⟩ = some (.int .u32 0) := Bn.cell 6
   have cf := fun i => Bn.frozen i
   have hB := Bn.fill7 (.int .i64 7) (.int .i64 0) (.string ⟨#[]⟩) (.string ⟨#[]⟩) (.string ⟨(unhexD (wAt l 1)).toArray⟩) (.int .i64 0) (.int .u32 0)
   have hE := En.set7 (Nat.le_of_lt hpw) (.int .i64 7) (.int .i64 0) (.string ⟨#[]⟩) (.string ⟨#[]⟩) (.string ⟨(unhexD (wAt l 1)).toArray⟩) (.int .i64 0) (.int .u32 0)
   have hZ := (((((((Zn.far (p := ⟨p, 0, none⟩) (show w.heap.size ≠ p by omega) (.int .i64 7)).far (p := ⟨p, 1, none⟩) (show w.heap.size ≠ p by omega) (.int .i64 0)).far (p := ⟨p, 2, none⟩) (show w.heap.size ≠ p by omega) (.string ⟨#[]⟩)).far (p := ⟨p, 3, none⟩) (show w.heap.size ≠ p by omega) (.string ⟨#[]⟩)).far (p := ⟨p, 4, none⟩) (show w.heap.size ≠ p by omega) (.string ⟨(unhexD (wAt l 1)).toArray⟩)).far (p := ⟨p, 5, none⟩) (show w.heap.size ≠ p by omega) (.int .i64 0)).far (p := ⟨p, 6, none⟩) (show w.heap.size ≠ p by omega) (.int .u32 0))
   have hc : candE l = ⟨7, 0, [], [], unhexD (wAt l 1), 0, 0⟩ := by simp [candE, hk0.out]
   clear Bn Zn En
   replace hB := hide hB
   replace hE := hide hE
   replace hZ := hide hZ
   replace hc := hide hc
   go_wp2_with fail
   go_meet
   case rel => exact ⟨hE.out, hZ.out, by rw [hc.out]; exact hB.out⟩
  have g7a : (k0 == [108, 111, 97, 100]) = false := beq_eq_false_iff_ne.2 hx7
  have g7b : (k0 != [108, 111, 97, 100]) = true := by simpa using hx7
  by_cases hx8 : k0 = [97, 115, 107]
  ·subst hx8
   have q := qw.out 1 (by decide) W3 (Ext.refl W3)
   replace q := hide q
   go_wp2_with fail
   refine q.out.mono ?_
   rintro e9 w9 ⟨rfl, rfl⟩
   clear q
   have q := DUnh_any (wAt l 1) (hlw.out 1) W3
   replace q := hide q
   go_wp2_with fail
   refine q.out.mono ?_
   rintro e9 V4 ⟨rfl, he4⟩
   have F4 := (Ext.refl W3).trans he4
   clear q he4
   have Bn := B.out.ext F4
   have Zn := Z3.out.ext F4
   have En := E3.out.trans F4
   have c0 : V4.cell? ⟨p, 0, none⟩ = some (.int .i64 0) := Bn.cell 0
   have c1 : V4.cell? ⟨p, 1, none⟩ = some (.int .i64 0) := Bn.cell 1
   have c2 : V4.cell? ⟨p, 2, none⟩ = some (.string ⟨#[]⟩) := Bn.cell 2
   have c3 : V4.cell? ⟨p, 3, none⟩ = some (.string ⟨#[]⟩) := Bn.cell 3
   have c4 : V4.cell? ⟨p, 4, none⟩ = some (.string ⟨#[]⟩) := Bn.cell 4
   have c5 : V4.cell? ⟨p, 5, none⟩ = some (.int .i64 0) := Bn.cell 5
   have c6 : V4.cell? ⟨p, 6, none⟩ = some (.int .u32 0) := Bn.cell 6
   have cf := fun i => Bn.frozen i
   have hB := Bn.fill7 (.int .i64 8) (.int .i64 0) (.string ⟨#[]⟩) (.string ⟨#[]⟩) (.string ⟨(unhexD (wAt l 1)).toArray⟩) (.int .i64 0) (.int .u32 0)
   have hE := En.set7 (Nat.le_of_lt hpw) (.int .i64 8) (.int .i64 0) (.string ⟨#[]⟩) (.string ⟨#[]⟩) (.string ⟨(unhexD (wAt l 1)).toArray⟩) (.int .i64 0) (.int .u32 0)
   have hZ := (((((((Zn.far (p := ⟨p, 0, none⟩) (show w.heap.size ≠ p by omega) (.int .i64 8)).far (p := ⟨p, 1, none⟩) (show w.heap.size ≠ p by omega) (.int .i64 0)).far (p := ⟨p, 2, none⟩) (show w.heap.size ≠ p by omega) (.string ⟨#[]⟩)).far (p := ⟨p, 3, none⟩) (show w.heap.size ≠ p by omega) (.string ⟨#[]⟩)).far (p := ⟨p, 4, none⟩) (show w.heap.size ≠ p by omega) (.string ⟨(unhexD (wAt l 1)).toArray⟩)).far (p := ⟨p, 5, none⟩) (show w.heap.size ≠ p by omega) (.int .i64 0)).far (p := ⟨p, 6, none⟩) (show w.heap.size ≠ p by omega) (.int .u32 0))
   have hc : candE l = ⟨8, 0, [], [], unhexD (wAt l 1), 0, 0⟩ := by simp [candE, hk0.out]
   clear Bn Zn En
   replace hB := hide hB
   replace hE := hide hE
   replace hZ := hide hZ
   replace hc := hide hc
   go_wp2_with fail
   go_meet
   case rel => exact ⟨hE.out, hZ.out, by rw [hc.out]; exact hB.out⟩
  have g8a : (k0 == [97, 115, 107]) = false := beq_eq_false_iff_ne.2 hx8
  have g8b : (k0 != [97, 115, 107]) = true := by simpa using hx8
  by_cases hx9 : k0 = [100, 114, 97, 119]
  ·subst hx9
   have q := qw.out 1 (by decide) W3 (Ext.refl W3)
   replace q := hide q
   go_wp2_with fail
   refine q.out.mono ?_
   rintro e9 w9 ⟨rfl, rfl⟩
   clear q
   have q := DSmall_any (wAt l 1) (hlw.out 1) W3
   replace q := hide q
   go_wp2_with fail
   refine q.out.mono ?_
   rintro e9 V4 ⟨rfl, he4⟩
   have F4 := (Ext.refl W3).trans he4
   clear q he4
   have hsl := smallS_le (wAt l 1)
   have hw : IntKind.u32.wrap (smallS (wAt l 1) : Int) = (smallS (wAt l 1) : Int) := by rw [IntKind.wrap_u32]; omega
   have hv : (UInt32.ofNat (smallS (wAt l 1))).toNat = smallS (wAt l 1) := by simp [UInt32.toNat_ofNat]; omega
   clear hsl
   replace hv := hide hv
   have Bn := B.out.ext F4
   have Zn := Z3.out.ext F4
   have En := E3.out.trans F4
   have c0 : V4.cell? ⟨p, 0, none⟩ = some (.int .i64 0) := Bn.cell 0
   have c1 : V4.cell? ⟨p, 1, none⟩ = some (.int .i64 0) := Bn.cell 1
   have c2 : V4.cell? ⟨p, 2, none⟩ = some (.string ⟨#[]⟩) := Bn.cell 2
   have c3 : V4.cell? ⟨p, 3, none⟩ = some (.string ⟨#[]⟩) := Bn.cell 3
   have c4 : V4.cell? ⟨p, 4, none⟩ = some (.string ⟨#[]⟩) := Bn.cell 4
   have c5 : V4.cell? ⟨p, 5, none⟩ = some (.int .i64 0) := Bn.cell 5
   have c6 : V4.cell? ⟨p, 6, none⟩ = some (.int .u32 0) := Bn.cell 6
   have cf := fun i => Bn.frozen i
   have hB := Bn.fill7 (.int .i64 9) (.int .i64 0) (.string ⟨#[]⟩) (.string ⟨#[]⟩) (.string ⟨#[]⟩) (.int .i64 0) (.int .u32 (smallS (wAt l 1) : Int))
   have hE := En.set7 (Nat.le_of_lt hpw) (.int .i64 9) (.int .i64 0) (.string ⟨#[]⟩) (.string ⟨#[]⟩) (.string ⟨#[]⟩) (.int .i64 0) (.int .u32 (smallS (wAt l 1) : Int))
   have hZ := (((((((Zn.far (p := ⟨p, 0, none⟩) (show w.heap.size ≠ p by omega) (.int .i64 9)).far (p := ⟨p, 1, none⟩) (show w.heap.size ≠ p by omega) (.int .i64 0)).far (p := ⟨p, 2, none⟩) (show w.heap.size ≠ p by omega) (.string ⟨#[]⟩)).far (p := ⟨p, 3, none⟩) (show w.heap.size ≠ p by omega) (.string ⟨#[]⟩)).far (p := ⟨p, 4, none⟩) (show w.heap.size ≠ p by omega) (.string ⟨#[]⟩)).far (p := ⟨p, 5, none⟩) (show w.heap.size ≠ p by omega) (.int .i64 0)).far (p := ⟨p, 6, none⟩) (show w.heap.size ≠ p by omega) (.int .u32 (smallS (wAt l 1) : Int)))
   have hc : candE l = ⟨9, 0, [], [], [], 0, UInt32.ofNat (smallS (wAt l 1))⟩ := by simp [candE, hk0.out]
   clear Bn Zn En
   replace hB := hide hB
   replace hE := hide hE
   replace hZ := hide hZ
   replace hc := hide hc
   go_wp2_with fail
   go_meet
   case rel => exact ⟨hE.out, hZ.out, by rw [hc.out]; simp only [evCs, hv.out]; exact hB.out⟩
  have g9a : (k0 == [100, 114, 97, 119]) = false := beq_eq_false_iff_ne.2 hx9
  have g9b : (k0 != [100, 114, 97, 119]) = true := by simpa using hx9
  by_cases hx10 : k0 = [100, 114, 97, 105, 110]
  ·subst hx10
   have Bn := B.out.ext (Ext.refl W3)
   have Zn := Z3.out.ext (Ext.refl W3)
   have En := E3.out.trans (Ext.refl W3)
   have c0 : W3.cell? ⟨p, 0, none⟩ = some (.int .i64 0) := Bn.cell 0
   have c1 : W3.cell? ⟨p, 1, none⟩ = some (.int .i64 0) := Bn.cell 1
   have c2 : W3.cell? ⟨p, 2, none⟩ = some (.string ⟨#[]⟩) := Bn.cell 2
   have c3 : W3.cell? ⟨p, 3, none⟩ = some (.string ⟨#[]⟩) := Bn.cell 3
   have c4 : W3.cell? ⟨p, 4, none⟩ = some (.string ⟨#[]⟩) := Bn.cell 4
   have c5 : W3.cell? ⟨p, 5, none⟩ = some (.int .i64 0) := Bn.cell 5
   have c6 : W3.cell? ⟨p, 6, none⟩ = some (.int .u32 0) := Bn.cell 6
   have cf := fun i => Bn.frozen i
   have hB := Bn.fill7 (.int .i64 10) (.int .i64 0) (.string ⟨#[]⟩) (.string ⟨#[]⟩) (.string ⟨#[]⟩) (.int .i64 0) (.int .u32 0)
   have hE := En.set7 (Nat.le_of_lt hpw) (.int .i64 10) (.int .i64 0) (.string ⟨#[]⟩) (.string ⟨#[]⟩) (.string ⟨#[]⟩) (.int .i64 0) (.int .u32 0)
   have hZ := (((((((Zn.far (p := ⟨p, 0, none⟩) (show w.heap.size ≠ p by omega) (.int .i64 10)).far (p := ⟨p, 1, none⟩) (show w.heap.size ≠ p by omega) (.int .i64 0)).far (p := ⟨p, 2, none⟩) (show w.heap.size ≠ p by omega) (.string ⟨#[]⟩)).far (p := ⟨p, 3, none⟩) (show w.heap.size ≠ p by omega) (.string ⟨#[]⟩)).far (p := ⟨p, 4, none⟩) (show w.heap.size ≠ p by omega) (.string ⟨#[]⟩)).far (p := ⟨p, 5, none⟩) (show w.heap.size ≠ p by omega) (.int .i64 0)).far (p := ⟨p, 6, none⟩) (show w.heap.size ≠ p by omega) (.int .u32 0))
   have hc : candE l = ⟨10, 0, [], [], [], 0, 0⟩ := by simp [candE, hk0.out]
   clear Bn Zn En
   replace hB := hide hB
   replace hE := hide hE
   replace hZ := hide hZ
   replace hc := hide hc
   go_wp2_with fail
   go_meet
   case rel => exact ⟨hE.out, hZ.out, by rw [hc.out]; exact hB.out⟩
  have g10a : (k0 == [100, 114, 97, 105, 110]) = false := beq_eq_false_iff_ne.2 hx10
  have g10b : (k0 != [100, 114, 97, 105, 110]) = true := by simpa using hx10
  have hc : candE l = zeroEv := by simp [candE, hk0.out, hx1, hx2, hx3, hx4, hx5, hx6, hx7, hx8, hx9, hx10]
  clear hx1 hx2 hx3 hx4 hx5 hx6 hx7 hx8 hx9 hx10
  replace hc := hide hc
  go_wp2_with fail
  go_meet
  case rel => exact ⟨E3.out, Z3.out, by rw [hc.out]; exact B.out⟩
 case rest =>
  clear B E3 Z3 qw hk0 hlw hll
  obtain ⟨E, Z, B⟩ := hcut
  have qL := fun W => DLine_any (candE l) W
  obtain ⟨c, hc⟩ : ∃ c, candE l = c := ⟨_, rfl⟩
  have hdd : ddE s l = if evT c = (s, 0) then (c, true) else (zeroEv, false) := by unfold ddE; rw [hc]
  rw [hc] at qL B
  obtain ⟨t, f, htf⟩ : ∃ t f, evT c = (t, f) := ⟨_, _, rfl⟩
  rw [htf] at qL hdd
  clear hc htf
  have hN : ¬ (t = s ∧ f = 0) → ddE s l = (zeroEv, false) := fun h => by rw [hdd, if_neg]; intro h9; injection h9 with h1 h2; exact h ⟨h1, h2⟩
  have hY : t = s → f = 0 → ddE s l = (c, true) := fun h1 h2 => by rw [hdd, if_pos]; rw [h1, h2]
  clear hdd
  obtain ⟨kd, cn, ad, pr, by_, tk, dr⟩ := c
  simp only [evCs] at B qL
  have c0 : wc.cell? ⟨p, 0, none⟩ = some (.int .i64 kd) := B.cell 0
  have c1 : wc.cell? ⟨p, 1, none⟩ = some (.int .i64 cn) := B.cell 1
  have c2 : wc.cell? ⟨p, 2, none⟩ = some (.string ⟨ad.toArray⟩) := B.cell 2
  have c3 : wc.cell? ⟨p, 3, none⟩ = some (.string ⟨pr.toArray⟩) := B.cell 3
  have c4 : wc.cell? ⟨p, 4, none⟩ = some (.string ⟨by_.toArray⟩) := B.cell 4
  have c5 : wc.cell? ⟨p, 5, none⟩ = some (.int .i64 tk) := B.cell 5
  have c6 : wc.cell? ⟨p, 6, none⟩ = some (.int .u32 (dr.toNat : Int)) := B.cell 6
  have q := qL wc
  clear qL
  replace q := hide q
  replace E := hide E
  replace Z := hide Z
  replace B := hide B
  replace hN := hide hN
  replace hY := hide hY
  go_wp2_with fail
  refine q.out.mono ?_
  rintro e9 W9 ⟨rfl, he9⟩
  have E9 := E.out.trans he9
  have Z9 := Z.out.ext he9
  have B9 := B.out.ext he9
  clear q he9 E Z B c0 c1 c2 c3 c4 c5 c6
  have r0 : W9.cell? ⟨w.heap.size, 0, none⟩ = some (.int .i64 0) := Z9.cell 0
  have r1 : W9.cell? ⟨w.heap.size, 1, none⟩ = some (.int .i64 0) := Z9.cell 1
  have r2 : W9.cell? ⟨w.heap.size, 2, none⟩ = some (.string ⟨#[]⟩) := Z9.cell 2
  have r3 : W9.cell? ⟨w.heap.size, 3, none⟩ = some (.string ⟨#[]⟩) := Z9.cell 3
  have r4 : W9.cell? ⟨w.heap.size, 4, none⟩ = some (.string ⟨#[]⟩) := Z9.cell 4
  have r5 : W9.cell? ⟨w.heap.size, 5, none⟩ = some (.int .i64 0) := Z9.cell 5
  have r6 : W9.cell? ⟨w.heap.size, 6, none⟩ = some (.int .u32 0) := Z9.cell 6
  have rf := fun i => Z9.frozen i
  by_cases hf : ¬ f = 0
  ·have b2 : (f == 0) = false := beq_eq_false_iff_ne.2 hf
   have b3 : (f != 0) = true := by simpa using hf
   have b4 : decide (f = 0) = false := decide_eq_false hf
   have hd := hN.out (fun h => hf h.2)
   have hE := E9.set7 (Nat.le_refl _) (.int .i64 0) (.int .i64 0) (.string ⟨#[]⟩) (.string ⟨#[]⟩) (.string ⟨#[]⟩) (.int .i64 0) (.int .u32 0)
   have hRZ := Z9.fill7 (.int .i64 0) (.int .i64 0) (.string ⟨#[]⟩) (.string ⟨#[]⟩) (.string ⟨#[]⟩) (.int .i64 0) (.int .u32 0)
   have z0 := hRZ.cell 0
   have z1 := hRZ.cell 1
   have z2 := hRZ.cell 2
   have z3 := hRZ.cell 3
   have z4 := hRZ.cell 4
   have z5 := hRZ.cell 5
   have z6 := hRZ.cell 6
   simp at z0 z1 z2 z3 z4 z5 z6
   clear hRZ Z9 B9 E9 hN hY
   replace hE := hide hE
   replace hd := hide hd
   go_wp2
   exact bodyPost_ret (v := .tuple #[.agg #[.int .i64 0, .int .i64 0, .string ⟨#[]⟩, .string ⟨#[]⟩, .string ⟨#[]⟩, .int .i64 0, .int .u32 0], .bool false]) (by simp [results, Tryz.results24, go_sem, z0, z1, z2, z3, z4, z5, z6]) rfl ⟨by rw [hd.out]; rfl, hE.out⟩
  replace hf := Classical.not_not.1 hf
  subst hf
  by_cases hts : ¬ t = s
  ·have b2 : (t == s) = false := beq_eq_false_iff_ne.2 hts
   have b3 : (t != s) = true := by simpa using hts
   have hd := hN.out (fun h => hts h.1)
   have hE := E9.set7 (Nat.le_refl _) (.int .i64 0) (.int .i64 0) (.string ⟨#[]⟩) (.string ⟨#[]⟩) (.string ⟨#[]⟩) (.int .i64 0) (.int .u32 0)
   have hRZ := Z9.fill7 (.int .i64 0) (.int .i64 0) (.string ⟨#[]⟩) (.string ⟨#[]⟩) (.string ⟨#[]⟩) (.int .i64 0) (.int .u32 0)
   have z0 := hRZ.cell 0
   have z1 := hRZ.cell 1
   have z2 := hRZ.cell 2
   have z3 := hRZ.cell 3
   have z4 := hRZ.cell 4
   have z5 := hRZ.cell 5
   have z6 := hRZ.cell 6
   simp at z0 z1 z2 z3 z4 z5 z6
   clear hRZ Z9 B9 E9 hN hY
   replace hE := hide hE
   replace hd := hide hd
   go_wp2
   exact bodyPost_ret (v := .tuple #[.agg #[.int .i64 0, .int .i64 0, .string ⟨#[]⟩, .string ⟨#[]⟩, .string ⟨#[]⟩, .int .i64 0, .int .u32 0], .bool false]) (by simp [results, Tryz.results24, go_sem, z0, z1, z2, z3, z4, z5, z6]) rfl ⟨by rw [hd.out]; rfl, hE.out⟩
  replace hts := Classical.not_not.1 hts
  subst hts
  have hd := hY.out rfl rfl
  have c0 : W9.cell? ⟨p, 0, none⟩ = some (.int .i64 kd) := B9.cell 0
  have c1 : W9.cell? ⟨p, 1, none⟩ = some (.int .i64 cn) := B9.cell 1
  have c2 : W9.cell? ⟨p, 2, none⟩ = some (.string ⟨ad.toArray⟩) := B9.cell 2
  have c3 : W9.cell? ⟨p, 3, none⟩ = some (.string ⟨pr.toArray⟩) := B9.cell 3
  have c4 : W9.cell? ⟨p, 4, none⟩ = some (.string ⟨by_.toArray⟩) := B9.cell 4
  have c5 : W9.cell? ⟨p, 5, none⟩ = some (.int .i64 tk) := B9.cell 5
  have c6 : W9.cell? ⟨p, 6, none⟩ = some (.int .u32 (dr.toNat : Int)) := B9.cell 6
  have hE := E9.set7 (Nat.le_refl _) (.int .i64 kd) (.int .i64 cn) (.string ⟨ad.toArray⟩) (.string ⟨pr.toArray⟩) (.string ⟨by_.toArray⟩) (.int .i64 tk) (.int .u32 (dr.toNat : Int))
  have hRZ := Z9.fill7 (.int .i64 kd) (.int .i64 cn) (.string ⟨ad.toArray⟩) (.string ⟨pr.toArray⟩) (.string ⟨by_.toArray⟩) (.int .i64 tk) (.int .u32 (dr.toNat : Int))
  have z0 := hRZ.cell 0
  have z1 := hRZ.cell 1
  have z2 := hRZ.cell 2
  have z3 := hRZ.cell 3
  have z4 := hRZ.cell 4
  have z5 := hRZ.cell 5
  have z6 := hRZ.cell 6
  simp at z0 z1 z2 z3 z4 z5 z6
  clear hRZ Z9 B9 E9 hN hY
  replace hE := hide hE
  replace hd := hide hd
  go_wp2
  exact bodyPost_ret (v := .tuple #[.agg #[.int .i64 kd, .int .i64 cn, .string ⟨ad.toArray⟩, .string ⟨pr.toArray⟩, .string ⟨by_.toArray⟩, .int .i64 tk, .int .u32 (dr.toNat : Int)], .bool true]) (by simp [results, Tryz.results24, go_sem, z0, z1, z2, z3, z4, z5, z6]) rfl ⟨by rw [hd.out]; rfl, hE.out⟩
end
section
open Go.RowKit
set_option linter.unusedVariables false
set_option linter.unusedSimpArgs false
def EEv : Enc EvS := Enc.cells evCs EvIn 7 (fun _ => rfl) (fun x u hu => by simp only [evCs, List.mem_cons, List.not_mem_nil, or_false] at hu; rcases hu with rfl | rfl | rfl | rfl | rfl | rfl | rfl <;> rfl)
theorem EEv.at {w : World} {S : Nat → Prop} {a : Option Addr} {l : List EvS} (h : Sl EEv w S a l) (k : Nat) (hk : k < l.length) :
  ∃ b off, a = some ⟨b, off, none⟩ ∧ S b ∧ EvIn l[k] ∧ ∀ j u, (evCs l[k])[j]? = some u → w.cell? ⟨b, off + k * 7 + j, none⟩ = some u := by
 obtain ⟨b, off, cs, rfl, hb, ⟨rfl, hi⟩, hc⟩ := h.at k hk
 exact ⟨b, off, rfl, hb, hi, hc⟩
theorem okEv : ElemOk Tryz.prog 22 31 EEv.sz 80 := elemOk (z := .agg #[.int .i64 0, .int .i64 0, .string ⟨#[]⟩, .string ⟨#[]⟩, .string ⟨#[]⟩, .int .i64 0, .int .u32 0]) Tryz.underlying22 (by kernel_rfl) rfl
theorem i64_of {x : Int} (h1 : 0 ≤ x) (h2 : x ≤ 1048576) : i64 x := by unfold i64; omega
theorem nameOk_len {s : List UInt8} (h : nameOk s = true) : s.length ≤ 16 := by
 unfold nameOk at h
 simp only [Bool.and_eq_true, decide_eq_true_eq] at h
 exact h.2.1
theorem EvIn.mk' {e : EvS} (k c : Int) (a p b : List UInt8) (t : Int) (d : UInt32) (he : e = ⟨k, c, a, p, b, t, d⟩) (h1 : 0 ≤ k ∧ k ≤ 10) (h2 : 0 ≤ c ∧ c ≤ 64) (h3 : a.length ≤ 16) (h4 : p.length ≤ 16) (h5 : b.length ≤ 65536) (h6 : 0 ≤ t ∧ t ≤ 4096) : EvIn e := by
 subst he
 exact ⟨i64_of h1.1 (by show k ≤ _; omega), i64_of h2.1 (by show c ≤ _; omega), by show a.length ≤ _; omega, by show p.length ≤ _; omega, by show b.length ≤ _; omega, i64_of h6.1 (by show t ≤ _; omega)⟩
theorem evOk_in {e : EvS} (h : evOk e = true) : EvIn e := by
 unfold evOk connOk at h
 by_cases k1 : e.kind = 1
 ·rw [if_pos k1] at h
  simp only [Bool.and_eq_true, decide_eq_true_eq] at h
  obtain ⟨he, hc, ha⟩ := h
  exact EvIn.mk' _ _ _ _ _ _ _ he (by decide) ⟨by omega, by omega⟩ (by rcases ha with h | h <;> omega) (by simp) (by simp) (by simp)
 rw [if_neg k1] at h
 by_cases k2 : e.kind = 2
 ·rw [if_pos k2] at h
  simp only [Bool.and_eq_true, decide_eq_true_eq] at h
  obtain ⟨he, hc, ha⟩ := h
  exact EvIn.mk' _ _ _ _ _ _ _ he (by decide) ⟨by omega, by omega⟩ (by simp) (nameOk_len ha) (by simp) (by simp)
 rw [if_neg k2] at h
 by_cases k3 : e.kind = 3
 ·rw [if_pos k3] at h
  simp only [Bool.and_eq_true, decide_eq_true_eq] at h
  obtain ⟨he, ha⟩ := h
  exact EvIn.mk' _ _ _ _ _ _ _ he (by decide) (by decide) (by simp) (nameOk_len ha) (by simp) (by simp)
 rw [if_neg k3] at h
 by_cases k4 : e.kind = 4
 ·rw [if_pos k4] at h
  simp only [Bool.and_eq_true, decide_eq_true_eq] at h
  obtain ⟨he, hc, ha⟩ := h
  exact EvIn.mk' _ _ _ _ _ _ _ he (by decide) ⟨by omega, by omega⟩ (by simp) (by simp) (by omega) (by simp)
 rw [if_neg k4] at h
 by_cases k5 : e.kind = 5
 ·rw [if_pos k5] at h
  simp only [Bool.and_eq_true, decide_eq_true_eq] at h
  obtain ⟨he, hc⟩ := h
  exact EvIn.mk' _ _ _ _ _ _ _ he (by decide) ⟨by omega, by omega⟩ (by simp) (by simp) (by simp) (by simp)
 rw [if_neg k5] at h
 by_cases k6 : e.kind = 6
 ·rw [if_pos k6] at h
  simp only [Bool.and_eq_true, decide_eq_true_eq] at h
  obtain ⟨he, ht⟩ := h
  exact EvIn.mk' _ _ _ _ _ _ _ he (by decide) (by decide) (by simp) (by simp) (by simp) (⟨by omega, by omega⟩)
 rw [if_neg k6] at h
 by_cases k7 : e.kind = 7
 ·rw [if_pos k7] at h
  simp only [Bool.and_eq_true, decide_eq_true_eq] at h
  obtain ⟨he, hb⟩ := h
  exact EvIn.mk' _ _ _ _ _ _ _ he (by decide) (by decide) (by simp) (by simp) (hb) (by simp)
 rw [if_neg k7] at h
 by_cases k8 : e.kind = 8
 ·rw [if_pos k8] at h
  simp only [Bool.and_eq_true, decide_eq_true_eq] at h
  obtain ⟨he, hb⟩ := h
  exact EvIn.mk' _ _ _ _ _ _ _ he (by decide) (by decide) (by simp) (by simp) (by omega) (by simp)
 rw [if_neg k8] at h
 by_cases k9 : e.kind = 9
 ·rw [if_pos k9] at h
  simp only [Bool.and_eq_true, decide_eq_true_eq] at h
  have he := h
  exact EvIn.mk' _ _ _ _ _ _ _ he (by decide) (by decide) (by simp) (by simp) (by simp) (by simp)
 rw [if_neg k9] at h
 by_cases k10 : e.kind = 10
 ·rw [if_pos k10] at h
  simp only [Bool.and_eq_true, decide_eq_true_eq] at h
  have he := h
  exact EvIn.mk' _ _ _ _ _ _ _ he (by decide) (by decide) (by simp) (by simp) (by simp) (by simp)
 rw [if_neg k10] at h
 cases h
/-- The lines of a text, in a variable. -/
def LinesP (W : World) (p : Nat) (L : List (List UInt8)) : Prop := ∃ b c, Blk W p 63 #[.slice (some ⟨b, 0, none⟩) L.length c] ∧ b < p ∧ ∀ (j : Nat) (hj : j < L.length), W.cell? ⟨b, j, none⟩ = some (.string ⟨L[j].toArray⟩)
theorem LinesP.keep {W W' : World} {p : Nat} {L : List (List UInt8)} (h : LinesP W p L) (hb : ∀ x, x ≤ p → W'.heap[x]? = W.heap[x]?) : LinesP W' p L := by
 obtain ⟨b, c, h1, h2, h3⟩ := h
 exact ⟨b, c, (hb p (by omega)).trans h1, h2, fun j hj => (World.cell?_of_block (a := ⟨b, j, none⟩) (hb b (by omega))).trans (h3 j hj)⟩
/-- What lies in the variables of script.Parse: the lines, the last one's place, the place, the configuration's size, the events; behind them the guard's code. -/
structure PS (w W : World) (p m : Nat) (L : List (List UInt8)) (k cf : Nat) (v : Value) (out : List EvS) : Prop where
  lo : w.heap.size ≤ p
  up : p + 6 ≤ W.heap.size
  ext : Ext w W
  len : L.length = m + 1
  few : m ≤ 1048576
  lines : LinesP W p L
  last : Blk W (p + 1) 3 #[.int .i64 (m : Int)]
  at_ : Blk W (p + 2) 3 #[.int .i64 (k : Int)]
  cfb : Blk W (p + 3) 3 #[.int .i64 (cf : Int)]
  ob : Blk W (p + 4) 22 #[v]
  pe : Blk W (p + 5) 23 #[.int .i64 0]
  own : Own EEv 31 W (p + 6) v out
section
variable {w W W' : World} {p m k cf : Nat} {L : List (List UInt8)} {v : Value} {out : List EvS}
theorem PS.setAt (h : PS w W p m L k cf v out) (k' : Nat) : PS w (W.setCell ⟨p + 2, 0, none⟩ (.int .i64 (k' : Int))) p m L k' cf v out := by
 have h1 := h.lo
 exact ⟨h1, by simpa [World.setCell] using h.up, h.ext.setCell (p := ⟨p + 2, 0, none⟩) (show w.heap.size ≤ p + 2 by omega) _, h.len, h.few, h.lines.keep fun x hx => Below.heap_setCell _ _ _ _ (show x ≠ p + 2 by omega),
  h.last.far (p := ⟨p + 2, 0, none⟩) (show p + 1 ≠ p + 2 by omega) _, by simpa using h.at_.set_ 0 (.int .i64 (k' : Int)), h.cfb.far (p := ⟨p + 2, 0, none⟩) (show p + 3 ≠ p + 2 by omega) _, h.ob.far (p := ⟨p + 2, 0, none⟩) (show p + 4 ≠ p + 2 by omega) _, h.pe.far (p := ⟨p + 2, 0, none⟩) (show p + 5 ≠ p + 2 by omega) _,
  h.own.kept (by simp [World.setCell]) fun b h1 h2 => Below.heap_setCell _ _ _ _ (show b ≠ p + 2 by omega)⟩
theorem PS.setCf (h : PS w W p m L k cf v out) (c' : Nat) : PS w (W.setCell ⟨p + 3, 0, none⟩ (.int .i64 (c' : Int))) p m L k c' v out := by
 have h1 := h.lo
 exact ⟨h1, by simpa [World.setCell] using h.up, h.ext.setCell (p := ⟨p + 3, 0, none⟩) (show w.heap.size ≤ p + 3 by omega) _, h.len, h.few, h.lines.keep fun x hx => Below.heap_setCell _ _ _ _ (show x ≠ p + 3 by omega),
  h.last.far (p := ⟨p + 3, 0, none⟩) (show p + 1 ≠ p + 3 by omega) _, h.at_.far (p := ⟨p + 3, 0, none⟩) (show p + 2 ≠ p + 3 by omega) _, by simpa using h.cfb.set_ 0 (.int .i64 (c' : Int)), h.ob.far (p := ⟨p + 3, 0, none⟩) (show p + 4 ≠ p + 3 by omega) _, h.pe.far (p := ⟨p + 3, 0, none⟩) (show p + 5 ≠ p + 3 by omega) _,
  h.own.kept (by simp [World.setCell]) fun b h1 h2 => Below.heap_setCell _ _ _ _ (show b ≠ p + 3 by omega)⟩
theorem PS.ext' (h : PS w W p m L k cf v out) (he : Ext W W') : PS w W' p m L k cf v out := by
 have hu := h.up
 exact ⟨h.lo, Nat.le_trans hu he.size, h.ext.trans he, h.len, h.few, h.lines.keep fun x hx => he.block x (by omega), h.last.ext he, h.at_.ext he, h.cfb.ext he, h.ob.ext he, h.pe.ext he, h.own.ext he⟩
/-- The events' row, grown, and laid into its variable. -/
theorem PS.pushed {v' : Value} {out' : List EvS} (h : PS w W p m L k cf v out) (hg : W.grownBy W' v.ownBlock) (ho : Own EEv 31 W' (p + 6) v' out') :
  PS w (W'.setCell ⟨p + 4, 0, none⟩ v') p m L k cf v' out' := by
 have h1 := h.lo
 have hu := h.up
 have hn : ∀ x, x < p + 6 → some x ≠ v.ownBlock := fun x hx e => by have := (h.own.lt x e.symm).1; omega
 have hx : Ext w W' := h.ext.push (fun j hj => Nat.le_trans (by omega) (h.own.lt j hj).1) hg
 have hgu := hg.size
 refine ⟨h1, by simp [World.setCell]; omega, hx.setCell (p := ⟨p + 4, 0, none⟩) (show w.heap.size ≤ p + 4 by omega) _, h.len, h.few, (h.lines.keep fun x hx => hg.block x (by omega) (hn x (by omega))).keep fun x hx => Below.heap_setCell _ _ _ _ (show x ≠ p + 4 by omega),
  (h.last.grown hg (hn _ (by omega))).far (p := ⟨p + 4, 0, none⟩) (show p + 1 ≠ p + 4 by omega) _, (h.at_.grown hg (hn _ (by omega))).far (p := ⟨p + 4, 0, none⟩) (show p + 2 ≠ p + 4 by omega) _, (h.cfb.grown hg (hn _ (by omega))).far (p := ⟨p + 4, 0, none⟩) (show p + 3 ≠ p + 4 by omega) _, by simpa using (h.ob.grown hg (hn _ (by omega))).set_ 0 v', (h.pe.grown hg (hn _ (by omega))).far (p := ⟨p + 4, 0, none⟩) (show p + 5 ≠ p + 4 by omega) _,
  ho.kept (by simp [World.setCell]) fun b h1 h2 => Below.heap_setCell _ _ _ _ (show b ≠ p + 4 by omega)⟩
end
def atOf (W : World) (p : Nat) : Nat := match W.cell? ⟨p + 2, 0, none⟩ with | some (.int _ n) => n.toNat | _ => 0
theorem PS.atOf {w W : World} {p m k cf : Nat} {L : List (List UInt8)} {v : Value} {out : List EvS} (h : PS w W p m L k cf v out) : atOf W p = k := by
 have := h.at_.cell 0
 unfold Go.Proofs.YtkinghadgmbhbaaGreatDoor.atOf
 rw [this]
 rfl
/-- What the reading of a script leaves. -/
def ParD (s : List UInt8) (w : World) (p m : Nat) (L : List (List UInt8)) (e : Ending) (W' : World) : Prop :=
 (∃ k cf v out, e = .returned (.tuple #[]) ∧ PS w W' p m L k cf v out ∧ restC s 0 0 L = (s.take cf, out, 0, 0) ∧ cf ≤ s.length) ∨
 (∃ (c : Int) (k cf : Nat) (v : Value) (out : List EvS), e = .panicked (wrongP c) ∧ PS w W' p m L k cf v out ∧ restC s 0 0 L = ([], [], c, k) ∧ c ≠ 0)
theorem sum_drop (L : List (List UInt8)) (k : Nat) (hk : k < L.length) : ((L.drop k).map fun x => x.length + 1).sum = L[k].length + 1 + ((L.drop (k + 1)).map fun x => x.length + 1).sum := by
 rw [List.drop_eq_getElem_cons hk, List.map_cons, List.sum_cons]
set_option maxRecDepth 20000 in
set_option maxHeartbeats 4000000 in
theorem Parse1_any (s : List UInt8) (hs : s.length ≤ 1048576) (w W0 : World) (p m : Nat) (L : List (List UInt8)) (hT : Tab w) (hV : Vars w) (hD : Deb w) (h0 : PS w W0 p m L 0 0 (.slice none 0 0) [])
    (hL : ∀ y ∈ L, y.length ≤ 1048576) (hsum : (L.map fun x => x.length + 1).sum = s.length + 1) :
    Calls Tryz.prog 36 #[.pointer (some ⟨p + 2, 0, none⟩), .pointer (some ⟨p + 1, 0, none⟩), .pointer (some ⟨p, 0, none⟩), .pointer (some ⟨p + 3, 0, none⟩), .pointer (some ⟨p + 4, 0, none⟩)] W0 (ParD s w p m L) := by
  have mixed : Tryz.prog.follows Departure.mixedOrders = true := by kernel_rfl
  have hok : ∀ W k cf v out, PS w W p m L k cf v out → restC s 0 0 L = (s.take cf, out, 0, 0) → cf ≤ s.length → ParD s w p m L (.returned (.tuple #[])) W := fun W k cf v out h1 h2 h3 => .inl ⟨k, cf, v, out, rfl, h1, h2, h3⟩
  have hno : ∀ W c k cf v out, PS w W p m L k cf v out → restC s 0 0 L = ([], [], c, k) → c ≠ 0 → ParD s w p m L (.panicked (wrongP c)) W := fun W c k cf v out h1 h2 h3 => .inr ⟨c, k, cf, v, out, rfl, h1, h2, h3⟩
  generalize ParD s w p m L = Post at *
  replace hok := hide hok
  replace hno := hide hno
  replace hT := hide hT
  replace hV := hide hV
  replace hD := hide hD
  replace h0 := hide h0
  replace hs := hide hs
  replace hL := hide hL
  go_enter Tryz.func36, Tryz.ntmps36
  go_wp2_with fail
  go_loopw [6] (fun s6 wr => ∃ k cf : Nat, PS w wr p m L k cf (.slice none 0 0) [] ∧ k < L.length ∧ restC s 0 0 L = restC s k cf (L.drop k) ∧ cf + ((L.drop k).map fun x => x.length + 1).sum = s.length + 1) (fun _ wr => L.length - atOf wr p)
  case atStart => exact ⟨0, 0, h0.out, by rw [h0.out.len]; omega, rfl, by simpa using hsum⟩
  case round =>
    clear h0
    obtain ⟨k, cf, S, hk, hr, hsm⟩ := hrel
    rw [sum_drop L k hk] at hsm
    have hlen := S.len
    have hfew := S.few
    obtain ⟨b, c, hb, hbp, hlx⟩ := S.lines
    have c0 : wr.cell? ⟨p + 2, 0, none⟩ = some (.int .i64 (k : Int)) := S.at_.cell 0
    have c1 : wr.cell? ⟨p + 1, 0, none⟩ = some (.int .i64 (m : Int)) := S.last.cell 0
    have c2 : wr.cell? ⟨p, 0, none⟩ = some (.slice (some ⟨b, 0, none⟩) L.length c) := hb.cell 0
    have c3 : wr.cell? ⟨p + 3, 0, none⟩ = some (.int .i64 (cf : Int)) := S.cfb.cell 0
    have c4 : wr.cell? ⟨b, k, none⟩ = some (.string ⟨L[k].toArray⟩) := hlx k hk
    have f2 := fun i => S.at_.frozen i
    have f3 := fun i => S.cfb.frozen i
    rw [hlen] at c2
    clear hb hlx
    have hd : L.drop k = L[k] :: L.drop (k + 1) := List.drop_eq_getElem_cons hk
    have hxl := hL.out _ (List.getElem_mem hk)
    have hcfs : cf ≤ s.length := by omega
    generalize L[k] = x at *
    by_cases hkm : k = m
    · subst hkm
      have hd0 : L.drop (k + 1) = [] := List.drop_eq_nil_of_le (by omega)
      rw [hd, hd0, restC_end] at hr
      clear hd hd0 hsm hlen hfew hk hbp hxl hcfs hsum
      replace S := hide S
      replace hr := hide hr
      go_wp2_with fail
      refine (give_any _ _).mono ?_
      rintro e w3 ⟨rfl, rfl⟩
      go_wp2
      exact ⟨rfl, hno.out _ _ _ _ _ _ S.out hr.out (by decide)⟩
    have hkm2 : k < m := by omega
    obtain ⟨y, r, hyr⟩ : ∃ y r, L.drop (k + 1) = y :: r := ⟨_, _, List.drop_eq_getElem_cons (show k + 1 < L.length by omega)⟩
    obtain ⟨k2, hk2⟩ : ∃ n : Nat, n = k + 1 := ⟨_, rfl⟩
    have w1 : IntKind.i64.wrap ((k : Int) + 1) = (k2 : Int) := by rw [IntKind.wrap_i64]; omega
    have b1 : decide (k < m) = true := decide_eq_true hkm2
    have b2 : (k == m) = false := beq_eq_false_iff_ne.2 hkm
    have b3 : decide (k = m) = false := decide_eq_false hkm
    have b4 : ((k : Int) == (m : Int)) = false := beq_eq_false_iff_ne.2 (by omega)
    have hkm3 : k < m + 1 := by omega
    rw [hd, hyr] at hr
    by_cases hxr : x = [114, 117, 110]
    · rw [restC_run s k cf hxr, ← hyr, ← hk2] at hr
      subst hxr
      have S2 := S.setAt k2
      have hkl : k2 < L.length := by omega
      rw [← hk2] at hyr
      clear hd hsm hfew hk hxl hkm hkm2 hsum
      replace S := hide S
      replace S2 := hide S2
      replace hr := hide hr
      replace hcfs := hide hcfs
      replace hk2 := hide hk2
      replace hyr := hide hyr
      replace hkl := hide hkl
      replace hlen := hide hlen
      go_wp2_with fail
      generalize wr.setCell ⟨p + 2, 0, none⟩ (.int .i64 (k2 : Int)) = wa at S2 ⊢
      try simp only [b4]
      clear c0 c1 c2 c3 c4 f2 f3 w1 b1 b2 b3 b4 hkm3 S
      go_loopw [32] (fun s32 wx => ∃ (k : Nat) (v : Value) (out : List EvS), PS w wx p m L k cf v out ∧ k < L.length ∧ restC s 0 0 L = restE s cf k out (L.drop k) ∧ out.length ≤ k) (fun _ wx => L.length - atOf wx p)
      case atStart => exact ⟨k2, _, [], S2.out, hkl.out, by rw [hr.out, hyr.out], Nat.zero_le _⟩
      case round =>
        clear S2 hr hyr hk2 hkl
        obtain ⟨k, v, out, S, hk, hr, hol⟩ := hrel
        rename World => wx
        have hlen := S.len
        have hfew := S.few
        obtain ⟨b, c, hb, hbp, hlx⟩ := S.lines
        have c0 : wx.cell? ⟨p + 2, 0, none⟩ = some (.int .i64 (k : Int)) := S.at_.cell 0
        have c1 : wx.cell? ⟨p + 1, 0, none⟩ = some (.int .i64 (m : Int)) := S.last.cell 0
        have c2 : wx.cell? ⟨p, 0, none⟩ = some (.slice (some ⟨b, 0, none⟩) L.length c) := hb.cell 0
        have c4 : wx.cell? ⟨b, k, none⟩ = some (.string ⟨L[k].toArray⟩) := hlx k hk
        rw [hlen] at c2
        clear hb hlx
        have hd : L.drop k = L[k] :: L.drop (k + 1) := List.drop_eq_getElem_cons hk
        have hxl := hL.out _ (List.getElem_mem hk)
        generalize L[k] = x at *
        by_cases hkm : k = m
        · subst hkm
          have hd0 : L.drop (k + 1) = [] := List.drop_eq_nil_of_le (by omega)
          rw [hd, hd0, restE_end] at hr
          have hkk : k < k + 1 := Nat.lt_succ_self k
          clear hd hd0 hlen hfew hk hbp hxl hol
          by_cases hx0 : x = []
          · subst hx0
            rw [if_pos rfl] at hr
            replace S := hide S
            replace hr := hide hr
            go_wp2_with fail
            go_end0
            exact hok.out _ _ _ _ _ S.out hr.out hcfs.out
          · have e1 : (x == []) = false := beq_eq_false_iff_ne.2 hx0
            have e2 : (x != []) = true := by simpa using hx0
            rw [if_neg hx0] at hr
            replace S := hide S
            replace hr := hide hr
            replace hx0 := hide hx0
            go_wp2_with fail
            refine (give_any _ _).mono ?_
            rintro e w3 ⟨rfl, rfl⟩
            go_wp2
            exact ⟨rfl, hno.out _ _ _ _ _ _ S.out hr.out (by decide)⟩
        have hkm2 : k < m := by omega
        obtain ⟨y, r, hyr⟩ : ∃ y r, L.drop (k + 1) = y :: r := ⟨_, _, List.drop_eq_getElem_cons (show k + 1 < L.length by omega)⟩
        obtain ⟨k2, hk2⟩ : ∃ n : Nat, n = k + 1 := ⟨_, rfl⟩
        have w1 : IntKind.i64.wrap ((k : Int) + 1) = (k2 : Int) := by rw [IntKind.wrap_i64]; omega
        have b1 : decide (k < m) = true := decide_eq_true hkm2
        have hkm3 : k < m + 1 := by omega
        rw [hd, hyr] at hr
        have q := SRead_any x (Nat.le_trans hxl (by decide)) (.inl hxl) wx (hT.out.ext S.ext) (hV.out.ext S.ext) (hD.out.ext S.ext)
        unfold ReadP at q
        cases ho : evO x with
        | none =>
          rw [ho] at q
          rw [restE_bad s cf k out ho] at hr
          clear hd hyr hlen hfew hk hbp hxl hol hkm hkm2 ho
          replace S := hide S
          replace hr := hide hr
          replace q := hide q
          go_wp2_with fail
          refine q.out.mono ?_
          rintro e w3 ⟨rfl, he⟩
          go_wp2
          exact ⟨rfl, hno.out _ _ _ _ _ _ (S.out.ext' he) hr.out (by decide)⟩
        | some ev =>
          rw [ho] at q
          have hein := evOk_in (evO_some ho).1
          have hlong := fun h : out.length = 512 => restE_long s cf k (y := y) (r := r) ho h
          have hon := fun h : out.length ≠ 512 => restE_on s cf k (y := y) (r := r) ho h
          obtain ⟨va, vc, rfl⟩ := S.own.form
          obtain ⟨kd, cn, ad, pr, by_, tk, dr⟩ := ev
          simp only [evCs] at q
          have hkm4 := hide hkm2
          clear hd hfew hbp hxl hkm hkm2 ho
          replace S := hide S
          replace q := hide q
          replace hlong := hide hlong
          replace hon := hide hon
          replace hr := hide hr
          replace hein := hide hein
          replace hyr := hide hyr
          replace hlen := hide hlen
          replace hk := hide hk
          replace hk2 := hide hk2
          replace hol := hide hol
          go_wp2_with fail
          refine q.out.mono ?_
          rintro e W2 ⟨rfl, he⟩
          have N := Blk.new W2 31 #[.int .i64 kd, .int .i64 cn, .string ⟨ad.toArray⟩, .string ⟨pr.toArray⟩, .string ⟨by_.toArray⟩, .int .i64 tk, .int .u32 (dr.toNat : Int)]
          have S3 := (S.out.ext' he).ext' ((Ext.refl W2).alloc (Obj.cells #[.int .i64 kd, .int .i64 cn, .string ⟨ad.toArray⟩, .string ⟨pr.toArray⟩, .string ⟨by_.toArray⟩, .int .i64 tk, .int .u32 (dr.toNat : Int)] 31))
          clear q c0 c1 c2 c4 he b1 hkm3
          go_upto_region 9 with fail
          generalize W2.alloc (Obj.cells #[.int .i64 kd, .int .i64 cn, .string ⟨ad.toArray⟩, .string ⟨pr.toArray⟩, .string ⟨by_.toArray⟩, .int .i64 tk, .int .u32 (dr.toNat : Int)] 31) = W3 at N S3 ⊢
          generalize W2.heap.size = n2 at N ⊢
          have c5 : W3.cell? ⟨p + 4, 0, none⟩ = some (.slice va out.length vc) := S3.ob.cell 0
          have d0 : W3.cell? ⟨n2, 0, none⟩ = some (.int .i64 kd) := N.cell 0
          have d1 : W3.cell? ⟨n2, 1, none⟩ = some (.int .i64 cn) := N.cell 1
          have d2 : W3.cell? ⟨n2, 2, none⟩ = some (.string ⟨ad.toArray⟩) := N.cell 2
          have d3 : W3.cell? ⟨n2, 3, none⟩ = some (.string ⟨pr.toArray⟩) := N.cell 3
          have d4 : W3.cell? ⟨n2, 4, none⟩ = some (.string ⟨by_.toArray⟩) := N.cell 4
          have d5 : W3.cell? ⟨n2, 5, none⟩ = some (.int .i64 tk) := N.cell 5
          have d6 : W3.cell? ⟨n2, 6, none⟩ = some (.int .u32 (dr.toNat : Int)) := N.cell 6
          by_cases hl : out.length = 512
          · have e1 : (out.length == 512) = true := beq_iff_eq.2 hl
            have e2 : decide (out.length = 512) = true := decide_eq_true hl
            have h9 := hr.out.trans (hlong.out hl)
            clear hl N
            replace S3 := hide S3
            replace h9 := hide h9
            go_wp2_with fail
            refine (give_any _ _).mono ?_
            rintro e w3 ⟨rfl, rfl⟩
            go_wp2
            exact ⟨rfl, hno.out _ _ _ _ _ _ S3.out h9.out (by decide)⟩
          · have e1 : (out.length == 512) = false := beq_eq_false_iff_ne.2 hl
            have e2 : decide (out.length = 512) = false := decide_eq_false hl
            have h9 := hr.out.trans (hon.out hl)
            have hol2 : out.length ≤ 1048576 := by have := hol.out; have := hk.out; have := S3.len; have := S3.few; omega
            have S4 := S3.ext' ((Ext.refl W3).alloc (Obj.cells #[.int .i64 kd, .int .i64 cn, .string ⟨ad.toArray⟩, .string ⟨pr.toArray⟩, .string ⟨by_.toArray⟩, .int .i64 tk, .int .u32 (dr.toNat : Int)] 31))
            clear hl N
            replace S3 := hide S3
            replace h9 := hide h9
            replace S4 := hide S4
            replace hol2 := hide hol2
            go_upto_region 11 with fail
            go_wp2_with
              (at_builtin
               go_must (refine wpList_push (E := EEv) (l := out) rfl _ _ _ rfl okEv (by decide) (by decide) rfl S4.out.own (by have := hol2.out; omega) S4.out.up rfl (y := ⟨kd, cn, ad, pr, by_, tk, dr⟩) (cs := evCs ⟨kd, cn, ad, pr, by_, tk, dr⟩) ⟨rfl, hein.out⟩ (cells_new W3 (evCs ⟨kd, cn, ad, pr, by_, tk, dr⟩).toArray _) ?_)
               intro v' w5 hown1 hg5 hat5
               have S5 := S4.out.pushed hg5 hown1
               have hn4 : ∀ x, x < p + 6 → some x ≠ (Value.slice va out.length vc).ownBlock := fun x hx e => by have := (S4.out.own.lt x e.symm).1; omega
               have c6 : w5.cell? ⟨p + 4, 0, none⟩ = some (.slice va out.length vc) := (S4.out.ob.grown hg5 (hn4 _ (by omega))).cell 0
               have f6 := fun i => (S4.out.ob.grown hg5 (hn4 _ (by omega))).frozen i
               have c7 : w5.cell? ⟨p + 2, 0, none⟩ = some (.int .i64 (k : Int)) := (S4.out.at_.grown hg5 (hn4 _ (by omega))).cell 0
               have f7 := fun i => (S4.out.at_.grown hg5 (hn4 _ (by omega))).frozen i
               obtain ⟨va5, vc5, rfl⟩ := hown1.form
               have S6 := S5.setAt k2
               clear hown1 hg5 hat5 hn4 S5
               simp only [List.length_append, List.length_cons, List.length_nil, Nat.zero_add] at S6 ⊢
               replace S6 := hide S6)
            go_roundw
            case rel =>
              have r1 : k2 < L.length := by have := S6.out.len; have := hlen.out; have := hk2.out; have := hkm4.out; omega
              have r2 := h9.out
              rw [← hk2.out, ← hyr.out, ← hk2.out] at r2
              have r3 : (out ++ [(⟨kd, cn, ad, pr, by_, tk, dr⟩ : EvS)]).length ≤ k2 := by have := hol.out; have := hk2.out; simp; omega
              (repeat apply Exists.intro); exact ⟨S6.out, r1, r2, r3⟩
            case measure => rw [S6.out.atOf, S.out.atOf]; have := hk2.out; have := hk.out; omega
    · have hw1 : x ≠ runW := hxr
      obtain ⟨cf2, hcf2⟩ : ∃ n : Nat, n = cf + x.length + 1 := ⟨_, rfl⟩
      rw [restC_on s k cf hw1, ← hyr, ← hk2, ← hcf2] at hr
      have e1 : (x == [114, 117, 110]) = false := beq_eq_false_iff_ne.2 hxr
      have e2 : (x != [114, 117, 110]) = true := by simpa using hxr
      have w2 : IntKind.i64.wrap ((x.length : Int) + 1) = (x.length : Int) + 1 := by rw [IntKind.wrap_i64]; omega
      have hsl := hs.out
      have w3 : IntKind.i64.wrap ((cf : Int) + ((x.length : Int) + 1)) = (cf2 : Int) := by rw [IntKind.wrap_i64]; omega
      have S2 := ((S.setCf cf2).setAt k2).ext' (Ext.refl _).drew
      have hkl : k2 < L.length := by omega
      have hsm2 : cf2 + ((L.drop k2).map fun x => x.length + 1).sum = s.length + 1 := by rw [hk2, hcf2]; omega
      clear hd hsm hfew hxl hkm hkm2 hsum hxr hw1 hsl hyr y r hcfs hcf2 hbp hlen
      replace S := hide S
      replace S2 := hide S2
      replace hr := hide hr
      replace hk2 := hide hk2
      replace hkl := hide hkl
      replace hsm2 := hide hsm2
      replace hk := hide hk
      go_upto_region 2 with fail
      go_region
      go_wp2_with fail
      go_roundw
      case rel => exact ⟨k2, cf2, S2.out, hkl.out, hr.out, hsm2.out⟩
      case measure => rw [S2.out.atOf, S.out.atOf]; have := hk2.out; have := hk.out; omega
end
end Go.Proofs.YtkinghadgmbhbaaGreatDoor
