/- Chapter 35, walks: the document's events (heraldref35): may it be, its line. Chapter 35: the document's line of an output (heraldref35.Output). Printed by genout.py. Chapter 35, walks: the document's line of an event (heraldref35.Line). Printed by genline.py. Chapter 35, walks: a script read of its text (script.Parse). Chapter 35, plain: 'run' stands alone in a line of a configuration. Chapter 35, walks: a script's text (script.Print). Chapter 35, walks: a script of its text (script.Parse). -/
import Derived.WalkKit
import Derived.Below
import Derived.Outline
import Derived.LoopTactic
import Derived.Laws.OwnMore
import Derived.Deep.AppendLies
import Derived.Deep.Draws
import Derived.Lib.Hide
import Derived.BigQuiet
import Derived.Deep.QuietTactic
import Derived.WalkSpells
import Derived.WalkLawsBesides
import Derived.Deep.RegionHeld3
import Derived.Deep.DrawnRows
import Derived.Deep.RegionLaw
import Derived.Test.YtkinghadgmbhbaaGreatDoorProg
import Derived.Test.YtkinghadgmbhbaaGreatDoorShelf
import Derived.Lib.ConvBytes
import Derived.Lib.Bytealg
import Derived.Lib.Small
import Derived.Lib.SplitLaws
import Derived.Lib.ParseIntB
import Derived.Lib.ParseIntBCases
import Derived.Lib.ItoaNum
import Derived.Lib.Join
import Derived.Test.YtkinghadgmbhbaaGreatDoorShelf2
import Derived.Lib.UnsafeStr
import Derived.Shelf.RegionOpenPlain
import Derived.Laws.StructEq
import Derived.Lib.QuietBelow
import Derived.Test.YtkinghadgmbhbaaGreatDoorRows
import Derived.ProofKit
import Derived.Deep.Slices
import Derived.Shelf.GgClosure.StringsRunes
import Derived.Lib.ItoaMem
import Derived.Lib.ItoaLen
import Derived.Shelf.Strings.Builder1
import Derived.Orders
import Derived.StillTail
import Derived.Defers
import Derived.Recover
import Derived.Laws.EntriesVeiled
import Derived.Deep.DeepCutAuto
import Derived.Deep.RegionWith
import Derived.OpenShut
import Derived.Maps.OwnSet
import Derived.Maps.Views
import Derived.Maps.Range
import Derived.DeepKeys5
import Derived.Deep.Cut
import Derived.Test.YtkinghadgmbhbaaGreatDoorPE01
import Derived.Test.YtkinghadgmbhbaaGreatDoorPE02
import Derived.Test.YtkinghadgmbhbaaGreatDoorPE03
import Derived.Test.YtkinghadgmbhbaaGreatDoorPE04
import Derived.Test.YtkinghadgmbhbaaGreatDoorPE05
namespace Go.Proofs.YtkinghadgmbhbaaGreatDoor
section
open Go.RowKit
set_option linter.unusedVariables false
set_option linter.unusedSimpArgs false
theorem DConn_any (n : Int) (w : World) : Calls Tryz.prog 53 #[.int .i64 n] w fun e w' => e = .returned (.bool (connOk n)) ∧ w = w' := by
 by_cases h1 : 1 ≤ n
 ·by_cases h2 : n ≤ 64
  ·have hc : connOk n = true := decide_eq_true ⟨h1, h2⟩
   have b1 : decide (1 ≤ n) = true := decide_eq_true h1
   have b2 : decide (n ≤ 64) = true := decide_eq_true h2
   rw [hc]
   clear hc
   go_enter Tryz.func53, Tryz.ntmps53
   go_wp2
   go_ret
   exact ⟨rfl, rfl⟩
  ·have hc : connOk n = false := decide_eq_false fun h => h2 h.2
   have b1 : decide (1 ≤ n) = true := decide_eq_true h1
   have b2 : decide (n ≤ 64) = false := decide_eq_false h2
   rw [hc]
   clear hc
   go_enter Tryz.func53, Tryz.ntmps53
   go_wp2
   go_ret
   exact ⟨rfl, rfl⟩
 ·have hc : connOk n = false := decide_eq_false fun h => h1 h.1
  have b1 : decide (1 ≤ n) = false := decide_eq_false h1
  rw [hc]
  clear hc
  go_enter Tryz.func53, Tryz.ntmps53
  go_wp2
  go_ret
  exact ⟨rfl, rfl⟩
theorem DAdr_any (s : List UInt8) (w : World) : Calls Tryz.prog 73 #[.string ⟨s.toArray⟩] w fun e w' => e = .returned (.bool (decide (s.length = 4 ∨ s.length = 16))) ∧ w = w' := by
 by_cases h1 : s.length = 4
 ·have hc : decide (s.length = 4 ∨ s.length = 16) = true := decide_eq_true (.inl h1)
  rw [hc]
  clear hc
  go_enter Tryz.func73, Tryz.ntmps73
  go_wp2
  go_ret
  exact ⟨rfl, rfl⟩
 ·by_cases h2 : s.length = 16
  ·have hc : decide (s.length = 4 ∨ s.length = 16) = true := decide_eq_true (.inr h2)
   rw [hc]
   clear hc h1
   go_enter Tryz.func73, Tryz.ntmps73
   go_wp2
   go_ret
   exact ⟨rfl, rfl⟩
  ·have hc : decide (s.length = 4 ∨ s.length = 16) = false := decide_eq_false fun h => h.elim h1 h2
   rw [hc]
   clear hc
   have b1 : ((s.length : Int) == 4) = false := beq_eq_false_iff_ne.2 (by omega)
   have b2 : ((s.length : Int) == 16) = false := beq_eq_false_iff_ne.2 (by omega)
   go_enter Tryz.func73, Tryz.ntmps73
   go_wp2
   go_ret
   exact ⟨rfl, rfl⟩
theorem DNum35_any (n : Int) (h0 : 0 ≤ n) (h1 : n ≤ 9223372036854775807) (w : World) : Calls Tryz.prog 46 #[.int .i64 n] w fun e w' => e = .returned (.string ⟨(digS 10 n.toNat).toArray⟩) ∧ Ext w w' := by
 have q := RNumber_any 10 (by decide) (by decide) n.toNat (by omega) w
 have hw : IntKind.u64.wrap n = (n.toNat : Int) := by rw [IntKind.wrap_u64]; omega
 have hn : n = (n.toNat : Int) := by omega
 generalize digS 10 n.toNat = d at *
 generalize n.toNat = m at *
 subst hn
 clear h0 h1
 replace q := hide q
 go_enter Tryz.func46, Tryz.ntmps46
 go_wp2_with fail
 refine q.out.mono ?_
 rintro e W1 ⟨rfl, he⟩
 go_wp2
 go_ret
 exact ⟨rfl, he⟩
theorem DByt35_any (b : List UInt8) (hb : b.length ≤ 1048576) (w : World) : Calls Tryz.prog 47 #[.string ⟨b.toArray⟩] w fun e w' => e = .returned (.string ⟨(wordB b).toArray⟩) ∧ Ext w w' := by
  have q := DHex_any b hb w
  cases b with
  | nil =>
    clear q
    go_enter Tryz.func47, Tryz.ntmps47
    go_wp2
    go_ret
    exact ⟨rfl, Ext.refl _⟩
  | cons x r =>
    have hR : ∀ h W, hexS (x :: r) = h → Ext w W → (Ending.returned (.string ⟨h.toArray⟩) = Ending.returned (.string ⟨(wordB (x :: r)).toArray⟩) ∧ Ext w W) := fun h W hh he => ⟨by unfold wordB; rw [if_neg (by simp), hh], he⟩
    generalize hexS (x :: r) = hx at *
    replace q := hide q
    replace hR := hide hR
    go_enter Tryz.func47, Tryz.ntmps47
    go_wp2_with fail
    refine q.out.mono ?_
    rintro e w1 ⟨rfl, he⟩
    go_wp2
    go_ret
    exact hR.out _ _ rfl he
set_option maxRecDepth 20000 in
set_option maxHeartbeats 4000000 in
theorem DMay_any (e : EvS) (w : World) : Calls Tryz.prog 44 #[.agg (evCs e).toArray] w fun e' w' => e' = .returned (.bool (evOk e)) ∧ Ext w w' := by
  obtain ⟨kd, cn, ad, pr, by_, tk, dr⟩ := e
  have A := Blk.new w 31 #[.int .i64 kd, .int .i64 cn, .string ⟨ad.toArray⟩, .string ⟨pr.toArray⟩, .string ⟨by_.toArray⟩, .int .i64 tk, .int .u32 (dr.toNat : Int)]
  have E1 := (Ext.refl w).alloc (Obj.cells #[.int .i64 kd, .int .i64 cn, .string ⟨ad.toArray⟩, .string ⟨pr.toArray⟩, .string ⟨by_.toArray⟩, .int .i64 tk, .int .u32 (dr.toNat : Int)] 31)
  have hz : (w.alloc (Obj.cells #[.int .i64 kd, .int .i64 cn, .string ⟨ad.toArray⟩, .string ⟨pr.toArray⟩, .string ⟨by_.toArray⟩, .int .i64 tk, .int .u32 (dr.toNat : Int)] 31)).heap.size = w.heap.size + 1 := by simp
  generalize hV1 : w.alloc (Obj.cells #[.int .i64 kd, .int .i64 cn, .string ⟨ad.toArray⟩, .string ⟨pr.toArray⟩, .string ⟨by_.toArray⟩, .int .i64 tk, .int .u32 (dr.toNat : Int)] 31) = V1 at A E1 hz
  have B := Blk.new V1 31 #[.int .i64 kd, .int .i64 0, .string ⟨#[]⟩, .string ⟨#[]⟩, .string ⟨#[]⟩, .int .i64 0, .int .u32 0]
  have E2 := E1.alloc (Obj.cells #[.int .i64 kd, .int .i64 0, .string ⟨#[]⟩, .string ⟨#[]⟩, .string ⟨#[]⟩, .int .i64 0, .int .u32 0] 31)
  replace A := A.alloc (Obj.cells #[.int .i64 kd, .int .i64 0, .string ⟨#[]⟩, .string ⟨#[]⟩, .string ⟨#[]⟩, .int .i64 0, .int .u32 0] 31)
  rw [hz] at B
  generalize hV2 : V1.alloc (Obj.cells #[.int .i64 kd, .int .i64 0, .string ⟨#[]⟩, .string ⟨#[]⟩, .string ⟨#[]⟩, .int .i64 0, .int .u32 0] 31) = V2 at A B E2
  generalize hp : w.heap.size = p at A B
  clear E1 hz
  simp only [evCs]
  replace hV1 := hide hV1
  replace hV2 := hide hV2
  replace hp := hide hp
  replace A := hide A
  replace B := hide B
  replace E2 := hide E2
  go_enter Tryz.func44, Tryz.ntmps44
  go_upto_region 2 with fail
  try rw [hV1.out]
  try rw [hV2.out]
  try simp only [hp.out]
  have c0 : V2.cell? ⟨p, 0, none⟩ = some (.int .i64 kd) := A.out.cell 0
  go_upto_block 0 with fail
  clear hV1 hV2
  have hpw : w.heap.size ≤ p + 1 := by have := hp.out; omega
  go_cut [4] (fun s4 wx => ∃ (b : Bool) (e2 : EvS), s4 = .bool b ∧ Blk wx p 31 #[.int .i64 kd, .int .i64 cn, .string ⟨ad.toArray⟩, .string ⟨pr.toArray⟩, .string ⟨by_.toArray⟩, .int .i64 tk, .int .u32 (dr.toNat : Int)] ∧ Blk wx (p + 1) 31 (evCs e2).toArray ∧ Ext w wx ∧ evOk ⟨kd, cn, ad, pr, by_, tk, dr⟩ = (b && decide ((⟨kd, cn, ad, pr, by_, tk, dr⟩ : EvS) = e2)))
  case first =>
    have c1 : V2.cell? ⟨p, 1, none⟩ = some (.int .i64 cn) := A.out.cell 1
    have c2 : V2.cell? ⟨p, 2, none⟩ = some (.string ⟨ad.toArray⟩) := A.out.cell 2
    have c3 : V2.cell? ⟨p, 3, none⟩ = some (.string ⟨pr.toArray⟩) := A.out.cell 3
    have c4 : V2.cell? ⟨p, 4, none⟩ = some (.string ⟨by_.toArray⟩) := A.out.cell 4
    have c5 : V2.cell? ⟨p, 5, none⟩ = some (.int .i64 tk) := A.out.cell 5
    have c6 : V2.cell? ⟨p, 6, none⟩ = some (.int .u32 (dr.toNat : Int)) := A.out.cell 6
    have d1 : V2.cell? ⟨p + 1, 1, none⟩ = some (.int .i64 0) := B.out.cell 1
    have d2 : V2.cell? ⟨p + 1, 2, none⟩ = some (.string ⟨#[]⟩) := B.out.cell 2
    have d3 : V2.cell? ⟨p + 1, 3, none⟩ = some (.string ⟨#[]⟩) := B.out.cell 3
    have d4 : V2.cell? ⟨p + 1, 4, none⟩ = some (.string ⟨#[]⟩) := B.out.cell 4
    have d5 : V2.cell? ⟨p + 1, 5, none⟩ = some (.int .i64 0) := B.out.cell 5
    have d6 : V2.cell? ⟨p + 1, 6, none⟩ = some (.int .u32 0) := B.out.cell 6
    have fd := fun i => B.out.frozen i
    by_cases hk1 : kd = 1
    · subst hk1
      have hA : Blk ((V2.setCell ⟨p + 1, 1, none⟩ (.int .i64 cn)).setCell ⟨p + 1, 2, none⟩ (.string ⟨ad.toArray⟩)) p 31 #[.int .i64 1, .int .i64 cn, .string ⟨ad.toArray⟩, .string ⟨pr.toArray⟩, .string ⟨by_.toArray⟩, .int .i64 tk, .int .u32 (dr.toNat : Int)] := ((A.out.far (p := ⟨p + 1, 1, none⟩) (show p ≠ p + 1 by omega) (.int .i64 cn)).far (p := ⟨p + 1, 2, none⟩) (show p ≠ p + 1 by omega) (.string ⟨ad.toArray⟩))
      have hB : Blk ((V2.setCell ⟨p + 1, 1, none⟩ (.int .i64 cn)).setCell ⟨p + 1, 2, none⟩ (.string ⟨ad.toArray⟩)) (p + 1) 31 (evCs ⟨1, cn, ad, [], [], 0, 0⟩).toArray := ((B.out.set_ 1 (.int .i64 cn)).set_ 2 (.string ⟨ad.toArray⟩))
      have hE : Ext w ((V2.setCell ⟨p + 1, 1, none⟩ (.int .i64 cn)).setCell ⟨p + 1, 2, none⟩ (.string ⟨ad.toArray⟩)) := ((E2.out.setCell (p := ⟨p + 1, 1, none⟩) hpw (.int .i64 cn)).setCell (p := ⟨p + 1, 2, none⟩) hpw (.string ⟨ad.toArray⟩))
      have hok : evOk ⟨1, cn, ad, pr, by_, tk, dr⟩ = (decide ((⟨1, cn, ad, pr, by_, tk, dr⟩ : EvS) = ⟨1, cn, ad, [], [], 0, 0⟩) && (connOk cn && decide (ad.length = 4 ∨ ad.length = 16))) := rfl
      replace hA := hide hA
      replace hB := hide hB
      replace hE := hide hE
      replace hok := hide hok
      cases hc : connOk cn with
      | false =>
        have hcc := hide hc
        have q := DConn_any cn
        rw [hc] at q
        clear hc
        replace q := hide q
        go_wp2_with (first | (go_at_call 53; refine (q.out _).mono ?_; rintro e9 w9 ⟨rfl, rfl⟩))
        go_meet
        case rel => exact ⟨false, ⟨1, cn, ad, [], [], 0, 0⟩, rfl, hA.out, hB.out, hE.out, by rw [hok.out, hcc.out]; simp⟩
      | true =>
        have hcc := hide hc
        have q := DConn_any cn
        rw [hc] at q
        clear hc
        replace q := hide q
        go_wp2_with (first | (go_at_call 53; refine (q.out _).mono ?_; rintro e9 w9 ⟨rfl, rfl⟩) | (go_at_call 73; refine (DAdr_any _ _).mono ?_; rintro e9 w9 ⟨rfl, rfl⟩))
        go_meet
        case rel => exact ⟨decide (ad.length = 4 ∨ ad.length = 16), ⟨1, cn, ad, [], [], 0, 0⟩, by first | rfl | simp, hA.out, hB.out, hE.out, by rw [hok.out, hcc.out, Bool.true_and, Bool.and_comm]⟩
    have g1 : (kd == 1) = false := beq_eq_false_iff_ne.2 hk1
    have g1b : decide (kd = 1) = false := decide_eq_false hk1
    by_cases hk2 : kd = 2
    · subst hk2
      have hA : Blk ((V2.setCell ⟨p + 1, 1, none⟩ (.int .i64 cn)).setCell ⟨p + 1, 3, none⟩ (.string ⟨pr.toArray⟩)) p 31 #[.int .i64 2, .int .i64 cn, .string ⟨ad.toArray⟩, .string ⟨pr.toArray⟩, .string ⟨by_.toArray⟩, .int .i64 tk, .int .u32 (dr.toNat : Int)] := ((A.out.far (p := ⟨p + 1, 1, none⟩) (show p ≠ p + 1 by omega) (.int .i64 cn)).far (p := ⟨p + 1, 3, none⟩) (show p ≠ p + 1 by omega) (.string ⟨pr.toArray⟩))
      have hB : Blk ((V2.setCell ⟨p + 1, 1, none⟩ (.int .i64 cn)).setCell ⟨p + 1, 3, none⟩ (.string ⟨pr.toArray⟩)) (p + 1) 31 (evCs ⟨2, cn, [], pr, [], 0, 0⟩).toArray := ((B.out.set_ 1 (.int .i64 cn)).set_ 3 (.string ⟨pr.toArray⟩))
      have hE : Ext w ((V2.setCell ⟨p + 1, 1, none⟩ (.int .i64 cn)).setCell ⟨p + 1, 3, none⟩ (.string ⟨pr.toArray⟩)) := ((E2.out.setCell (p := ⟨p + 1, 1, none⟩) hpw (.int .i64 cn)).setCell (p := ⟨p + 1, 3, none⟩) hpw (.string ⟨pr.toArray⟩))
      have hok : evOk ⟨2, cn, ad, pr, by_, tk, dr⟩ = (decide ((⟨2, cn, ad, pr, by_, tk, dr⟩ : EvS) = ⟨2, cn, [], pr, [], 0, 0⟩) && (connOk cn && nameOk pr)) := rfl
      replace hA := hide hA
      replace hB := hide hB
      replace hE := hide hE
      replace hok := hide hok
      cases hc : connOk cn with
      | false =>
        have hcc := hide hc
        have q := DConn_any cn
        rw [hc] at q
        clear hc
        replace q := hide q
        go_wp2_with (first | (go_at_call 53; refine (q.out _).mono ?_; rintro e9 w9 ⟨rfl, rfl⟩))
        go_meet
        case rel => exact ⟨false, ⟨2, cn, [], pr, [], 0, 0⟩, rfl, hA.out, hB.out, hE.out, by rw [hok.out, hcc.out]; simp⟩
      | true =>
        have hcc := hide hc
        have q := DConn_any cn
        rw [hc] at q
        clear hc
        replace q := hide q
        go_wp2_with (first | (go_at_call 53; refine (q.out _).mono ?_; rintro e9 w9 ⟨rfl, rfl⟩) | (go_at_call 52; refine (RName_any _ _).mono ?_; rintro e9 w9 ⟨rfl, rfl⟩))
        go_meet
        case rel => exact ⟨nameOk pr, ⟨2, cn, [], pr, [], 0, 0⟩, by first | rfl | simp, hA.out, hB.out, hE.out, by rw [hok.out, hcc.out, Bool.true_and, Bool.and_comm]⟩
    have g2 : (kd == 2) = false := beq_eq_false_iff_ne.2 hk2
    have g2b : decide (kd = 2) = false := decide_eq_false hk2
    by_cases hk3 : kd = 3
    · subst hk3
      have hA : Blk (V2.setCell ⟨p + 1, 3, none⟩ (.string ⟨pr.toArray⟩)) p 31 #[.int .i64 3, .int .i64 cn, .string ⟨ad.toArray⟩, .string ⟨pr.toArray⟩, .string ⟨by_.toArray⟩, .int .i64 tk, .int .u32 (dr.toNat : Int)] := (A.out.far (p := ⟨p + 1, 3, none⟩) (show p ≠ p + 1 by omega) (.string ⟨pr.toArray⟩))
      have hB : Blk (V2.setCell ⟨p + 1, 3, none⟩ (.string ⟨pr.toArray⟩)) (p + 1) 31 (evCs ⟨3, 0, [], pr, [], 0, 0⟩).toArray := (B.out.set_ 3 (.string ⟨pr.toArray⟩))
      have hE : Ext w (V2.setCell ⟨p + 1, 3, none⟩ (.string ⟨pr.toArray⟩)) := (E2.out.setCell (p := ⟨p + 1, 3, none⟩) hpw (.string ⟨pr.toArray⟩))
      have hok : evOk ⟨3, cn, ad, pr, by_, tk, dr⟩ = (decide ((⟨3, cn, ad, pr, by_, tk, dr⟩ : EvS) = ⟨3, 0, [], pr, [], 0, 0⟩) && nameOk pr) := rfl
      replace hA := hide hA
      replace hB := hide hB
      replace hE := hide hE
      replace hok := hide hok
      go_wp2_with (first | (go_at_call 52; refine (RName_any _ _).mono ?_; rintro e9 w9 ⟨rfl, rfl⟩))
      go_meet
      case rel => exact ⟨nameOk pr, ⟨3, 0, [], pr, [], 0, 0⟩, rfl, hA.out, hB.out, hE.out, by rw [hok.out, Bool.and_comm]⟩
    have g3 : (kd == 3) = false := beq_eq_false_iff_ne.2 hk3
    have g3b : decide (kd = 3) = false := decide_eq_false hk3
    by_cases hk4 : kd = 4
    · subst hk4
      have hA : Blk ((V2.setCell ⟨p + 1, 1, none⟩ (.int .i64 cn)).setCell ⟨p + 1, 4, none⟩ (.string ⟨by_.toArray⟩)) p 31 #[.int .i64 4, .int .i64 cn, .string ⟨ad.toArray⟩, .string ⟨pr.toArray⟩, .string ⟨by_.toArray⟩, .int .i64 tk, .int .u32 (dr.toNat : Int)] := ((A.out.far (p := ⟨p + 1, 1, none⟩) (show p ≠ p + 1 by omega) (.int .i64 cn)).far (p := ⟨p + 1, 4, none⟩) (show p ≠ p + 1 by omega) (.string ⟨by_.toArray⟩))
      have hB : Blk ((V2.setCell ⟨p + 1, 1, none⟩ (.int .i64 cn)).setCell ⟨p + 1, 4, none⟩ (.string ⟨by_.toArray⟩)) (p + 1) 31 (evCs ⟨4, cn, [], [], by_, 0, 0⟩).toArray := ((B.out.set_ 1 (.int .i64 cn)).set_ 4 (.string ⟨by_.toArray⟩))
      have hE : Ext w ((V2.setCell ⟨p + 1, 1, none⟩ (.int .i64 cn)).setCell ⟨p + 1, 4, none⟩ (.string ⟨by_.toArray⟩)) := ((E2.out.setCell (p := ⟨p + 1, 1, none⟩) hpw (.int .i64 cn)).setCell (p := ⟨p + 1, 4, none⟩) hpw (.string ⟨by_.toArray⟩))
      have hok : evOk ⟨4, cn, ad, pr, by_, tk, dr⟩ = (decide ((⟨4, cn, ad, pr, by_, tk, dr⟩ : EvS) = ⟨4, cn, [], [], by_, 0, 0⟩) && (connOk cn && decide (by_.length ≤ 16384))) := rfl
      replace hA := hide hA
      replace hB := hide hB
      replace hE := hide hE
      replace hok := hide hok
      cases hc : connOk cn with
      | false =>
        have hcc := hide hc
        have q := DConn_any cn
        rw [hc] at q
        clear hc
        replace q := hide q
        go_wp2_with (first | (go_at_call 53; refine (q.out _).mono ?_; rintro e9 w9 ⟨rfl, rfl⟩))
        go_meet
        case rel => exact ⟨false, ⟨4, cn, [], [], by_, 0, 0⟩, rfl, hA.out, hB.out, hE.out, by rw [hok.out, hcc.out]; simp⟩
      | true =>
        have hcc := hide hc
        have q := DConn_any cn
        rw [hc] at q
        clear hc
        replace q := hide q
        by_cases hl : by_.length ≤ 16384
        · have b1 : decide ((by_.length : Int) ≤ 16384) = true := decide_eq_true (by omega)
          have hll := hide hl
          clear hl
          go_wp2_with (first | (go_at_call 53; refine (q.out _).mono ?_; rintro e9 w9 ⟨rfl, rfl⟩))
          go_meet
          case rel => exact ⟨true, ⟨4, cn, [], [], by_, 0, 0⟩, rfl, hA.out, hB.out, hE.out, by rw [hok.out, hcc.out, decide_eq_true hll.out]; simp⟩
        · have b1 : decide ((by_.length : Int) ≤ 16384) = false := decide_eq_false (by omega)
          have hll := hide hl
          clear hl
          go_wp2_with (first | (go_at_call 53; refine (q.out _).mono ?_; rintro e9 w9 ⟨rfl, rfl⟩))
          go_meet
          case rel => exact ⟨false, ⟨4, cn, [], [], by_, 0, 0⟩, rfl, hA.out, hB.out, hE.out, by rw [hok.out, hcc.out, decide_eq_false hll.out]; simp⟩
    have g4 : (kd == 4) = false := beq_eq_false_iff_ne.2 hk4
    have g4b : decide (kd = 4) = false := decide_eq_false hk4
    by_cases hk5 : kd = 5
    · subst hk5
      have hA : Blk (V2.setCell ⟨p + 1, 1, none⟩ (.int .i64 cn)) p 31 #[.int .i64 5, .int .i64 cn, .string ⟨ad.toArray⟩, .string ⟨pr.toArray⟩, .string ⟨by_.toArray⟩, .int .i64 tk, .int .u32 (dr.toNat : Int)] := (A.out.far (p := ⟨p + 1, 1, none⟩) (show p ≠ p + 1 by omega) (.int .i64 cn))
      have hB : Blk (V2.setCell ⟨p + 1, 1, none⟩ (.int .i64 cn)) (p + 1) 31 (evCs ⟨5, cn, [], [], [], 0, 0⟩).toArray := (B.out.set_ 1 (.int .i64 cn))
      have hE : Ext w (V2.setCell ⟨p + 1, 1, none⟩ (.int .i64 cn)) := (E2.out.setCell (p := ⟨p + 1, 1, none⟩) hpw (.int .i64 cn))
      have hok : evOk ⟨5, cn, ad, pr, by_, tk, dr⟩ = (decide ((⟨5, cn, ad, pr, by_, tk, dr⟩ : EvS) = ⟨5, cn, [], [], [], 0, 0⟩) && connOk cn) := rfl
      replace hA := hide hA
      replace hB := hide hB
      replace hE := hide hE
      replace hok := hide hok
      go_wp2_with (first | (go_at_call 53; refine (DConn_any _ _).mono ?_; rintro e9 w9 ⟨rfl, rfl⟩))
      go_meet
      case rel => exact ⟨connOk cn, ⟨5, cn, [], [], [], 0, 0⟩, rfl, hA.out, hB.out, hE.out, by rw [hok.out, Bool.and_comm]⟩
    have g5 : (kd == 5) = false := beq_eq_false_iff_ne.2 hk5
    have g5b : decide (kd = 5) = false := decide_eq_false hk5
    by_cases hk6 : kd = 6
    · subst hk6
      have hA : Blk (V2.setCell ⟨p + 1, 5, none⟩ (.int .i64 tk)) p 31 #[.int .i64 6, .int .i64 cn, .string ⟨ad.toArray⟩, .string ⟨pr.toArray⟩, .string ⟨by_.toArray⟩, .int .i64 tk, .int .u32 (dr.toNat : Int)] := (A.out.far (p := ⟨p + 1, 5, none⟩) (show p ≠ p + 1 by omega) (.int .i64 tk))
      have hB : Blk (V2.setCell ⟨p + 1, 5, none⟩ (.int .i64 tk)) (p + 1) 31 (evCs ⟨6, 0, [], [], [], tk, 0⟩).toArray := (B.out.set_ 5 (.int .i64 tk))
      have hE : Ext w (V2.setCell ⟨p + 1, 5, none⟩ (.int .i64 tk)) := (E2.out.setCell (p := ⟨p + 1, 5, none⟩) hpw (.int .i64 tk))
      have hok : evOk ⟨6, cn, ad, pr, by_, tk, dr⟩ = (decide ((⟨6, cn, ad, pr, by_, tk, dr⟩ : EvS) = ⟨6, 0, [], [], [], tk, 0⟩) && decide (1 ≤ tk ∧ tk ≤ 4096)) := rfl
      replace hA := hide hA
      replace hB := hide hB
      replace hE := hide hE
      replace hok := hide hok
      by_cases h1 : 1 ≤ tk
      · have b1 : decide (1 ≤ tk) = true := decide_eq_true h1
        by_cases h2 : tk ≤ 4096
        · have b2 : decide (tk ≤ 4096) = true := decide_eq_true h2
          have hc : decide (1 ≤ tk ∧ tk ≤ 4096) = true := decide_eq_true ⟨h1, h2⟩
          clear h1 h2
          replace hc := hide hc
          go_wp2_with fail
          go_meet
          case rel => exact ⟨true, ⟨6, 0, [], [], [], tk, 0⟩, rfl, hA.out, hB.out, hE.out, by rw [hok.out, hc.out]; simp⟩
        · have b2 : decide (tk ≤ 4096) = false := decide_eq_false h2
          have hc : decide (1 ≤ tk ∧ tk ≤ 4096) = false := decide_eq_false fun h => h2 h.2
          clear h1 h2
          replace hc := hide hc
          go_wp2_with fail
          go_meet
          case rel => exact ⟨false, ⟨6, 0, [], [], [], tk, 0⟩, rfl, hA.out, hB.out, hE.out, by rw [hok.out, hc.out]; simp⟩
      · have b1 : decide (1 ≤ tk) = false := decide_eq_false h1
        have hc : decide (1 ≤ tk ∧ tk ≤ 4096) = false := decide_eq_false fun h => h1 h.1
        clear h1
        replace hc := hide hc
        go_wp2_with fail
        go_meet
        case rel => exact ⟨false, ⟨6, 0, [], [], [], tk, 0⟩, rfl, hA.out, hB.out, hE.out, by rw [hok.out, hc.out]; simp⟩
    have g6 : (kd == 6) = false := beq_eq_false_iff_ne.2 hk6
    have g6b : decide (kd = 6) = false := decide_eq_false hk6
    by_cases hk7 : kd = 7
    · subst hk7
      have hA : Blk (V2.setCell ⟨p + 1, 4, none⟩ (.string ⟨by_.toArray⟩)) p 31 #[.int .i64 7, .int .i64 cn, .string ⟨ad.toArray⟩, .string ⟨pr.toArray⟩, .string ⟨by_.toArray⟩, .int .i64 tk, .int .u32 (dr.toNat : Int)] := (A.out.far (p := ⟨p + 1, 4, none⟩) (show p ≠ p + 1 by omega) (.string ⟨by_.toArray⟩))
      have hB : Blk (V2.setCell ⟨p + 1, 4, none⟩ (.string ⟨by_.toArray⟩)) (p + 1) 31 (evCs ⟨7, 0, [], [], by_, 0, 0⟩).toArray := (B.out.set_ 4 (.string ⟨by_.toArray⟩))
      have hE : Ext w (V2.setCell ⟨p + 1, 4, none⟩ (.string ⟨by_.toArray⟩)) := (E2.out.setCell (p := ⟨p + 1, 4, none⟩) hpw (.string ⟨by_.toArray⟩))
      have hok : evOk ⟨7, cn, ad, pr, by_, tk, dr⟩ = (decide ((⟨7, cn, ad, pr, by_, tk, dr⟩ : EvS) = ⟨7, 0, [], [], by_, 0, 0⟩) && decide (by_.length ≤ 65536)) := rfl
      replace hA := hide hA
      replace hB := hide hB
      replace hE := hide hE
      replace hok := hide hok
      by_cases hl : by_.length ≤ 65536
      · have b1 : decide ((by_.length : Int) ≤ 65536) = true := decide_eq_true (by omega)
        have hll := hide hl
        clear hl
        go_wp2_with fail
        go_meet
        case rel => exact ⟨true, ⟨7, 0, [], [], by_, 0, 0⟩, rfl, hA.out, hB.out, hE.out, by rw [hok.out, decide_eq_true hll.out]; simp⟩
      · have b1 : decide ((by_.length : Int) ≤ 65536) = false := decide_eq_false (by omega)
        have hll := hide hl
        clear hl
        go_wp2_with fail
        go_meet
        case rel => exact ⟨false, ⟨7, 0, [], [], by_, 0, 0⟩, rfl, hA.out, hB.out, hE.out, by rw [hok.out, decide_eq_false hll.out]; simp⟩
    have g7 : (kd == 7) = false := beq_eq_false_iff_ne.2 hk7
    have g7b : decide (kd = 7) = false := decide_eq_false hk7
    by_cases hk8 : kd = 8
    · subst hk8
      have hA : Blk (V2.setCell ⟨p + 1, 4, none⟩ (.string ⟨by_.toArray⟩)) p 31 #[.int .i64 8, .int .i64 cn, .string ⟨ad.toArray⟩, .string ⟨pr.toArray⟩, .string ⟨by_.toArray⟩, .int .i64 tk, .int .u32 (dr.toNat : Int)] := (A.out.far (p := ⟨p + 1, 4, none⟩) (show p ≠ p + 1 by omega) (.string ⟨by_.toArray⟩))
      have hB : Blk (V2.setCell ⟨p + 1, 4, none⟩ (.string ⟨by_.toArray⟩)) (p + 1) 31 (evCs ⟨8, 0, [], [], by_, 0, 0⟩).toArray := (B.out.set_ 4 (.string ⟨by_.toArray⟩))
      have hE : Ext w (V2.setCell ⟨p + 1, 4, none⟩ (.string ⟨by_.toArray⟩)) := (E2.out.setCell (p := ⟨p + 1, 4, none⟩) hpw (.string ⟨by_.toArray⟩))
      have hok : evOk ⟨8, cn, ad, pr, by_, tk, dr⟩ = (decide ((⟨8, cn, ad, pr, by_, tk, dr⟩ : EvS) = ⟨8, 0, [], [], by_, 0, 0⟩) && decide (by_.length ≤ 16384)) := rfl
      replace hA := hide hA
      replace hB := hide hB
      replace hE := hide hE
      replace hok := hide hok
      by_cases hl : by_.length ≤ 16384
      · have b1 : decide ((by_.length : Int) ≤ 16384) = true := decide_eq_true (by omega)
        have hll := hide hl
        clear hl
        go_wp2_with fail
        go_meet
        case rel => exact ⟨true, ⟨8, 0, [], [], by_, 0, 0⟩, rfl, hA.out, hB.out, hE.out, by rw [hok.out, decide_eq_true hll.out]; simp⟩
      · have b1 : decide ((by_.length : Int) ≤ 16384) = false := decide_eq_false (by omega)
        have hll := hide hl
        clear hl
        go_wp2_with fail
        go_meet
        case rel => exact ⟨false, ⟨8, 0, [], [], by_, 0, 0⟩, rfl, hA.out, hB.out, hE.out, by rw [hok.out, decide_eq_false hll.out]; simp⟩
    have g8 : (kd == 8) = false := beq_eq_false_iff_ne.2 hk8
    have g8b : decide (kd = 8) = false := decide_eq_false hk8
    by_cases hk9 : kd = 9
    · subst hk9
      have hA : Blk (V2.setCell ⟨p + 1, 6, none⟩ (.int .u32 (dr.toNat : Int))) p 31 #[.int .i64 9, .int .i64 cn, .string ⟨ad.toArray⟩, .string ⟨pr.toArray⟩, .string ⟨by_.toArray⟩, .int .i64 tk, .int .u32 (dr.toNat : Int)] := (A.out.far (p := ⟨p + 1, 6, none⟩) (show p ≠ p + 1 by omega) (.int .u32 (dr.toNat : Int)))
      have hB : Blk (V2.setCell ⟨p + 1, 6, none⟩ (.int .u32 (dr.toNat : Int))) (p + 1) 31 (evCs ⟨9, 0, [], [], [], 0, dr⟩).toArray := (B.out.set_ 6 (.int .u32 (dr.toNat : Int)))
      have hE : Ext w (V2.setCell ⟨p + 1, 6, none⟩ (.int .u32 (dr.toNat : Int))) := (E2.out.setCell (p := ⟨p + 1, 6, none⟩) hpw (.int .u32 (dr.toNat : Int)))
      have hok : evOk ⟨9, cn, ad, pr, by_, tk, dr⟩ = decide ((⟨9, cn, ad, pr, by_, tk, dr⟩ : EvS) = ⟨9, 0, [], [], [], 0, dr⟩) := rfl
      replace hA := hide hA
      replace hB := hide hB
      replace hE := hide hE
      replace hok := hide hok
      go_wp2_with fail
      go_meet
      case rel => exact ⟨true, ⟨9, 0, [], [], [], 0, dr⟩, rfl, hA.out, hB.out, hE.out, by rw [hok.out, Bool.true_and]⟩
    have g9 : (kd == 9) = false := beq_eq_false_iff_ne.2 hk9
    have g9b : decide (kd = 9) = false := decide_eq_false hk9
    by_cases hk10 : kd = 10
    · subst hk10
      have hA : Blk V2 p 31 #[.int .i64 10, .int .i64 cn, .string ⟨ad.toArray⟩, .string ⟨pr.toArray⟩, .string ⟨by_.toArray⟩, .int .i64 tk, .int .u32 (dr.toNat : Int)] := A.out
      have hB : Blk V2 (p + 1) 31 (evCs ⟨10, 0, [], [], [], 0, 0⟩).toArray := B.out
      have hE : Ext w V2 := E2.out
      have hok : evOk ⟨10, cn, ad, pr, by_, tk, dr⟩ = decide ((⟨10, cn, ad, pr, by_, tk, dr⟩ : EvS) = ⟨10, 0, [], [], [], 0, 0⟩) := rfl
      replace hA := hide hA
      replace hB := hide hB
      replace hE := hide hE
      replace hok := hide hok
      go_wp2_with fail
      go_meet
      case rel => exact ⟨true, ⟨10, 0, [], [], [], 0, 0⟩, rfl, hA.out, hB.out, hE.out, by rw [hok.out, Bool.true_and]⟩
    have g10 : (kd == 10) = false := beq_eq_false_iff_ne.2 hk10
    have g10b : decide (kd = 10) = false := decide_eq_false hk10
    have hr : evOk ⟨kd, cn, ad, pr, by_, tk, dr⟩ = false := by simp [evOk, hk1, hk2, hk3, hk4, hk5, hk6, hk7, hk8, hk9, hk10]
    clear hk1 hk2 hk3 hk4 hk5 hk6 hk7 hk8 hk9 hk10
    replace hr := hide hr
    go_wp2_with fail
    go_meet
    case rel => exact ⟨false, ⟨kd, 0, [], [], [], 0, 0⟩, rfl, A.out, B.out, E2.out, by rw [hr.out]; rfl⟩
  case rest =>
    clear A B E2 c0
    obtain ⟨b, e2, rfl, A, B, E, hr⟩ := hcut
    have hq := fun W => run_eqEv W ⟨kd, cn, ad, pr, by_, tk, dr⟩ e2
    generalize decide ((⟨kd, cn, ad, pr, by_, tk, dr⟩ : EvS) = e2) = t at *
    obtain ⟨kd2, cn2, ad2, pr2, by2, tk2, dr2⟩ := e2
    simp only [evCs] at B hq
    have c0 : wc.cell? ⟨p, 0, none⟩ = some (.int .i64 kd) := A.cell 0
    have c1 : wc.cell? ⟨p, 1, none⟩ = some (.int .i64 cn) := A.cell 1
    have c2 : wc.cell? ⟨p, 2, none⟩ = some (.string ⟨ad.toArray⟩) := A.cell 2
    have c3 : wc.cell? ⟨p, 3, none⟩ = some (.string ⟨pr.toArray⟩) := A.cell 3
    have c4 : wc.cell? ⟨p, 4, none⟩ = some (.string ⟨by_.toArray⟩) := A.cell 4
    have c5 : wc.cell? ⟨p, 5, none⟩ = some (.int .i64 tk) := A.cell 5
    have c6 : wc.cell? ⟨p, 6, none⟩ = some (.int .u32 (dr.toNat : Int)) := A.cell 6
    have d0 : wc.cell? ⟨p + 1, 0, none⟩ = some (.int .i64 kd2) := B.cell 0
    have d1 : wc.cell? ⟨p + 1, 1, none⟩ = some (.int .i64 cn2) := B.cell 1
    have d2 : wc.cell? ⟨p + 1, 2, none⟩ = some (.string ⟨ad2.toArray⟩) := B.cell 2
    have d3 : wc.cell? ⟨p + 1, 3, none⟩ = some (.string ⟨pr2.toArray⟩) := B.cell 3
    have d4 : wc.cell? ⟨p + 1, 4, none⟩ = some (.string ⟨by2.toArray⟩) := B.cell 4
    have d5 : wc.cell? ⟨p + 1, 5, none⟩ = some (.int .i64 tk2) := B.cell 5
    have d6 : wc.cell? ⟨p + 1, 6, none⟩ = some (.int .u32 (dr2.toNat : Int)) := B.cell 6
    clear A B
    replace E := hide E
    replace hr := hide hr
    cases b
    · go_wp2
      go_ret
      exact ⟨by rw [hr.out]; rfl, E.out⟩
    · go_wp2
      go_ret
      exact ⟨by rw [hr.out, Bool.true_and]; rfl, E.out⟩
end
section
open Go.RowKit Go.Sort
set_option linter.unusedVariables false
set_option linter.unusedSimpArgs false
set_option maxRecDepth 20000 in
set_option maxHeartbeats 4000000 in
theorem DOutput_any (o : OutS) (hin : OutIn o) (w : World) : Calls Tryz.prog 23 #[.agg (outCs o).toArray] w fun e w' => e = .returned (.tuple #[.string ⟨(outT o).1.toArray⟩, .int .i64 (outT o).2]) ∧ Ext w w' := by
  have mixed : Tryz.prog.follows Departure.mixedOrders = true := by kernel_rfl
  obtain ⟨kd, cn, pr, by_, er⟩ := o
  obtain ⟨h1, h2, h3, h4⟩ := hin
  dsimp only at h1 h2 h3 h4
  have hPost : ∀ (s : List UInt8) (x : Int) W, outT ⟨kd, cn, pr, by_, er⟩ = (s, x) → Ext w W → (Ending.returned (.tuple #[.string ⟨s.toArray⟩, .int .i64 x]) = Ending.returned (.tuple #[.string ⟨(outT ⟨kd, cn, pr, by_, er⟩).1.toArray⟩, .int .i64 (outT ⟨kd, cn, pr, by_, er⟩).2]) ∧ Ext w W) := fun s x W h he => ⟨by rw [h], he⟩
  generalize hQ : (fun e w' => e = Ending.returned (.tuple #[.string ⟨(outT ⟨kd, cn, pr, by_, er⟩).1.toArray⟩, .int .i64 (outT ⟨kd, cn, pr, by_, er⟩).2]) ∧ Ext w w') = Post
  replace hPost : ∀ (s : List UInt8) (x : Int) W, outT ⟨kd, cn, pr, by_, er⟩ = (s, x) → Ext w W → Post (.returned (.tuple #[.string ⟨s.toArray⟩, .int .i64 x])) W := by rw [← hQ]; exact hPost
  clear hQ
  have A := Blk.new w 58 #[.int .i64 kd, .int .i64 cn, .string ⟨pr.toArray⟩, .string ⟨by_.toArray⟩, .int .i64 er]
  have E1 := (Ext.refl w).alloc (Obj.cells #[.int .i64 kd, .int .i64 cn, .string ⟨pr.toArray⟩, .string ⟨by_.toArray⟩, .int .i64 er] 58)
  have hz : (w.alloc (Obj.cells #[.int .i64 kd, .int .i64 cn, .string ⟨pr.toArray⟩, .string ⟨by_.toArray⟩, .int .i64 er] 58)).heap.size = w.heap.size + 1 := by simp
  generalize hV1 : w.alloc (Obj.cells #[.int .i64 kd, .int .i64 cn, .string ⟨pr.toArray⟩, .string ⟨by_.toArray⟩, .int .i64 er] 58) = V1 at A E1 hz
  have B := Blk.new V1 58 #[.int .i64 kd, .int .i64 0, .string ⟨#[]⟩, .string ⟨#[]⟩, .int .i64 0]
  have E2 := E1.alloc (Obj.cells #[.int .i64 kd, .int .i64 0, .string ⟨#[]⟩, .string ⟨#[]⟩, .int .i64 0] 58)
  replace A := A.alloc (Obj.cells #[.int .i64 kd, .int .i64 0, .string ⟨#[]⟩, .string ⟨#[]⟩, .int .i64 0] 58)
  rw [hz] at B
  generalize hV2 : V1.alloc (Obj.cells #[.int .i64 kd, .int .i64 0, .string ⟨#[]⟩, .string ⟨#[]⟩, .int .i64 0] 58) = V2 at A B E2
  generalize hp : w.heap.size = p at A B
  clear E1 hz
  simp only [outCs]
  replace hV1 := hide hV1
  replace hV2 := hide hV2
  replace hp := hide hp
  replace h1 := hide h1
  replace h4 := hide h4
  replace A := hide A
  replace B := hide B
  replace E2 := hide E2
  replace hPost := hide hPost
  replace h2 := hide h2
  replace h3 := hide h3
  go_enter Tryz.func23, Tryz.ntmps23
  go_upto_region 2 with fail
  try rw [hV1.out]
  try rw [hV2.out]
  try simp only [hp.out]
  have hpw : w.heap.size ≤ p + 1 := by have := hp.out; omega
  have c0 : V2.cell? ⟨p, 0, none⟩ = some (.int .i64 kd) := A.out.cell 0
  have c1 : V2.cell? ⟨p, 1, none⟩ = some (.int .i64 cn) := A.out.cell 1
  clear hV1 hV2
  clear c1
  go_upto_block 0 with fail
  go_cut [5, 6] (fun s5 s6 wx => ∃ (s : List UInt8) (b : Bool) (o2 : OutS), s5 = .bool b ∧ s6 = .string ⟨s.toArray⟩ ∧ GdO w p ⟨kd, cn, pr, by_, er⟩ o2 wx ∧ outT ⟨kd, cn, pr, by_, er⟩ = if (b && decide ((⟨kd, cn, pr, by_, er⟩ : OutS) = o2)) = true then (s, 0) else ([], 2))
  case first =>
    have c1 : V2.cell? ⟨p, 1, none⟩ = some (.int .i64 cn) := A.out.cell 1
    have c2 : V2.cell? ⟨p, 2, none⟩ = some (.string ⟨pr.toArray⟩) := A.out.cell 2
    have c3 : V2.cell? ⟨p, 3, none⟩ = some (.string ⟨by_.toArray⟩) := A.out.cell 3
    have c4 : V2.cell? ⟨p, 4, none⟩ = some (.int .i64 er) := A.out.cell 4
    have d1 : V2.cell? ⟨p + 1, 1, none⟩ = some (.int .i64 0) := B.out.cell 1
    have d2 : V2.cell? ⟨p + 1, 2, none⟩ = some (.string ⟨#[]⟩) := B.out.cell 2
    have d3 : V2.cell? ⟨p + 1, 3, none⟩ = some (.string ⟨#[]⟩) := B.out.cell 3
    have d4 : V2.cell? ⟨p + 1, 4, none⟩ = some (.int .i64 0) := B.out.cell 4
    have fd := fun i => B.out.frozen i
    by_cases hk1 : kd = 1
    · subst hk1
      have gd : GdO w p ⟨1, cn, pr, by_, er⟩ ⟨1, 0, pr, [], 0⟩ (V2.setCell ⟨p + 1, 2, none⟩ (.string ⟨pr.toArray⟩)) := ⟨(A.out.far (p := ⟨p + 1, 2, none⟩) (show p ≠ p + 1 by omega) (.string ⟨pr.toArray⟩)), (B.out.set_ 2 (.string ⟨pr.toArray⟩)), (E2.out.setCell (p := ⟨p + 1, 2, none⟩) hpw (.string ⟨pr.toArray⟩))⟩
      have hok := outT1 cn pr by_ er
      obtain ⟨V3, hV3⟩ : ∃ V3, (V2.setCell ⟨p + 1, 2, none⟩ (.string ⟨pr.toArray⟩)) = V3 := ⟨_, rfl⟩
      rw [hV3] at gd
      replace gd := hide gd
      replace hok := hide hok
      replace hV3 := hide hV3
      replace hok := hok.out
      rw [show Lib.join [[99, 111, 110, 110, 101, 99, 116], pr] [32] = [99, 111, 110, 110, 101, 99, 116, 32] ++ pr by simp [Lib.join]] at hok
      have z0 : ¬ 9223372036854775807 < 8 + pr.length := by have := h2.out; omega
      replace hok := hide hok
      go_upto_region 7 with fail
      rw [hV3.out]
      have x2 : V3.cell? ⟨p, 2, none⟩ = some (.string ⟨pr.toArray⟩) := gd.out.a.cell 2
      clear hV3 c0 c1 c2 c3 c4 d1 d2 d3 d4
      go_wp2_with (go_at_call 52; refine (RName_any _ _).mono ?_; rintro e9 w9 ⟨rfl, rfl⟩)
      skip
      go_meet
      case rel => exact ⟨([99, 111, 110, 110, 101, 99, 116, 32] ++ pr), nameOk pr, ⟨1, 0, pr, [], 0⟩, by first | rfl | simp, by first | rfl | (apply congrArg Value.string; apply ByteArray.ext; simp), gd.out, hok.out⟩
    have g1 : (kd == 1) = false := beq_eq_false_iff_ne.2 hk1
    have g1b : decide (kd = 1) = false := decide_eq_false hk1
    by_cases hk2 : kd = 2
    · subst hk2
      have gd : GdO w p ⟨2, cn, pr, by_, er⟩ ⟨2, cn, [], by_, 0⟩ ((V2.setCell ⟨p + 1, 1, none⟩ (.int .i64 cn)).setCell ⟨p + 1, 3, none⟩ (.string ⟨by_.toArray⟩)) := ⟨((A.out.far (p := ⟨p + 1, 1, none⟩) (show p ≠ p + 1 by omega) (.int .i64 cn)).far (p := ⟨p + 1, 3, none⟩) (show p ≠ p + 1 by omega) (.string ⟨by_.toArray⟩)), ((B.out.set_ 1 (.int .i64 cn)).set_ 3 (.string ⟨by_.toArray⟩)), ((E2.out.setCell (p := ⟨p + 1, 1, none⟩) hpw (.int .i64 cn)).setCell (p := ⟨p + 1, 3, none⟩) hpw (.string ⟨by_.toArray⟩))⟩
      have hok := outT2 cn pr by_ er
      obtain ⟨V3, hV3⟩ : ∃ V3, ((V2.setCell ⟨p + 1, 1, none⟩ (.int .i64 cn)).setCell ⟨p + 1, 3, none⟩ (.string ⟨by_.toArray⟩)) = V3 := ⟨_, rfl⟩
      rw [hV3] at gd
      replace gd := hide gd
      replace hok := hide hok
      replace hV3 := hide hV3
      replace hok := hok.out
      have qc := fun W => DConn_any cn W
      have hcr : connOk cn = true → 0 ≤ cn ∧ cn ≤ 64 := fun h => by unfold connOk at h; have := of_decide_eq_true h; omega
      have hci : connOk cn = true → Lib.itoa cn = digS 10 cn.toNat := itoa_conn
      generalize connOk cn = bc at *
      replace hok := hide hok
      replace qc := hide qc
      go_upto_region 12 with fail
      rw [hV3.out]
      have x1 : V3.cell? ⟨p, 1, none⟩ = some (.int .i64 cn) := gd.out.a.cell 1
      have x3 : V3.cell? ⟨p, 3, none⟩ = some (.string ⟨by_.toArray⟩) := gd.out.a.cell 3
      clear hV3 c0 c1 c2 c3 c4 d1 d2 d3 d4
      cases bc with
      | false =>
        have hok2 := hok.out
        rw [Bool.false_and, Bool.false_and] at hok2
        clear hok hcr hci
        replace hok := hide hok2
        clear hok2
        go_wp2_with (go_at_call 53; refine (qc.out _).mono ?_; rintro e9 w9 ⟨rfl, rfl⟩)
        skip
        go_meet
        case rel => exact ⟨[], false, ⟨2, cn, [], by_, 0⟩, by first | rfl | simp, by first | rfl | (apply congrArg Value.string; apply ByteArray.ext; simp), gd.out, by rw [hok.out]; first | rfl | simp⟩
      | true =>
        replace hcr := hcr rfl
        replace hci := hci rfl
        have hok2 := hok.out
        rw [hci, Bool.true_and] at hok2
        clear hok hci
        have qn := fun W => DNum35_any cn hcr.1 (by omega) W
        have hdl : (digS 10 cn.toNat).length ≤ 10 := dig10 (by omega)
        generalize digS 10 cn.toNat = d at *
        clear hcr
        have qb := fun W => DByt35_any by_ h3.out W
        have hwl := wordB_len by_
        have hbl := h3.out
        generalize wordB by_ = wd at *
        rw [show Lib.join [[100, 97, 116, 97], d, wd] [32] = [100, 97, 116, 97, 32] ++ d ++ [32] ++ wd by simp [Lib.join]] at hok2
        have z0 : ¬ 9223372036854775807 < 5 + d.length := by omega
        have z1 : ¬ 9223372036854775807 < 5 + d.length + 1 := by omega
        have z2 : ¬ 9223372036854775807 < 5 + d.length + 1 + wd.length := by omega
        clear hwl hdl hbl
        replace qn := hide qn
        replace qb := hide qb
        by_cases hl : by_.length ≤ 4096
        · have b1 : decide ((by_.length : Int) ≤ 4096) = true := decide_eq_true (by omega)
          rw [decide_eq_true hl] at hok2
          clear hl
          replace hok := hide hok2
          clear hok2
          go_upto_region 14 with (go_at_call 53; refine (qc.out _).mono ?_; rintro e9 w9 ⟨rfl, rfl⟩)
          go_region_with (first | (go_at_call 46; refine (qn.out _).mono ?_; rintro e3 W3 ⟨rfl, he3⟩; have x3b := he3.cell x3; have gd3 := hide ((gd.out.drew).ext he3); clear he3) | (go_at_call 47; refine (qb.out _).mono ?_; rintro e4 W4 ⟨rfl, he4⟩; have gd4 := hide (gd3.out.ext he4); clear he4))
          all_goals go_wp2_with fail
          all_goals go_meet
          all_goals (case rel => exact ⟨([100, 97, 116, 97, 32] ++ d ++ [32] ++ wd), true, ⟨2, cn, [], by_, 0⟩, by first | rfl | simp, by first | rfl | (apply congrArg Value.string; apply ByteArray.ext; simp), gd4.out, by first | exact hok.out | (rw [hok.out]; simp)⟩)
        · have b1 : decide ((by_.length : Int) ≤ 4096) = false := decide_eq_false (by omega)
          rw [decide_eq_false hl] at hok2
          clear hl
          replace hok := hide hok2
          clear hok2
          go_wp2_with (go_at_call 53; refine (qc.out _).mono ?_; rintro e9 w9 ⟨rfl, rfl⟩)
          skip
          go_meet
          case rel => exact ⟨[], false, ⟨2, cn, [], by_, 0⟩, by first | rfl | simp, by first | rfl | (apply congrArg Value.string; apply ByteArray.ext; simp), gd.out, by rw [hok.out]; first | rfl | simp⟩
    have g2 : (kd == 2) = false := beq_eq_false_iff_ne.2 hk2
    have g2b : decide (kd = 2) = false := decide_eq_false hk2
    by_cases hk3 : kd = 3
    · subst hk3
      have gd : GdO w p ⟨3, cn, pr, by_, er⟩ ⟨3, cn, [], [], 0⟩ (V2.setCell ⟨p + 1, 1, none⟩ (.int .i64 cn)) := ⟨(A.out.far (p := ⟨p + 1, 1, none⟩) (show p ≠ p + 1 by omega) (.int .i64 cn)), (B.out.set_ 1 (.int .i64 cn)), (E2.out.setCell (p := ⟨p + 1, 1, none⟩) hpw (.int .i64 cn))⟩
      have hok := outT3 cn pr by_ er
      obtain ⟨V3, hV3⟩ : ∃ V3, (V2.setCell ⟨p + 1, 1, none⟩ (.int .i64 cn)) = V3 := ⟨_, rfl⟩
      rw [hV3] at gd
      replace gd := hide gd
      replace hok := hide hok
      replace hV3 := hide hV3
      replace hok := hok.out
      have qc := fun W => DConn_any cn W
      have hcr : connOk cn = true → 0 ≤ cn ∧ cn ≤ 64 := fun h => by unfold connOk at h; have := of_decide_eq_true h; omega
      have hci : connOk cn = true → Lib.itoa cn = digS 10 cn.toNat := itoa_conn
      generalize connOk cn = bc at *
      replace hok := hide hok
      replace qc := hide qc
      go_upto_region 17 with fail
      rw [hV3.out]
      have x1 : V3.cell? ⟨p, 1, none⟩ = some (.int .i64 cn) := gd.out.a.cell 1
      clear hV3 c0 c1 c2 c3 c4 d1 d2 d3 d4
      cases bc with
      | false =>
        have hok2 := hok.out
        rw [Bool.false_and] at hok2
        clear hok hcr hci
        replace hok := hide hok2
        clear hok2
        go_wp2_with (go_at_call 53; refine (qc.out _).mono ?_; rintro e9 w9 ⟨rfl, rfl⟩)
        skip
        go_meet
        case rel => exact ⟨[], false, ⟨3, cn, [], [], 0⟩, by first | rfl | simp, by first | rfl | (apply congrArg Value.string; apply ByteArray.ext; simp), gd.out, by rw [hok.out]; first | rfl | simp⟩
      | true =>
        replace hcr := hcr rfl
        replace hci := hci rfl
        have hok2 := hok.out
        rw [hci, Bool.true_and] at hok2
        clear hok hci
        have qn := fun W => DNum35_any cn hcr.1 (by omega) W
        have hdl : (digS 10 cn.toNat).length ≤ 10 := dig10 (by omega)
        generalize digS 10 cn.toNat = d at *
        clear hcr
        rw [show Lib.join [[99, 108, 111, 115, 101], d] [32] = [99, 108, 111, 115, 101, 32] ++ d by simp [Lib.join]] at hok2
        have z0 : ¬ 9223372036854775807 < 6 + d.length := by omega
        replace hok := hide hok2
        clear hok2 hdl
        replace qn := hide qn
        go_wp2_with (first | (go_at_call 53; refine (qc.out _).mono ?_; rintro e9 w9 ⟨rfl, rfl⟩) | (go_at_call 46; refine (qn.out _).mono ?_; rintro e5 W5 ⟨rfl, he5⟩; have gd5 := hide (gd.out.ext he5); clear he5))
        skip
        go_meet
        case rel => exact ⟨([99, 108, 111, 115, 101, 32] ++ d), true, ⟨3, cn, [], [], 0⟩, by first | rfl | simp, by first | rfl | (apply congrArg Value.string; apply ByteArray.ext; simp), gd5.out, by first | exact hok.out | (rw [hok.out]; simp)⟩
    have g3 : (kd == 3) = false := beq_eq_false_iff_ne.2 hk3
    have g3b : decide (kd = 3) = false := decide_eq_false hk3
    by_cases hk4 : kd = 4
    · subst hk4
      have gd : GdO w p ⟨4, cn, pr, by_, er⟩ ⟨4, 0, [], by_, 0⟩ (V2.setCell ⟨p + 1, 3, none⟩ (.string ⟨by_.toArray⟩)) := ⟨(A.out.far (p := ⟨p + 1, 3, none⟩) (show p ≠ p + 1 by omega) (.string ⟨by_.toArray⟩)), (B.out.set_ 3 (.string ⟨by_.toArray⟩)), (E2.out.setCell (p := ⟨p + 1, 3, none⟩) hpw (.string ⟨by_.toArray⟩))⟩
      have hok := outT4 cn pr by_ er
      obtain ⟨V3, hV3⟩ : ∃ V3, (V2.setCell ⟨p + 1, 3, none⟩ (.string ⟨by_.toArray⟩)) = V3 := ⟨_, rfl⟩
      rw [hV3] at gd
      replace gd := hide gd
      replace hok := hide hok
      replace hV3 := hide hV3
      replace hok := hok.out
      have qb := fun W => DByt35_any by_ h3.out W
      have hwl := wordB_len by_
      have hbl := h3.out
      generalize wordB by_ = wd at *
      rw [show Lib.join [[114, 101, 112, 108, 121], wd] [32] = [114, 101, 112, 108, 121, 32] ++ wd by simp [Lib.join]] at hok
      have z0 : ¬ 9223372036854775807 < 6 + wd.length := by omega
      clear hwl hbl
      replace qb := hide qb
      replace hok := hide hok
      go_upto_region 22 with fail
      rw [hV3.out]
      have x3 : V3.cell? ⟨p, 3, none⟩ = some (.string ⟨by_.toArray⟩) := gd.out.a.cell 3
      clear hV3 c0 c1 c2 c3 c4 d1 d2 d3 d4
      go_wp2_with (go_at_call 47; refine (qb.out _).mono ?_; rintro e5 W5 ⟨rfl, he5⟩; have gd5 := hide (gd.out.ext he5); clear he5)
      skip
      go_meet
      case rel => exact ⟨([114, 101, 112, 108, 121, 32] ++ wd), true, ⟨4, 0, [], by_, 0⟩, by first | rfl | simp, by first | rfl | (apply congrArg Value.string; apply ByteArray.ext; simp), gd5.out, hok.out⟩
    have g4 : (kd == 4) = false := beq_eq_false_iff_ne.2 hk4
    have g4b : decide (kd = 4) = false := decide_eq_false hk4
    by_cases hk5 : kd = 5
    · subst hk5
      have gd : GdO w p ⟨5, cn, pr, by_, er⟩ ⟨5, 0, [], [], er⟩ (V2.setCell ⟨p + 1, 4, none⟩ (.int .i64 er)) := ⟨(A.out.far (p := ⟨p + 1, 4, none⟩) (show p ≠ p + 1 by omega) (.int .i64 er)), (B.out.set_ 4 (.int .i64 er)), (E2.out.setCell (p := ⟨p + 1, 4, none⟩) hpw (.int .i64 er))⟩
      have hok := outT5 cn pr by_ er
      obtain ⟨V3, hV3⟩ : ∃ V3, (V2.setCell ⟨p + 1, 4, none⟩ (.int .i64 er)) = V3 := ⟨_, rfl⟩
      rw [hV3] at gd
      replace gd := hide gd
      replace hok := hide hok
      replace hV3 := hide hV3
      replace hok := hok.out
      replace hok := hide hok
      go_upto_region 26 with fail
      rw [hV3.out]
      have x4 : V3.cell? ⟨p, 4, none⟩ = some (.int .i64 er) := gd.out.a.cell 4
      clear hV3 c0 c1 c2 c3 c4 d1 d2 d3 d4
      by_cases h0 : 0 ≤ er
      · have b1 : decide (0 ≤ er) = true := decide_eq_true h0
        by_cases h9 : er ≤ 11
        · have b2 : decide (er ≤ 11) = true := decide_eq_true h9
          have hok2 := hok.out
          rw [decide_eq_true (show 0 ≤ er ∧ er ≤ 11 from ⟨h0, h9⟩), itoa_nn h0] at hok2
          have qn := fun W => DNum35_any er h0 (by omega) W
          have hdl : (digS 10 er.toNat).length ≤ 10 := dig10 (by omega)
          generalize digS 10 er.toNat = d at *
          rw [show Lib.join [[108, 111, 97, 100], d] [32] = [108, 111, 97, 100, 32] ++ d by simp [Lib.join]] at hok2
          have z0 : ¬ 9223372036854775807 < 5 + d.length := by omega
          clear hok h0 h9 hdl
          replace hok := hide hok2
          clear hok2
          replace qn := hide qn
          go_wp2_with (go_at_call 46; refine (qn.out _).mono ?_; rintro e5 W5 ⟨rfl, he5⟩; have gd5 := hide (gd.out.ext he5); clear he5)
          skip
          go_meet
          case rel => exact ⟨([108, 111, 97, 100, 32] ++ d), true, ⟨5, 0, [], [], er⟩, by first | rfl | simp, by first | rfl | (apply congrArg Value.string; apply ByteArray.ext; simp), gd5.out, hok.out⟩
        · have b2 : decide (er ≤ 11) = false := decide_eq_false h9
          have hok2 := hok.out
          rw [decide_eq_false (fun h : 0 ≤ er ∧ er ≤ 11 => h9 h.2)] at hok2
          clear hok h0 h9
          replace hok := hide hok2
          clear hok2
          go_wp2_with fail
          skip
          go_meet
          case rel => exact ⟨[], false, ⟨5, 0, [], [], er⟩, by first | rfl | simp, by first | rfl | (apply congrArg Value.string; apply ByteArray.ext; simp), gd.out, by rw [hok.out]; first | rfl | simp⟩
      · have b1 : decide (0 ≤ er) = false := decide_eq_false h0
        have hok2 := hok.out
        rw [decide_eq_false (fun h : 0 ≤ er ∧ er ≤ 11 => h0 h.1)] at hok2
        clear hok h0
        replace hok := hide hok2
        clear hok2
        go_wp2_with fail
        skip
        go_meet
        case rel => exact ⟨[], false, ⟨5, 0, [], [], er⟩, by first | rfl | simp, by first | rfl | (apply congrArg Value.string; apply ByteArray.ext; simp), gd.out, by rw [hok.out]; first | rfl | simp⟩
    have g5 : (kd == 5) = false := beq_eq_false_iff_ne.2 hk5
    have g5b : decide (kd = 5) = false := decide_eq_false hk5
    have gd : GdO w p ⟨kd, cn, pr, by_, er⟩ ⟨kd, 0, [], [], 0⟩ V2 := ⟨A.out, B.out, E2.out⟩
    have hr := outT0 hk1 hk2 hk3 hk4 hk5 cn pr by_ er
    clear hk1 hk2 hk3 hk4 hk5
    replace gd := hide gd
    replace hr := hide hr
    go_wp2_with fail
    go_meet
    case rel => exact ⟨[], false, ⟨kd, 0, [], [], 0⟩, by first | rfl | simp, by first | rfl | simp, gd.out, by rw [hr.out]; rfl⟩
  case rest =>
    obtain ⟨s, b, o2, rfl, rfl, gd, hr⟩ := hcut
    have hq := fun W => run_neq_ofB (run_eqOut W ⟨kd, cn, pr, by_, er⟩ o2)
    generalize decide ((⟨kd, cn, pr, by_, er⟩ : OutS) = o2) = t at *
    obtain ⟨kd2, cn2, pr2, by2, er2⟩ := o2
    dsimp only at hq
    have x0 : wc.cell? ⟨p, 0, none⟩ = some (.int .i64 kd) := gd.a.cell 0
    have x1 : wc.cell? ⟨p, 1, none⟩ = some (.int .i64 cn) := gd.a.cell 1
    have x2 : wc.cell? ⟨p, 2, none⟩ = some (.string ⟨pr.toArray⟩) := gd.a.cell 2
    have x3 : wc.cell? ⟨p, 3, none⟩ = some (.string ⟨by_.toArray⟩) := gd.a.cell 3
    have x4 : wc.cell? ⟨p, 4, none⟩ = some (.int .i64 er) := gd.a.cell 4
    have y0 : wc.cell? ⟨p + 1, 0, none⟩ = some (.int .i64 kd2) := gd.b.cell 0
    have y1 : wc.cell? ⟨p + 1, 1, none⟩ = some (.int .i64 cn2) := gd.b.cell 1
    have y2 : wc.cell? ⟨p + 1, 2, none⟩ = some (.string ⟨pr2.toArray⟩) := gd.b.cell 2
    have y3 : wc.cell? ⟨p + 1, 3, none⟩ = some (.string ⟨by2.toArray⟩) := gd.b.cell 3
    have y4 : wc.cell? ⟨p + 1, 4, none⟩ = some (.int .i64 er2) := gd.b.cell 4
    have E9 := gd.e
    clear gd
    try clear c0
    replace E9 := hide E9
    replace hr := hide hr
    cases b
    · have hf := hr.out
      rw [Bool.false_and, if_neg (by decide)] at hf
      clear hr
      replace hf := hide hf
      go_wp2_with fail
      try go_ret2
      exact hPost.out _ _ _ hf.out E9.out
    · cases t
      · have hf := hr.out
        rw [Bool.and_false, if_neg (by decide)] at hf
        clear hr
        replace hf := hide hf
        go_wp2_with fail
        try go_ret2
        exact hPost.out _ _ _ hf.out E9.out
      · have hf := hr.out
        rw [Bool.and_true, if_pos rfl] at hf
        clear hr
        replace hf := hide hf
        go_wp2_with fail
        try go_ret2
        exact hPost.out _ _ _ hf.out E9.out
end
section
open Go.RowKit
set_option linter.unusedVariables false
set_option linter.unusedSimpArgs false
/-- An event that may be is small. -/
structure EvSm (e : EvS) : Prop where
  conn : 0 ≤ e.conn ∧ e.conn ≤ 64
  addr : e.addr.length ≤ 16
  peer : e.peer.length ≤ 16
  bytes : e.bytes.length ≤ 65536
  ticks : 0 ≤ e.ticks ∧ e.ticks ≤ 4096
theorem EvSm.mk' {e : EvS} (k c : Int) (a p b : List UInt8) (t : Int) (d : UInt32) (he : e = ⟨k, c, a, p, b, t, d⟩) (h2 : 0 ≤ c ∧ c ≤ 64) (h3 : a.length ≤ 16) (h4 : p.length ≤ 16) (h5 : b.length ≤ 65536) (h6 : 0 ≤ t ∧ t ≤ 4096) : EvSm e := by
 subst he
 exact ⟨h2, h3, h4, h5, h6⟩
theorem evOk_len {s : List UInt8} (h : nameOk s = true) : s.length ≤ 16 := by
 unfold nameOk at h
 simp only [Bool.and_eq_true, decide_eq_true_eq] at h
 exact h.2.1
theorem evOk_sm {e : EvS} (h : evOk e = true) : EvSm e := by
 unfold evOk connOk at h
 by_cases k1 : e.kind = 1
 ·rw [if_pos k1] at h
  simp only [Bool.and_eq_true, decide_eq_true_eq] at h
  obtain ⟨he, hc, ha⟩ := h
  exact EvSm.mk' _ _ _ _ _ _ _ he ⟨by omega, by omega⟩ (by rcases ha with h | h <;> omega) (by simp) (by simp) (by simp)
 rw [if_neg k1] at h
 by_cases k2 : e.kind = 2
 ·rw [if_pos k2] at h
  simp only [Bool.and_eq_true, decide_eq_true_eq] at h
  obtain ⟨he, hc, ha⟩ := h
  exact EvSm.mk' _ _ _ _ _ _ _ he ⟨by omega, by omega⟩ (by simp) (evOk_len ha) (by simp) (by simp)
 rw [if_neg k2] at h
 by_cases k3 : e.kind = 3
 ·rw [if_pos k3] at h
  simp only [Bool.and_eq_true, decide_eq_true_eq] at h
  obtain ⟨he, ha⟩ := h
  exact EvSm.mk' _ _ _ _ _ _ _ he (by decide) (by simp) (evOk_len ha) (by simp) (by simp)
 rw [if_neg k3] at h
 by_cases k4 : e.kind = 4
 ·rw [if_pos k4] at h
  simp only [Bool.and_eq_true, decide_eq_true_eq] at h
  obtain ⟨he, hc, ha⟩ := h
  exact EvSm.mk' _ _ _ _ _ _ _ he ⟨by omega, by omega⟩ (by simp) (by simp) (by omega) (by simp)
 rw [if_neg k4] at h
 by_cases k5 : e.kind = 5
 ·rw [if_pos k5] at h
  simp only [Bool.and_eq_true, decide_eq_true_eq] at h
  obtain ⟨he, hc⟩ := h
  exact EvSm.mk' _ _ _ _ _ _ _ he ⟨by omega, by omega⟩ (by simp) (by simp) (by simp) (by simp)
 rw [if_neg k5] at h
 by_cases k6 : e.kind = 6
 ·rw [if_pos k6] at h
  simp only [Bool.and_eq_true, decide_eq_true_eq] at h
  obtain ⟨he, ht⟩ := h
  exact EvSm.mk' _ _ _ _ _ _ _ he (by decide) (by simp) (by simp) (by simp) (⟨by omega, by omega⟩)
 rw [if_neg k6] at h
 by_cases k7 : e.kind = 7
 ·rw [if_pos k7] at h
  simp only [Bool.and_eq_true, decide_eq_true_eq] at h
  obtain ⟨he, hb⟩ := h
  exact EvSm.mk' _ _ _ _ _ _ _ he (by decide) (by simp) (by simp) (hb) (by simp)
 rw [if_neg k7] at h
 by_cases k8 : e.kind = 8
 ·rw [if_pos k8] at h
  simp only [Bool.and_eq_true, decide_eq_true_eq] at h
  obtain ⟨he, hb⟩ := h
  exact EvSm.mk' _ _ _ _ _ _ _ he (by decide) (by simp) (by simp) (by omega) (by simp)
 rw [if_neg k8] at h
 by_cases k9 : e.kind = 9
 ·rw [if_pos k9] at h
  simp only [Bool.and_eq_true, decide_eq_true_eq] at h
  have he := h
  exact EvSm.mk' _ _ _ _ _ _ _ he (by decide) (by simp) (by simp) (by simp) (by simp)
 rw [if_neg k9] at h
 by_cases k10 : e.kind = 10
 ·rw [if_pos k10] at h
  simp only [Bool.and_eq_true, decide_eq_true_eq] at h
  have he := h
  exact EvSm.mk' _ _ _ _ _ _ _ he (by decide) (by simp) (by simp) (by simp) (by simp)
 rw [if_neg k10] at h
 cases h
set_option maxRecDepth 20000 in
set_option maxHeartbeats 8000000 in
theorem DLine_any (e : EvS) (w : World) : Calls Tryz.prog 21 #[.agg (evCs e).toArray] w fun e' w' => e' = .returned (.tuple #[.string ⟨(evT e).1.toArray⟩, .int .i64 (evT e).2]) ∧ Ext w w' := by
  have hR : ∀ (bs : ByteArray) W, evOk e = true → bs = ⟨(evW e).toArray⟩ → Ext w W → (Ending.returned (.tuple #[.string bs, .int .i64 0]) = Ending.returned (.tuple #[.string ⟨(evT e).1.toArray⟩, .int .i64 (evT e).2]) ∧ Ext w W) := fun bs W h1 h2 he => ⟨by unfold evT; rw [if_pos h1, h2], he⟩
  have hN : ∀ W, evOk e = false → Ext w W → (Ending.returned (.tuple #[.string ⟨#[]⟩, .int .i64 2]) = Ending.returned (.tuple #[.string ⟨(evT e).1.toArray⟩, .int .i64 (evT e).2]) ∧ Ext w W) := fun W h1 he => ⟨by unfold evT; rw [if_neg (by rw [h1]; decide)], he⟩
  have qm := fun W => DMay_any e W
  generalize hQ : (fun e' w' => e' = Ending.returned (.tuple #[.string ⟨(evT e).1.toArray⟩, .int .i64 (evT e).2]) ∧ Ext w w') = Post
  replace hR : ∀ (bs : ByteArray) W, evOk e = true → bs = ⟨(evW e).toArray⟩ → Ext w W → Post (.returned (.tuple #[.string bs, .int .i64 0])) W := by rw [← hQ]; exact hR
  replace hN : ∀ W, evOk e = false → Ext w W → Post (.returned (.tuple #[.string ⟨#[]⟩, .int .i64 2])) W := by rw [← hQ]; exact hN
  clear hQ
  have hsm := fun h : evOk e = true => evOk_sm h
  obtain ⟨kd, cn, ad, pr, by_, tk, dr⟩ := e
  have A := Blk.new w 31 #[.int .i64 kd, .int .i64 cn, .string ⟨ad.toArray⟩, .string ⟨pr.toArray⟩, .string ⟨by_.toArray⟩, .int .i64 tk, .int .u32 (dr.toNat : Int)]
  have E1 := (Ext.refl w).alloc (Obj.cells #[.int .i64 kd, .int .i64 cn, .string ⟨ad.toArray⟩, .string ⟨pr.toArray⟩, .string ⟨by_.toArray⟩, .int .i64 tk, .int .u32 (dr.toNat : Int)] 31)
  generalize hV1 : w.alloc (Obj.cells #[.int .i64 kd, .int .i64 cn, .string ⟨ad.toArray⟩, .string ⟨pr.toArray⟩, .string ⟨by_.toArray⟩, .int .i64 tk, .int .u32 (dr.toNat : Int)] 31) = V1 at A E1
  generalize hp : w.heap.size = p at A
  simp only [evCs] at qm ⊢
  replace hV1 := hide hV1
  replace hp := hide hp
  replace A := hide A
  replace E1 := hide E1
  replace qm := hide qm
  replace hR := hide hR
  replace hN := hide hN
  replace hsm := hide hsm
  go_enter Tryz.func21, Tryz.ntmps21
  go_upto_region 1 with fail
  rw [hV1.out]
  simp only [hp.out]
  have c0 : V1.cell? ⟨p, 0, none⟩ = some (.int .i64 kd) := A.out.cell 0
  have c1 : V1.cell? ⟨p, 1, none⟩ = some (.int .i64 cn) := A.out.cell 1
  have c2 : V1.cell? ⟨p, 2, none⟩ = some (.string ⟨ad.toArray⟩) := A.out.cell 2
  have c3 : V1.cell? ⟨p, 3, none⟩ = some (.string ⟨pr.toArray⟩) := A.out.cell 3
  have c4 : V1.cell? ⟨p, 4, none⟩ = some (.string ⟨by_.toArray⟩) := A.out.cell 4
  have c5 : V1.cell? ⟨p, 5, none⟩ = some (.int .i64 tk) := A.out.cell 5
  have c6 : V1.cell? ⟨p, 6, none⟩ = some (.int .u32 (dr.toNat : Int)) := A.out.cell 6
  clear hV1 hp
  cases hok : evOk ⟨kd, cn, ad, pr, by_, tk, dr⟩ with
  | false =>
    have q := qm.out V1
    rw [hok] at q
    have hN2 := fun W => hN.out W hok
    clear hok hR hN qm hsm
    replace q := hide q
    replace hN2 := hide hN2
    go_wp2_with fail
    refine q.out.mono ?_
    rintro e1 W2 ⟨rfl, he⟩
    go_wp2
    try go_ret2
    exact hN2.out _ (E1.out.trans he)
  | true =>
    have q := qm.out V1
    rw [hok] at q
    have hR2 := fun bs W => hR.out bs W hok
    obtain ⟨s1, s2, s3, s4, s5⟩ := hsm.out hok
    dsimp only at s1 s2 s3 s4 s5
    have hkd : kd ≠ 1 → kd ≠ 2 → kd ≠ 3 → kd ≠ 4 → kd ≠ 5 → kd ≠ 6 → kd ≠ 7 → kd ≠ 8 → kd ≠ 9 → kd = 10 := fun a1 a2 a3 a4 a5 a6 a7 a8 a9 => by
      rcases Classical.em (kd = 10) with h | h
      · exact h
      · have : evOk ⟨kd, cn, ad, pr, by_, tk, dr⟩ = false := by simp [evOk, a1, a2, a3, a4, a5, a6, a7, a8, a9, h]
        rw [hok] at this; cases this
    clear hok hR hN qm hsm
    replace q := hide q
    replace hR2 := hide hR2
    replace s1 := hide s1
    replace s2 := hide s2
    replace s3 := hide s3
    replace s4 := hide s4
    replace s5 := hide s5
    replace hkd := hide hkd
    go_wp2_with fail
    refine q.out.mono ?_
    rintro e1 W2 ⟨rfl, he⟩
    have E2 := E1.out.trans he
    have A2 := A.out.ext he
    clear he q E1 A c0 c1 c2 c3 c4 c5 c6
    have c0 : W2.cell? ⟨p, 0, none⟩ = some (.int .i64 kd) := A2.cell 0
    go_upto_block 0 with fail

    by_cases hk1 : kd = 1
    · subst hk1
      clear hkd
      have c2 : W2.cell? ⟨p, 2, none⟩ = some (.string ⟨ad.toArray⟩) := A2.cell 2
      have q := RAddrText_any ad (by have := s2.out; omega) W2
      have hal := addrT_len (a := ad)
      obtain ⟨a, ec, hat⟩ : ∃ a ec, addrT ad = (a, ec) := ⟨_, _, rfl⟩
      rw [hat] at q hal
      dsimp only at hal
      replace q := hide q
      replace hat := hide hat
      go_wp2_with fail
      refine q.out.mono ?_
      rintro e3 W3 ⟨rfl, he3⟩
      have E3 := E2.trans he3
      have A3 := A2.ext he3
      clear c0 c2 q E2 A2 he3
      have c1 : W3.cell? ⟨p, 1, none⟩ = some (.int .i64 cn) := A3.cell 1
      have q := DNum35_any cn s1.out.1 (by have := s1.out; omega) W3
      have hdl : (digS 10 cn.toNat).length ≤ 10 := dig10 (by have := s1.out; omega)
      obtain ⟨d, hd⟩ : ∃ d, digS 10 cn.toNat = d := ⟨_, rfl⟩
      rw [hd] at q hdl
      have z0 : ¬ 9223372036854775807 < 3 + d.length := by omega
      have z1 : ¬ 9223372036854775807 < 3 + d.length + 1 := by omega
      have z2 : ¬ 9223372036854775807 < 3 + d.length + 1 + a.length := by omega
      replace q := hide q
      replace hd := hide hd
      replace E3 := hide E3
      replace hal := hide hal
      replace hdl := hide hdl
      go_wp2_with fail
      refine q.out.mono ?_
      rintro e4 W4 ⟨rfl, he4⟩
      have E4 := hide (E3.out.trans he4)
      clear q he4
      go_wp2
      try go_ret2
      exact hR2.out _ _ (by apply ByteArray.ext; simp [evW, evWs, Lib.join, hd.out, hat.out]) E4.out
    have g1 : (kd == 1) = false := beq_eq_false_iff_ne.2 hk1
    have g1b : decide (kd = 1) = false := decide_eq_false hk1
    by_cases hk2 : kd = 2
    · subst hk2
      clear hkd
      have c1 : W2.cell? ⟨p, 1, none⟩ = some (.int .i64 cn) := A2.cell 1
      have c3 : W2.cell? ⟨p, 3, none⟩ = some (.string ⟨pr.toArray⟩) := A2.cell 3
      have qn := fun W => DNum35_any cn s1.out.1 (by have := s1.out; omega) W
      have hdl : (digS 10 cn.toNat).length ≤ 10 := dig10 (by have := s1.out; omega)
      obtain ⟨d, hd⟩ : ∃ d, digS 10 cn.toNat = d := ⟨_, rfl⟩
      rw [hd] at qn hdl
      have hpl := s3.out
      have z0 : ¬ 9223372036854775807 < 3 + d.length := by omega
      have z1 : ¬ 9223372036854775807 < 3 + d.length + 1 := by omega
      have z2 : ¬ 9223372036854775807 < 3 + d.length + 1 + pr.length := by omega
      replace qn := hide qn
      replace hd := hide hd
      replace hdl := hide hdl
      replace hpl := hide hpl
      go_upto_region 8 with fail
      go_region_with (go_at_call 46; refine (qn.out _).mono ?_; rintro e3 W3 ⟨rfl, he3⟩; have c3b := he3.cell c3; have E3 := hide ((E2.drew).trans he3); clear he3)
      all_goals go_wp2
      all_goals try go_ret2
      all_goals exact hR2.out _ _ (by apply ByteArray.ext; simp [evW, evWs, Lib.join, hd.out]) E3.out
    have g2 : (kd == 2) = false := beq_eq_false_iff_ne.2 hk2
    have g2b : decide (kd = 2) = false := decide_eq_false hk2
    by_cases hk3 : kd = 3
    · subst hk3
      clear hkd
      have c3 : W2.cell? ⟨p, 3, none⟩ = some (.string ⟨pr.toArray⟩) := A2.cell 3
      have hpl := s3.out
      have z0 : ¬ 9223372036854775807 < 7 + pr.length := by omega
      replace E2 := hide E2
      replace hpl := hide hpl
      go_wp2_with fail
      try go_ret2
      exact hR2.out _ _ (by apply ByteArray.ext; simp [evW, evWs, Lib.join, List.append_assoc]) E2.out
    have g3 : (kd == 3) = false := beq_eq_false_iff_ne.2 hk3
    have g3b : decide (kd = 3) = false := decide_eq_false hk3
    by_cases hk4 : kd = 4
    · subst hk4
      clear hkd
      have c1 : W2.cell? ⟨p, 1, none⟩ = some (.int .i64 cn) := A2.cell 1
      have c4 : W2.cell? ⟨p, 4, none⟩ = some (.string ⟨by_.toArray⟩) := A2.cell 4
      have qn := fun W => DNum35_any cn s1.out.1 (by have := s1.out; omega) W
      have hdl : (digS 10 cn.toNat).length ≤ 10 := dig10 (by have := s1.out; omega)
      obtain ⟨d, hd⟩ : ∃ d, digS 10 cn.toNat = d := ⟨_, rfl⟩
      rw [hd] at qn hdl
      have qb := fun W => DByt35_any by_ (by have := s4.out; omega) W
      have hwl := wordB_len by_
      obtain ⟨wd, hwd⟩ : ∃ wd, wordB by_ = wd := ⟨_, rfl⟩
      rw [hwd] at qb hwl
      have hbl := s4.out
      have z0 : ¬ 9223372036854775807 < 5 + d.length := by omega
      have z1 : ¬ 9223372036854775807 < 5 + d.length + 1 := by omega
      have z2 : ¬ 9223372036854775807 < 5 + d.length + 1 + wd.length := by omega
      replace qn := hide qn
      replace hd := hide hd
      replace hdl := hide hdl
      replace qb := hide qb
      replace hwd := hide hwd
      replace hwl := hide hwl
      replace hbl := hide hbl
      go_upto_region 12 with fail
      go_region_with (first | (go_at_call 46; refine (qn.out _).mono ?_; rintro e3 W3 ⟨rfl, he3⟩; have c4b := he3.cell c4; have E3 := hide ((E2.drew).trans he3); clear he3) | (go_at_call 47; refine (qb.out _).mono ?_; rintro e4 W4 ⟨rfl, he4⟩; have E4 := hide (E3.out.trans he4); clear he4))
      all_goals go_wp2
      all_goals try go_ret2
      all_goals exact hR2.out _ _ (by apply ByteArray.ext; simp [evW, evWs, Lib.join, hd.out, hwd.out]) E4.out
    have g4 : (kd == 4) = false := beq_eq_false_iff_ne.2 hk4
    have g4b : decide (kd = 4) = false := decide_eq_false hk4
    by_cases hk5 : kd = 5
    · subst hk5
      clear hkd
      have c1 : W2.cell? ⟨p, 1, none⟩ = some (.int .i64 cn) := A2.cell 1
      have q := DNum35_any cn s1.out.1 (by have := s1.out; omega) W2
      have hdl : (digS 10 cn.toNat).length ≤ 10 := dig10 (by have := s1.out; omega)
      obtain ⟨d, hd⟩ : ∃ d, digS 10 cn.toNat = d := ⟨_, rfl⟩
      rw [hd] at q hdl
      have z0 : ¬ 9223372036854775807 < 6 + d.length := by omega
      replace q := hide q
      replace hd := hide hd
      replace hdl := hide hdl
      replace E2 := hide E2
      go_wp2_with fail
      refine q.out.mono ?_
      rintro e4 W4 ⟨rfl, he4⟩
      have E4 := hide (E2.out.trans he4)
      clear q he4
      go_wp2
      try go_ret2
      exact hR2.out _ _ (by apply ByteArray.ext; simp [evW, evWs, Lib.join, hd.out]) E4.out
    have g5 : (kd == 5) = false := beq_eq_false_iff_ne.2 hk5
    have g5b : decide (kd = 5) = false := decide_eq_false hk5
    by_cases hk6 : kd = 6
    · subst hk6
      clear hkd
      have c5 : W2.cell? ⟨p, 5, none⟩ = some (.int .i64 tk) := A2.cell 5
      have q := DNum35_any tk s5.out.1 (by have := s5.out; omega) W2
      have hdl : (digS 10 tk.toNat).length ≤ 10 := dig10 (by have := s5.out; omega)
      obtain ⟨d, hd⟩ : ∃ d, digS 10 tk.toNat = d := ⟨_, rfl⟩
      rw [hd] at q hdl
      have z0 : ¬ 9223372036854775807 < 5 + d.length := by omega
      replace q := hide q
      replace hd := hide hd
      replace hdl := hide hdl
      replace E2 := hide E2
      go_wp2_with fail
      refine q.out.mono ?_
      rintro e4 W4 ⟨rfl, he4⟩
      have E4 := hide (E2.out.trans he4)
      clear q he4
      go_wp2
      try go_ret2
      exact hR2.out _ _ (by apply ByteArray.ext; simp [evW, evWs, Lib.join, hd.out]) E4.out
    have g6 : (kd == 6) = false := beq_eq_false_iff_ne.2 hk6
    have g6b : decide (kd = 6) = false := decide_eq_false hk6
    by_cases hk7 : kd = 7
    · subst hk7
      clear hkd
      have c4 : W2.cell? ⟨p, 4, none⟩ = some (.string ⟨by_.toArray⟩) := A2.cell 4
      have q := DByt35_any by_ (by have := s4.out; omega) W2
      have hwl := wordB_len by_
      obtain ⟨wd, hwd⟩ : ∃ wd, wordB by_ = wd := ⟨_, rfl⟩
      rw [hwd] at q hwl
      have hbl := s4.out
      have z0 : ¬ 9223372036854775807 < 5 + wd.length := by omega
      replace q := hide q
      replace hwd := hide hwd
      replace hwl := hide hwl
      replace hbl := hide hbl
      replace E2 := hide E2
      go_wp2_with fail
      refine q.out.mono ?_
      rintro e4 W4 ⟨rfl, he4⟩
      have E4 := hide (E2.out.trans he4)
      clear q he4
      go_wp2
      try go_ret2
      exact hR2.out _ _ (by apply ByteArray.ext; simp [evW, evWs, Lib.join, hwd.out]) E4.out
    have g7 : (kd == 7) = false := beq_eq_false_iff_ne.2 hk7
    have g7b : decide (kd = 7) = false := decide_eq_false hk7
    by_cases hk8 : kd = 8
    · subst hk8
      clear hkd
      have c4 : W2.cell? ⟨p, 4, none⟩ = some (.string ⟨by_.toArray⟩) := A2.cell 4
      have q := DByt35_any by_ (by have := s4.out; omega) W2
      have hwl := wordB_len by_
      obtain ⟨wd, hwd⟩ : ∃ wd, wordB by_ = wd := ⟨_, rfl⟩
      rw [hwd] at q hwl
      have hbl := s4.out
      have z0 : ¬ 9223372036854775807 < 4 + wd.length := by omega
      replace q := hide q
      replace hwd := hide hwd
      replace hwl := hide hwl
      replace hbl := hide hbl
      replace E2 := hide E2
      go_wp2_with fail
      refine q.out.mono ?_
      rintro e4 W4 ⟨rfl, he4⟩
      have E4 := hide (E2.out.trans he4)
      clear q he4
      go_wp2
      try go_ret2
      exact hR2.out _ _ (by apply ByteArray.ext; simp [evW, evWs, Lib.join, hwd.out]) E4.out
    have g8 : (kd == 8) = false := beq_eq_false_iff_ne.2 hk8
    have g8b : decide (kd = 8) = false := decide_eq_false hk8
    by_cases hk9 : kd = 9
    · subst hk9
      clear hkd
      have c6 : W2.cell? ⟨p, 6, none⟩ = some (.int .u32 (dr.toNat : Int)) := A2.cell 6
      have hdrl := dr.toNat_lt
      have hw : IntKind.i64.wrap (dr.toNat : Int) = (dr.toNat : Int) := by rw [IntKind.wrap_i64]; omega
      have q := DNum35_any (dr.toNat : Int) (by omega) (by omega) W2
      rw [Int.toNat_natCast] at q
      have hdl : (digS 10 dr.toNat).length ≤ 10 := dig10 (by omega)
      obtain ⟨d, hd⟩ : ∃ d, digS 10 dr.toNat = d := ⟨_, rfl⟩
      clear hdrl
      rw [hd] at q hdl
      have z0 : ¬ 9223372036854775807 < 5 + d.length := by omega
      replace q := hide q
      replace hd := hide hd
      replace hdl := hide hdl
      replace E2 := hide E2
      go_wp2_with fail
      refine q.out.mono ?_
      rintro e4 W4 ⟨rfl, he4⟩
      have E4 := hide (E2.out.trans he4)
      clear q he4
      go_wp2
      try go_ret2
      exact hR2.out _ _ (by apply ByteArray.ext; simp [evW, evWs, Lib.join, hd.out]) E4.out
    have g9 : (kd == 9) = false := beq_eq_false_iff_ne.2 hk9
    have g9b : decide (kd = 9) = false := decide_eq_false hk9
    obtain rfl := hkd.out hk1 hk2 hk3 hk4 hk5 hk6 hk7 hk8 hk9
    clear hkd hk1 hk2 hk3 hk4 hk5 hk6 hk7 hk8 hk9
    replace E2 := hide E2
    go_wp2_with fail
    try go_ret2
    exact hR2.out _ _ (by apply ByteArray.ext; simp [evW, evWs, Lib.join]) E2.out
end
section
open Go.RowKit
set_option linter.unusedVariables false
set_option linter.unusedSimpArgs false
def EEv : Enc EvS := Enc.cells evCs EvIn 7 (fun _ => rfl) (fun x u hu => by simp only [evCs, List.mem_cons, List.not_mem_nil, or_false] at hu; rcases hu with rfl | rfl | rfl | rfl | rfl | rfl | rfl <;> rfl)
theorem EEv.at {w : World} {S : Nat → Prop} {a : Option Addr} {l : List EvS} (h : Sl EEv w S a l) (k : Nat) (hk : k < l.length) :
  ∃ b off, a = some ⟨b, off, none⟩ ∧ S b ∧ EvIn l[k] ∧ ∀ j u, (evCs l[k])[j]? = some u → w.cell? ⟨b, off + k * 7 + j, none⟩ = some u := by
 obtain ⟨b, off, cs, rfl, hb, ⟨rfl, hi⟩, hc⟩ := h.at k hk
 exact ⟨b, off, rfl, hb, hi, hc⟩
theorem okEv : ElemOk Tryz.prog 22 31 EEv.sz 80 := elemOk (z := .agg #[.int .i64 0, .int .i64 0, .string ⟨#[]⟩, .string ⟨#[]⟩, .string ⟨#[]⟩, .int .i64 0, .int .u32 0]) Tryz.underlying22 (by kernel_rfl) rfl
theorem i64_of {x : Int} (h1 : 0 ≤ x) (h2 : x ≤ 1048576) : i64 x := by unfold i64; omega
theorem nameOk_len {s : List UInt8} (h : nameOk s = true) : s.length ≤ 16 := by
 unfold nameOk at h
 simp only [Bool.and_eq_true, decide_eq_true_eq] at h
 exact h.2.1
theorem EvIn.mk' {e : EvS} (k c : Int) (a p b : List UInt8) (t : Int) (d : UInt32) (he : e = ⟨k, c, a, p, b, t, d⟩) (h1 : 0 ≤ k ∧ k ≤ 10) (h2 : 0 ≤ c ∧ c ≤ 64) (h3 : a.length ≤ 16) (h4 : p.length ≤ 16) (h5 : b.length ≤ 65536) (h6 : 0 ≤ t ∧ t ≤ 4096) : EvIn e := by
 subst he
 exact ⟨i64_of h1.1 (by show k ≤ _; omega), i64_of h2.1 (by show c ≤ _; omega), by show a.length ≤ _; omega, by show p.length ≤ _; omega, by show b.length ≤ _; omega, i64_of h6.1 (by show t ≤ _; omega)⟩
theorem evOk_in {e : EvS} (h : evOk e = true) : EvIn e := by
 unfold evOk connOk at h
 by_cases k1 : e.kind = 1
 ·rw [if_pos k1] at h
  simp only [Bool.and_eq_true, decide_eq_true_eq] at h
  obtain ⟨he, hc, ha⟩ := h
  exact EvIn.mk' _ _ _ _ _ _ _ he (by decide) ⟨by omega, by omega⟩ (by rcases ha with h | h <;> omega) (by simp) (by simp) (by simp)
 rw [if_neg k1] at h
 by_cases k2 : e.kind = 2
 ·rw [if_pos k2] at h
  simp only [Bool.and_eq_true, decide_eq_true_eq] at h
  obtain ⟨he, hc, ha⟩ := h
  exact EvIn.mk' _ _ _ _ _ _ _ he (by decide) ⟨by omega, by omega⟩ (by simp) (nameOk_len ha) (by simp) (by simp)
 rw [if_neg k2] at h
 by_cases k3 : e.kind = 3
 ·rw [if_pos k3] at h
  simp only [Bool.and_eq_true, decide_eq_true_eq] at h
  obtain ⟨he, ha⟩ := h
  exact EvIn.mk' _ _ _ _ _ _ _ he (by decide) (by decide) (by simp) (nameOk_len ha) (by simp) (by simp)
 rw [if_neg k3] at h
 by_cases k4 : e.kind = 4
 ·rw [if_pos k4] at h
  simp only [Bool.and_eq_true, decide_eq_true_eq] at h
  obtain ⟨he, hc, ha⟩ := h
  exact EvIn.mk' _ _ _ _ _ _ _ he (by decide) ⟨by omega, by omega⟩ (by simp) (by simp) (by omega) (by simp)
 rw [if_neg k4] at h
 by_cases k5 : e.kind = 5
 ·rw [if_pos k5] at h
  simp only [Bool.and_eq_true, decide_eq_true_eq] at h
  obtain ⟨he, hc⟩ := h
  exact EvIn.mk' _ _ _ _ _ _ _ he (by decide) ⟨by omega, by omega⟩ (by simp) (by simp) (by simp) (by simp)
 rw [if_neg k5] at h
 by_cases k6 : e.kind = 6
 ·rw [if_pos k6] at h
  simp only [Bool.and_eq_true, decide_eq_true_eq] at h
  obtain ⟨he, ht⟩ := h
  exact EvIn.mk' _ _ _ _ _ _ _ he (by decide) (by decide) (by simp) (by simp) (by simp) (⟨by omega, by omega⟩)
 rw [if_neg k6] at h
 by_cases k7 : e.kind = 7
 ·rw [if_pos k7] at h
  simp only [Bool.and_eq_true, decide_eq_true_eq] at h
  obtain ⟨he, hb⟩ := h
  exact EvIn.mk' _ _ _ _ _ _ _ he (by decide) (by decide) (by simp) (by simp) (hb) (by simp)
 rw [if_neg k7] at h
 by_cases k8 : e.kind = 8
 ·rw [if_pos k8] at h
  simp only [Bool.and_eq_true, decide_eq_true_eq] at h
  obtain ⟨he, hb⟩ := h
  exact EvIn.mk' _ _ _ _ _ _ _ he (by decide) (by decide) (by simp) (by simp) (by omega) (by simp)
 rw [if_neg k8] at h
 by_cases k9 : e.kind = 9
 ·rw [if_pos k9] at h
  simp only [Bool.and_eq_true, decide_eq_true_eq] at h
  have he := h
  exact EvIn.mk' _ _ _ _ _ _ _ he (by decide) (by decide) (by simp) (by simp) (by simp) (by simp)
 rw [if_neg k9] at h
 by_cases k10 : e.kind = 10
 ·rw [if_pos k10] at h
  simp only [Bool.and_eq_true, decide_eq_true_eq] at h
  have he := h
  exact EvIn.mk' _ _ _ _ _ _ _ he (by decide) (by decide) (by simp) (by simp) (by simp) (by simp)
 rw [if_neg k10] at h
 cases h
/-- The lines of a text, in a variable. -/
def LinesP (W : World) (p : Nat) (L : List (List UInt8)) : Prop := ∃ b c, Blk W p 63 #[.slice (some ⟨b, 0, none⟩) L.length c] ∧ b < p ∧ ∀ (j : Nat) (hj : j < L.length), W.cell? ⟨b, j, none⟩ = some (.string ⟨L[j].toArray⟩)
theorem LinesP.keep {W W' : World} {p : Nat} {L : List (List UInt8)} (h : LinesP W p L) (hb : ∀ x, x ≤ p → W'.heap[x]? = W.heap[x]?) : LinesP W' p L := by
 obtain ⟨b, c, h1, h2, h3⟩ := h
 exact ⟨b, c, (hb p (by omega)).trans h1, h2, fun j hj => (World.cell?_of_block (a := ⟨b, j, none⟩) (hb b (by omega))).trans (h3 j hj)⟩
/-- What lies in the variables of script.Parse: the lines, the last one's place, the place, the configuration's size, the events; behind them the guard's code. -/
structure PS (w W : World) (p m : Nat) (L : List (List UInt8)) (k cf : Nat) (v : Value) (out : List EvS) : Prop where
  lo : w.heap.size ≤ p
  up : p + 6 ≤ W.heap.size
  ext : Ext w W
  len : L.length = m + 1
  few : m ≤ 1048576
  lines : LinesP W p L
  last : Blk W (p + 1) 3 #[.int .i64 (m : Int)]
  at_ : Blk W (p + 2) 3 #[.int .i64 (k : Int)]
  cfb : Blk W (p + 3) 3 #[.int .i64 (cf : Int)]
  ob : Blk W (p + 4) 22 #[v]
  pe : Blk W (p + 5) 23 #[.int .i64 0]
  own : Own EEv 31 W (p + 6) v out
section
variable {w W W' : World} {p m k cf : Nat} {L : List (List UInt8)} {v : Value} {out : List EvS}
theorem PS.setAt (h : PS w W p m L k cf v out) (k' : Nat) : PS w (W.setCell ⟨p + 2, 0, none⟩ (.int .i64 (k' : Int))) p m L k' cf v out := by
 have h1 := h.lo
 exact ⟨h1, by simpa [World.setCell] using h.up, h.ext.setCell (p := ⟨p + 2, 0, none⟩) (show w.heap.size ≤ p + 2 by omega) _, h.len, h.few, h.lines.keep fun x hx => Below.heap_setCell _ _ _ _ (show x ≠ p + 2 by omega),
  h.last.far (p := ⟨p + 2, 0, none⟩) (show p + 1 ≠ p + 2 by omega) _, by simpa using h.at_.set_ 0 (.int .i64 (k' : Int)), h.cfb.far (p := ⟨p + 2, 0, none⟩) (show p + 3 ≠ p + 2 by omega) _, h.ob.far (p := ⟨p + 2, 0, none⟩) (show p + 4 ≠ p + 2 by omega) _, h.pe.far (p := ⟨p + 2, 0, none⟩) (show p + 5 ≠ p + 2 by omega) _,
  h.own.kept (by simp [World.setCell]) fun b h1 h2 => Below.heap_setCell _ _ _ _ (show b ≠ p + 2 by omega)⟩
theorem PS.setCf (h : PS w W p m L k cf v out) (c' : Nat) : PS w (W.setCell ⟨p + 3, 0, none⟩ (.int .i64 (c' : Int))) p m L k c' v out := by
 have h1 := h.lo
 exact ⟨h1, by simpa [World.setCell] using h.up, h.ext.setCell (p := ⟨p + 3, 0, none⟩) (show w.heap.size ≤ p + 3 by omega) _, h.len, h.few, h.lines.keep fun x hx => Below.heap_setCell _ _ _ _ (show x ≠ p + 3 by omega),
  h.last.far (p := ⟨p + 3, 0, none⟩) (show p + 1 ≠ p + 3 by omega) _, h.at_.far (p := ⟨p + 3, 0, none⟩) (show p + 2 ≠ p + 3 by omega) _, by simpa using h.cfb.set_ 0 (.int .i64 (c' : Int)), h.ob.far (p := ⟨p + 3, 0, none⟩) (show p + 4 ≠ p + 3 by omega) _, h.pe.far (p := ⟨p + 3, 0, none⟩) (show p + 5 ≠ p + 3 by omega) _,
  h.own.kept (by simp [World.setCell]) fun b h1 h2 => Below.heap_setCell _ _ _ _ (show b ≠ p + 3 by omega)⟩
theorem PS.ext' (h : PS w W p m L k cf v out) (he : Ext W W') : PS w W' p m L k cf v out := by
 have hu := h.up
 exact ⟨h.lo, Nat.le_trans hu he.size, h.ext.trans he, h.len, h.few, h.lines.keep fun x hx => he.block x (by omega), h.last.ext he, h.at_.ext he, h.cfb.ext he, h.ob.ext he, h.pe.ext he, h.own.ext he⟩
/-- The events' row, grown, and laid into its variable. -/
theorem PS.pushed {v' : Value} {out' : List EvS} (h : PS w W p m L k cf v out) (hg : W.grownBy W' v.ownBlock) (ho : Own EEv 31 W' (p + 6) v' out') :
  PS w (W'.setCell ⟨p + 4, 0, none⟩ v') p m L k cf v' out' := by
 have h1 := h.lo
 have hu := h.up
 have hn : ∀ x, x < p + 6 → some x ≠ v.ownBlock := fun x hx e => by have := (h.own.lt x e.symm).1; omega
 have hx : Ext w W' := h.ext.push (fun j hj => Nat.le_trans (by omega) (h.own.lt j hj).1) hg
 have hgu := hg.size
 refine ⟨h1, by simp [World.setCell]; omega, hx.setCell (p := ⟨p + 4, 0, none⟩) (show w.heap.size ≤ p + 4 by omega) _, h.len, h.few, (h.lines.keep fun x hx => hg.block x (by omega) (hn x (by omega))).keep fun x hx => Below.heap_setCell _ _ _ _ (show x ≠ p + 4 by omega),
  (h.last.grown hg (hn _ (by omega))).far (p := ⟨p + 4, 0, none⟩) (show p + 1 ≠ p + 4 by omega) _, (h.at_.grown hg (hn _ (by omega))).far (p := ⟨p + 4, 0, none⟩) (show p + 2 ≠ p + 4 by omega) _, (h.cfb.grown hg (hn _ (by omega))).far (p := ⟨p + 4, 0, none⟩) (show p + 3 ≠ p + 4 by omega) _, by simpa using (h.ob.grown hg (hn _ (by omega))).set_ 0 v', (h.pe.grown hg (hn _ (by omega))).far (p := ⟨p + 4, 0, none⟩) (show p + 5 ≠ p + 4 by omega) _,
  ho.kept (by simp [World.setCell]) fun b h1 h2 => Below.heap_setCell _ _ _ _ (show b ≠ p + 4 by omega)⟩
end
def atOf (W : World) (p : Nat) : Nat := match W.cell? ⟨p + 2, 0, none⟩ with | some (.int _ n) => n.toNat | _ => 0
theorem PS.atOf {w W : World} {p m k cf : Nat} {L : List (List UInt8)} {v : Value} {out : List EvS} (h : PS w W p m L k cf v out) : atOf W p = k := by
 have := h.at_.cell 0
 unfold Go.Proofs.YtkinghadgmbhbaaGreatDoor.atOf
 rw [this]
 rfl
/-- What the reading of a script leaves. -/
def ParD (s : List UInt8) (w : World) (p m : Nat) (L : List (List UInt8)) (e : Ending) (W' : World) : Prop :=
 (∃ k cf v out, e = .returned (.tuple #[]) ∧ PS w W' p m L k cf v out ∧ restC s 0 0 L = (s.take cf, out, 0, 0) ∧ cf ≤ s.length) ∨
 (∃ (c : Int) (k cf : Nat) (v : Value) (out : List EvS), e = .panicked (wrongP c) ∧ PS w W' p m L k cf v out ∧ restC s 0 0 L = ([], [], c, k) ∧ c ≠ 0)
theorem sum_drop (L : List (List UInt8)) (k : Nat) (hk : k < L.length) : ((L.drop k).map fun x => x.length + 1).sum = L[k].length + 1 + ((L.drop (k + 1)).map fun x => x.length + 1).sum := by
 rw [List.drop_eq_getElem_cons hk, List.map_cons, List.sum_cons]
set_option maxRecDepth 20000 in
set_option maxHeartbeats 4000000 in
theorem Parse1_any (s : List UInt8) (hs : s.length ≤ 1048576) (w W0 : World) (p m : Nat) (L : List (List UInt8)) (hT : Tab w) (hV : Vars w) (hD : Deb w) (h0 : PS w W0 p m L 0 0 (.slice none 0 0) [])
    (hL : ∀ y ∈ L, y.length ≤ 1048576) (hsum : (L.map fun x => x.length + 1).sum = s.length + 1) :
    Calls Tryz.prog 36 #[.pointer (some ⟨p + 2, 0, none⟩), .pointer (some ⟨p + 1, 0, none⟩), .pointer (some ⟨p, 0, none⟩), .pointer (some ⟨p + 3, 0, none⟩), .pointer (some ⟨p + 4, 0, none⟩)] W0 (ParD s w p m L) := by
  have mixed : Tryz.prog.follows Departure.mixedOrders = true := by kernel_rfl
  have hok : ∀ W k cf v out, PS w W p m L k cf v out → restC s 0 0 L = (s.take cf, out, 0, 0) → cf ≤ s.length → ParD s w p m L (.returned (.tuple #[])) W := fun W k cf v out h1 h2 h3 => .inl ⟨k, cf, v, out, rfl, h1, h2, h3⟩
  have hno : ∀ W c k cf v out, PS w W p m L k cf v out → restC s 0 0 L = ([], [], c, k) → c ≠ 0 → ParD s w p m L (.panicked (wrongP c)) W := fun W c k cf v out h1 h2 h3 => .inr ⟨c, k, cf, v, out, rfl, h1, h2, h3⟩
  generalize ParD s w p m L = Post at *
  replace hok := hide hok
  replace hno := hide hno
  replace hT := hide hT
  replace hV := hide hV
  replace hD := hide hD
  replace h0 := hide h0
  replace hs := hide hs
  replace hL := hide hL
  go_enter Tryz.func36, Tryz.ntmps36
  go_wp2_with fail
  go_loopw [6] (fun s6 wr => ∃ k cf : Nat, PS w wr p m L k cf (.slice none 0 0) [] ∧ k < L.length ∧ restC s 0 0 L = restC s k cf (L.drop k) ∧ cf + ((L.drop k).map fun x => x.length + 1).sum = s.length + 1) (fun _ wr => L.length - atOf wr p)
  case atStart => exact ⟨0, 0, h0.out, by rw [h0.out.len]; omega, rfl, by simpa using hsum⟩
  case round =>
    clear h0
    obtain ⟨k, cf, S, hk, hr, hsm⟩ := hrel
    rw [sum_drop L k hk] at hsm
    have hlen := S.len
    have hfew := S.few
    obtain ⟨b, c, hb, hbp, hlx⟩ := S.lines
    have c0 : wr.cell? ⟨p + 2, 0, none⟩ = some (.int .i64 (k : Int)) := S.at_.cell 0
    have c1 : wr.cell? ⟨p + 1, 0, none⟩ = some (.int .i64 (m : Int)) := S.last.cell 0
    have c2 : wr.cell? ⟨p, 0, none⟩ = some (.slice (some ⟨b, 0, none⟩) L.length c) := hb.cell 0
    have c3 : wr.cell? ⟨p + 3, 0, none⟩ = some (.int .i64 (cf : Int)) := S.cfb.cell 0
    have c4 : wr.cell? ⟨b, k, none⟩ = some (.string ⟨L[k].toArray⟩) := hlx k hk
    have f2 := fun i => S.at_.frozen i
    have f3 := fun i => S.cfb.frozen i
    rw [hlen] at c2
    clear hb hlx
    have hd : L.drop k = L[k] :: L.drop (k + 1) := List.drop_eq_getElem_cons hk
    have hxl := hL.out _ (List.getElem_mem hk)
    have hcfs : cf ≤ s.length := by omega
    generalize L[k] = x at *
    by_cases hkm : k = m
    · subst hkm
      have hd0 : L.drop (k + 1) = [] := List.drop_eq_nil_of_le (by omega)
      rw [hd, hd0, restC_end] at hr
      clear hd hd0 hsm hlen hfew hk hbp hxl hcfs hsum
      replace S := hide S
      replace hr := hide hr
      go_wp2_with fail
      refine (give_any _ _).mono ?_
      rintro e w3 ⟨rfl, rfl⟩
      go_wp2
      exact ⟨rfl, hno.out _ _ _ _ _ _ S.out hr.out (by decide)⟩
    have hkm2 : k < m := by omega
    obtain ⟨y, r, hyr⟩ : ∃ y r, L.drop (k + 1) = y :: r := ⟨_, _, List.drop_eq_getElem_cons (show k + 1 < L.length by omega)⟩
    obtain ⟨k2, hk2⟩ : ∃ n : Nat, n = k + 1 := ⟨_, rfl⟩
    have w1 : IntKind.i64.wrap ((k : Int) + 1) = (k2 : Int) := by rw [IntKind.wrap_i64]; omega
    have b1 : decide (k < m) = true := decide_eq_true hkm2
    have b2 : (k == m) = false := beq_eq_false_iff_ne.2 hkm
    have b3 : decide (k = m) = false := decide_eq_false hkm
    have b4 : ((k : Int) == (m : Int)) = false := beq_eq_false_iff_ne.2 (by omega)
    have hkm3 : k < m + 1 := by omega
    rw [hd, hyr] at hr
    by_cases hxr : x = [114, 117, 110]
    · rw [restC_run s k cf hxr, ← hyr, ← hk2] at hr
      subst hxr
      have S2 := S.setAt k2
      have hkl : k2 < L.length := by omega
      rw [← hk2] at hyr
      clear hd hsm hfew hk hxl hkm hkm2 hsum
      replace S := hide S
      replace S2 := hide S2
      replace hr := hide hr
      replace hcfs := hide hcfs
      replace hk2 := hide hk2
      replace hyr := hide hyr
      replace hkl := hide hkl
      replace hlen := hide hlen
      go_wp2_with fail
      generalize wr.setCell ⟨p + 2, 0, none⟩ (.int .i64 (k2 : Int)) = wa at S2 ⊢
      try simp only [b4]
      clear c0 c1 c2 c3 c4 f2 f3 w1 b1 b2 b3 b4 hkm3 S
      go_loopw [32] (fun s32 wx => ∃ (k : Nat) (v : Value) (out : List EvS), PS w wx p m L k cf v out ∧ k < L.length ∧ restC s 0 0 L = restE s cf k out (L.drop k) ∧ out.length ≤ k) (fun _ wx => L.length - atOf wx p)
      case atStart => exact ⟨k2, _, [], S2.out, hkl.out, by rw [hr.out, hyr.out], Nat.zero_le _⟩
      case round =>
        clear S2 hr hyr hk2 hkl
        obtain ⟨k, v, out, S, hk, hr, hol⟩ := hrel
        rename World => wx
        have hlen := S.len
        have hfew := S.few
        obtain ⟨b, c, hb, hbp, hlx⟩ := S.lines
        have c0 : wx.cell? ⟨p + 2, 0, none⟩ = some (.int .i64 (k : Int)) := S.at_.cell 0
        have c1 : wx.cell? ⟨p + 1, 0, none⟩ = some (.int .i64 (m : Int)) := S.last.cell 0
        have c2 : wx.cell? ⟨p, 0, none⟩ = some (.slice (some ⟨b, 0, none⟩) L.length c) := hb.cell 0
        have c4 : wx.cell? ⟨b, k, none⟩ = some (.string ⟨L[k].toArray⟩) := hlx k hk
        rw [hlen] at c2
        clear hb hlx
        have hd : L.drop k = L[k] :: L.drop (k + 1) := List.drop_eq_getElem_cons hk
        have hxl := hL.out _ (List.getElem_mem hk)
        generalize L[k] = x at *
        by_cases hkm : k = m
        · subst hkm
          have hd0 : L.drop (k + 1) = [] := List.drop_eq_nil_of_le (by omega)
          rw [hd, hd0, restE_end] at hr
          have hkk : k < k + 1 := Nat.lt_succ_self k
          clear hd hd0 hlen hfew hk hbp hxl hol
          by_cases hx0 : x = []
          · subst hx0
            rw [if_pos rfl] at hr
            replace S := hide S
            replace hr := hide hr
            go_wp2_with fail
            go_end0
            exact hok.out _ _ _ _ _ S.out hr.out hcfs.out
          · have e1 : (x == []) = false := beq_eq_false_iff_ne.2 hx0
            have e2 : (x != []) = true := by simpa using hx0
            rw [if_neg hx0] at hr
            replace S := hide S
            replace hr := hide hr
            replace hx0 := hide hx0
            go_wp2_with fail
            refine (give_any _ _).mono ?_
            rintro e w3 ⟨rfl, rfl⟩
            go_wp2
            exact ⟨rfl, hno.out _ _ _ _ _ _ S.out hr.out (by decide)⟩
        have hkm2 : k < m := by omega
        obtain ⟨y, r, hyr⟩ : ∃ y r, L.drop (k + 1) = y :: r := ⟨_, _, List.drop_eq_getElem_cons (show k + 1 < L.length by omega)⟩
        obtain ⟨k2, hk2⟩ : ∃ n : Nat, n = k + 1 := ⟨_, rfl⟩
        have w1 : IntKind.i64.wrap ((k : Int) + 1) = (k2 : Int) := by rw [IntKind.wrap_i64]; omega
        have b1 : decide (k < m) = true := decide_eq_true hkm2
        have hkm3 : k < m + 1 := by omega
        rw [hd, hyr] at hr
        have q := SRead_any x (Nat.le_trans hxl (by decide)) (.inl hxl) wx (hT.out.ext S.ext) (hV.out.ext S.ext) (hD.out.ext S.ext)
        unfold ReadP at q
        cases ho : evO x with
        | none =>
          rw [ho] at q
          rw [restE_bad s cf k out ho] at hr
          clear hd hyr hlen hfew hk hbp hxl hol hkm hkm2 ho
          replace S := hide S
          replace hr := hide hr
          replace q := hide q
          go_wp2_with fail
          refine q.out.mono ?_
          rintro e w3 ⟨rfl, he⟩
          go_wp2
          exact ⟨rfl, hno.out _ _ _ _ _ _ (S.out.ext' he) hr.out (by decide)⟩
        | some ev =>
          rw [ho] at q
          have hein := evOk_in (evO_some ho).1
          have hlong := fun h : out.length = 512 => restE_long s cf k (y := y) (r := r) ho h
          have hon := fun h : out.length ≠ 512 => restE_on s cf k (y := y) (r := r) ho h
          obtain ⟨va, vc, rfl⟩ := S.own.form
          obtain ⟨kd, cn, ad, pr, by_, tk, dr⟩ := ev
          simp only [evCs] at q
          have hkm4 := hide hkm2
          clear hd hfew hbp hxl hkm hkm2 ho
          replace S := hide S
          replace q := hide q
          replace hlong := hide hlong
          replace hon := hide hon
          replace hr := hide hr
          replace hein := hide hein
          replace hyr := hide hyr
          replace hlen := hide hlen
          replace hk := hide hk
          replace hk2 := hide hk2
          replace hol := hide hol
          go_wp2_with fail
          refine q.out.mono ?_
          rintro e W2 ⟨rfl, he⟩
          have N := Blk.new W2 31 #[.int .i64 kd, .int .i64 cn, .string ⟨ad.toArray⟩, .string ⟨pr.toArray⟩, .string ⟨by_.toArray⟩, .int .i64 tk, .int .u32 (dr.toNat : Int)]
          have S3 := (S.out.ext' he).ext' ((Ext.refl W2).alloc (Obj.cells #[.int .i64 kd, .int .i64 cn, .string ⟨ad.toArray⟩, .string ⟨pr.toArray⟩, .string ⟨by_.toArray⟩, .int .i64 tk, .int .u32 (dr.toNat : Int)] 31))
          clear q c0 c1 c2 c4 he b1 hkm3
          go_upto_region 9 with fail
          generalize W2.alloc (Obj.cells #[.int .i64 kd, .int .i64 cn, .string ⟨ad.toArray⟩, .string ⟨pr.toArray⟩, .string ⟨by_.toArray⟩, .int .i64 tk, .int .u32 (dr.toNat : Int)] 31) = W3 at N S3 ⊢
          generalize W2.heap.size = n2 at N ⊢
          have c5 : W3.cell? ⟨p + 4, 0, none⟩ = some (.slice va out.length vc) := S3.ob.cell 0
          have d0 : W3.cell? ⟨n2, 0, none⟩ = some (.int .i64 kd) := N.cell 0
          have d1 : W3.cell? ⟨n2, 1, none⟩ = some (.int .i64 cn) := N.cell 1
          have d2 : W3.cell? ⟨n2, 2, none⟩ = some (.string ⟨ad.toArray⟩) := N.cell 2
          have d3 : W3.cell? ⟨n2, 3, none⟩ = some (.string ⟨pr.toArray⟩) := N.cell 3
          have d4 : W3.cell? ⟨n2, 4, none⟩ = some (.string ⟨by_.toArray⟩) := N.cell 4
          have d5 : W3.cell? ⟨n2, 5, none⟩ = some (.int .i64 tk) := N.cell 5
          have d6 : W3.cell? ⟨n2, 6, none⟩ = some (.int .u32 (dr.toNat : Int)) := N.cell 6
          by_cases hl : out.length = 512
          · have e1 : (out.length == 512) = true := beq_iff_eq.2 hl
            have e2 : decide (out.length = 512) = true := decide_eq_true hl
            have h9 := hr.out.trans (hlong.out hl)
            clear hl N
            replace S3 := hide S3
            replace h9 := hide h9
            go_wp2_with fail
            refine (give_any _ _).mono ?_
            rintro e w3 ⟨rfl, rfl⟩
            go_wp2
            exact ⟨rfl, hno.out _ _ _ _ _ _ S3.out h9.out (by decide)⟩
          · have e1 : (out.length == 512) = false := beq_eq_false_iff_ne.2 hl
            have e2 : decide (out.length = 512) = false := decide_eq_false hl
            have h9 := hr.out.trans (hon.out hl)
            have hol2 : out.length ≤ 1048576 := by have := hol.out; have := hk.out; have := S3.len; have := S3.few; omega
            have S4 := S3.ext' ((Ext.refl W3).alloc (Obj.cells #[.int .i64 kd, .int .i64 cn, .string ⟨ad.toArray⟩, .string ⟨pr.toArray⟩, .string ⟨by_.toArray⟩, .int .i64 tk, .int .u32 (dr.toNat : Int)] 31))
            clear hl N
            replace S3 := hide S3
            replace h9 := hide h9
            replace S4 := hide S4
            replace hol2 := hide hol2
            go_upto_region 11 with fail
            go_wp2_with
              (at_builtin
               go_must (refine wpList_push (E := EEv) (l := out) rfl _ _ _ rfl okEv (by decide) (by decide) rfl S4.out.own (by have := hol2.out; omega) S4.out.up rfl (y := ⟨kd, cn, ad, pr, by_, tk, dr⟩) (cs := evCs ⟨kd, cn, ad, pr, by_, tk, dr⟩) ⟨rfl, hein.out⟩ (cells_new W3 (evCs ⟨kd, cn, ad, pr, by_, tk, dr⟩).toArray _) ?_)
               intro v' w5 hown1 hg5 hat5
               have S5 := S4.out.pushed hg5 hown1
               have hn4 : ∀ x, x < p + 6 → some x ≠ (Value.slice va out.length vc).ownBlock := fun x hx e => by have := (S4.out.own.lt x e.symm).1; omega
               have c6 : w5.cell? ⟨p + 4, 0, none⟩ = some (.slice va out.length vc) := (S4.out.ob.grown hg5 (hn4 _ (by omega))).cell 0
               have f6 := fun i => (S4.out.ob.grown hg5 (hn4 _ (by omega))).frozen i
               have c7 : w5.cell? ⟨p + 2, 0, none⟩ = some (.int .i64 (k : Int)) := (S4.out.at_.grown hg5 (hn4 _ (by omega))).cell 0
               have f7 := fun i => (S4.out.at_.grown hg5 (hn4 _ (by omega))).frozen i
               obtain ⟨va5, vc5, rfl⟩ := hown1.form
               have S6 := S5.setAt k2
               clear hown1 hg5 hat5 hn4 S5
               simp only [List.length_append, List.length_cons, List.length_nil, Nat.zero_add] at S6 ⊢
               replace S6 := hide S6)
            go_roundw
            case rel =>
              have r1 : k2 < L.length := by have := S6.out.len; have := hlen.out; have := hk2.out; have := hkm4.out; omega
              have r2 := h9.out
              rw [← hk2.out, ← hyr.out, ← hk2.out] at r2
              have r3 : (out ++ [(⟨kd, cn, ad, pr, by_, tk, dr⟩ : EvS)]).length ≤ k2 := by have := hol.out; have := hk2.out; simp; omega
              (repeat apply Exists.intro); exact ⟨S6.out, r1, r2, r3⟩
            case measure => rw [S6.out.atOf, S.out.atOf]; have := hk2.out; have := hk.out; omega
    · have hw1 : x ≠ runW := hxr
      obtain ⟨cf2, hcf2⟩ : ∃ n : Nat, n = cf + x.length + 1 := ⟨_, rfl⟩
      rw [restC_on s k cf hw1, ← hyr, ← hk2, ← hcf2] at hr
      have e1 : (x == [114, 117, 110]) = false := beq_eq_false_iff_ne.2 hxr
      have e2 : (x != [114, 117, 110]) = true := by simpa using hxr
      have w2 : IntKind.i64.wrap ((x.length : Int) + 1) = (x.length : Int) + 1 := by rw [IntKind.wrap_i64]; omega
      have hsl := hs.out
      have w3 : IntKind.i64.wrap ((cf : Int) + ((x.length : Int) + 1)) = (cf2 : Int) := by rw [IntKind.wrap_i64]; omega
      have S2 := ((S.setCf cf2).setAt k2).ext' (Ext.refl _).drew
      have hkl : k2 < L.length := by omega
      have hsm2 : cf2 + ((L.drop k2).map fun x => x.length + 1).sum = s.length + 1 := by rw [hk2, hcf2]; omega
      clear hd hsm hfew hxl hkm hkm2 hsum hxr hw1 hsl hyr y r hcfs hcf2 hbp hlen
      replace S := hide S
      replace S2 := hide S2
      replace hr := hide hr
      replace hk2 := hide hk2
      replace hkl := hide hkl
      replace hsm2 := hide hsm2
      replace hk := hide hk
      go_upto_region 2 with fail
      go_region
      go_wp2_with fail
      go_roundw
      case rel => exact ⟨k2, cf2, S2.out, hkl.out, hr.out, hsm2.out⟩
      case measure => rw [S2.out.atOf, S.out.atOf]; have := hk2.out; have := hk.out; omega
end
section
open Go.RowKit
set_option linter.unusedVariables false
set_option linter.unusedSimpArgs false
/-- In a configuration that ends in a line's end, a line is 'run' just if it stands between two lines' ends. -/
theorem nlRun_iff (c : List UInt8) (hc : c = [] ∨ c.getLast? = some 10) : nlRun <:+: 10 :: c ↔ runW ∈ spl 10 c := by
  revert hc
  refine spl_ind (P := fun c => (c = [] ∨ c.getLast? = some 10) → (nlRun <:+: 10 :: c ↔ runW ∈ spl 10 c)) 10 (fun s hs hc => ?_) (fun a b ha ih hc => ?_) c.length c (Nat.le_refl _)
  · have h0 : s = [] := by
      rcases hc with h | h
      · exact h
      · exact absurd (List.mem_of_getLast? h) hs
    subst h0
    constructor
    · rintro ⟨p, q, h⟩
      have := congrArg List.length h
      simp [nlRun, runW] at this
      omega
    · intro h
      rw [spl_no hs] at h
      simp [runW] at h
  · rw [nlRun_step ha, spl_at ha]
    have hb : b = [] ∨ b.getLast? = some 10 := by
      rcases hc with h | h
      · simp at h
      · rw [List.getLast?_append] at h
        cases b with
        | nil => exact .inl rfl
        | cons x r =>
          right
          rw [List.getLast?_cons_cons] at h
          cases hq : (x :: r).getLast? with
          | none => simp at hq
          | some y => rw [hq] at h; simpa using h
    rw [ih hb]
    simp only [List.cons_append, List.nil_append, List.mem_cons, List.singleton_append]
    constructor
    · rintro (h | h)
      · exact .inl h.symm
      · exact .inr h
    · rintro (h | h)
      · exact .inl h.symm
      · exact .inr h
theorem cfgOk_iff (c : List UInt8) (hc : c = [] ∨ c.getLast? = some 10) : cfgOk c = true ↔ ¬ nlRun <:+: 10 :: c := by
 unfold cfgOk
 rw [nlRun_iff c hc]
 have : (decide (c = []) || decide (c.getLast? = some 10)) = true := by simpa using hc
 rw [this]
 simp
theorem cfgOk_end {c : List UInt8} (hc : ¬ (c = [] ∨ c.getLast? = some 10)) : cfgOk c = false := by
 unfold cfgOk
 have : (decide (c = []) || decide (c.getLast? = some 10)) = false := by simpa using hc
 rw [this]
 rfl
theorem contains_iff (s sub : List UInt8) : Lib.contains s sub = true ↔ sub <:+: s := by
 unfold Lib.contains
 rw [decide_eq_true_eq]
 constructor
 ·intro h
  rcases Lib.index_spec s sub with ⟨h1, _⟩ | ⟨i, h1, h2, h3, _⟩
  ·omega
  ·have h4 : sub <+: s.drop i := by simpa [Lib.occAt] using h3
   exact h4.isInfix.trans (List.drop_suffix i s).isInfix
 ·rintro ⟨p, q, rfl⟩
  rcases Lib.index_spec (p ++ sub ++ q) sub with ⟨h1, h2⟩ | ⟨i, h1, _⟩
  ·have := h2 p.length (by simp)
   simp only [Lib.occAt, List.append_assoc, List.drop_left] at this
   have h9 : sub.isPrefixOf (sub ++ q) = true := List.isPrefixOf_iff_prefix.2 (List.prefix_append _ _)
   rw [h9] at this
   cases this
  ·omega
theorem suffix_iff (c : List UInt8) : Lib.hasSuffix c [10] = decide (c.getLast? = some 10) := by
 rw [Bool.eq_iff_iff, decide_eq_true_eq]
 unfold Lib.hasSuffix
 rw [List.isSuffixOf_iff_suffix]
 constructor
 ·rintro ⟨p, rfl⟩; simp
 ·intro h
  obtain ⟨p, hp⟩ := List.getLast?_eq_some_iff.1 h
  exact ⟨p, hp.symm⟩
/-- A configuration that may stand ahead of a script, as the program asks. -/
theorem cfgOk_prog (c : List UInt8) : cfgOk c = ((decide (c = []) || Lib.hasSuffix c [10]) && !Lib.contains (10 :: c) nlRun) := by
 rw [suffix_iff]
 by_cases h : c = [] ∨ c.getLast? = some 10
 ·have h1 : (decide (c = []) || decide (c.getLast? = some 10)) = true := by simpa using h
  rw [h1, Bool.true_and, Bool.eq_iff_iff, cfgOk_iff c h, Bool.not_eq_true', ← Bool.not_eq_true, contains_iff]
 ·have h1 : (decide (c = []) || decide (c.getLast? = some 10)) = false := by simpa using h
  rw [h1, cfgOk_end h]
  rfl
/-- The events' lines that are told up to the first one that may not be. -/
theorem tellL_len (l : List EvS) (h : l.all evOk = true) : (tellL l).length ≤ 131113 * l.length := by
  induction l with
  | nil => simp [tellL]
  | cons e r ih =>
    simp only [List.all_cons, Bool.and_eq_true] at h
    have h1 := evW_len h.1
    have h2 := ih h.2
    have : tellL (e :: r) = (evW e ++ [10]) ++ tellL r := rfl
    rw [this]
    simp only [List.length_append, List.length_cons, List.length_nil]
    omega
theorem tellL_snoc (l : List EvS) (e : EvS) : tellL (l ++ [e]) = tellL l ++ (evW e ++ [10]) := by simp [tellL]
end
section
open Go.RowKit
set_option linter.unusedVariables false
set_option linter.unusedSimpArgs false
theorem Bd.ext {B b : Nat} {l : List UInt8} {w w' : World} (h : Bd B b l w) (he : Ext w w') : Bd B b l w' := by
 have key : ∀ p, Lib.BuilderAt 69 5 B b p (Lib.byteCells l) w → Lib.BuilderAt 69 5 B b p (Lib.byteCells l) w' := fun p h => by
  have hlt := h.lt
  obtain ⟨hB, v, hbk, ⟨hl, h3⟩, hne⟩ := h
  refine ⟨hB, v, (he.block b hlt).trans hbk, ⟨hl, ?_⟩, hne⟩
  rcases h3 with h3 | ⟨g, cap, cur, rfl, hg, hh, r⟩
  ·exact .inl h3
  ·exact .inr ⟨g, cap, cur, rfl, hg, by rw [he.block g (Array.getElem?_eq_some_iff.1 hh).1]; exact hh, r⟩
 rcases h with h | h
 ·exact .inl (key _ h)
 ·exact .inr (key _ h)
theorem meas_step {n k : Nat} (h : k < n) : n - (intOf (.int .i64 ((k : Int) + 1))).toNat < n - (intOf (.int .i64 (k : Int))).toNat := by
 show n - ((k : Int) + 1).toNat < n - ((k : Int)).toNat
 omega
set_option maxRecDepth 20000 in
set_option maxHeartbeats 4000000 in
theorem SPrint_any (c : List UInt8) (hc : c.length ≤ 1048576) (l : List EvS) (a : Option Addr) (cp : Nat) (hl : l.length ≤ 16777216) (w : World) (hT : Tab w) (hV : Vars w) (hD : Deb w) (hs : Sl EEv w (· < w.heap.size) a l) :
    Calls Tryz.prog 9 #[.string ⟨c.toArray⟩, .slice a l.length cp] w fun e w' => e = .returned (.tuple #[.string ⟨(printS c l).1.toArray⟩, .int .i64 (printS c l).2]) ∧ Ext w w' := by
  have hR : ∀ s (x : Int) W, printS c l = (s, x) → Ext w W → (Ending.returned (.tuple #[.string ⟨s.toArray⟩, .int .i64 x]) = Ending.returned (.tuple #[.string ⟨(printS c l).1.toArray⟩, .int .i64 (printS c l).2]) ∧ Ext w W) := fun s x W h he => ⟨by rw [h], he⟩
  generalize hQ : (fun e w' => e = Ending.returned (.tuple #[.string ⟨(printS c l).1.toArray⟩, .int .i64 (printS c l).2]) ∧ Ext w w') = Post
  replace hR : ∀ s (x : Int) W, printS c l = (s, x) → Ext w W → Post (.returned (.tuple #[.string ⟨s.toArray⟩, .int .i64 x])) W := by rw [← hQ]; exact hR
  clear hQ
  obtain ⟨mx, hmx⟩ := hV.max
  have q1 := Tryz.strings_HasSuffix ⟨c.toArray⟩ ⟨#[10]⟩ w (by simp [ByteArray.size]; omega)
  have g1 : ((ByteArray.mk #[10]) ++ ⟨c.toArray⟩).data.toList = 10 :: c := by simp
  have g2 : (ByteArray.mk #[10, 114, 117, 110, 10]).data.toList = nlRun := rfl
  have g3 : (ByteArray.mk #[10]).data.toList = [10] := rfl
  have g4 : (ByteArray.mk c.toArray).data.toList = c := rfl
  have q2 := Tryz.strings_Contains ((ByteArray.mk #[10]) ++ ⟨c.toArray⟩) ⟨#[10, 114, 117, 110, 10]⟩ mx w (by simp [ByteArray.size]; omega) hmx
  rw [g1, g2] at q2
  rw [g3, g4] at q1
  have hcp := cfgOk_prog c
  have hp1 : cfgOk c = false → printS c l = ([], 2) := fun h => by unfold printS; rw [if_pos h]
  have z1 : ¬ 9223372036854775807 < 1 + c.length := by omega
  have z2 : ¬ 9223372036854775807 < c.length + 3 := by omega
  have z3 : ¬ 9223372036854775807 < c.length + 3 + 1 := by omega
  clear g1 g2 g3 g4 hmx
  generalize Lib.contains (10 :: c) nlRun = bc at *
  generalize Lib.hasSuffix c [10] = bs at *
  replace hR := hide hR
  replace hT := hide hT
  replace hV := hide hV
  replace hD := hide hD
  replace hs := hide hs
  replace hp1 := hide hp1
  replace q1 := hide q1
  replace q2 := hide q2
  replace hc := hide hc
  replace hcp := hide hcp
  go_enter Tryz.func9, Tryz.ntmps9
  go_upto_region 1 with fail
  go_cut [22] (fun s22 wx => s22 = .bool (!cfgOk c) ∧ w = wx)
  case first =>
    by_cases hc0 : c = []
    · have e0 : c.isEmpty = true := by simpa using hc0
      have e1 : (c == []) = true := beq_iff_eq.2 hc0
      have hk : cfgOk c = !bc := by rw [hcp.out, decide_eq_true hc0]; simp
      clear hc0
      replace hk := hide hk
      go_wp2_with (first | (go_at_call 25; refine q1.out.mono ?_; rintro e w1 ⟨rfl, rfl⟩) | (go_at_call 26; refine q2.out.mono ?_; rintro e w1 ⟨rfl, rfl⟩))
      go_meet
      case rel => exact ⟨by rw [hk.out, Bool.not_not], rfl⟩
    · have e0 : c.isEmpty = false := by simpa using hc0
      have e1 : (c == []) = false := beq_eq_false_iff_ne.2 hc0
      have hk : cfgOk c = (bs && !bc) := by rw [hcp.out, decide_eq_false hc0]; simp
      clear hc0
      replace hk := hide hk
      cases bs
      · go_wp2_with (first | (go_at_call 25; refine q1.out.mono ?_; rintro e w1 ⟨rfl, rfl⟩) | (go_at_call 26; refine q2.out.mono ?_; rintro e w1 ⟨rfl, rfl⟩))
        go_meet
        case rel => exact ⟨by rw [hk.out]; rfl, rfl⟩
      · go_wp2_with (first | (go_at_call 25; refine q1.out.mono ?_; rintro e w1 ⟨rfl, rfl⟩) | (go_at_call 26; refine q2.out.mono ?_; rintro e w1 ⟨rfl, rfl⟩))
        go_meet
        case rel => exact ⟨by rw [hk.out, Bool.true_and, Bool.not_not], rfl⟩
  case rest =>
    obtain ⟨rfl, rfl⟩ := hcut
    cases hk : cfgOk c with
    | false =>
      have hf := hide (hp1.out hk)
      clear hk
      go_wp2
      try go_ret2
      exact hR.out _ _ _ hf.out (Ext.refl _)
    | true =>
      by_cases hl5 : 512 < l.length
      · have b1 : decide ((512 : Int) < (l.length : Int)) = true := decide_eq_true (by omega)
        have hf : printS c l = ([], 3) := by unfold printS; rw [if_neg (by rw [hk]; decide), if_pos hl5]
        clear hk hl5 hl z1 z2 z3
        replace hf := hide hf
        go_wp2
        try go_ret2
        exact hR.out _ _ _ hf.out (Ext.refl _)
      have b1 : decide ((512 : Int) < (l.length : Int)) = false := decide_eq_false (by omega)
      have hpr : printS c l = if l.all evOk = false then ([], 2) else if 1048576 < (textScr c l).length then ([], 3) else (textScr c l, 0) := by unfold printS; rw [if_neg (by rw [hk]; decide), if_neg hl5]
      have hl6 : l.length ≤ 512 := by omega
      clear hl5 hl
      have hB0 : Bd w.heap.size w.heap.size [] (w.alloc (Obj.cells #[.pointer none, .slice none 0 0] 69)) := .inl ⟨Nat.le_refl _, _, Array.getElem?_push_size, World.ownsRow_nil _ _ _ _, by simp [Value.ownBlock]⟩
      have hs6 : ((ByteArray.mk c.toArray) ++ ⟨#[114, 117, 110]⟩) ++ ⟨#[10]⟩ = (⟨(c ++ (runW ++ [10])).toArray⟩ : ByteArray) := by apply ByteArray.ext; simp [runW]
      have qW := BWriteString_any w.heap.size w.heap.size [] (c ++ (runW ++ [10])) _ hB0 (by have := hc.out; simp [runW]; omega) (by simp)
      replace hpr := hide hpr
      replace hl6 := hide hl6
      replace qW := hide qW
      replace hs6 := hide hs6
      go_wp2_with (go_at_call 27; rw [hs6.out]; refine qW.out.mono ?_; rintro e W1 ⟨rfl, hB1, hE1⟩)
      have E1 : Ext w W1 := Below.trans ((Ext.refl w).alloc _) hE1
      rw [List.nil_append] at hB1
      clear hE1 qW hs6 hB0 hp1 hcp q1 q2 z1 z2 z3 b1 bc bs
      generalize hT0 : c ++ (runW ++ [10]) = T0 at *
      have hT0l : T0.length ≤ 1048580 := by have := hc.out; rw [← hT0]; simp [runW]; omega
      have htx : textScr c l = T0 ++ tellL l := by rw [← hT0]; simp [textScr]
      rw [htx] at hpr
      clear htx hT0 hk
      replace hT0l := hide hT0l
      go_loopw [32] (fun i wr => ∃ k : Nat, k ≤ l.length ∧ i = .int .i64 k ∧ Bd w.heap.size w.heap.size (T0 ++ tellL (l.take k)) wr ∧ Ext w wr ∧ (l.take k).all evOk = true) (fun i _ => l.length - (intOf i).toNat)
      case atStart => exact ⟨0, Nat.zero_le _, rfl, by simpa [tellL] using hB1, E1, rfl⟩
      case round =>
        clear hB1 E1
        obtain ⟨k, hk, rfl, hB, E, hall⟩ := hrel
        have hsz := E.size
        have hlen : (T0 ++ tellL (l.take k)).length ≤ 1048580 + 131113 * 512 := by
          have h1 := tellL_len _ hall
          have h2 : (l.take k).length ≤ 512 := by rw [List.length_take]; have := hl6.out; omega
          rw [List.length_append]
          have := Nat.mul_le_mul_left 131113 h2
          have := hT0l.out
          omega
        by_cases hlt : k < l.length
        · obtain ⟨b, off, rfl, _, hin, hcell⟩ := EEv.at (hs.out.ext E) k hlt
          have hsn : l.take (k + 1) = l.take k ++ [l[k]] := List.take_succ_eq_append_getElem hlt
          have q := fun W (h : Ext w W) => SLineE_any l[k] hin W (hT.out.ext h) (hV.out.ext h) (hD.out.ext h)
          have hbad : evOk l[k] = false → printS c l = ([], 2) := fun h => by
            rw [hpr.out, if_pos]
            rw [← Bool.not_eq_true, List.all_eq_true]
            intro h9
            rw [h9 _ (List.getElem_mem hlt)] at h
            cases h
          have hgd : evOk l[k] = true → (l.take (k + 1)).all evOk = true := fun h => by rw [hsn, List.all_append, hall]; simp [h]
          have htl : tellL (l.take (k + 1)) = tellL (l.take k) ++ (evW l[k] ++ [10]) := by rw [hsn, tellL_snoc]
          have hwl := fun h : evOk l[k] = true => evW_len h
          generalize hX : T0 ++ tellL (l.take k) = X at *
          generalize l[k] = e at *
          obtain ⟨kd, cn, ad, pr, by_, tk, dr⟩ := e
          have x0 : wr.cell? ⟨b, off + k * 7, none⟩ = some (.int .i64 kd) := hcell 0 _ rfl
          have x1 : wr.cell? ⟨b, off + k * 7 + 1, none⟩ = some (.int .i64 cn) := hcell 1 _ rfl
          have x2 : wr.cell? ⟨b, off + k * 7 + 2, none⟩ = some (.string ⟨ad.toArray⟩) := hcell 2 _ rfl
          have x3 : wr.cell? ⟨b, off + k * 7 + 3, none⟩ = some (.string ⟨pr.toArray⟩) := hcell 3 _ rfl
          have x4 : wr.cell? ⟨b, off + k * 7 + 4, none⟩ = some (.string ⟨by_.toArray⟩) := hcell 4 _ rfl
          have x5 : wr.cell? ⟨b, off + k * 7 + 5, none⟩ = some (.int .i64 tk) := hcell 5 _ rfl
          have x6 : wr.cell? ⟨b, off + k * 7 + 6, none⟩ = some (.int .u32 (dr.toNat : Int)) := hcell 6 _ rfl
          simp only [evCs] at q
          have E2 := E.alloc (Obj.cells #[.int .i64 kd, .int .i64 cn, .string ⟨ad.toArray⟩, .string ⟨pr.toArray⟩, .string ⟨by_.toArray⟩, .int .i64 tk, .int .u32 (dr.toNat : Int)] 31)
          replace q := q _ E2
          unfold evT at q
          clear hcell hin
          cases hok : evOk ⟨kd, cn, ad, pr, by_, tk, dr⟩ with
          | false =>
            rw [if_neg (by rw [hok]; decide)] at q
            have hf := hbad hok
            clear hbad hgd htl hwl hok hsn hX hlen hall hB hk
            replace q := hide q
            replace hf := hide hf
            replace E := hide E
            replace E2 := hide E2
            go_wp2_with fail
            refine q.out.mono ?_
            rintro e1 W3 ⟨rfl, he⟩
            have E3 := E2.out.trans he
            clear q he
            replace E3 := hide E3
            go_wp2
            try go_ret2
            exact hR.out _ _ _ hf.out E3.out
          | true =>
            rw [if_pos hok] at q
            have hwl2 := hwl hok
            have hgd2 := hgd hok
            have hB2 : Bd w.heap.size w.heap.size X (wr.alloc (Obj.cells #[.int .i64 kd, .int .i64 cn, .string ⟨ad.toArray⟩, .string ⟨pr.toArray⟩, .string ⟨by_.toArray⟩, .int .i64 tk, .int .u32 (dr.toNat : Int)] 31)) := hB.ext ((Ext.refl wr).alloc _)
            clear hbad hgd hwl hok hsn hall hB
            have w9 : wrap64 ((k : Int) + 1) = (k : Int) + 1 := wrap64_id _ (by omega) (by have := hl6.out; omega)
            generalize evW ⟨kd, cn, ad, pr, by_, tk, dr⟩ = tw at *
            have z9 : ¬ 9223372036854775807 < tw.length + 1 := by omega
            have hs9 : (ByteArray.mk tw.toArray) ++ ⟨#[10]⟩ = (⟨(tw ++ [10]).toArray⟩ : ByteArray) := by apply ByteArray.ext; simp
            replace q := hide q
            replace E := hide E
            replace E2 := hide E2
            replace hwl2 := hide hwl2
            replace hgd2 := hide hgd2
            replace hB2 := hide hB2
            replace htl := hide htl
            replace hX := hide hX
            replace hlen := hide hlen
            replace hs9 := hide hs9
            go_wp2_with fail
            refine q.out.mono ?_
            rintro e1 W3 ⟨rfl, he⟩
            have E3 := E2.out.trans he
            have hB3 : Bd w.heap.size w.heap.size X W3 := hB2.out.ext he
            have hsz3 := E3.size
            have qW := BWriteString_any w.heap.size w.heap.size X (tw ++ [10]) W3 hB3 (by have := hlen.out; have := hwl2.out; simp; omega) hsz3
            clear q he
            replace E3 := hide E3
            replace qW := hide qW
            replace hB3 := hide hB3
            go_wp2_with (go_at_call 27; rw [hs9.out]; refine qW.out.mono ?_; rintro e W4 ⟨rfl, hB4, hE4⟩; have E4 := hide (Below.trans E3.out hE4 : Ext w W4); replace hB4 := hide hB4; clear hE4)
            go_roundw
            case rel => exact ⟨k + 1, by omega, by go_num, by rw [htl.out, ← List.append_assoc, hX.out]; exact hB4.out, E4.out, hgd2.out⟩
            case measure => rw [w9]; exact meas_step hlt
        · obtain rfl : k = l.length := by omega
          rw [List.take_length] at hB hall hlen
          have hpr2 := hpr.out
          rw [if_neg (by rw [hall]; decide)] at hpr2
          generalize T0 ++ tellL l = X at *
          have q := Tryz.Builder_Len w.heap.size w.heap.size (Lib.byteCells X) wr hB
          rw [byteCells_len] at q
          have q2 := Tryz.Builder_String_any w.heap.size w.heap.size X wr hB hsz
          by_cases hx : 1048576 < X.length
          · have b1 : decide ((1048576 : Int) < (X.length : Int)) = true := decide_eq_true (by omega)
            rw [if_pos hx] at hpr2
            clear hall hlen hB hx hk q2
            replace q := hide q
            replace hpr2 := hide hpr2
            replace E := hide E
            go_wp2_with (go_at_call 28; refine q.out.mono ?_; rintro e W2 ⟨rfl, rfl⟩)
            try go_ret2
            exact hR.out _ _ _ hpr2.out E.out
          · have b1 : decide ((1048576 : Int) < (X.length : Int)) = false := decide_eq_false (by omega)
            rw [if_neg hx] at hpr2
            clear hall hlen hB hx hk
            replace q := hide q
            replace q2 := hide q2
            replace hpr2 := hide hpr2
            replace E := hide E
            go_wp2_with (first | (go_at_call 28; refine q.out.mono ?_; rintro e W2 ⟨rfl, rfl⟩) | (go_at_call 29; refine q2.out.mono ?_; rintro e W3 ⟨rfl, hE3⟩; have E3 := hide (Below.trans E.out hE3 : Ext w W3); clear hE3))
            try go_ret2
            exact hR.out _ _ _ hpr2.out E3.out
end
section
open Go.RowKit
set_option linter.unusedVariables false
set_option linter.unusedSimpArgs false
/-- What is left of the variables behind the guard. -/
structure PS2 (w W : World) (p k cf : Nat) (v : Value) (out : List EvS) : Prop where
  ext : Ext w W
  at_ : Blk W (p + 2) 3 #[.int .i64 (k : Int)]
  cfb : Blk W (p + 3) 3 #[.int .i64 (cf : Int)]
  ob : Blk W (p + 4) 22 #[v]
  own : Own EEv 31 W (p + 6) v out
theorem PS.two {w W W' : World} {p m k cf : Nat} {L : List (List UInt8)} {v : Value} {out : List EvS} (h : PS w W p m L k cf v out) (hb : But (p + 5) W W') : PS2 w W' p k cf v out :=
 have h1 := h.lo
 ⟨But.ext h.ext hb (by omega), h.at_.but hb (by omega), h.cfb.but hb (by omega), h.ob.but hb (by omega), h.own.kept hb.size fun b h1 h2 => hb.block b h2 (by omega)⟩
theorem parse_mem (w W2 : World) (L : List (List UInt8)) (m d : Nat) (E : Ext w W2) (hL : L.length = m + 1) (hm : m ≤ 1048576) (hb : w.heap.size < W2.heap.size) (hc : ∀ (j : Nat) (hj : j < L.length), W2.cell? ⟨w.heap.size, j, none⟩ = some (.string ⟨L[j].toArray⟩)) :
  ∃ W3 : World, (((((W2.alloc (Obj.cells #[.slice (some ⟨w.heap.size, 0, none⟩) (m + 1) d] 63)).alloc (Obj.cells #[.int .i64 (m : Int)] 3)).alloc (Obj.cells #[.int .i64 0] 3)).alloc (Obj.cells #[.int .i64 0] 3)).alloc (Obj.cells #[.slice none 0 0] 22)) = W3 ∧ W3.heap.size = W2.heap.size + 5 ∧ Ext w W3 ∧ PS w (W3.alloc (Obj.cells #[.int .i64 0] 23)) W2.heap.size m L 0 0 (.slice none 0 0) [] := by
 refine ⟨_, rfl, ?_⟩
 have z0 : W2.heap.size = W2.heap.size + 0 := rfl
 have a0 := Blk.new W2 63 #[.slice (some ⟨w.heap.size, 0, none⟩) (m + 1) d]
 have e0 := (Ext.refl W2).alloc (Obj.cells #[.slice (some ⟨w.heap.size, 0, none⟩) (m + 1) d] 63)
 have z1 : (W2.alloc (Obj.cells #[.slice (some ⟨w.heap.size, 0, none⟩) (m + 1) d] 63)).heap.size = W2.heap.size + 1 := by simp
 generalize W2.alloc (Obj.cells #[.slice (some ⟨w.heap.size, 0, none⟩) (m + 1) d] 63) = V1 at *
 have a1 := Blk.new V1 3 #[.int .i64 (m : Int)]
 have e1 := e0.alloc (Obj.cells #[.int .i64 (m : Int)] 3)
 replace a0 := a0.alloc (Obj.cells #[.int .i64 (m : Int)] 3)
 have z2 : (V1.alloc (Obj.cells #[.int .i64 (m : Int)] 3)).heap.size = W2.heap.size + 2 := by simp [z1]
 rw [z1] at a1
 generalize V1.alloc (Obj.cells #[.int .i64 (m : Int)] 3) = V2 at *
 have a2 := Blk.new V2 3 #[.int .i64 0]
 have e2 := e1.alloc (Obj.cells #[.int .i64 0] 3)
 replace a0 := a0.alloc (Obj.cells #[.int .i64 0] 3)
 replace a1 := a1.alloc (Obj.cells #[.int .i64 0] 3)
 have z3 : (V2.alloc (Obj.cells #[.int .i64 0] 3)).heap.size = W2.heap.size + 3 := by simp [z2]
 rw [z2] at a2
 generalize V2.alloc (Obj.cells #[.int .i64 0] 3) = V3 at *
 have a3 := Blk.new V3 3 #[.int .i64 0]
 have e3 := e2.alloc (Obj.cells #[.int .i64 0] 3)
 replace a0 := a0.alloc (Obj.cells #[.int .i64 0] 3)
 replace a1 := a1.alloc (Obj.cells #[.int .i64 0] 3)
 replace a2 := a2.alloc (Obj.cells #[.int .i64 0] 3)
 have z4 : (V3.alloc (Obj.cells #[.int .i64 0] 3)).heap.size = W2.heap.size + 4 := by simp [z3]
 rw [z3] at a3
 generalize V3.alloc (Obj.cells #[.int .i64 0] 3) = V4 at *
 have a4 := Blk.new V4 22 #[.slice none 0 0]
 have e4 := e3.alloc (Obj.cells #[.slice none 0 0] 22)
 replace a0 := a0.alloc (Obj.cells #[.slice none 0 0] 22)
 replace a1 := a1.alloc (Obj.cells #[.slice none 0 0] 22)
 replace a2 := a2.alloc (Obj.cells #[.slice none 0 0] 22)
 replace a3 := a3.alloc (Obj.cells #[.slice none 0 0] 22)
 have z5 : (V4.alloc (Obj.cells #[.slice none 0 0] 22)).heap.size = W2.heap.size + 5 := by simp [z4]
 rw [z4] at a4
 generalize V4.alloc (Obj.cells #[.slice none 0 0] 22) = V5 at *
 have a5 := Blk.new V5 23 #[.int .i64 0]
 have e5 := e4.alloc (Obj.cells #[.int .i64 0] 23)
 replace a0 := a0.alloc (Obj.cells #[.int .i64 0] 23)
 replace a1 := a1.alloc (Obj.cells #[.int .i64 0] 23)
 replace a2 := a2.alloc (Obj.cells #[.int .i64 0] 23)
 replace a3 := a3.alloc (Obj.cells #[.int .i64 0] 23)
 replace a4 := a4.alloc (Obj.cells #[.int .i64 0] 23)
 rw [z5] at a5
 refine ⟨z5, E.trans e4, ⟨by omega, by simp [z5], E.trans e5, hL, hm, ⟨w.heap.size, d, by rw [hL]; exact a0, hb, fun j hj => e5.cell (hc j hj)⟩, a1, a2, a3, a4, a5, Own.nil⟩⟩
/-- What script.Parse answers. -/
def ParP (s : List UInt8) (w : World) (e : Ending) (w' : World) : Prop :=
  ((∃ cfg evs v, parseS s = (cfg, evs, 0, 0) ∧ e = .returned (.tuple #[.string ⟨cfg.toArray⟩, v, .nilIface]) ∧ Own EEv 31 w' w.heap.size v evs) ∨
   (∃ (c : Int) (k f : Nat), c ≠ 0 ∧ parseS s = ([], [], c, k) ∧ e = .returned (.tuple #[.string ⟨#[]⟩, .slice none 0 0, .iface 44 (.pointer (some ⟨f, 0, none⟩))]) ∧ w.heap.size ≤ f ∧ Blk w' f 48 #[.int .i64 c, .int .i64 (k : Int)])) ∧ Ext w w'
set_option maxRecDepth 20000 in
set_option maxHeartbeats 4000000 in
theorem SParse_any (s : List UInt8) (hs : s.length ≤ 1048576) (w : World) (hT : Tab w) (hV : Vars w) (hD : Deb w) : Calls Tryz.prog 15 #[.string ⟨s.toArray⟩] w (ParP s w) := by
 have hmf : ∀ (fn : Fn) (first cap : Array Value) (w : World), (Instr.makeFunc fn first cap).run Tryz.prog w = .ok (.func fn first cap) w := fun _ _ _ _ => rfl
 have hps := parse_rest hs
 have hok : ∀ W cfg evs v, parseS s = (cfg, evs, 0, 0) → Own EEv 31 W w.heap.size v evs → Ext w W → ParP s w (.returned (.tuple #[.string ⟨cfg.toArray⟩, v, .nilIface])) W := fun W cfg evs v h1 h2 h3 => ⟨.inl ⟨cfg, evs, v, h1, rfl, h2⟩, h3⟩
 have hno : ∀ W c k f, c ≠ 0 → parseS s = ([], [], c, k) → w.heap.size ≤ f → Blk W f 48 #[.int .i64 c, .int .i64 (k : Int)] → Ext w W → ParP s w (.returned (.tuple #[.string ⟨#[]⟩, .slice none 0 0, .iface 44 (.pointer (some ⟨f, 0, none⟩))])) W := fun W c k f h1 h2 h3 h4 h5 => ⟨.inr ⟨c, k, f, h1, h2, rfl, h3, h4⟩, h5⟩
 generalize ParP s w = Post at *
 rw [hps] at hok hno
 have hsum := spl_size s
 have hwl : ∀ y ∈ spl 10 s, y.length ≤ 1048576 := fun y hy => Nat.le_trans (spl_len 10 s y hy) hs
 have hcnt := spl_cnt 10 s.length s (Nat.le_refl _)
 have qs := Split_any s 10 w hV hs
 obtain ⟨m, hm⟩ : ∃ m, (spl 10 s).length = m + 1 := ⟨(spl 10 s).length - 1, by have := List.length_pos_iff.2 (spl_ne 10 s); omega⟩
 have hq1 := fun W0 p h0 => Parse1_any s hs w W0 p m (spl 10 s) hT hV hD h0 hwl hsum
 have hm2 : m ≤ 1048576 := by omega
 have b1 : decide ((1048576 : Int) < (s.length : Int)) = false := decide_eq_false (by omega)
 generalize spl 10 s = L at *
 clear hT hV hD hwl hcnt hsum hps
 have w1 : IntKind.i64.wrap ((L.length : Int) - 1) = (m : Int) := by rw [IntKind.wrap_i64]; omega
 replace qs := hide qs
 replace hok := hide hok
 replace hno := hide hno
 replace hq1 := hide hq1
 replace hs := hide hs
 replace hm2 := hide hm2
 go_enter Tryz.func15, Tryz.ntmps15
 go_wp2_with fail
 refine qs.out.mono ?_
 rintro e W2 ⟨d, hd, rfl, he, hc⟩
 rw [hm] at hd ⊢
 clear w1
 have w2 : wrap64 (m : Int) = (m : Int) := wrap64_id (m : Int) (by omega) (by have := hm2.out; omega)
 have hb : w.heap.size < W2.heap.size := World.block_lt_of_cell? W2 _ (hc 0 (by omega))
 obtain ⟨W3, hW3, hz, E3, P3⟩ := parse_mem w W2 L m d he hm hm2.out hb hc
 have q1 := hq1.out _ _ P3
 have q := Guard_any 36 _ (fun _ _ => rfl) W3 (fun W => ∃ k cf v out, PS w W W2.heap.size m L k cf v out ∧ restC s 0 0 L = (s.take cf, out, 0, 0) ∧ cf ≤ s.length) (fun c W => ∃ k cf v out, PS w W W2.heap.size m L k cf v out ∧ restC s 0 0 L = ([], [], c, k) ∧ c ≠ 0)
  (q1.mono fun e W h => by
   rcases h with ⟨k, cf, v, out, h1, h2⟩ | ⟨c, k, cf, v, out, h1, h2⟩
   ·exact .inl ⟨h1, k, cf, v, out, h2⟩
   ·exact .inr ⟨c, h1, k, cf, v, out, h2⟩)
  (fun W ⟨k, cf, v, out, h, _⟩ => by rw [hz]; exact h.pe) (fun c W ⟨k, cf, v, out, h, _⟩ => by rw [hz]; exact h.pe)
  (fun e W => (∃ k cf v out, e = .returned (.int .i64 0) ∧ PS2 w W W2.heap.size k cf v out ∧ restC s 0 0 L = (s.take cf, out, 0, 0) ∧ cf ≤ s.length) ∨ (∃ (c : Int) (k cf : Nat) (v : Value) (out : List EvS), e = .returned (.int .i64 c) ∧ PS2 w W W2.heap.size k cf v out ∧ restC s 0 0 L = ([], [], c, k) ∧ c ≠ 0))
  (fun W W' ⟨k, cf, v, out, h, h2⟩ hb => .inl ⟨k, cf, v, out, rfl, h.two (hz ▸ hb), h2⟩) (fun c W W' ⟨k, cf, v, out, h, h2⟩ hb => .inr ⟨c, k, cf, v, out, rfl, h.two (hz ▸ hb), h2⟩)
 have hp : w.heap.size ≤ W2.heap.size := by omega
 clear q1 hq1 P3 hc he hd hb
 replace q := hide q
 replace E3 := hide E3
 replace hz := hide hz
 go_wp2_with fail
 refine q.out.mono ?_
 rintro e W4 (⟨k, cf, v, out, rfl, S, hr, hcf⟩ | ⟨c, k, cf, v, out, rfl, S, hr, hc⟩)
 ·have c0 : W4.cell? ⟨W2.heap.size + 3, 0, none⟩ = some (.int .i64 (cf : Int)) := S.cfb.cell 0
  have c1 : W4.cell? ⟨W2.heap.size + 4, 0, none⟩ = some v := S.ob.cell 0
  have hfin := fun n => hok.out (W4.drewN n) _ out v hr ((S.own.low (by omega)).drewN n) (S.ext.drewN n)
  have hx : (ByteArray.mk s.toArray).extract 0 cf = ⟨(s.take cf).toArray⟩ := by rw [ba_extract]; simp
  obtain ⟨va, vc, rfl⟩ := S.own.form
  clear S hr hok hno q
  generalize s.take cf = tk at *
  replace hfin := hide hfin
  go_upto_region 10 with fail
  go_quiet (fail)
  go_wp2
  exact bodyPost_ret (v := .tuple #[.string ⟨tk.toArray⟩, .slice va out.length vc, .nilIface]) (by simp [results, Tryz.results15, go_sem]) rfl (hfin.out _)
 ·have hFB := Blk.new W4 48 #[.int .i64 c, .int .i64 (k : Int)]
  have E5 := S.ext.alloc (Obj.cells #[.int .i64 c, .int .i64 (k : Int)] 48)
  have c0 : W4.cell? ⟨W2.heap.size + 2, 0, none⟩ = some (.int .i64 (k : Int)) := S.at_.cell 0
  have hsz := S.ext.size
  have hfin := hno.out _ c k W4.heap.size hc hr hsz hFB.drew E5.drew
  have e1 : (c == 0) = false := beq_eq_false_iff_ne.2 hc
  have e2 : (c != 0) = true := by simpa using hc
  have e3 : decide (c = 0) = false := decide_eq_false hc
  clear S hr hok hno q hFB E5 hsz hc
  replace hfin := hide hfin
  go_upto_region 9 with fail
  go_region
  all_goals go_wp2
  exact bodyPost_ret (v := .tuple #[.string ⟨#[]⟩, .slice none 0 0, .iface 44 (.pointer (some ⟨W4.heap.size, 0, none⟩))]) (by simp [results, Tryz.results15, go_sem]) rfl hfin.out
end
end Go.Proofs.YtkinghadgmbhbaaGreatDoor
