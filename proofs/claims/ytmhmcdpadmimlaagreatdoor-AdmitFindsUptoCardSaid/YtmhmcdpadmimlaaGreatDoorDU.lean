/- The walk of the document's Find, chapter 21. -/
import Derived.Test.YtmhmcdpadmimlaaGreatDoorDT
import Derived.Test.YtmhmcdpadmimlaaGreatDoorDI
import Derived.Deep.MidRow
namespace Go.Proofs.YtmhmcdpadmimlaaGreatDoor
open Go.RowKit Go.Sort
set_option linter.unusedVariables false

/-- A load of a row of cells in a region that only reads. -/
theorem wpQuiet_load_mid {P : Program} {ops : Array Oper} {C : World → Prop} {Q : Act → Prop} {rest : List Oper} {op : Oper} {a : Act} (hgd : op.guard = none) (ty : TypeId) (x : Operand) (ho : op.op = .load ty x)
    (b o : Nat) (hx : a.eval x = .pointer (some ⟨b, o, none⟩)) (cs : List Value) (d : TypeDesc) (hc : ∀ w, C w → w.rangeAt b o cs)
    (hu : P.underlying ty = some d) (hd : d.isRow = true) (hi : (P.info? ty).map (·.size) = some cs.length)
    (h : wpQuiet P ops C Q rest (a.put op.dst (.agg cs.toArray))) : wpQuiet P ops C Q (op :: rest) a := by
  show (if Region.wanted op (yielded ops a.tmps) then op.quiet P a C (wpQuiet P ops C Q rest) else _)
  rw [if_pos (show Region.wanted op (yielded ops a.tmps) = true by simp [Region.wanted, hgd])]
  refine ⟨.agg cs.toArray, fun w hw => ?_, h⟩
  unfold Oper.quietAt execOp
  simp only [ho, hx, Instr.loadAt, Instr.sureAddr, Sem.run_bind, Sem.run_pure, Result.andThen_ok, run_loadVar_mid w b o ty cs d (hc w hw) hu hd hi]
  exact ⟨rfl, rfl⟩
set_option maxRecDepth 20000 in
set_option maxHeartbeats 2000000 in
theorem RFind_any21 (l : List Nbr) (hl : l.length ≤ 16777216) (ao : Option Addr) (co : Nat) (a : List UInt8) (ha : a.length ≤ 1048576) (w : World) (hs : Sl ENbr w (· < w.heap.size) ao l) :
    Calls Tryz.prog 9 #[.slice ao l.length co, .string ⟨a.toArray⟩] w fun e w' => e = .returned (.tuple #[.int .i64 (findN l a).1, .bool (findN l a).2]) ∧ Ext w w' := by
  have mixed : Tryz.prog.follows Departure.mixedOrders = true := by kernel_rfl
  have q1 := fun W => Rright_any a W
  cases hr : rightA a with
  | false =>
    rw [hr] at q1
    rw [findN_bad hr]
    clear hr hs
    replace q1 := hide q1
    go_enter Tryz.func9, Tryz.ntmps9
    go_wp2_with fail
    refine (q1.out _).mono ?_
    rintro e W1 ⟨rfl, E⟩
    replace E := hide E
    go_wp2
    go_ret2
    exact ⟨rfl, E.out⟩
  | true =>
    rw [hr] at q1
    have hat : ∀ k, l.findIdx? (fun x => x.addr == a) = some k → findN l a = ((k : Int), true) := fun k h => findN_at hr h
    have hno : l.findIdx? (fun x => x.addr == a) = none → findN l a = (if bestS l a l.length < 0 then 0 else bestS l a l.length, decide (0 ≤ bestS l a l.length)) := fun h => findN_no hr h
    generalize findN l a = FN at *
    obtain ⟨fi, fb⟩ := FN
    dsimp only
    clear hr
    replace q1 := hide q1
    replace hat := hide hat
    replace hno := hide hno
    replace hs := hide hs
    go_enter Tryz.func9, Tryz.ntmps9
    go_wp2_with fail
    refine (q1.out _).mono ?_
    rintro e W1 ⟨rfl, E⟩
    replace E := hide E
    clear q1
    go_wp2_with fail
    go_loopw [6] (fun i wr => ∃ k : Nat, k ≤ l.length ∧ i = .int .i64 (k : Int) ∧ (∀ x ∈ l.take k, (x.addr == a) = false) ∧ wr = W1) (fun i _ => l.length - (intOf i).toNat)
    case atStart => exact ⟨0, Nat.zero_le _, rfl, fun x hx => by simp at hx, rfl⟩
    case round =>
      obtain ⟨k, hk, rfl, hnx, rfl⟩ := hrel
      by_cases hlt : k < l.length
      · obtain ⟨b, off, f, fc, rfl, _, hin, hc⟩ := ENbr.at (hs.out.ext E.out) k hlt
        have c1 : wr.cell? ⟨b, off + k * 23 + 1, none⟩ = some (.string ⟨l[k].addr.toArray⟩) := hc 1 _ rfl
        have hfa := fun h => hat.out k (findIdx_at hlt hnx h)
        have htn := fun h => take_no hlt hnx h
        have d1 : decide ((k : Int) < (l.length : Int)) = true := decide_eq_true (by omega)
        clear hc hin hnx
        generalize l[k].addr = ad at *
        cases hnm : (ad == a) with
        | true =>
          have h1 := hfa hnm
          clear htn hfa
          injection h1 with h1 h2
          subst h1 h2
          go_wp2
          go_ret2
          exact ⟨rfl, E.out⟩
        | false =>
          have h1 := hide (htn hnm)
          clear htn hfa
          go_wp2_with fail
          go_roundw
          case rel => exact ⟨k + 1, by omega, by go_num, h1.out, by trivial⟩
          case measure => simp [intOf]; omega
      · obtain rfl : k = l.length := by omega
        have hfin := hno.out (findIdx_no hnx)
        clear hnx hlt hk hat hno
        injection hfin with h1 h2
        subst h1 h2
        go_wp2_with fail
        go_loopw [7, 8] (fun t i w2 => ∃ k : Nat, k ≤ l.length ∧ i = .int .i64 (k : Int) ∧ t = .int .i64 (bestS l a k) ∧ Ext wr w2) (fun _ i _ => l.length - (intOf i).toNat)
        case atStart => exact ⟨0, Nat.zero_le _, rfl, rfl, Ext.refl _⟩
        case round =>
          obtain ⟨k, hk, rfl, rfl, hE⟩ := hrel
          rename World => W2
          have hbd := bestS_bd l a k
          by_cases hlt : k < l.length
          · have hs2 := (hs.out.ext E.out).ext hE
            obtain ⟨b, off, f, fc, rfl, _, hin, hc⟩ := ENbr.at hs2 k hlt
            have hbs := best_succ l a k hlt
            have d1 : decide ((k : Int) < (l.length : Int)) = true := decide_eq_true (by omega)
            have qo := fun W => ROf_any l[k] f fc a W hin.range.addr ha
            have hCl : (nbrCs l[k] f fc).length = 23 := rfl
            have hC5 : W2.cell? ⟨b, off + k * 23 + 2 + 3, none⟩ = some (.int .i64 (lenN l k)) := by
              have := hc 5 _ rfl
              unfold lenN
              rw [Int.toNat_natCast, show l.getD k zeroN = l[k] by rw [List.getD_eq_getElem?_getD, List.getElem?_eq_getElem hlt]; rfl]
              exact this
            have hra : ∀ W, (∃ p : Regrown, W = grow (redrawn W2 p.d) p.os) → W.rangeAt b (off + k * 23) (nbrCs l[k] f fc) := fun W hW => by
              obtain ⟨⟨d, os⟩, rfl⟩ := hW
              exact fun j u hu => cell_regrown (hc j u hu) d os
            have hi23 : (Tryz.prog.info? 31).map (·.size) = some (nbrCs l[k] f fc).length := by rw [hCl]; kernel_rfl
            generalize nbrCs l[k] f fc = CS at *
            clear hc hCl hin
            cases ho : ofS l[k] a with
            | false =>
              rw [ho, Bool.false_and, if_neg (by decide)] at hbs
              rw [ho] at qo
              have cq := Calls.regr qo W2
              clear qo ho hC5
              replace hE := hide hE
              replace hbs := hide hbs
              replace hra := hide hra
              replace hi23 := hide hi23
              replace hbd := hide hbd
              go_wp2_with fail
              replace hl := hide hl
              replace ha := hide ha
              refine wp_region_quiet_below (by assumption) (by kernel_rfl) ?_
              quiet_step (fail)
              quiet_step (fail)
              quiet_step (fail)
              with_reducible refine wpQuiet_load_mid rfl 31 (.tmp 34) rfl b (off + k * 23) rfl CS _ hra.out Tryz.underlying31 rfl hi23.out ?_
              generalize CS.toArray = CA at cq ⊢
              quiet_step (fail)
              repeat (go_big_quiet_step (with_reducible exact cq _ _))
              refine wpQuiet_nil ?_
              intro _ hw'
              obtain ⟨⟨dq, osq⟩, hw''⟩ := hw'
              subst hw''
              replace hE := hide (hE.out.trans (below_regrown _ dq osq))
              clear cq
              generalize grow (redrawn W2 dq) osq = W3 at hE ⊢
              replace hl := hl.out
              go_wp2_with fail
              go_roundw
              case rel => exact ⟨k + 1, by omega, by go_num, by rw [hbs.out], hE.out⟩
              case measure => simp [intOf]; omega
            | true =>
              rw [ho, Bool.true_and] at hbs
              rw [ho] at qo
              have cq := Calls.regr qo W2
              have y5 : ∀ d os, (grow (redrawn W2 d) os).cell? ⟨b, off + k * 23 + 2 + 3, none⟩ = some (.int .i64 (lenN l k)) := cell_regrown hC5
              clear qo ho hC5
              by_cases hneg : bestS l a k < 0
              · have g1 : decide (bestS l a k < 0) = true := decide_eq_true hneg
                rw [show nearS l (bestS l a k) k = true from by unfold nearS; rw [g1]; rfl, if_pos rfl] at hbs
                clear hneg
                generalize bestS l a k = bk at *
                replace hE := hide hE
                clear y5
                replace hbs := hide hbs
                replace hra := hide hra
                replace hi23 := hide hi23
                replace hbd := hide hbd
                go_wp2_with fail
                replace hl := hide hl
                replace ha := hide ha
                refine wp_region_quiet_below (by assumption) (by kernel_rfl) ?_
                quiet_step (fail)
                quiet_step (fail)
                quiet_step (fail)
                with_reducible refine wpQuiet_load_mid rfl 31 (.tmp 34) rfl b (off + k * 23) rfl CS _ hra.out Tryz.underlying31 rfl hi23.out ?_
                generalize CS.toArray = CA at cq ⊢
                quiet_step (fail)
                repeat (go_big_quiet_step (with_reducible exact cq _ _))
                refine wpQuiet_nil ?_
                intro _ hw'
                obtain ⟨⟨dq, osq⟩, hw''⟩ := hw'
                subst hw''
                replace hE := hide (hE.out.trans (below_regrown _ dq osq))
                clear cq
                generalize grow (redrawn W2 dq) osq = W3 at hE ⊢
                replace hl := hl.out
                go_wp2_with fail
                go_roundw
                case rel => exact ⟨k + 1, by omega, by go_num, by rw [hbs.out], hE.out⟩
                case measure => simp [intOf]; omega
              · obtain ⟨n, hn⟩ : ∃ n : Nat, bestS l a k = (n : Int) := ⟨(bestS l a k).toNat, by omega⟩
                rw [hn] at hbs hbd hneg ⊢
                have hnl : n < l.length := by omega
                obtain ⟨b2, off2, f2, fc2, hab, _, _, hc2⟩ := ENbr.at hs2 n hnl
                injection hab with hab
                injection hab with h1 h2 _
                subst h1
                subst h2
                have n5 : W2.cell? ⟨b, off + n * 23 + 2 + 3, none⟩ = some (.int .i64 (lenN l n)) := by
                  have := hc2 5 _ rfl
                  unfold lenN
                  rw [Int.toNat_natCast, show l.getD n zeroN = l[n] by rw [List.getD_eq_getElem?_getD, List.getElem?_eq_getElem hnl]; rfl]
                  exact this
                have z5 : ∀ d os, (grow (redrawn W2 d) os).cell? ⟨b, off + n * 23 + 2 + 3, none⟩ = some (.int .i64 (lenN l n)) := cell_regrown n5
                clear n5 hc2
                have g1 : decide ((n : Int) < 0) = false := decide_eq_false (by omega)
                have hnr : nearS l (n : Int) k = decide (lenN l n < lenN l k) := by unfold nearS; rw [g1]; rfl
                rw [hnr] at hbs
                clear hnr hneg
                generalize lenN l n = ln at *
                generalize lenN l k = lk at *
                by_cases hcmp : ln < lk
                · have g2 : decide (ln < lk) = true := decide_eq_true hcmp
                  rw [g2, if_pos rfl] at hbs
                  clear hcmp hn
                  replace hE := hide hE
                  replace hbs := hide hbs
                  replace hra := hide hra
                  replace hi23 := hide hi23
                  replace hbd := hide hbd
                  go_wp2_with fail
                  replace hl := hide hl
                  replace ha := hide ha
                  refine wp_region_quiet_below (by assumption) (by kernel_rfl) ?_
                  quiet_step (fail)
                  quiet_step (fail)
                  quiet_step (fail)
                  with_reducible refine wpQuiet_load_mid rfl 31 (.tmp 34) rfl b (off + k * 23) rfl CS _ hra.out Tryz.underlying31 rfl hi23.out ?_
                  generalize CS.toArray = CA at cq ⊢
                  quiet_step (fail)
                  repeat (go_big_quiet_step (with_reducible exact cq _ _))
                  refine wpQuiet_nil ?_
                  intro _ hw'
                  obtain ⟨⟨dq, osq⟩, hw''⟩ := hw'
                  subst hw''
                  replace hE := hide (hE.out.trans (below_regrown _ dq osq))
                  clear cq y5 z5
                  generalize grow (redrawn W2 dq) osq = W3 at hE ⊢
                  replace hl := hl.out
                  go_wp2_with fail
                  go_roundw
                  case rel => exact ⟨k + 1, by omega, by go_num, by rw [hbs.out], hE.out⟩
                  case measure => simp [intOf]; omega
                · have g2 : decide (ln < lk) = false := decide_eq_false hcmp
                  rw [g2, if_neg (by decide)] at hbs
                  clear hcmp hn
                  replace hE := hide hE
                  replace hbs := hide hbs
                  replace hra := hide hra
                  replace hi23 := hide hi23
                  replace hbd := hide hbd
                  go_wp2_with fail
                  replace hl := hide hl
                  replace ha := hide ha
                  refine wp_region_quiet_below (by assumption) (by kernel_rfl) ?_
                  quiet_step (fail)
                  quiet_step (fail)
                  quiet_step (fail)
                  with_reducible refine wpQuiet_load_mid rfl 31 (.tmp 34) rfl b (off + k * 23) rfl CS _ hra.out Tryz.underlying31 rfl hi23.out ?_
                  generalize CS.toArray = CA at cq ⊢
                  quiet_step (fail)
                  repeat (go_big_quiet_step (with_reducible exact cq _ _))
                  refine wpQuiet_nil ?_
                  intro _ hw'
                  obtain ⟨⟨dq, osq⟩, hw''⟩ := hw'
                  subst hw''
                  replace hE := hide (hE.out.trans (below_regrown _ dq osq))
                  clear cq y5 z5
                  generalize grow (redrawn W2 dq) osq = W3 at hE ⊢
                  replace hl := hl.out
                  go_wp2_with fail
                  go_roundw
                  case rel => exact ⟨k + 1, by omega, by go_num, by rw [hbs.out], hE.out⟩
                  case measure => simp [intOf]; omega
          · obtain rfl : k = l.length := by omega
            replace E := hide (E.out.trans hE)
            clear hE hlt hk hs
            by_cases hneg : bestS l a l.length < 0
            · have g1 : decide (bestS l a l.length < 0) = true := decide_eq_true hneg
              have g2 : decide (0 ≤ bestS l a l.length) = false := decide_eq_false (by omega)
              go_wp2
              go_ret2
              refine ⟨?_, E.out⟩
              try rw [if_pos hneg]
              try rw [g2]
              rfl
            · have g1 : decide (bestS l a l.length < 0) = false := decide_eq_false hneg
              have g2 : decide (0 ≤ bestS l a l.length) = true := decide_eq_true (by omega)
              go_wp2
              go_ret2
              refine ⟨?_, E.out⟩
              try rw [if_neg hneg]
              try rw [g2]
              rfl
end Go.Proofs.YtmhmcdpadmimlaaGreatDoor
