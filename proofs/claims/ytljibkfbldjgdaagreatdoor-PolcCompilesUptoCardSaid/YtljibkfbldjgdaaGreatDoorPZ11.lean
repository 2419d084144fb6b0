/- Chapter 16, walks: the document's Check. Chapter 16, walks: the document's Compile. Chapter 16, walks: the document's SameSet of any two sets. Chapter 16, walks: the document's SameProgram of two programs alike; the law's sameSets of two alike. Chapter 16, walks: a term in memory of its own (heraldref16.OwnTerm). Chapter 16, walks: a condition as a text, by the document. Printed by genff.py. Chapter 16, walks: an action as a text, by the document. Printed by genfg.py. Chapter 16, walks: a term's text, by the document (heraldref16.TermText). The law PolcTells, walked. Chapter 16, plain: what PolcJumps asks of a program. append(none, l...) of rows of any elements. -/
import Derived.Lib.SplitLaws
import Derived.Lib.ParseIntB
import Derived.Lib.ParseIntBCases
import Derived.Lib.ItoaNum
import Derived.Lib.Join
import Derived.WalkKit
import Derived.Below
import Derived.Outline
import Derived.LoopTactic
import Derived.Laws.OwnMore
import Derived.Deep.AppendLies
import Derived.Deep.Draws
import Derived.Lib.Hide
import Derived.BigQuiet
import Derived.Deep.QuietTactic
import Derived.WalkSpells
import Derived.WalkLawsBesides
import Derived.Deep.RegionHeld3
import Derived.Deep.DrawnRows
import Derived.Deep.RegionLaw
import Derived.Lib.ConvBytes
import Derived.Lib.Bytealg
import Derived.Lib.Small
import Derived.Test.YtljibkfbldjgdaaGreatDoorRows
import Derived.ProofKit
import Derived.Deep.Slices
import Derived.Shelf.GgClosure.StringsRunes
import Derived.Test.YtljibkfbldjgdaaGreatDoorProg
import Derived.Test.YtljibkfbldjgdaaGreatDoorShelf
import Derived.Orders
import Derived.StillTail
import Derived.Test.YtljibkfbldjgdaaGreatDoorShelf2
import Derived.Lib.UnsafeStr
import Derived.Shelf.RegionOpenPlain
import Derived.Laws.StructEq
import Derived.Lib.QuietBelow
import Derived.Lib.ItoaMem
import Derived.Lib.ItoaLen
import Derived.Deep.DeepCutAuto
import Derived.Defers
import Derived.Recover
import Derived.Maps.OwnSet
import Derived.Maps.Views
import Derived.Maps.Range
import Derived.DeepKeys5
import Derived.Deep.Cut
import Derived.Deep.MidRow
import Derived.Test.YtljibkfbldjgdaaGreatDoorPZ01
import Derived.Test.YtljibkfbldjgdaaGreatDoorPZ02
import Derived.Test.YtljibkfbldjgdaaGreatDoorPZ03
import Derived.Test.YtljibkfbldjgdaaGreatDoorPZ04
import Derived.Test.YtljibkfbldjgdaaGreatDoorPZ05
import Derived.Test.YtljibkfbldjgdaaGreatDoorPZ06
import Derived.Test.YtljibkfbldjgdaaGreatDoorPZ07
import Derived.Test.YtljibkfbldjgdaaGreatDoorPZ08
import Derived.Test.YtljibkfbldjgdaaGreatDoorPZ09
import Derived.Test.YtljibkfbldjgdaaGreatDoorPZ10
namespace Go.Proofs.YtljibkfbldjgdaaGreatDoor
section
open Go.RowKit Go.Sort
set_option linter.unusedVariables false
def metT (l : List StS) (t : TermS) : Prop := (∀ c ∈ t.conds, kindC c ≠ 0 → thereS l (c.name, kindC c) = true) ∧ ∀ c ∈ t.acts, c.kind = 7 → thereS l (c.name, 2) = true
theorem met_all {p : PolS} {l : List StS} (h : ∀ t ∈ p.terms, metT l t) : (needsP p).all (thereS l) = true := by
 rw [List.all_eq_true]
 intro n hn
 obtain ⟨t, ht, h2⟩ := need_of hn
 obtain ⟨h3, h4⟩ := h t ht
 rcases h2 with ⟨c, hc, h5⟩ | ⟨c, hc, h5⟩
 ·by_cases hk : kindC c = 0
  ·rw [kindC_none hk] at h5; cases h5
  ·obtain ⟨e1, e2⟩ := kindC_need hk
   rw [e1] at h5
   injection h5 with h5
   subst h5
   have := h3 c hc hk
   rwa [e2] at this
 ·unfold needA at h5
  split at h5
  ·rename_i h7
   injection h5 with h5
   subst h5
   exact h4 c hc h7
  ·cases h5
theorem unmet_c {p : PolS} {l : List StS} {t : TermS} {c : CondS} (ht : t ∈ p.terms) (hc : c ∈ t.conds) (hk : kindC c ≠ 0) (h : thereS l (c.name, kindC c) = false) : (needsP p).all (thereS l) = false := by
 rw [List.all_eq_false]
 exact ⟨_, need_inC ht hc (kindC_need hk).1, by rw [← (kindC_need hk).2, h]; simp⟩
theorem unmet_a {p : PolS} {l : List StS} {t : TermS} {c : ActS} (ht : t ∈ p.terms) (hc : c ∈ t.acts) (hk : c.kind = 7) (h : thereS l (c.name, 2) = false) : (needsP p).all (thereS l) = false := by
 rw [List.all_eq_false]
 exact ⟨_, need_inA ht hc (if_pos hk), by rw [h]; simp⟩
theorem names_yes {l : List StS} {k j : Nat} (hk : k < l.length) (hj : j < k) (h : (l[j]'(by omega)).name = l[k].name) : ((l.take k).map (·.name)).contains l[k].name = true := by
 rw [List.contains_iff_mem, ← h]
 exact List.mem_map.2 ⟨l[j]'(by omega), List.mem_take_iff_getElem.2 ⟨j, by omega, rfl⟩, rfl⟩
theorem names_no {l : List StS} {k : Nat} (hk : k < l.length) (h : ∀ s ∈ l.take k, s.name ≠ l[k].name) : ((l.take k).map (·.name)).contains l[k].name = false := by
 rw [Bool.eq_false_iff, ne_eq, List.contains_iff_mem]
 intro hm
 obtain ⟨s, hs, he⟩ := List.mem_map.1 hm
 exact h s hs he
set_option maxRecDepth 20000 in
set_option maxHeartbeats 4000000 in
theorem DCheck16_any (p : PolS) (a : Option Addr) (ca : Nat) (l : List StS) (b : Option Addr) (cb : Nat) (w : World) (hl : p.terms.length ≤ 16777216) (hm : l.length ≤ 16777216)
    (s1 : Sl ETerm w (· < w.heap.size) a p.terms) (s2 : Sl ESet w (· < w.heap.size) b l) :
    Calls Tryz.prog 29 #[.agg #[.string ⟨p.name.toArray⟩, .slice a p.terms.length ca, .bool p.els], .slice b l.length cb] w fun e w' => e = .returned (.int .i64 (checkP p l)) ∧ Ext w w' := by
  have mixed : Tryz.prog.follows Departure.mixedOrders = true := by kernel_rfl
  have S := Blk.new w 35 #[.string ⟨p.name.toArray⟩, .slice a p.terms.length ca, .bool p.els]
  have E := (Ext.refl w).alloc (Obj.cells #[.string ⟨p.name.toArray⟩, .slice a p.terms.length ca, .bool p.els] 35)
  have qm := fun W (h : Ext w W) => DMayPol_any p a ca W hl (s1.ext h)
  have hbad := checkP_bad (p := p) (l := l)
  have hset := checkP_sets (p := p) (l := l)
  have hned := checkP_need (p := p) (l := l)
  have hfin := checkP_ok (p := p) (l := l)
  have hma := met_all (p := p) (l := l)
  have huc := fun t ht c hc h1 h2 => unmet_c (p := p) (l := l) (t := t) (c := c) ht hc h1 h2
  have hua := fun t ht c hc h1 h2 => unmet_a (p := p) (l := l) (t := t) (c := c) ht hc h1 h2
  generalize checkP p l = r at *
  generalize (needsP p).all (thereS l) = nd at *
  generalize hW0 : w.alloc (Obj.cells #[.string ⟨p.name.toArray⟩, .slice a p.terms.length ca, .bool p.els] 35) = W0 at S E
  obtain ⟨g0, hg0⟩ : ∃ g0, w.heap.size = g0 := ⟨_, rfl⟩
  rw [hg0] at S
  generalize polOk p = po at *
  generalize p.terms = T at *
  replace S := hide S
  replace E := hide E
  replace s1 := hide s1
  replace s2 := hide s2
  replace qm := hide qm
  replace hbad := hide hbad
  replace hset := hide hset
  replace hned := hide hned
  replace hfin := hide hfin
  replace hma := hide hma
  replace huc := hide huc
  replace hua := hide hua
  go_enter Tryz.func29, Tryz.ntmps29
  have S_0 : W0.cell? ⟨g0, 0, none⟩ = some (.string ⟨p.name.toArray⟩) := S.out.cell 0
  have S_1 : W0.cell? ⟨g0, 1, none⟩ = some (.slice a T.length ca) := S.out.cell 1
  have S_2 : W0.cell? ⟨g0, 2, none⟩ = some (.bool p.els) := S.out.cell 2
  go_wp2_with fail
  (with_reducible refine (qm.out _ E.out).mono ?_)
  rintro e W1 ⟨rfl, he⟩
  replace E := hide (E.out.trans he)
  replace S := hide (S.out.ext he)
  clear hW0 hg0 qm he
  cases po with
  | false =>
    obtain rfl : r = 2 := hbad.out rfl
    clear hbad hset hned hfin
    go_wp2_with fail
    go_ret
    exact ⟨rfl, E.out⟩
  | true =>
    replace hset := hide (hset.out rfl)
    replace hned := hide (hned.out rfl)
    replace hfin := hide (hfin.out rfl)
    clear hbad
    go_wp2_with fail
    clear S_0 S_1 S_2
    go_loopw [5] (fun i wr => ∃ k : Nat, k ≤ l.length ∧ i = .int .i64 k ∧ Ext W1 wr ∧ setsOk (l.take k) [] = true) (fun i _ => l.length - (intOf i).toNat)
    case atStart => exact ⟨0, Nat.zero_le _, rfl, Ext.refl _, rfl⟩
    case round =>
      obtain ⟨k, hk, rfl, F, hn⟩ := hrel
      have S1 := S.out.ext F
      have E1 := E.out.trans F
      by_cases hlt : k < l.length
      · obtain ⟨bs, os, a1, c1, a2, c2, a3, c3, rfl, hi, i0, i1, i2, i3, i4⟩ := ESet.at16 (s2.out.ext E1) k hlt
        have hstp := setsOk_step hlt hn
        have hsb := fun h => setsOk_bad (l := l) (k := k + 1) h
        have hny := fun j hj h => names_yes (l := l) (k := k) (j := j) hlt hj h
        have hnn := names_no (l := l) hlt
        have qs := RSCheck15_any l[k] a1 c1 a2 c2 a3 c3 wr hi
        generalize setOk l[k] = sk at *
        generalize l[k].name = n0 at *
        generalize l[k].kind = k0 at *
        generalize l[k].items.length = z1 at *
        generalize l[k].comms.length = z2 at *
        generalize l[k].paths.length = z3 at *
        clear hi
        replace S1 := hide S1
        replace E1 := hide E1
        replace F := hide F
        replace hn := hide hn
        replace hstp := hide hstp
        replace hsb := hide hsb
        replace hny := hide hny
        replace hnn := hide hnn
        replace qs := hide qs
        go_wp2_with fail
        (with_reducible refine (qs.out).mono ?_)
        rintro e W2 ⟨rfl, he⟩
        replace E1 := hide (E1.out.trans he)
        replace F := hide (F.out.trans he)
        replace i0 := he.cell i0
        clear he qs i1 i2 i3 i4 S1
        cases sk with
        | false =>
          obtain rfl : r = 2 := hset.out (hsb.out (by rw [hstp.out, Bool.false_and]))
          clear hsb hstp hset hned hfin
          simp only [errOf_f]
          go_wp2_with fail
          go_ret
          exact ⟨rfl, E1.out⟩
        | true =>
          simp only [errOf_t]
          go_wp2_with fail
          go_loopw [6] (fun i wx => ∃ j : Nat, j ≤ k ∧ i = .int .i64 j ∧ Ext W2 wx ∧ ∀ s ∈ l.take j, s.name ≠ n0) (fun i _ => k - (intOf i).toNat)
          case atStart => exact ⟨0, Nat.zero_le _, rfl, Ext.refl _, fun t ht => by simp at ht⟩
          case round =>
            rename World => wx
            obtain ⟨j, hj, rfl, G, hnj⟩ := hrel
            by_cases hlj : j < k
            · have hljl : j < l.length := by omega
              obtain ⟨bs', os', x1', d1', x2', d2', x3', d3', he', -, m0, -, -, -, -⟩ := ESet.at16 (s2.out.ext (E1.out.trans G)) j hljl
              injection he' with he'
              injection he' with e1 e2 _
              subst e1
              subst e2
              have j0 := G.cell i0
              have hst2 := take_snoc (P := fun s : StS => s.name ≠ n0) hljl hnj
              have hy := hny.out j hlj
              generalize l[j].name = nj at *
              generalize hcm : (nj == n0) = cc at *
              clear x1' d1' x2' d2' x3' d3'
              replace G := hide G
              replace hst2 := hide hst2
              replace hy := hide hy
              replace hnj := hide hnj
              cases cc with
              | true =>
                obtain rfl : r = 2 := hset.out (hsb.out (by rw [hstp.out, hy.out (eq_of_beq hcm)]; rfl))
                clear hst2 hy hsb hstp hset hned hfin hny hnn
                have EE := hide (E1.out.trans G.out)
                go_wp2_with fail
                go_region
                go_wp2
                go_ret
                exact ⟨rfl, EE.out.drew⟩
              | false =>
                have hs := hide (hst2.out fun h => by rw [h] at hcm; simp at hcm)
                clear hst2 hy
                go_wp2_with fail
                go_region
                go_wp2
                go_roundw
                case rel => exact ⟨j + 1, by omega, by go_num, G.out.drew, hs.out⟩
                case measure => simp [intOf]; omega
            · obtain rfl : j = k := by omega
              have hs := hide (hstp.out.trans (by rw [hnn.out hnj]))
              clear hnj hlj hj
              have FF := hide (F.out.trans G)
              clear G
              go_wp2_with fail
              go_roundw
              case rel => exact ⟨j + 1, by omega, by go_num, FF.out, hs.out⟩
              case measure => simp [intOf]; omega
      · obtain rfl : k = l.length := by omega
        rw [List.take_length] at hn
        replace hned := hide (hned.out hn)
        replace hfin := hide (hfin.out hn)
        clear hset hn hlt hk F
        replace E1 := hide E1
        replace S1 := hide S1
        have S1_0 : wr.cell? ⟨g0, 0, none⟩ = some (.string ⟨p.name.toArray⟩) := S1.out.cell 0
        have S1_1 : wr.cell? ⟨g0, 1, none⟩ = some (.slice a T.length ca) := S1.out.cell 1
        have S1_2 : wr.cell? ⟨g0, 2, none⟩ = some (.bool p.els) := S1.out.cell 2
        go_wp2_with fail
        clear S1_0 S1_1 S1_2
        go_loopw [7] (fun i wy => ∃ k : Nat, k ≤ T.length ∧ i = .int .i64 k ∧ Ext wr wy ∧ ∀ t ∈ T.take k, metT l t) (fun i _ => T.length - (intOf i).toNat)
        case atStart => exact ⟨0, Nat.zero_le _, rfl, Ext.refl _, fun t ht => by simp at ht⟩
        case round =>
          rename World => wy
          obtain ⟨k, hk, rfl, F, hn⟩ := hrel
          by_cases hlt : k < T.length
          · obtain ⟨b1, of1, x1, p1, x2, p2, rfl, _, i1, i2, n3, r1, n4, r2⟩ := ETerm.at (s1.out.ext (E1.out.trans F)) k hlt
            have hst := take_snoc (P := metT l) hlt hn
            have huc' := huc.out T[k] (List.getElem_mem hlt)
            have hua' := hua.out T[k] (List.getElem_mem hlt)
            unfold metT at hst
            generalize T[k] = t at *
            obtain ⟨cl, al⟩ := t
            dsimp only at *
            have S2 := S1.out.ext F
            have X := Blk.new wy 25 #[.slice x1 cl.length p1, .slice x2 al.length p2]
            have eX := (Ext.refl wy).alloc (Obj.cells #[.slice x1 cl.length p1, .slice x2 al.length p2] 25)
            replace r1 := r1.ext eX
            replace r2 := r2.ext eX
            have F1 := F.trans eX
            replace S2 := hide S2
            replace X := hide X
            replace r1 := hide r1
            replace r2 := hide r2
            replace F1 := hide F1
            replace hst := hide hst
            replace huc' := hide huc'
            replace hua' := hide hua'
            replace hn := hide hn
            clear eX F
            have S2_0 : wy.cell? ⟨g0, 0, none⟩ = some (.string ⟨p.name.toArray⟩) := S2.out.cell 0
            have S2_1 : wy.cell? ⟨g0, 1, none⟩ = some (.slice (some ⟨b1, of1, none⟩) T.length ca) := S2.out.cell 1
            have S2_2 : wy.cell? ⟨g0, 2, none⟩ = some (.bool p.els) := S2.out.cell 2
            go_upto_region 17 with fail
            clear S2_0 S2_1 S2_2
            generalize wy.alloc (Obj.cells #[.slice x1 cl.length p1, .slice x2 al.length p2] 25) = W3 at X r1 r2 F1 ⊢
            generalize wy.heap.size = gt at X ⊢
            clear i1 i2
            go_wp2_with fail
            go_loopw [9] (fun i wx => ∃ j : Nat, j ≤ cl.length ∧ i = .int .i64 j ∧ Ext W3 wx ∧ ∀ c ∈ cl.take j, kindC c ≠ 0 → thereS l (c.name, kindC c) = true) (fun i _ => cl.length - (intOf i).toNat)
            case atStart => exact ⟨0, Nat.zero_le _, rfl, Ext.refl _, fun t ht => by simp at ht⟩
            case round =>
              rename World => wx
              obtain ⟨j, hj, rfl, G, hc⟩ := hrel
              have X2 := hide (X.out.ext G)
              by_cases hlj : j < cl.length
              · obtain ⟨bc, oc, rfl, _, hin, c0, c1, c2, c3⟩ := ECond.atC (r1.out.ext G) j hlj
                have hst2 := take_snoc (P := fun c : CondS => kindC c ≠ 0 → thereS l (c.name, kindC c) = true) hlj hc
                have hy := huc'.out cl[j] (List.getElem_mem hlj)
                generalize cl[j] = cc at *
                have E0 := hide (Ext.refl wx)
                have qk := fun W (h : Ext wx W) => DKind_any cc W
                have qt := fun W (h : Ext wx W) => DThere_any b cb l cc.name (kindC cc) W hm (s2.out.ext (E1.out.trans (F1.out.trans (G.trans h))))
                have hkp := kindC_pos cc
                generalize thereS l (cc.name, kindC cc) = th at *
                generalize kindC cc = kc at *
                obtain ⟨ck, cn, cm, cv⟩ := cc
                dsimp only at *
                clear hin
                replace hst2 := hide hst2
                replace hy := hide hy
                replace qk := hide qk
                replace qt := hide qt
                replace hc := hide hc
                replace G := hide G
                have X2_0 : wx.cell? ⟨gt, 0, none⟩ = some (.slice (some ⟨bc, oc, none⟩) cl.length p1) := X2.out.cell 0
                have X2_1 : wx.cell? ⟨gt, 1, none⟩ = some (.slice x2 al.length p2) := X2.out.cell 1
                go_wp2_with fail
                clear X2_0 X2_1
                replace c0 := fun d os => cell_regrown c0 d os
                replace c1 := fun d os => cell_regrown c1 d os
                replace c2 := fun d os => cell_regrown c2 d os
                replace c3 := fun d os => cell_regrown c3 d os
                by_cases hk0 : kc = 0
                · have hdk : decide (kc > 0) = false := decide_eq_false (by omega)
                  have hs := hide (hst2.out fun h => absurd hk0 h)
                  clear hst2 hy hkp hk0
                  have X2_0 : ∀ d os, (grow (redrawn wx d) os).cell? ⟨gt, 0, none⟩ = some (.slice (some ⟨bc, oc, none⟩) cl.length p1) := cell_regrown (X2.out.cell 0)
                  have X2_1 : ∀ d os, (grow (redrawn wx d) os).cell? ⟨gt, 1, none⟩ = some (.slice x2 al.length p2) := cell_regrown (X2.out.cell 1)
                  have cq0 := Calls.regrE qk.out E0.out
                  have cq1 := Calls.regrE qt.out E0.out
                  refine wp_region_quiet_below (by assumption) (by kernel_rfl) ?_
                  repeat (go_big_quiet_step (first | (with_reducible exact cq0 _ _) | (with_reducible exact cq1 _ _)))
                  refine wpQuiet_nil ?_
                  intro _ hw_
                  obtain ⟨⟨dq_, osq_⟩, hw_'⟩ := hw_
                  subst hw_'
                  replace G := hide (G.out.trans (below_regrown _ dq_ osq_))
                  replace X2 := hide (X2.out.ext (below_regrown _ dq_ osq_))
                  clear X2_0 X2_1
                  clear cq0 cq1
                  generalize grow (redrawn wx dq_) osq_ = W5 at G X2 ⊢
                  have X2_0 : W5.cell? ⟨gt, 0, none⟩ = some (.slice (some ⟨bc, oc, none⟩) cl.length p1) := X2.out.cell 0
                  have X2_1 : W5.cell? ⟨gt, 1, none⟩ = some (.slice x2 al.length p2) := X2.out.cell 1
                  clear c0 c1 c2 c3
                  clear X2_0 X2_1
                  go_wp2
                  go_roundw
                  case rel => exact ⟨j + 1, by omega, by go_num, G.out, hs.out⟩
                  case measure => simp [intOf]; omega
                · have hdk : decide (kc > 0) = true := decide_eq_true (by omega)
                  cases th with
                  | true =>
                    have hs := hide (hst2.out fun _ => rfl)
                    clear hst2 hy hkp hk0
                    have X2_0 : ∀ d os, (grow (redrawn wx d) os).cell? ⟨gt, 0, none⟩ = some (.slice (some ⟨bc, oc, none⟩) cl.length p1) := cell_regrown (X2.out.cell 0)
                    have X2_1 : ∀ d os, (grow (redrawn wx d) os).cell? ⟨gt, 1, none⟩ = some (.slice x2 al.length p2) := cell_regrown (X2.out.cell 1)
                    have cq0 := Calls.regrE qk.out E0.out
                    have cq1 := Calls.regrE qt.out E0.out
                    refine wp_region_quiet_below (by assumption) (by kernel_rfl) ?_
                    repeat (go_big_quiet_step (first | (with_reducible exact cq0 _ _) | (with_reducible exact cq1 _ _)))
                    refine wpQuiet_nil ?_
                    intro _ hw_
                    obtain ⟨⟨dq_, osq_⟩, hw_'⟩ := hw_
                    subst hw_'
                    replace G := hide (G.out.trans (below_regrown _ dq_ osq_))
                    replace X2 := hide (X2.out.ext (below_regrown _ dq_ osq_))
                    clear X2_0 X2_1
                    clear cq0 cq1
                    generalize grow (redrawn wx dq_) osq_ = W5 at G X2 ⊢
                    have X2_0 : W5.cell? ⟨gt, 0, none⟩ = some (.slice (some ⟨bc, oc, none⟩) cl.length p1) := X2.out.cell 0
                    have X2_1 : W5.cell? ⟨gt, 1, none⟩ = some (.slice x2 al.length p2) := X2.out.cell 1
                    clear c0 c1 c2 c3
                    clear X2_0 X2_1
                    go_wp2
                    go_roundw
                    case rel => exact ⟨j + 1, by omega, by go_num, G.out, hs.out⟩
                    case measure => simp [intOf]; omega
                  | false =>
                    obtain rfl : nd = false := hy.out hk0 rfl
                    obtain rfl : r = 8 := hned.out rfl
                    clear hst2 hy hkp hk0 hned hfin hma
                    have X2_0 : ∀ d os, (grow (redrawn wx d) os).cell? ⟨gt, 0, none⟩ = some (.slice (some ⟨bc, oc, none⟩) cl.length p1) := cell_regrown (X2.out.cell 0)
                    have X2_1 : ∀ d os, (grow (redrawn wx d) os).cell? ⟨gt, 1, none⟩ = some (.slice x2 al.length p2) := cell_regrown (X2.out.cell 1)
                    have cq0 := Calls.regrE qk.out E0.out
                    have cq1 := Calls.regrE qt.out E0.out
                    refine wp_region_quiet_below (by assumption) (by kernel_rfl) ?_
                    repeat (go_big_quiet_step (first | (with_reducible exact cq0 _ _) | (with_reducible exact cq1 _ _)))
                    refine wpQuiet_nil ?_
                    intro _ hw_
                    obtain ⟨⟨dq_, osq_⟩, hw_'⟩ := hw_
                    subst hw_'
                    replace G := hide (G.out.trans (below_regrown _ dq_ osq_))
                    replace X2 := hide (X2.out.ext (below_regrown _ dq_ osq_))
                    clear X2_0 X2_1
                    clear cq0 cq1
                    generalize grow (redrawn wx dq_) osq_ = W5 at G X2 ⊢
                    have X2_0 : W5.cell? ⟨gt, 0, none⟩ = some (.slice (some ⟨bc, oc, none⟩) cl.length p1) := X2.out.cell 0
                    have X2_1 : W5.cell? ⟨gt, 1, none⟩ = some (.slice x2 al.length p2) := X2.out.cell 1
                    clear c0 c1 c2 c3
                    clear X2_0 X2_1
                    have EE := hide (E1.out.trans (F1.out.trans G.out))
                    go_wp2
                    go_ret
                    exact ⟨rfl, EE.out⟩
              · obtain rfl : j = cl.length := by omega
                rw [List.take_length] at hc
                clear hlj hj
                replace hc := hide hc
                replace G := hide G
                have X2_0 : wx.cell? ⟨gt, 0, none⟩ = some (.slice x1 cl.length p1) := X2.out.cell 0
                have X2_1 : wx.cell? ⟨gt, 1, none⟩ = some (.slice x2 al.length p2) := X2.out.cell 1
                go_wp2_with fail
                clear X2_0 X2_1
                go_loopw [10] (fun i wz => ∃ j : Nat, j ≤ al.length ∧ i = .int .i64 j ∧ Ext wx wz ∧ ∀ c ∈ al.take j, c.kind = 7 → thereS l (c.name, 2) = true) (fun i _ => al.length - (intOf i).toNat)
                case atStart => exact ⟨0, Nat.zero_le _, rfl, Ext.refl _, fun t ht => by simp at ht⟩
                case round =>
                  rename World => wz
                  obtain ⟨j, hj, rfl, H, ha⟩ := hrel
                  have X3 := hide (X2.out.ext H)
                  have GH := hide (G.out.trans H)
                  by_cases hlj : j < al.length
                  · obtain ⟨bc, oc, rfl, _, hin, c0, c1, c2, c3⟩ := EAct.atC (r2.out.ext GH.out) j hlj
                    have hst2 := take_snoc (P := fun c : ActS => c.kind = 7 → thereS l (c.name, 2) = true) hlj ha
                    have hy := hua'.out al[j] (List.getElem_mem hlj)
                    generalize al[j] = cc at *
                    have qt := DThere_any b cb l cc.name 2 wz hm (s2.out.ext (E1.out.trans (F1.out.trans GH.out)))
                    generalize thereS l (cc.name, 2) = th at *
                    obtain ⟨ck, cm, cn, cv⟩ := cc
                    dsimp only at *
                    clear hin c2 c3
                    replace hst2 := hide hst2
                    replace hy := hide hy
                    replace ha := hide ha
                    replace qt := hide qt
                    replace H := hide H
                    have X3_0 : wz.cell? ⟨gt, 0, none⟩ = some (.slice x1 cl.length p1) := X3.out.cell 0
                    have X3_1 : wz.cell? ⟨gt, 1, none⟩ = some (.slice (some ⟨bc, oc, none⟩) al.length p2) := X3.out.cell 1
                    by_cases hk7 : ck = 7
                    · subst hk7
                      go_wp2_with fail
                      (with_reducible refine (qt.out).mono ?_)
                      rintro e W5 ⟨rfl, he⟩
                      clear X3_0 X3_1
                      replace H := hide (H.out.trans he)
                      replace GH := hide (GH.out.trans he)
                      clear c0 c1 he qt
                      cases th with
                      | true =>
                        have hs := hide (hst2.out fun _ => rfl)
                        clear hst2 hy
                        go_wp2_with fail
                        go_roundw
                        case rel => exact ⟨j + 1, by omega, by go_num, H.out, hs.out⟩
                        case measure => simp [intOf]; omega
                      | false =>
                        obtain rfl : nd = false := hy.out (by trivial) (by trivial)
                        obtain rfl : r = 8 := hned.out rfl
                        clear hst2 hy hned hfin hma
                        have EE := hide (E1.out.trans (F1.out.trans GH.out))
                        go_wp2_with fail
                        go_ret
                        exact ⟨rfl, EE.out⟩
                    · have hkb : (ck == 7) = false := beq_eq_false_iff_ne.2 hk7
                      have hs := hide (hst2.out fun h => absurd h hk7)
                      clear hst2 hy hk7 qt
                      go_wp2_with fail
                      go_roundw
                      case rel => exact ⟨j + 1, by omega, by go_num, H.out, hs.out⟩
                      case measure => simp [intOf]; omega
                  · obtain rfl : j = al.length := by omega
                    rw [List.take_length] at ha
                    clear hlj hj
                    have hs := hide (hst.out ⟨hc.out, ha⟩)
                    replace ha := hide ha
                    have FF := hide (F1.out.trans GH.out)
                    replace H := hide H
                    have X3_0 : wz.cell? ⟨gt, 0, none⟩ = some (.slice x1 cl.length p1) := X3.out.cell 0
                    have X3_1 : wz.cell? ⟨gt, 1, none⟩ = some (.slice x2 al.length p2) := X3.out.cell 1
                    go_wp2_with fail
                    clear X3_0 X3_1
                    go_roundw
                    case rel => exact ⟨k + 1, by omega, by go_num, FF.out, hs.out⟩
                    case measure => simp [intOf]; omega
          · obtain rfl : k = T.length := by omega
            rw [List.take_length] at hn
            obtain rfl : nd = true := hma.out hn
            obtain rfl : r = 0 := hfin.out rfl
            have EE := E1.out.trans F
            have S2 := S1.out.ext F
            clear hn F hned hfin hma huc hua
            replace EE := hide EE
            replace S2 := hide S2
            have S2_0 : wy.cell? ⟨g0, 0, none⟩ = some (.string ⟨p.name.toArray⟩) := S2.out.cell 0
            have S2_1 : wy.cell? ⟨g0, 1, none⟩ = some (.slice a T.length ca) := S2.out.cell 1
            have S2_2 : wy.cell? ⟨g0, 2, none⟩ = some (.bool p.els) := S2.out.cell 2
            go_wp2_with fail
            clear S2_0 S2_1 S2_2
            go_ret
            exact ⟨rfl, EE.out⟩
end
section
open Go.RowKit Go.Sort
set_option linter.unusedVariables false
/-- A set by where its rows lie. -/
structure HdS where
  s : StS
  a1 : Option Addr
  c1 : Nat
  a2 : Option Addr
  c2 : Nat
  a3 : Option Addr
  c3 : Nat
def hdCs (x : HdS) : List Value := [.string ⟨x.s.name.toArray⟩, .int .i64 x.s.kind, .slice x.a1 x.s.items.length x.c1, .slice x.a2 x.s.comms.length x.c2, .slice x.a3 x.s.paths.length x.c3]
def EHd : Enc HdS := Enc.cells hdCs (fun _ => True) 5 (fun _ => rfl) (fun x u hu => by simp only [hdCs, List.mem_cons, List.not_mem_nil, or_false] at hu; rcases hu with rfl | rfl | rfl | rfl | rfl <;> rfl)
theorem okHd : ElemOk Tryz.prog 52 67 EHd.sz 96 := elemOk (z := .agg #[.string ⟨#[]⟩, .int .i64 0, .slice none 0 0, .slice none 0 0, .slice none 0 0]) Tryz.underlying52 (by kernel_rfl) rfl
theorem EHd.at {w : World} {S : Nat → Prop} {a : Option Addr} {l : List HdS} (h : Sl EHd w S a l) (k : Nat) (hk : k < l.length) :
  ∃ b off, a = some ⟨b, off, none⟩ ∧ S b ∧ w.cell? ⟨b, off + k * 5, none⟩ = some (.string ⟨l[k].s.name.toArray⟩) ∧ w.cell? ⟨b, off + k * 5 + 1, none⟩ = some (.int .i64 l[k].s.kind) ∧ w.cell? ⟨b, off + k * 5 + 2, none⟩ = some (.slice l[k].a1 l[k].s.items.length l[k].c1) ∧ w.cell? ⟨b, off + k * 5 + 3, none⟩ = some (.slice l[k].a2 l[k].s.comms.length l[k].c2) ∧ w.cell? ⟨b, off + k * 5 + 4, none⟩ = some (.slice l[k].a3 l[k].s.paths.length l[k].c3) := by
 obtain ⟨b, off, cs, rfl, hb, ⟨rfl, _⟩, hc⟩ := h.at k hk
 exact ⟨b, off, rfl, hb, hc 0 _ rfl, hc 1 _ rfl, hc 2 _ rfl, hc 3 _ rfl, hc 4 _ rfl⟩
/-- What the document's Compile answers. -/
def DCompP (p : PolS) (l : List StS) (w : World) (e : Ending) (w' : World) : Prop :=
 Ext w w' ∧ ((checkP p l ≠ 0 ∧ e = .returned (.tuple #[.agg #[.slice none 0 0, .slice none 0 0], .int .i64 (checkP p l)])) ∨
  (checkP p l = 0 ∧ ∃ v1 v2 hs, e = .returned (.tuple #[.agg #[v1, v2], .int .i64 0]) ∧ Own EIns 62 w' w.heap.size v1 (insP p) ∧ Own EHd 67 w' w.heap.size v2 hs ∧
   hs.map (·.s) = setsP p l ∧ ∀ x ∈ hs, SetIn w (· < w.heap.size) x.s x.a1 x.a2 x.a3))
set_option maxRecDepth 20000 in
set_option maxHeartbeats 8000000 in
theorem DCompile16_any (p : PolS) (a : Option Addr) (ca : Nat) (l : List StS) (b : Option Addr) (cb : Nat) (w : World) (hl : p.terms.length ≤ 16777216) (hm : l.length ≤ 16777216)
    (s1 : Sl ETerm w (· < w.heap.size) a p.terms) (s2 : Sl ESet w (· < w.heap.size) b l) :
    Calls Tryz.prog 26 #[.agg #[.string ⟨p.name.toArray⟩, .slice a p.terms.length ca, .bool p.els], .slice b l.length cb] w (DCompP p l w) := by
  have mixed : Tryz.prog.follows Departure.mixedOrders = true := by kernel_rfl
  have qc := fun W (h : Ext w W) => DCheck16_any p a ca l b cb W hl hm (s1.ext h) (s2.ext h)
  have hno : checkP p l ≠ 0 → ∀ w', Ext w w' → DCompP p l w (.returned (.tuple #[.agg #[.slice none 0 0, .slice none 0 0], .int .i64 (checkP p l)])) w' := fun h w' hE => ⟨hE, .inl ⟨h, rfl⟩⟩
  have hyes : checkP p l = 0 → ∀ v1 v2 hs w', Ext w w' → Own EIns 62 w' w.heap.size v1 (insP p) → Own EHd 67 w' w.heap.size v2 hs → hs.map (·.s) = setsP p l → (∀ x ∈ hs, SetIn w (· < w.heap.size) x.s x.a1 x.a2 x.a3) → DCompP p l w (.returned (.tuple #[.agg #[v1, v2], .int .i64 0])) w' := fun h v1 v2 hs w' hE h1 h2 h3 h4 => ⟨hE, .inr ⟨h, v1, v2, hs, rfl, h1, h2, h3, h4⟩⟩
  have qn := fun nm W (h : Ext w W) => DNamed_any p a ca nm W hl (s1.ext h)
  have hpb : checkP p l = 0 → PolB p := fun h => PolB.of (by
    cases hp : polOk p with
    | true => rfl
    | false => rw [checkP_bad hp] at h; cases h)
  have hsP : setsP p l = l.filter (fun s => namedP p s.name) := rfl
  rw [hsP] at hyes
  clear hsP
  generalize DCompP p l w = Post at *
  generalize namedP p = N at *
  generalize checkP p l = r at *
  have S := (Blk.new w 35 #[.string ⟨p.name.toArray⟩, .slice a p.terms.length ca, .bool p.els]).alloc (Obj.cells #[.slice none 0 0, .slice none 0 0] 56)
  have R := Blk.new (w.alloc (Obj.cells #[.string ⟨p.name.toArray⟩, .slice a p.terms.length ca, .bool p.els] 35)) 56 #[.slice none 0 0, .slice none 0 0]
  have E := ((Ext.refl w).alloc (Obj.cells #[.string ⟨p.name.toArray⟩, .slice a p.terms.length ca, .bool p.els] 35)).alloc (Obj.cells #[.slice none 0 0, .slice none 0 0] 56)
  rw [show (w.alloc (Obj.cells #[.string ⟨p.name.toArray⟩, .slice a p.terms.length ca, .bool p.els] 35)).heap.size = w.heap.size + 1 by simp] at R
  generalize hW0 : (w.alloc (Obj.cells #[.string ⟨p.name.toArray⟩, .slice a p.terms.length ca, .bool p.els] 35)).alloc (Obj.cells #[.slice none 0 0, .slice none 0 0] 56) = W0 at S R E
  generalize hg0 : w.heap.size = g0 at S R
  replace qc := hide qc
  replace hno := hide hno
  replace hyes := hide hyes
  replace hpb := hide hpb
  replace s1 := hide s1
  replace s2 := hide s2
  replace S := hide S
  replace R := hide R
  replace E := hide E
  replace qn := hide qn
  go_enter Tryz.func26, Tryz.ntmps26
  have S_0 : W0.cell? ⟨g0, 0, none⟩ = some (.string ⟨p.name.toArray⟩) := S.out.cell 0
  have S_1 : W0.cell? ⟨g0, 1, none⟩ = some (.slice a p.terms.length ca) := S.out.cell 1
  have S_2 : W0.cell? ⟨g0, 2, none⟩ = some (.bool p.els) := S.out.cell 2
  go_wp2_with fail
  (with_reducible refine (qc.out _ E.out).mono ?_)
  rintro e W1 ⟨rfl, he⟩
  clear S_0 S_1 S_2
  replace E := hide (E.out.trans he)
  replace S := hide (S.out.ext he)
  replace R := hide (R.out.ext he)
  have hgw : w.heap.size ≤ g0 + 1 := by omega
  clear he qc hW0
  generalize hgr : g0 + 1 = gr at R hgw ⊢
  replace hgw := hide hgw
  by_cases hr : r = 0
  case neg =>
    have hno' := hno.out hr
    have d1 : (r == 0) = false := beq_eq_false_iff_ne.2 hr
    have d2 : (r != 0) = true := by simp [bne, d1]
    have hZ := R.out.set2 (.slice none 0 0) (.slice none 0 0)
    have hEZ := (OnlyAt.set2 (g := gr) (w := W1) (.slice none 0 0) (.slice none 0 0)).ext E.out hgw.out
    have r0 : W1.cell? ⟨gr, 0, none⟩ = some (.slice none 0 0) := R.out.cell 0
    have r1 : W1.cell? ⟨gr, 1, none⟩ = some (.slice none 0 0) := R.out.cell 1
    have rf := fun i => R.out.frozen i
    clear hno hyes hpb hr R S E s1 s2 qn
    replace hZ := hide hZ
    replace hEZ := hide hEZ
    replace hno' := hide hno'
    go_wp2
    replace hZ := hZ.out
    replace hEZ := hEZ.out
    generalize (W1.setCell ⟨gr, 0, none⟩ (.slice none 0 0)).setCell ⟨gr, 1, none⟩ (.slice none 0 0) = W3 at hZ hEZ ⊢
    have z0 : W3.cell? ⟨gr, 0, none⟩ = some (.slice none 0 0) := hZ.cell 0
    have z1 : W3.cell? ⟨gr, 1, none⟩ = some (.slice none 0 0) := hZ.cell 1
    exact bodyPost_ret (v := .tuple #[.agg #[.slice none 0 0, .slice none 0 0], .int .i64 r]) (by simp [results, Tryz.results26, go_sem, z0, z1]) rfl (hno'.out _ hEZ)
  subst hr
  have hyes' := hyes.out rfl
  obtain ⟨hbn, hbc⟩ := hpb.out rfl
  clear hno hyes hpb
  replace hyes' := hide hyes'
  replace hbc := hide hbc
  go_upto_region 5 with fail
  have O := Blk.new W1 56 #[.slice none 0 0, .slice none 0 0]
  have F := (Ext.refl W1).alloc (Obj.cells #[.slice none 0 0, .slice none 0 0] 56)
  obtain ⟨g7, hg7e⟩ : ∃ g7, W1.heap.size = g7 := ⟨_, rfl⟩
  have hg7 : W1.heap.size ≤ g7 := Nat.le_of_eq hg7e
  have hg7l : W1.heap.size < (W1.alloc (Obj.cells #[.slice none 0 0, .slice none 0 0] 56)).heap.size := by simp
  generalize hW2 : W1.alloc (Obj.cells #[.slice none 0 0, .slice none 0 0] 56) = W2 at O F hg7l ⊢
  rw [hg7e] at O hg7l ⊢
  clear hW2 hg7e
  have S2 := hide (S.out.ext F)
  replace O := hide O
  replace F := hide F
  replace hg7 := hide hg7
  replace hg7l := hide hg7l
  unfold insP at hyes'
  generalize hT : p.terms = T at *
  generalize hels : p.els = els at *
  have S2_0 : W2.cell? ⟨g0, 0, none⟩ = some (.string ⟨p.name.toArray⟩) := S2.out.cell 0
  have S2_1 : W2.cell? ⟨g0, 1, none⟩ = some (.slice a T.length ca) := S2.out.cell 1
  have S2_2 : W2.cell? ⟨g0, 2, none⟩ = some (.bool els) := S2.out.cell 2
  go_wp2_with fail
  clear S2_0 S2_1 S2_2
  clear S2
  have E0 := E
  clear E
  go_loopw [8] (fun i wr => ∃ k : Nat, ∃ v : Value, k ≤ T.length ∧ i = .int .i64 k ∧ Blk wr g7 56 #[v, .slice none 0 0] ∧ Own EIns 62 wr (g7 + 1) v (insL 0 (T.take k)) ∧ (insL 0 (T.take k)).length ≤ 128 * k ∧ Ext W1 wr) (fun i _ => T.length - (intOf i).toNat)
  case atStart => exact ⟨0, _, Nat.zero_le _, rfl, O.out, Own.nil, Nat.le_refl _, F.out⟩
  case round =>
    clear O F
    obtain ⟨k, vi, hk, rfl, O, hown, hln, F⟩ := hrel
    by_cases hlt : k < T.length
    · obtain ⟨b1, o1, x1, p1, x2, p2, ha, _, i1, i2, n3, r1, n4, r2⟩ := ETerm.at (s1.out.ext E0.out) k hlt
      subst ha
      obtain ⟨hc1, hc2⟩ := hbc.out _ (List.getElem_mem hlt)
      have hst := insL_step T hlt
      generalize T[k] = t at *
      generalize hL : insL 0 (T.take k) = L at *
      replace i1 := F.cell i1
      replace i2 := F.cell i2
      have Tb := Blk.new wr 25 #[.slice x1 t.conds.length p1, .slice x2 t.acts.length p2]
      have ET := (Ext.refl wr).alloc (Obj.cells #[.slice x1 t.conds.length p1, .slice x2 t.acts.length p2] 25)
      have hgt : g7 < wr.heap.size := O.lt
      have hlb0 : ∀ q, vi.ownBlock = some q → q ≠ wr.heap.size := fun q hq => by have := (hown.lt q hq).2; omega
      have S3 := S.out.ext F
      replace hown := hown.ext ET
      replace O := O.ext ET
      replace F := F.trans ET
      clear ET n3 n4 hL
      replace Tb := hide Tb
      replace hown := hide hown
      replace r1 := hide r1
      replace r2 := hide r2
      replace F := hide F
      replace O := hide O
      replace hst := hide hst
      replace hln := hide hln
      replace S3 := hide S3
      have S3_0 : wr.cell? ⟨g0, 0, none⟩ = some (.string ⟨p.name.toArray⟩) := S3.out.cell 0
      have S3_1 : wr.cell? ⟨g0, 1, none⟩ = some (.slice (some ⟨b1, o1, none⟩) T.length ca) := S3.out.cell 1
      have S3_2 : wr.cell? ⟨g0, 2, none⟩ = some (.bool els) := S3.out.cell 2
      go_upto_region 9 with fail
      clear S3_0 S3_1 S3_2
      clear S3
      generalize wr.alloc (Obj.cells #[.slice x1 t.conds.length p1, .slice x2 t.acts.length p2] 25) = W3 at Tb hown F O ⊢
      generalize hbt : wr.heap.size = bt at Tb hgt hlb0 ⊢
      clear i1 i2 hbt
      obtain ⟨va, vc, rfl⟩ := hown.out.form
      have hlL := hln.out
      have m1 : IntKind.i64.wrap ((L.length : Int) + (t.conds.length : Int)) = (L.length : Int) + (t.conds.length : Int) := by
        rw [IntKind.wrap_i64]; omega
      have m2 : IntKind.i64.wrap ((L.length : Int) + (t.conds.length : Int) + (t.acts.length : Int)) = (L.length : Int) + (t.conds.length : Int) + (t.acts.length : Int) := by
        rw [IntKind.wrap_i64]; omega
      have Tb_0 : W3.cell? ⟨bt, 0, none⟩ = some (.slice x1 t.conds.length p1) := Tb.out.cell 0
      have Tb_1 : W3.cell? ⟨bt, 1, none⟩ = some (.slice x2 t.acts.length p2) := Tb.out.cell 1
      have O_0 : W3.cell? ⟨g7, 0, none⟩ = some (.slice va L.length vc) := O.out.cell 0
      have O_1 : W3.cell? ⟨g7, 1, none⟩ = some (.slice none 0 0) := O.out.cell 1
      go_wp2_with fail
      clear Tb_0 Tb_1 O_0 O_1
      clear m1 m2 hlL
      have hbg : bt ≠ g7 := by omega
      replace hbg := hide hbg
      have hlb : ∀ q, (Value.slice va L.length vc).ownBlock = some q → q ≠ bt := fun q hq => hlb0 q hq
      generalize hTO : (L.length : Int) + (t.conds.length : Int) + (t.acts.length : Int) = TO at *
      have hTi : i64 TO := by subst hTO; exact ⟨by omega, by have := hln.out; omega⟩
      replace O := hide O
      replace hown := hide hown
      replace F := hide F
      replace hlb := hide hlb
      replace hTi := hide hTi
      replace Tb := hide Tb
      clear hTO
      go_loopw [11] (fun i wq => ∃ j : Nat, ∃ v : Value, j ≤ t.conds.length ∧ i = .int .i64 j ∧ Blk wq g7 56 #[v, .slice none 0 0] ∧ Own EIns 62 wq (g7 + 1) v (L ++ (t.conds.take j).map fun c => ⟨1, c, zeroAc, TO, 0⟩) ∧ Ext W1 wq ∧ Blk wq bt 25 #[.slice x1 t.conds.length p1, .slice x2 t.acts.length p2] ∧ ∀ q, v.ownBlock = some q → q ≠ bt) (fun i _ => t.conds.length - (intOf i).toNat)
      case atStart => exact ⟨0, _, Nat.zero_le _, rfl, O.out.out, by simpa using hown.out.out, F.out, Tb.out.out, hlb.out⟩
      case round =>
        rename World => wq
        clear hown hlb Tb F O
        obtain ⟨j, vj, hj, rfl, O, hown, F, Tb, hlb⟩ := hrel
        by_cases hlj : j < t.conds.length
        · obtain ⟨bc, oc, rfl, _, hin, c0, c1, c2, c3⟩ := ECond.atC (r1.out.ext (F)) j hlj
          have hms := map_step (fun c : CondS => (⟨1, c, zeroAc, TO, 0⟩ : InsS)) hlj
          have hll : (L ++ (t.conds.take j).map fun c => (⟨1, c, zeroAc, TO, 0⟩ : InsS)).length ≤ 128 * k + 64 := by
            rw [List.length_append, List.length_map, List.length_take]
            have := hln.out
            omega
          generalize t.conds[j] = cc at *
          have hER : ∀ W S, EIns.R W S ⟨1, cc, zeroAc, TO, 0⟩ (insCs ⟨1, cc, zeroAc, TO, 0⟩) := fun W S => EIns.of ⟨(⟨by decide, by decide⟩ : i64 1), hin, zeroAc_in, hTi.out, (⟨by decide, by decide⟩ : i64 0)⟩
          obtain ⟨ck, cn, cm, cv⟩ := cc
          dsimp only [insCs, zeroAc] at c0 c1 c2 c3 hER
          have hgq : g7 < wq.heap.size := O.lt
          have hbq : bt < wq.heap.size := Tb.lt
          generalize hM : L ++ (t.conds.take j).map (fun c => (⟨1, c, zeroAc, TO, 0⟩ : InsS)) = M at *
          have hnd : L ++ (t.conds.take (j + 1)).map (fun c => (⟨1, c, zeroAc, TO, 0⟩ : InsS)) = M ++ [⟨1, ⟨ck, cn, cm, cv⟩, ⟨0, [], 0, []⟩, TO, 0⟩] := by rw [hms, ← hM, List.append_assoc]; rfl
          obtain ⟨va, vc, rfl⟩ := hown.form
          have hox := hown.draw.alloc (Obj.cells #[.int .i64 1, .int .i64 ck, .bool cn, .string ⟨cm.toArray⟩, .int .i64 cv, .int .i64 0, .string ⟨#[]⟩, .int .u32 0, .string ⟨#[]⟩, .int .i64 TO, .int .i64 0] 62)
          have F5 := F.drew.alloc (Obj.cells #[.int .i64 1, .int .i64 ck, .bool cn, .string ⟨cm.toArray⟩, .int .i64 cv, .int .i64 0, .string ⟨#[]⟩, .int .u32 0, .string ⟨#[]⟩, .int .i64 TO, .int .i64 0] 62)
          have O5 := O.drew.alloc (Obj.cells #[.int .i64 1, .int .i64 ck, .bool cn, .string ⟨cm.toArray⟩, .int .i64 cv, .int .i64 0, .string ⟨#[]⟩, .int .u32 0, .string ⟨#[]⟩, .int .i64 TO, .int .i64 0] 62)
          have T5 := Tb.drew.alloc (Obj.cells #[.int .i64 1, .int .i64 ck, .bool cn, .string ⟨cm.toArray⟩, .int .i64 cv, .int .i64 0, .string ⟨#[]⟩, .int .u32 0, .string ⟨#[]⟩, .int .i64 TO, .int .i64 0] 62)
          have hcell := cells_new wq.drew #[.int .i64 1, .int .i64 ck, .bool cn, .string ⟨cm.toArray⟩, .int .i64 cv, .int .i64 0, .string ⟨#[]⟩, .int .u32 0, .string ⟨#[]⟩, .int .i64 TO, .int .i64 0] 62
          rw [show wq.drew.heap.size = wq.heap.size by simp] at hcell
          replace hcell : ∀ (j : Nat) (u : Value), ([.int .i64 1, .int .i64 ck, .bool cn, .string ⟨cm.toArray⟩, .int .i64 cv, .int .i64 0, .string ⟨#[]⟩, .int .u32 0, .string ⟨#[]⟩, .int .i64 TO, .int .i64 0] : List Value)[j]? = some u → _ := hcell
          have hW5 : g7 + 1 ≤ (wq.drew.alloc (Obj.cells #[.int .i64 1, .int .i64 ck, .bool cn, .string ⟨cm.toArray⟩, .int .i64 cv, .int .i64 0, .string ⟨#[]⟩, .int .u32 0, .string ⟨#[]⟩, .int .i64 TO, .int .i64 0] 62)).heap.size := by simp; omega
          have o0 : wq.cell? ⟨g7, 0, none⟩ = some (.slice va M.length vc) := O.cell 0
          have o0' : (wq.alloc (Obj.cells #[.int .i64 1, .int .i64 ck, .bool cn, .string ⟨cm.toArray⟩, .int .i64 cv, .int .i64 0, .string ⟨#[]⟩, .int .u32 0, .string ⟨#[]⟩, .int .i64 TO, .int .i64 0] 62)).cell? ⟨g7, 0, none⟩ = some (.slice va M.length vc) := (O.alloc (Obj.cells #[.int .i64 1, .int .i64 ck, .bool cn, .string ⟨cm.toArray⟩, .int .i64 cv, .int .i64 0, .string ⟨#[]⟩, .int .u32 0, .string ⟨#[]⟩, .int .i64 TO, .int .i64 0] 62)).cell 0
          replace Tb := hide Tb
          have Tb_0 : wq.cell? ⟨bt, 0, none⟩ = some (.slice (some ⟨bc, oc, none⟩) t.conds.length p1) := Tb.out.cell 0
          have Tb_1 : wq.cell? ⟨bt, 1, none⟩ = some (.slice x2 t.acts.length p2) := Tb.out.cell 1
          clear hown hM hms hin F O hgq
          replace hox := hide hox
          replace F5 := hide F5
          replace T5 := hide T5
          replace O5 := hide O5
          replace hcell := hide hcell
          replace hW5 := hide hW5
          replace hbq := hide hbq
          replace hER := hide hER
          replace hnd := hide hnd
          replace hlb := hide hlb
          go_wp2
          go_region_law_o (
            refine step_push (E := EIns) (B := g7 + 1) (v := .slice va M.length vc) (l := M) rfl _ _ _ (by rfl) okIns (by decide) (by decide) (by rfl) hox.out (by omega) hW5.out (by rfl) (hER.out _ _) hcell.out ?_
            intro v' w5 hown1 hg5 hat5
            obtain ⟨va1, vc1, hv1⟩ := hown1.form
            rw [List.length_append, List.length_singleton] at hv1
            subst hv1
            have hng : some g7 ≠ (Value.slice va M.length vc).ownBlock := fun h => by have := (hox.out.lt g7 h.symm).1; omega
            have O6 := O5.out.grown hg5 hng
            have o6 := O6.cell 0
            have f6 := fun i => O6.frozen i
            replace O6 := hide O6
            replace hown1 := hide hown1)
          clear Tb_0 Tb_1
          all_goals
            clear c0 c1 c2 c3 o0 o0' hcell hER
            have hlb2 : ∀ q, (Value.slice va1 (M.length + 1) vc1).ownBlock = some q → q ≠ bt := fun q hq => by
              rcases hat5 with h | h
              · exact hlb.out q (h ▸ hq)
              · rw [h] at hq
                injection hq with hq
                have := hbq.out
                simp at hq
                omega
            have F6 := (F5.out.push (fun q hq => by have := (hox.out.lt q hq).1; have := hg7.out; omega) hg5).setCell (p := ⟨g7, 0, none⟩) hg7.out (.slice va1 (M.length + 1) vc1)
            have T6 := (T5.out.grown hg5 (fun h => hlb.out bt h.symm rfl)).far (p := ⟨g7, 0, none⟩) (fun h => hbg.out h) (.slice va1 (M.length + 1) vc1)
            have O7 := O6.out.set_ 0 (.slice va1 (M.length + 1) vc1)
            have H6 := hown1.out.asideK (p := ⟨g7, 0, none⟩) (show g7 < g7 + 1 by omega) (.slice va1 (M.length + 1) vc1)
            go_wp2
            go_roundw
            case rel => exact ⟨j + 1, _, by omega, by go_num, by simpa using O7, by rw [hnd.out]; exact H6, F6, T6, hlb2⟩
            case measure => simp [intOf]; omega
        · obtain rfl : j = t.conds.length := by omega
          rw [List.take_length] at hown
          have hll : (L ++ t.conds.map fun c => (⟨1, c, zeroAc, TO, 0⟩ : InsS)).length ≤ 128 * k + 64 := by
            rw [List.length_append, List.length_map]
            have := hln.out
            omega
          have hst2 := hst.out
          rw [← List.append_assoc] at hst2
          clear hst
          generalize L ++ t.conds.map (fun c => (⟨1, c, zeroAc, TO, 0⟩ : InsS)) = N2 at *
          clear hlj hj hTi
          replace hown := hide hown
          replace F := hide F
          replace Tb := hide Tb
          replace O := hide O
          replace hll := hide hll
          replace hst2 := hide hst2
          replace hlb := hide hlb
          have Tb_0 : wq.cell? ⟨bt, 0, none⟩ = some (.slice x1 t.conds.length p1) := Tb.out.cell 0
          have Tb_1 : wq.cell? ⟨bt, 1, none⟩ = some (.slice x2 t.acts.length p2) := Tb.out.cell 1
          go_wp2_with fail
          clear Tb_0 Tb_1
          go_loopw [12] (fun i wx => ∃ j : Nat, ∃ v : Value, j ≤ t.acts.length ∧ i = .int .i64 j ∧ Blk wx g7 56 #[v, .slice none 0 0] ∧ Own EIns 62 wx (g7 + 1) v (N2 ++ (t.acts.take j).map fun c => ⟨2, zeroCo, c, 0, 0⟩) ∧ Ext W1 wx ∧ Blk wx bt 25 #[.slice x1 t.conds.length p1, .slice x2 t.acts.length p2] ∧ ∀ q, v.ownBlock = some q → q ≠ bt) (fun i _ => t.acts.length - (intOf i).toNat)
          case atStart => exact ⟨0, _, Nat.zero_le _, rfl, O.out, by simpa using hown.out, F.out, Tb.out, hlb.out⟩
          case round =>
            rename World => wx
            clear hown F O Tb hlb
            obtain ⟨j, vk, hj, rfl, O, hown, F, Tb, hlb⟩ := hrel
            by_cases hlj : j < t.acts.length
            · obtain ⟨bc, oc, rfl, _, hin, c0, c1, c2, c3⟩ := EAct.atC (r2.out.ext (F)) j hlj
              have hms := map_step (fun c : ActS => (⟨2, zeroCo, c, 0, 0⟩ : InsS)) hlj
              have hll2 : (N2 ++ (t.acts.take j).map fun c => (⟨2, zeroCo, c, 0, 0⟩ : InsS)).length ≤ 128 * k + 128 := by
                rw [List.length_append, List.length_map, List.length_take]
                have := hll.out
                omega
              generalize t.acts[j] = cc at *
              have hER : ∀ W S, EIns.R W S ⟨2, zeroCo, cc, 0, 0⟩ (insCs ⟨2, zeroCo, cc, 0, 0⟩) := fun W S => EIns.of ⟨(⟨by decide, by decide⟩ : i64 2), zeroCo_in, hin, (⟨by decide, by decide⟩ : i64 0), (⟨by decide, by decide⟩ : i64 0)⟩
              obtain ⟨ck, cm, cn, cv⟩ := cc
              dsimp only [insCs, zeroCo] at c0 c1 c2 c3 hER
              have hgq : g7 < wx.heap.size := O.lt
              have hbq : bt < wx.heap.size := Tb.lt
              generalize hM : N2 ++ (t.acts.take j).map (fun c => (⟨2, zeroCo, c, 0, 0⟩ : InsS)) = M at *
              have hnd : N2 ++ (t.acts.take (j + 1)).map (fun c => (⟨2, zeroCo, c, 0, 0⟩ : InsS)) = M ++ [⟨2, ⟨0, false, [], 0⟩, ⟨ck, cm, cn, cv⟩, 0, 0⟩] := by rw [hms, ← hM, List.append_assoc]; rfl
              obtain ⟨va, vc, rfl⟩ := hown.form
              have hox := hown.draw.alloc (Obj.cells #[.int .i64 2, .int .i64 0, .bool false, .string ⟨#[]⟩, .int .i64 0, .int .i64 ck, .string ⟨cm.toArray⟩, .int .u32 (cn.toNat : Int), .string ⟨cv.toArray⟩, .int .i64 0, .int .i64 0] 62)
              have F5 := F.drew.alloc (Obj.cells #[.int .i64 2, .int .i64 0, .bool false, .string ⟨#[]⟩, .int .i64 0, .int .i64 ck, .string ⟨cm.toArray⟩, .int .u32 (cn.toNat : Int), .string ⟨cv.toArray⟩, .int .i64 0, .int .i64 0] 62)
              have O5 := O.drew.alloc (Obj.cells #[.int .i64 2, .int .i64 0, .bool false, .string ⟨#[]⟩, .int .i64 0, .int .i64 ck, .string ⟨cm.toArray⟩, .int .u32 (cn.toNat : Int), .string ⟨cv.toArray⟩, .int .i64 0, .int .i64 0] 62)
              have T5 := Tb.drew.alloc (Obj.cells #[.int .i64 2, .int .i64 0, .bool false, .string ⟨#[]⟩, .int .i64 0, .int .i64 ck, .string ⟨cm.toArray⟩, .int .u32 (cn.toNat : Int), .string ⟨cv.toArray⟩, .int .i64 0, .int .i64 0] 62)
              have hcell := cells_new wx.drew #[.int .i64 2, .int .i64 0, .bool false, .string ⟨#[]⟩, .int .i64 0, .int .i64 ck, .string ⟨cm.toArray⟩, .int .u32 (cn.toNat : Int), .string ⟨cv.toArray⟩, .int .i64 0, .int .i64 0] 62
              rw [show wx.drew.heap.size = wx.heap.size by simp] at hcell
              replace hcell : ∀ (j : Nat) (u : Value), ([.int .i64 2, .int .i64 0, .bool false, .string ⟨#[]⟩, .int .i64 0, .int .i64 ck, .string ⟨cm.toArray⟩, .int .u32 (cn.toNat : Int), .string ⟨cv.toArray⟩, .int .i64 0, .int .i64 0] : List Value)[j]? = some u → _ := hcell
              have hW5 : g7 + 1 ≤ (wx.drew.alloc (Obj.cells #[.int .i64 2, .int .i64 0, .bool false, .string ⟨#[]⟩, .int .i64 0, .int .i64 ck, .string ⟨cm.toArray⟩, .int .u32 (cn.toNat : Int), .string ⟨cv.toArray⟩, .int .i64 0, .int .i64 0] 62)).heap.size := by simp; omega
              have o0 : wx.cell? ⟨g7, 0, none⟩ = some (.slice va M.length vc) := O.cell 0
              have o0' : (wx.alloc (Obj.cells #[.int .i64 2, .int .i64 0, .bool false, .string ⟨#[]⟩, .int .i64 0, .int .i64 ck, .string ⟨cm.toArray⟩, .int .u32 (cn.toNat : Int), .string ⟨cv.toArray⟩, .int .i64 0, .int .i64 0] 62)).cell? ⟨g7, 0, none⟩ = some (.slice va M.length vc) := (O.alloc (Obj.cells #[.int .i64 2, .int .i64 0, .bool false, .string ⟨#[]⟩, .int .i64 0, .int .i64 ck, .string ⟨cm.toArray⟩, .int .u32 (cn.toNat : Int), .string ⟨cv.toArray⟩, .int .i64 0, .int .i64 0] 62)).cell 0
              replace Tb := hide Tb
              have Tb_0 : wx.cell? ⟨bt, 0, none⟩ = some (.slice x1 t.conds.length p1) := Tb.out.cell 0
              have Tb_1 : wx.cell? ⟨bt, 1, none⟩ = some (.slice (some ⟨bc, oc, none⟩) t.acts.length p2) := Tb.out.cell 1
              clear hown hM hms hin F O hgq
              replace hox := hide hox
              replace F5 := hide F5
              replace T5 := hide T5
              replace O5 := hide O5
              replace hcell := hide hcell
              replace hW5 := hide hW5
              replace hbq := hide hbq
              replace hER := hide hER
              replace hnd := hide hnd
              replace hlb := hide hlb
              go_wp2
              go_region_law_o (
                refine step_push (E := EIns) (B := g7 + 1) (v := .slice va M.length vc) (l := M) rfl _ _ _ (by rfl) okIns (by decide) (by decide) (by rfl) hox.out (by omega) hW5.out (by rfl) (hER.out _ _) hcell.out ?_
                intro v' w5 hown1 hg5 hat5
                obtain ⟨va1, vc1, hv1⟩ := hown1.form
                rw [List.length_append, List.length_singleton] at hv1
                subst hv1
                have hng : some g7 ≠ (Value.slice va M.length vc).ownBlock := fun h => by have := (hox.out.lt g7 h.symm).1; omega
                have O6 := O5.out.grown hg5 hng
                have o6 := O6.cell 0
                have f6 := fun i => O6.frozen i
                replace O6 := hide O6
                replace hown1 := hide hown1)
              clear Tb_0 Tb_1
              all_goals
                clear c0 c1 c2 c3 o0 o0' hcell hER
                have hlb2 : ∀ q, (Value.slice va1 (M.length + 1) vc1).ownBlock = some q → q ≠ bt := fun q hq => by
                  rcases hat5 with h | h
                  · exact hlb.out q (h ▸ hq)
                  · rw [h] at hq
                    injection hq with hq
                    have := hbq.out
                    simp at hq
                    omega
                have F6 := (F5.out.push (fun q hq => by have := (hox.out.lt q hq).1; have := hg7.out; omega) hg5).setCell (p := ⟨g7, 0, none⟩) hg7.out (.slice va1 (M.length + 1) vc1)
                have T6 := (T5.out.grown hg5 (fun h => hlb.out bt h.symm rfl)).far (p := ⟨g7, 0, none⟩) (fun h => hbg.out h) (.slice va1 (M.length + 1) vc1)
                have O7 := O6.out.set_ 0 (.slice va1 (M.length + 1) vc1)
                have H6 := hown1.out.asideK (p := ⟨g7, 0, none⟩) (show g7 < g7 + 1 by omega) (.slice va1 (M.length + 1) vc1)
                go_wp2
                go_roundw
                case rel => exact ⟨j + 1, _, by omega, by go_num, by simpa using O7, by rw [hnd.out]; exact H6, F6, T6, hlb2⟩
                case measure => simp [intOf]; omega
            · obtain rfl : j = t.acts.length := by omega
              rw [List.take_length] at hown
              have hll2 : (N2 ++ t.acts.map fun c => (⟨2, zeroCo, c, 0, 0⟩ : InsS)).length ≤ 128 * (k + 1) := by
                rw [List.length_append, List.length_map]
                have := hll.out
                omega
              rw [← hst2.out] at hll2 hown
              clear hlj hj hst2 hlb
              replace hown := hide hown
              replace F := hide F
              replace hll2 := hide hll2
              replace O := hide O
              replace Tb := hide Tb
              have Tb_0 : wx.cell? ⟨bt, 0, none⟩ = some (.slice x1 t.conds.length p1) := Tb.out.cell 0
              have Tb_1 : wx.cell? ⟨bt, 1, none⟩ = some (.slice x2 t.acts.length p2) := Tb.out.cell 1
              go_wp2_with fail
              clear Tb_0 Tb_1
              go_roundw
              case rel => exact ⟨k + 1, _, by omega, by go_num, O.out, hown.out, hll2.out, F.out⟩
              case measure => simp [intOf]; omega
    · obtain rfl : k = T.length := by omega
      rw [List.take_length] at hown hln
      generalize insL 0 T = L at *
      have hlL : L.length ≤ 8192 := by omega
      obtain ⟨va, vc, rfl⟩ := hown.form
      have S5 := S.out.ext F
      clear hlt hk hln hbc
      replace O := hide O
      replace hown := hide hown
      replace F := hide F
      replace S5 := hide S5
      have S5_0 : wr.cell? ⟨g0, 0, none⟩ = some (.string ⟨p.name.toArray⟩) := S5.out.cell 0
      have S5_1 : wr.cell? ⟨g0, 1, none⟩ = some (.slice a T.length ca) := S5.out.cell 1
      have S5_2 : wr.cell? ⟨g0, 2, none⟩ = some (.bool els) := S5.out.cell 2
      go_upto_if 83 with fail
      clear S5_0 S5_1 S5_2
      clear S5
      go_cut [13] from 84 to 84 (fun n wx => ∃ nv : Int, n = .int .i64 nv ∧ nv = (if els = true then 1 else 0) ∧ wx = wr)
      case first =>
        cases els with
        | true =>
          go_wp2_with fail
          go_meet
          case rel => exact ⟨1, rfl, rfl, rfl⟩
        | false =>
          go_wp2_with fail
          go_meet
          case rel => exact ⟨0, rfl, rfl, rfl⟩
      case rest =>
        obtain ⟨nv, rfl, hnv, rfl⟩ := hcut
        have hER : ∀ W S, EIns.R W S ⟨3, zeroCo, zeroAc, 0, nv⟩ (insCs ⟨3, zeroCo, zeroAc, 0, nv⟩) := fun W S => EIns.of ⟨(⟨by decide, by decide⟩ : i64 3), zeroCo_in, zeroAc_in, (⟨by decide, by decide⟩ : i64 0), by
          subst hnv
          by_cases h : els = true
          · rw [if_pos h]; exact (⟨by decide, by decide⟩ : i64 1)
          · rw [if_neg h]; exact (⟨by decide, by decide⟩ : i64 0)⟩
        dsimp only [insCs, zeroCo, zeroAc] at hER
        rw [← hnv] at hyes'
        clear hnv
        have hox := hown.out.alloc (Obj.cells #[.int .i64 3, .int .i64 0, .bool false, .string ⟨#[]⟩, .int .i64 0, .int .i64 0, .string ⟨#[]⟩, .int .u32 0, .string ⟨#[]⟩, .int .i64 0, .int .i64 nv] 62)
        have F3 := F.out.alloc (Obj.cells #[.int .i64 3, .int .i64 0, .bool false, .string ⟨#[]⟩, .int .i64 0, .int .i64 0, .string ⟨#[]⟩, .int .u32 0, .string ⟨#[]⟩, .int .i64 0, .int .i64 nv] 62)
        have O2 := O.out
        have O3 := O.out.alloc (Obj.cells #[.int .i64 3, .int .i64 0, .bool false, .string ⟨#[]⟩, .int .i64 0, .int .i64 0, .string ⟨#[]⟩, .int .u32 0, .string ⟨#[]⟩, .int .i64 0, .int .i64 nv] 62)
        have hcell := cells_new wc #[.int .i64 3, .int .i64 0, .bool false, .string ⟨#[]⟩, .int .i64 0, .int .i64 0, .string ⟨#[]⟩, .int .u32 0, .string ⟨#[]⟩, .int .i64 0, .int .i64 nv] 62
        replace hcell : ∀ (j : Nat) (u : Value), ([.int .i64 3, .int .i64 0, .bool false, .string ⟨#[]⟩, .int .i64 0, .int .i64 0, .string ⟨#[]⟩, .int .u32 0, .string ⟨#[]⟩, .int .i64 0, .int .i64 nv] : List Value)[j]? = some u → _ := hcell
        have hW3 : g7 + 1 ≤ (wc.alloc (Obj.cells #[.int .i64 3, .int .i64 0, .bool false, .string ⟨#[]⟩, .int .i64 0, .int .i64 0, .string ⟨#[]⟩, .int .u32 0, .string ⟨#[]⟩, .int .i64 0, .int .i64 nv] 62)).heap.size := O3.lt
        clear F hown O
        replace hox := hide hox
        replace F3 := hide F3
        replace O3 := hide O3
        replace hcell := hide hcell
        replace hW3 := hide hW3
        replace hER := hide hER
        replace O2 := hide O2
        have O2_0 : wc.cell? ⟨g7, 0, none⟩ = some (.slice va L.length vc) := O2.out.cell 0
        have O2_1 : wc.cell? ⟨g7, 1, none⟩ = some (.slice none 0 0) := O2.out.cell 1
        go_upto_region 22 with (
          at_builtin
          go_must (refine wpList_push (E := EIns) rfl _ _ _ rfl okIns (by decide) (by decide) rfl hox.out (by omega) hW3.out rfl (hER.out _ _) hcell.out ?_)
          intro v' w5 hown1 hg5 hat5
          obtain ⟨va1, vc1, hv1⟩ := hown1.form
          rw [List.length_append, List.length_singleton] at hv1
          subst hv1
          have hng : some g7 ≠ (Value.slice va L.length vc).ownBlock := fun h => by have := (hox.out.lt g7 h.symm).1; omega
          have O6 := O3.out.grown hg5 hng
          have o6 := O6.cell 0
          have f6 := fun i => O6.frozen i
          replace O6 := hide O6
          replace hown1 := hide hown1)
        clear O2_0 O2_1
        have F6 := (F3.out.push (fun q hq => by have := (hox.out.lt q hq).1; have := hg7.out; omega) hg5).setCell (p := ⟨g7, 0, none⟩) hg7.out (.slice va1 (L.length + 1) vc1)
        have O7 : Blk (w5.setCell ⟨g7, 0, none⟩ (.slice va1 (L.length + 1) vc1)) g7 56 #[.slice va1 (L.length + 1) vc1, .slice none 0 0] := by simpa using O6.out.set_ 0 (.slice va1 (L.length + 1) vc1)
        have H7 := hown1.out.asideK (p := ⟨g7, 0, none⟩) (show g7 < g7 + 1 by omega) (.slice va1 (L.length + 1) vc1)
        clear hox F3 O3 hcell hW3 hER O2 O6 hown1 o6 f6 hng hat5 hg5
        generalize w5.setCell ⟨g7, 0, none⟩ (.slice va1 (L.length + 1) vc1) = W7 at F6 O7 H7 ⊢
        have F7 := F6
        have hg7m : g7 < W7.heap.size := O7.lt
        clear F6
        replace F7 := hide F7
        replace O7 := hide O7
        replace H7 := hide H7
        replace hg7m := hide hg7m
        go_wp2_with fail
        go_loopw [14] (fun i wr => ∃ k : Nat, ∃ v2 : Value, ∃ hs : List HdS, k ≤ l.length ∧ i = .int .i64 k ∧ But g7 W7 wr ∧ Blk wr g7 56 #[.slice va1 (L.length + 1) vc1, v2] ∧ Own EHd 67 wr W7.heap.size v2 hs ∧ hs.map (·.s) = (l.take k).filter (fun s => N s.name) ∧ hs.length ≤ k ∧ ∀ x ∈ hs, SetIn w (· < w.heap.size) x.s x.a1 x.a2 x.a3) (fun i _ => l.length - (intOf i).toNat)
        case atStart => exact ⟨0, _, [], Nat.zero_le _, rfl, But.refl _ _, O7.out, Own.nil, rfl, Nat.le_refl _, fun x hx => by cases hx⟩
        case round =>
          clear O7
          obtain ⟨k, v2, hs, hk, rfl, hbut, O, hown, hmap, hlen, hin⟩ := hrel
          have EW : Ext W1 wr := hbut.ext F7.out hg7.out
          by_cases hlt : k < l.length
          · obtain ⟨bs, os, a1, c1, a2, c2, a3, c3, hbs, hi, i0, i1, i2, i3, i4⟩ := ESet.at16 s2.out k hlt
            subst hbs
            have hst := filter_step (fun s : StS => N s.name) hlt
            have EWw := E0.out.trans EW
            replace i0 := EWw.cell i0
            replace i1 := EWw.cell i1
            replace i2 := EWw.cell i2
            replace i3 := EWw.cell i3
            replace i4 := EWw.cell i4
            generalize l[k] = X at *
            have qf := fun W (h : Ext wr W) => qn.out X.name W (EWw.trans h)
            have S6 := S.out.ext EW
            have E5 := hide (Ext.refl wr)
            generalize hr : N X.name = r at *
            have hbw := hide hbut
            replace hst := hide hst
            replace hi := hide hi
            replace S6 := hide S6
            replace hown := hide hown
            replace O := hide O
            replace hmap := hide hmap
            replace hin := hide hin
            replace EW := hide EW
            replace EWw := hide EWw
            replace qf := hide qf
            replace hbut := hide hbut
            have hnx : X.name = X.name := rfl
            clear hnx
            have j0 := fun d o => cell_regrown i0 d o
            go_upto_region 25 with fail
            have S6_0 : ∀ d os, (grow (redrawn wr d) os).cell? ⟨g0, 0, none⟩ = some (.string ⟨p.name.toArray⟩) := cell_regrown (S6.out.cell 0)
            have S6_1 : ∀ d os, (grow (redrawn wr d) os).cell? ⟨g0, 1, none⟩ = some (.slice a T.length ca) := cell_regrown (S6.out.cell 1)
            have S6_2 : ∀ d os, (grow (redrawn wr d) os).cell? ⟨g0, 2, none⟩ = some (.bool els) := cell_regrown (S6.out.cell 2)
            have cq0 := Calls.regrE qf.out E5.out
            refine wp_region_quiet_below (by assumption) (by kernel_rfl) ?_
            repeat (go_big_quiet_step (first | (with_reducible exact cq0 _ _)))
            refine wpQuiet_nil ?_
            intro _ hw_
            obtain ⟨⟨dq_, osq_⟩, hw_'⟩ := hw_
            subst hw_'
            replace E5 := hide (E5.out.trans (below_regrown _ dq_ osq_))
            replace S6 := hide (S6.out.ext (below_regrown _ dq_ osq_))
            clear S6_0 S6_1 S6_2
            clear cq0
            generalize grow (redrawn wr dq_) osq_ = W8 at E5 S6 ⊢
            have S6_0 : W8.cell? ⟨g0, 0, none⟩ = some (.string ⟨p.name.toArray⟩) := S6.out.cell 0
            have S6_1 : W8.cell? ⟨g0, 1, none⟩ = some (.slice a T.length ca) := S6.out.cell 1
            have S6_2 : W8.cell? ⟨g0, 2, none⟩ = some (.bool els) := S6.out.cell 2
            clear S6_0 S6_1 S6_2
            clear j0
            replace i0 := E5.out.cell i0
            replace i1 := E5.out.cell i1
            replace i2 := E5.out.cell i2
            replace i3 := E5.out.cell i3
            replace i4 := E5.out.cell i4
            have O' := O.out.ext E5.out
            have hown' := hown.out.ext E5.out
            have hbut' := hbut.out.trans (But.of E5.out)
            cases r with
            | false =>
              have hst2 := hst.out
              rw [if_neg (by decide), List.append_nil] at hst2
              clear hst i0 i1 i2 i3 i4
              replace hst2 := hide hst2
              replace O' := hide O'
              replace hown' := hide hown'
              replace hbut' := hide hbut'
              go_wp2_with fail
              go_roundw
              case rel => exact ⟨k + 1, v2, hs, by omega, by go_num, hbut'.out, O'.out, hown'.out, by rw [hst2.out]; exact hmap.out, by omega, hin.out⟩
              case measure => simp [intOf]; omega
            | true =>
              have hst2 := hst.out
              rw [if_pos rfl] at hst2
              clear hst
              obtain ⟨va2, vc2, rfl⟩ := hown'.form
              have hi' := hi.out
              obtain ⟨nm, kd, I, C, P⟩ := X
              dsimp only at *
              have hox := hown'.draw.alloc (Obj.cells #[.string ⟨nm.toArray⟩, .int .i64 kd, .slice a1 I.length c1, .slice a2 C.length c2, .slice a3 P.length c3] 67)
              have O5 := O'.drew.alloc (Obj.cells #[.string ⟨nm.toArray⟩, .int .i64 kd, .slice a1 I.length c1, .slice a2 C.length c2, .slice a3 P.length c3] 67)
              have B5 := hbut'.trans (But.of ((Ext.refl W8).drew.alloc (Obj.cells #[.string ⟨nm.toArray⟩, .int .i64 kd, .slice a1 I.length c1, .slice a2 C.length c2, .slice a3 P.length c3] 67)))
              have hcell := cells_new W8.drew #[.string ⟨nm.toArray⟩, .int .i64 kd, .slice a1 I.length c1, .slice a2 C.length c2, .slice a3 P.length c3] 67
              replace hcell : ∀ (j : Nat) (u : Value), ([.string ⟨nm.toArray⟩, .int .i64 kd, .slice a1 I.length c1, .slice a2 C.length c2, .slice a3 P.length c3] : List Value)[j]? = some u → _ := hcell
              have hsz : (W8.drew.alloc (Obj.cells #[.string ⟨nm.toArray⟩, .int .i64 kd, .slice a1 I.length c1, .slice a2 C.length c2, .slice a3 P.length c3] 67)).heap.size = W8.heap.size + 1 := by simp
              have hW5 : W7.heap.size ≤ (W8.drew.alloc (Obj.cells #[.string ⟨nm.toArray⟩, .int .i64 kd, .slice a1 I.length c1, .slice a2 C.length c2, .slice a3 P.length c3] 67)).heap.size := by have := hbut'.size; omega
              have hER : EHd.R (W8.drew.alloc (Obj.cells #[.string ⟨nm.toArray⟩, .int .i64 kd, .slice a1 I.length c1, .slice a2 C.length c2, .slice a3 P.length c3] 67)) (fun b => W7.heap.size ≤ b ∧ b < (W8.drew.alloc (Obj.cells #[.string ⟨nm.toArray⟩, .int .i64 kd, .slice a1 I.length c1, .slice a2 C.length c2, .slice a3 P.length c3] 67)).heap.size ∧ some b ≠ (Value.slice va2 hs.length vc2).ownBlock) ⟨⟨nm, kd, I, C, P⟩, a1, c1, a2, c2, a3, c3⟩ [.string ⟨nm.toArray⟩, .int .i64 kd, .slice a1 I.length c1, .slice a2 C.length c2, .slice a3 P.length c3] := ⟨rfl, trivial⟩
              have o1 : W8.cell? ⟨g7, 1, none⟩ = some (.slice va2 hs.length vc2) := O'.cell 1
              have o1' : (W8.alloc (Obj.cells #[.string ⟨nm.toArray⟩, .int .i64 kd, .slice a1 I.length c1, .slice a2 C.length c2, .slice a3 P.length c3] 67)).cell? ⟨g7, 1, none⟩ = some (.slice va2 hs.length vc2) := (O'.alloc (Obj.cells #[.string ⟨nm.toArray⟩, .int .i64 kd, .slice a1 I.length c1, .slice a2 C.length c2, .slice a3 P.length c3] 67)).cell 1
              have hmap2 : (hs ++ [(⟨⟨nm, kd, I, C, P⟩, a1, c1, a2, c2, a3, c3⟩ : HdS)]).map (·.s) = (l.take (k + 1)).filter (fun s => N s.name) := by rw [hst2, List.map_append, hmap.out]; rfl
              have hin2 : ∀ x ∈ hs ++ [(⟨⟨nm, kd, I, C, P⟩, a1, c1, a2, c2, a3, c3⟩ : HdS)], SetIn w (· < w.heap.size) x.s x.a1 x.a2 x.a3 := fun x hx => by
                rw [List.mem_append, List.mem_singleton] at hx
                rcases hx with hx | rfl
                · exact hin.out x hx
                · exact hi'
              rw [← hsz] at hsz
              clear hown' O' hst2 hsz hi' hi
              replace hox := hide hox
              replace O5 := hide O5
              replace B5 := hide B5
              replace hcell := hide hcell
              replace hW5 := hide hW5
              replace hER := hide hER
              replace hmap2 := hide hmap2
              replace hin2 := hide hin2
              replace hbut' := hide hbut'
              go_wp2
              go_region_law_o (
                refine step_push (E := EHd) (B := W7.heap.size) (v := .slice va2 hs.length vc2) (l := hs) rfl _ _ _ (by rfl) okHd (by decide) (by decide) (by rfl) hox.out (by omega) hW5.out (by rfl) hER.out hcell.out ?_
                intro v' w6 hown1 hg6 hat6
                obtain ⟨va3, vc3, hv3⟩ := hown1.form
                rw [List.length_append, List.length_singleton] at hv3
                subst hv3
                have hng : some g7 ≠ (Value.slice va2 hs.length vc2).ownBlock := fun h => by have := (hox.out.lt g7 h.symm).1; have := hg7m.out; omega
                have O6 := O5.out.grown hg6 hng
                have o6 := O6.cell 1
                have f6 := fun i => O6.frozen i
                replace O6 := hide O6
                replace hown1 := hide hown1)
              all_goals
                have B6 := (B5.out.grown hg6 (fun q hq => (hox.out.lt q hq).1)).set 1 (.slice va3 (hs.length + 1) vc3)
                have O7 : Blk (w6.setCell ⟨g7, 1, none⟩ (.slice va3 (hs.length + 1) vc3)) g7 56 #[.slice va1 (L.length + 1) vc1, .slice va3 (hs.length + 1) vc3] := by simpa using O6.out.set_ 1 (.slice va3 (hs.length + 1) vc3)
                have H8 := hown1.out.asideK (p := ⟨g7, 1, none⟩) (show g7 < W7.heap.size from hg7m.out) (.slice va3 (hs.length + 1) vc3)
                go_wp2
                go_roundw
                case rel => exact ⟨k + 1, _, _, by omega, by go_num, B6, O7, H8, hmap2.out, by rw [List.length_append, List.length_singleton]; omega, hin2.out⟩
                case measure => simp [intOf]; omega
          · obtain rfl : k = l.length := by omega
            have hmap' := hmap
            rw [List.take_length] at hmap'
            obtain ⟨va2, vc2, rfl⟩ := hown.form
            have Rr := R.out.ext EW
            have EE := E0.out.trans EW
            have hgr1 : gr < W1.heap.size := R.out.lt
            have hg7' := hg7.out
            have hg7m' := hg7m.out
            have hw0 := E0.out.size
            have H8 := H7.out.kept hbut.size fun b hb hlt => hbut.block b hlt (by omega)
            have c0 : wr.cell? ⟨g7, 0, none⟩ = some (.slice va1 (L.length + 1) vc1) := O.cell 0
            have c1 : wr.cell? ⟨g7, 1, none⟩ = some (.slice va2 hs.length vc2) := O.cell 1
            have r0 : wr.cell? ⟨gr, 0, none⟩ = some (.slice none 0 0) := Rr.cell 0
            have r1 : wr.cell? ⟨gr, 1, none⟩ = some (.slice none 0 0) := Rr.cell 1
            have rf := fun i => Rr.frozen i
            have hZ := Rr.set2 (.slice va1 (L.length + 1) vc1) (.slice va2 hs.length vc2)
            have hon := OnlyAt.set2 (g := gr) (w := wr) (.slice va1 (L.length + 1) vc1) (.slice va2 hs.length vc2)
            have hEZ := hon.ext EE hgw.out
            have z1 := (H8.only hon (show gr < g7 + 1 by omega)).low (show w.heap.size ≤ g7 + 1 by omega)
            have z2 := (hown.only hon (show gr < W7.heap.size by omega)).low (show w.heap.size ≤ W7.heap.size by omega)
            have hfin := hyes'.out _ _ hs _ hEZ z1 z2 hmap' hin
            clear Rr EE H8 hon hEZ z1 z2 hmap hmap' hin hown O hbut EW H7 hyes' s2 R E0 F7 hw0 hg7' hg7m' hgr1 hlt
            replace hZ := hide hZ
            replace hfin := hide hfin
            go_wp2
            replace hZ := hZ.out
            replace hfin := hfin.out
            generalize (wr.setCell ⟨gr, 0, none⟩ (.slice va1 (L.length + 1) vc1)).setCell ⟨gr, 1, none⟩ (.slice va2 hs.length vc2) = W3 at hZ hfin ⊢
            have z0 : W3.cell? ⟨gr, 0, none⟩ = some (.slice va1 (L.length + 1) vc1) := hZ.cell 0
            have z1 : W3.cell? ⟨gr, 1, none⟩ = some (.slice va2 hs.length vc2) := hZ.cell 1
            exact bodyPost_ret (v := .tuple #[.agg #[.slice va1 (L.length + 1) vc1, .slice va2 hs.length vc2], .int .i64 0]) (by simp [results, Tryz.results26, go_sem, z0, z1]) rfl hfin
end
section
open Go.RowKit Go.Sort
set_option linter.unusedVariables false
noncomputable instance decItm : DecidableEq Itm := fun _ _ => Classical.propDecidable _
noncomputable instance decSt : DecidableEq StS := fun _ _ => Classical.propDecidable _
theorem itm_eq {x y : Itm} : x = y ↔ x.p.fam = y.p.fam ∧ (x.p.rd : Int) = (y.p.rd : Int) ∧ x.p.addr = y.p.addr ∧ x.p.len = y.p.len ∧ x.low = y.low ∧ x.high = y.high := by
 obtain ⟨⟨f, r, a, l⟩, lo, hi⟩ := x
 obtain ⟨⟨g, s, b, m⟩, lp, hp⟩ := y
 simp only [Itm.mk.injEq, Pfx.mk.injEq, Int.natCast_inj]
 constructor
 ·rintro ⟨⟨rfl, rfl, rfl, rfl⟩, rfl, rfl⟩
  exact ⟨rfl, rfl, rfl, rfl, rfl, rfl⟩
 ·rintro ⟨rfl, rfl, rfl, rfl, rfl, rfl⟩
  exact ⟨⟨rfl, rfl, rfl, rfl⟩, rfl, rfl⟩
set_option maxRecDepth 20000 in
theorem run_eqItm (W : World) (x y : Itm) : (binOp .eql 72 (.agg #[.int .i64 x.p.fam, .int .u64 (x.p.rd : Int), .string ⟨x.p.addr.toArray⟩, .int .i64 x.p.len, .int .i64 x.low, .int .i64 x.high]) (.agg #[.int .i64 y.p.fam, .int .u64 (y.p.rd : Int), .string ⟨y.p.addr.toArray⟩, .int .i64 y.p.len, .int .i64 y.low, .int .i64 y.high])).run Tryz.prog W = .ok (.bool (decide (x = y))) W := by
 have hS : Tryz.prog.underlying 72 = some (.struct (Tryz.prog.fieldsOf 72)) := by kernel_rfl
 have hP : Tryz.prog.underlying 70 = some (.struct (Tryz.prog.fieldsOf 70)) := by kernel_rfl
 rw [run_eql_struct, run_equalIn_agg W 9999 _ _ _ hS Tryz.stoodInHeld72]
 have eP : ∀ (f g : Int) (r s : Int) (x y : List UInt8) (l m : Int) (w : World), (Op.equalIn 9999 70 (.agg #[.int .i64 f, .int .u64 r, .string ⟨x.toArray⟩, .int .i64 l]) (.agg #[.int .i64 g, .int .u64 s, .string ⟨y.toArray⟩, .int .i64 m])).run Tryz.prog w = .ok (decide (f = g ∧ r = s ∧ x = y ∧ l = m)) w := fun f g r s x y l m w => by
  rw [run_equalIn_agg w 9998 _ _ _ hP Tryz.stoodInHeld70]
  simp only [Program.fieldsOf, Tryz.underlying70]
  have e1 : ∀ (a b : Int) (w : World), (Op.equalIn 9998 3 (.int .i64 a) (.int .i64 b)).run Tryz.prog w = .ok (a == b) w := fun a b w => run_equalIn_int w 9997 _ .i64 .i64 a b Tryz.underlying3
  have e2 : ∀ (a b : Int) (w : World), (Op.equalIn 9998 68 (.int .u64 a) (.int .u64 b)).run Tryz.prog w = .ok (a == b) w := fun a b w => run_equalIn_int w 9997 _ .u64 .u64 a b Tryz.underlying68
  have e3 : ∀ (a b : List UInt8) (w : World), (Op.equalIn 9998 9 (.string ⟨a.toArray⟩) (.string ⟨b.toArray⟩)).run Tryz.prog w = .ok (a == b) w := fun a b w => by
   rw [run_equalIn_string w 9997 _ _ _ Tryz.underlying9, ByteArray.toList_eq, ByteArray.toList_eq]
  by_cases h1 : f = g <;> by_cases h2 : r = s <;> by_cases h3 : x = y <;> by_cases h4 : l = m <;> simp [Op.eqFields, part, e1, e2, e3, h1, h2, h3, h4]
 simp only [Program.fieldsOf, Tryz.underlying72]
 have e1 : ∀ (a b : Int) (w : World), (Op.equalIn 9999 3 (.int .i64 a) (.int .i64 b)).run Tryz.prog w = .ok (a == b) w := fun a b w => run_equalIn_int w 9998 _ .i64 .i64 a b Tryz.underlying3
 have hd : decide (x = y) = (decide (x.p.fam = y.p.fam ∧ (x.p.rd : Int) = (y.p.rd : Int) ∧ x.p.addr = y.p.addr ∧ x.p.len = y.p.len) && (decide (x.low = y.low) && decide (x.high = y.high))) := by
  rw [Bool.eq_iff_iff]
  simp only [Bool.and_eq_true, decide_eq_true_eq, itm_eq, and_assoc]
 rw [hd]
 have eP' := fun w => eP x.p.fam y.p.fam x.p.rd y.p.rd x.p.addr y.p.addr x.p.len y.p.len w
 clear hd eP
 generalize decide (x.p.fam = y.p.fam ∧ (x.p.rd : Int) = (y.p.rd : Int) ∧ x.p.addr = y.p.addr ∧ x.p.len = y.p.len) = bP at *
 cases bP <;> by_cases h5 : x.low = y.low <;> by_cases h6 : x.high = y.high <;> simp [Op.eqFields, part, e1, eP', h5, h6]
theorem sameSt_iff {s t : StS} : s = t ↔ s.name = t.name ∧ s.kind = t.kind ∧ s.items = t.items ∧ s.comms = t.comms ∧ s.paths = t.paths := by
 obtain ⟨a, b, c, d, e⟩ := s
 obtain ⟨f, g, h, i, j⟩ := t
 simp only [StS.mk.injEq]
set_option maxRecDepth 20000 in
set_option maxHeartbeats 4000000 in
theorem DSameSet_any (s t : StS) (a1 : Option Addr) (c1 : Nat) (a2 : Option Addr) (c2 : Nat) (a3 : Option Addr) (c3 : Nat) (b1 : Option Addr) (d1 : Nat) (b2 : Option Addr) (d2 : Nat) (b3 : Option Addr) (d3 : Nat) (w : World) (hs : SetIn w (· < w.heap.size) s a1 a2 a3) (ht : SetIn w (· < w.heap.size) t b1 b2 b3) :
  Calls Tryz.prog 64 #[.agg #[.string ⟨s.name.toArray⟩, .int .i64 s.kind, .slice a1 s.items.length c1, .slice a2 s.comms.length c2, .slice a3 s.paths.length c3], .agg #[.string ⟨t.name.toArray⟩, .int .i64 t.kind, .slice b1 t.items.length d1, .slice b2 t.comms.length d2, .slice b3 t.paths.length d3]] w fun e w' => e = .returned (.bool (decide (s = t))) ∧ Ext w w' := by
 have mixed : Tryz.prog.follows Departure.mixedOrders = true := by kernel_rfl
 have hi1 : ∀ W, Ext w W → Sl EItm W (· < W.heap.size) a1 s.items := fun W h => hs.items.ext h
 have hi2 : ∀ W, Ext w W → Sl EItm W (· < W.heap.size) b1 t.items := fun W h => ht.items.ext h
 have hu1 : ∀ W, Ext w W → Sl EU32 W (· < W.heap.size) a2 s.comms := fun W h => hs.comms.ext h
 have hu2 : ∀ W, Ext w W → Sl EU32 W (· < W.heap.size) b2 t.comms := fun W h => ht.comms.ext h
 have hp1 : ∀ W, Ext w W → Sl EAtm.slice W (· < W.heap.size) a3 s.paths := fun W h => hs.paths.ext h
 have hp2 : ∀ W, Ext w W → Sl EAtm.slice W (· < W.heap.size) b3 t.paths := fun W h => ht.paths.ext h
 have hni := hs.nItems
 have hnc := hs.nComms
 have hnp := hs.nPaths
 clear hs ht
 have hd : decide (s = t) = (decide (s.name = t.name) && (decide (s.kind = t.kind) && (decide (s.items = t.items) && (decide (s.comms = t.comms) && decide (s.paths = t.paths))))) := by
  rw [Bool.eq_iff_iff]
  simp only [Bool.and_eq_true, decide_eq_true_eq, sameSt_iff]
 rw [hd]
 clear hd
 obtain ⟨nm0, kd, s1, s2, s3⟩ := s
 obtain ⟨nm1, ke, t1, t2, t3⟩ := t
 dsimp only at *
 have E0 := ((Ext.refl w).alloc (Obj.cells #[.string ⟨nm0.toArray⟩, .int .i64 kd, .slice a1 s1.length c1, .slice a2 s2.length c2, .slice a3 s3.length c3] 67)).alloc (Obj.cells #[.string ⟨nm1.toArray⟩, .int .i64 ke, .slice b1 t1.length d1, .slice b2 t2.length d2, .slice b3 t3.length d3] 67)

 by_cases hn : nm0 = nm1
 case neg =>
  have hnb : (nm0 == nm1) = false := by rw [beq_eq_false_iff_ne]; exact hn
  rw [decide_eq_false hn, Bool.false_and]
  clear hn
  clear hi1 hi2 hu1 hu2 hp1 hp2
  replace E0 := hide E0
  go_enter Tryz.func64, Tryz.ntmps64
  go_wp2_with fail
  go_ret
  exact ⟨rfl, E0.out⟩

 subst hn
 by_cases hn : kd = ke
 case neg =>
  have hnb : (kd == ke) = false := by rw [beq_eq_false_iff_ne]; exact hn
  have hnd : (kd != ke) = true := by simp [bne, hnb]
  rw [decide_eq_false hn, Bool.false_and, Bool.and_false]
  clear hn
  clear hi1 hi2 hu1 hu2 hp1 hp2
  replace E0 := hide E0
  go_enter Tryz.func64, Tryz.ntmps64
  go_wp2_with fail
  go_ret
  exact ⟨rfl, E0.out⟩

 subst hn
 rw [decide_eq_true (p := nm0 = nm0) rfl, decide_eq_true (p := kd = kd) rfl, Bool.true_and, Bool.true_and]

 by_cases n1 : s1.length = t1.length
 case neg =>
  have hnb : ((s1.length : Int) == (t1.length : Int)) = false := by rw [beq_eq_false_iff_ne]; omega
  have hnd : ((s1.length : Int) != (t1.length : Int)) = true := by simp [bne, hnb]
  rw [decide_eq_false (p := s1 = t1) (fun e => n1 (by rw [e])), Bool.false_and]
  clear n1
  clear hi1 hi2 hu1 hu2 hp1 hp2
  replace E0 := hide E0
  go_enter Tryz.func64, Tryz.ntmps64
  go_wp2_with fail
  go_ret
  exact ⟨rfl, E0.out⟩

 by_cases n2 : s2.length = t2.length
 case neg =>
  have hnb : ((s2.length : Int) == (t2.length : Int)) = false := by rw [beq_eq_false_iff_ne]; omega
  have hnd : ((s2.length : Int) != (t2.length : Int)) = true := by simp [bne, hnb]
  rw [decide_eq_false (p := s2 = t2) (fun e => n2 (by rw [e])), Bool.false_and, Bool.and_false]
  rw [← n1] at E0 ⊢
  clear n1
  clear n2
  clear hi1 hi2 hu1 hu2 hp1 hp2
  replace E0 := hide E0
  go_enter Tryz.func64, Tryz.ntmps64
  go_wp2_with fail
  go_ret
  exact ⟨rfl, E0.out⟩

 by_cases n3 : s3.length = t3.length
 case neg =>
  have hnb : ((s3.length : Int) == (t3.length : Int)) = false := by rw [beq_eq_false_iff_ne]; omega
  have hnd : ((s3.length : Int) != (t3.length : Int)) = true := by simp [bne, hnb]
  rw [decide_eq_false (p := s3 = t3) (fun e => n3 (by rw [e])), Bool.and_false, Bool.and_false]
  rw [← n1] at E0 ⊢
  rw [← n2] at E0 ⊢
  clear n1
  clear n2
  clear n3
  clear hi1 hi2 hu1 hu2 hp1 hp2
  replace E0 := hide E0
  go_enter Tryz.func64, Tryz.ntmps64
  go_wp2_with fail
  go_ret
  exact ⟨rfl, E0.out⟩

 clear E0
 have nb1 : ((s1.length : Int) == (t1.length : Int)) = true := by rw [beq_iff_eq]; omega
 rw [← n1, ← n2, ← n3]
 have heq := fun (x y : Itm) W => run_neq_ofB (run_eqItm W x y)
 have hga : ∀ x y xs ys W, (eqGuard .neq 75 x y (.agg xs) (.agg ys)).run Tryz.prog W = .ok () W := fun x y xs ys W => run_eqGuard_agg W .neq _ x y xs ys Tryz.eqGuardType75
 have hgi : ∀ x y xs ys W, (eqGuard .neq 72 x y (.agg xs) (.agg ys)).run Tryz.prog W = .ok () W := fun x y xs ys W => run_eqGuard_agg W .neq _ x y xs ys Tryz.eqGuardType72
 clear nb1
 replace hi1 := hide hi1
 replace hi2 := hide hi2
 replace hu1 := hide hu1
 replace hu2 := hide hu2
 replace hp1 := hide hp1
 replace hp2 := hide hp2
 replace heq := hide heq
 replace n1 := hide n1
 replace n2 := hide n2
 replace n3 := hide n3
 go_enter Tryz.func64, Tryz.ntmps64
 have S := (Blk.new w 67 #[.string ⟨nm0.toArray⟩, .int .i64 kd, .slice a1 s1.length c1, .slice a2 s2.length c2, .slice a3 s3.length c3]).alloc (Obj.cells #[.string ⟨nm0.toArray⟩, .int .i64 kd, .slice b1 s1.length d1, .slice b2 s2.length d2, .slice b3 s3.length d3] 67)
 have E := ((Ext.refl w).alloc (Obj.cells #[.string ⟨nm0.toArray⟩, .int .i64 kd, .slice a1 s1.length c1, .slice a2 s2.length c2, .slice a3 s3.length c3] 67)).alloc (Obj.cells #[.string ⟨nm0.toArray⟩, .int .i64 kd, .slice b1 s1.length d1, .slice b2 s2.length d2, .slice b3 s3.length d3] 67)
 have T := Blk.new (w.alloc (Obj.cells #[.string ⟨nm0.toArray⟩, .int .i64 kd, .slice a1 s1.length c1, .slice a2 s2.length c2, .slice a3 s3.length c3] 67)) 67 #[.string ⟨nm0.toArray⟩, .int .i64 kd, .slice b1 s1.length d1, .slice b2 s2.length d2, .slice b3 s3.length d3]
 rw [show (w.alloc (Obj.cells #[.string ⟨nm0.toArray⟩, .int .i64 kd, .slice a1 s1.length c1, .slice a2 s2.length c2, .slice a3 s3.length c3] 67)).heap.size = w.heap.size + 1 by simp] at T
 generalize hW0 : (w.alloc (Obj.cells #[.string ⟨nm0.toArray⟩, .int .i64 kd, .slice a1 s1.length c1, .slice a2 s2.length c2, .slice a3 s3.length c3] 67)).alloc (Obj.cells #[.string ⟨nm0.toArray⟩, .int .i64 kd, .slice b1 s1.length d1, .slice b2 s2.length d2, .slice b3 s3.length d3] 67) = W0 at S E T
 generalize hg0 : w.heap.size = g0 at S T
 replace S := hide S
 replace E := hide E
 replace T := hide T
 have S_0 : W0.cell? ⟨g0, 0, none⟩ = some (.string ⟨nm0.toArray⟩) := S.out.cell 0
 have S_1 : W0.cell? ⟨g0, 1, none⟩ = some (.int .i64 kd) := S.out.cell 1
 have S_2 : W0.cell? ⟨g0, 2, none⟩ = some (.slice a1 s1.length c1) := S.out.cell 2
 have S_3 : W0.cell? ⟨g0, 3, none⟩ = some (.slice a2 s2.length c2) := S.out.cell 3
 have S_4 : W0.cell? ⟨g0, 4, none⟩ = some (.slice a3 s3.length c3) := S.out.cell 4
 have T_0 : W0.cell? ⟨g0 + 1, 0, none⟩ = some (.string ⟨nm0.toArray⟩) := T.out.cell 0
 have T_1 : W0.cell? ⟨g0 + 1, 1, none⟩ = some (.int .i64 kd) := T.out.cell 1
 have T_2 : W0.cell? ⟨g0 + 1, 2, none⟩ = some (.slice b1 s1.length d1) := T.out.cell 2
 have T_3 : W0.cell? ⟨g0 + 1, 3, none⟩ = some (.slice b2 s2.length d2) := T.out.cell 3
 have T_4 : W0.cell? ⟨g0 + 1, 4, none⟩ = some (.slice b3 s3.length d3) := T.out.cell 4
 go_wp2_with fail
 clear hW0 hg0

 go_loopw [5] (fun i wr => ∃ k : Nat, k ≤ s1.length ∧ i = .int .i64 k ∧ Ext W0 wr ∧ s1.take k = t1.take k) (fun i _ => s1.length - (intOf i).toNat)
 case atStart => exact ⟨0, Nat.zero_le _, rfl, Ext.refl _, rfl⟩
 case round =>
  clear S_0 S_1 S_2 S_3 S_4 T_0 T_1 T_2 T_3 T_4
  obtain ⟨k, hk, rfl, hE, htk⟩ := hrel
  rename World => W1
  have S : Blk W1 (g0) 67 #[.string ⟨nm0.toArray⟩, .int .i64 kd, .slice a1 s1.length c1, .slice a2 s2.length c2, .slice a3 s3.length c3] := S.out.ext hE
  replace S := hide S
  have T : Blk W1 (g0 + 1) 67 #[.string ⟨nm0.toArray⟩, .int .i64 kd, .slice b1 s1.length d1, .slice b2 s2.length d2, .slice b3 s3.length d3] := T.out.ext hE
  replace T := hide T
  have E1 := hide (E.out.trans hE)
  have S_0 : W1.cell? ⟨g0, 0, none⟩ = some (.string ⟨nm0.toArray⟩) := S.out.cell 0
  have S_1 : W1.cell? ⟨g0, 1, none⟩ = some (.int .i64 kd) := S.out.cell 1
  have S_2 : W1.cell? ⟨g0, 2, none⟩ = some (.slice a1 s1.length c1) := S.out.cell 2
  have S_3 : W1.cell? ⟨g0, 3, none⟩ = some (.slice a2 s2.length c2) := S.out.cell 3
  have S_4 : W1.cell? ⟨g0, 4, none⟩ = some (.slice a3 s3.length c3) := S.out.cell 4
  have T_0 : W1.cell? ⟨g0 + 1, 0, none⟩ = some (.string ⟨nm0.toArray⟩) := T.out.cell 0
  have T_1 : W1.cell? ⟨g0 + 1, 1, none⟩ = some (.int .i64 kd) := T.out.cell 1
  have T_2 : W1.cell? ⟨g0 + 1, 2, none⟩ = some (.slice b1 s1.length d1) := T.out.cell 2
  have T_3 : W1.cell? ⟨g0 + 1, 3, none⟩ = some (.slice b2 s2.length d2) := T.out.cell 3
  have T_4 : W1.cell? ⟨g0 + 1, 4, none⟩ = some (.slice b3 s3.length d3) := T.out.cell 4
  by_cases hlt : k < s1.length
  ·have hlt2 : k < t1.length := n1.out ▸ hlt
   obtain ⟨b, off, rfl, _, hin, hx⟩ := EItm.at (hi1.out W1 E1.out) k hlt
   obtain ⟨b', off', rfl, _, _, hy⟩ := EItm.at (hi2.out W1 E1.out) k hlt2
   have x0 : W1.cell? ⟨b, off + k * 6, none⟩ = some (.int .i64 s1[k].p.fam) := hx 0 _ rfl
   have y0 : W1.cell? ⟨b', off' + k * 6, none⟩ = some (.int .i64 t1[k].p.fam) := hy 0 _ rfl
   have x1 : W1.cell? ⟨b, off + k * 6 + 1, none⟩ = some (.int .u64 (s1[k].p.rd : Int)) := hx 1 _ rfl
   have y1 : W1.cell? ⟨b', off' + k * 6 + 1, none⟩ = some (.int .u64 (t1[k].p.rd : Int)) := hy 1 _ rfl
   have x2 : W1.cell? ⟨b, off + k * 6 + 2, none⟩ = some (.string ⟨s1[k].p.addr.toArray⟩) := hx 2 _ rfl
   have y2 : W1.cell? ⟨b', off' + k * 6 + 2, none⟩ = some (.string ⟨t1[k].p.addr.toArray⟩) := hy 2 _ rfl
   have x3 : W1.cell? ⟨b, off + k * 6 + 3, none⟩ = some (.int .i64 s1[k].p.len) := hx 3 _ rfl
   have y3 : W1.cell? ⟨b', off' + k * 6 + 3, none⟩ = some (.int .i64 t1[k].p.len) := hy 3 _ rfl
   have x4 : W1.cell? ⟨b, off + k * 6 + 4, none⟩ = some (.int .i64 s1[k].low) := hx 4 _ rfl
   have y4 : W1.cell? ⟨b', off' + k * 6 + 4, none⟩ = some (.int .i64 t1[k].low) := hy 4 _ rfl
   have x5 : W1.cell? ⟨b, off + k * 6 + 5, none⟩ = some (.int .i64 s1[k].high) := hx 5 _ rfl
   have y5 : W1.cell? ⟨b', off' + k * 6 + 5, none⟩ = some (.int .i64 t1[k].high) := hy 5 _ rfl
   have heq := fun W => heq.out s1[k] t1[k] W
   have hst := take_step htk hlt hlt2
   have hne : ¬ s1[k] = t1[k] → ¬ s1 = t1 := fun h e => h (by subst e; rfl)
   clear hx hy hin
   generalize s1[k] = x at *
   generalize t1[k] = y at *
   replace hE := hide hE
   replace hst := hide hst
   replace hne := hide hne
   replace htk := hide htk
   by_cases hxy : x = y
   ·have hs := hide (hst.out hxy)
    clear hst hne
    subst hxy
    simp only [decide_true, Bool.not_true] at heq
    go_wp2_with fail
    go_region
    go_wp2
    go_roundw
    case rel => exact ⟨k + 1, by omega, by go_num, hE.out.drew, hs.out⟩
    case measure => simp [intOf]; omega
   ·rw [decide_eq_false hxy] at heq
    simp only [Bool.not_false] at heq
    have hr := hide (hne.out hxy)
    clear hne hxy hst
    go_wp2_with fail
    go_region
    go_wp2
    go_ret
    exact ⟨by rw [decide_eq_false hr.out, Bool.false_and]; rfl, E1.out.drew⟩
  ·obtain rfl : k = s1.length := by omega
   have hall1 : s1 = t1 := by
    have h2 : s1.take s1.length = t1.take t1.length := by rw [htk, n1.out]
    rwa [List.take_length, List.take_length] at h2
   clear hlt hk htk
   replace hE := hide hE
   replace hall1 := hide hall1
   go_wp2_with fail
   go_loopw [6] (fun i wr => ∃ k : Nat, k ≤ s2.length ∧ i = .int .i64 k ∧ Ext W1 wr ∧ s2.take k = t2.take k) (fun i _ => s2.length - (intOf i).toNat)
   case atStart => exact ⟨0, Nat.zero_le _, rfl, Ext.refl _, rfl⟩
   case round =>
    clear S_0 S_1 S_2 S_3 S_4 T_0 T_1 T_2 T_3 T_4
    obtain ⟨k, hk, rfl, hF, htk⟩ := hrel
    rename World => W2
    have S : Blk W2 (g0) 67 #[.string ⟨nm0.toArray⟩, .int .i64 kd, .slice a1 s1.length c1, .slice a2 s2.length c2, .slice a3 s3.length c3] := S.out.ext hF
    replace S := hide S
    have T : Blk W2 (g0 + 1) 67 #[.string ⟨nm0.toArray⟩, .int .i64 kd, .slice b1 s1.length d1, .slice b2 s2.length d2, .slice b3 s3.length d3] := T.out.ext hF
    replace T := hide T
    have E2 := hide (E1.out.trans hF)
    have S_0 : W2.cell? ⟨g0, 0, none⟩ = some (.string ⟨nm0.toArray⟩) := S.out.cell 0
    have S_1 : W2.cell? ⟨g0, 1, none⟩ = some (.int .i64 kd) := S.out.cell 1
    have S_2 : W2.cell? ⟨g0, 2, none⟩ = some (.slice a1 s1.length c1) := S.out.cell 2
    have S_3 : W2.cell? ⟨g0, 3, none⟩ = some (.slice a2 s2.length c2) := S.out.cell 3
    have S_4 : W2.cell? ⟨g0, 4, none⟩ = some (.slice a3 s3.length c3) := S.out.cell 4
    have T_0 : W2.cell? ⟨g0 + 1, 0, none⟩ = some (.string ⟨nm0.toArray⟩) := T.out.cell 0
    have T_1 : W2.cell? ⟨g0 + 1, 1, none⟩ = some (.int .i64 kd) := T.out.cell 1
    have T_2 : W2.cell? ⟨g0 + 1, 2, none⟩ = some (.slice b1 s1.length d1) := T.out.cell 2
    have T_3 : W2.cell? ⟨g0 + 1, 3, none⟩ = some (.slice b2 s2.length d2) := T.out.cell 3
    have T_4 : W2.cell? ⟨g0 + 1, 4, none⟩ = some (.slice b3 s3.length d3) := T.out.cell 4
    by_cases hlt : k < s2.length
    ·have hlt2 : k < t2.length := n2.out ▸ hlt
     obtain ⟨b, off, rfl, _, x0⟩ := EU32.at (hu1.out W2 E2.out) k hlt
     obtain ⟨b', off', rfl, _, y0⟩ := EU32.at (hu2.out W2 E2.out) k hlt2
     have hst := take_step htk hlt hlt2
     have hne : ¬ s2[k] = t2[k] → ¬ s2 = t2 := fun h e => h (by subst e; rfl)
     generalize s2[k] = x at *
     generalize t2[k] = y at *
     replace hF := hide hF
     replace hst := hide hst
     replace hne := hide hne
     replace htk := hide htk
     by_cases hxy : x = y
     ·have hs := hide (hst.out hxy)
      clear hst hne
      subst hxy
      go_wp2_with fail
      go_region
      go_wp2
      go_roundw
      case rel => exact ⟨k + 1, by omega, by go_num, hF.out.drew, hs.out⟩
      case measure => simp [intOf]; omega
     ·have hxn : ((x.toNat : Int) == (y.toNat : Int)) = false := by rw [beq_eq_false_iff_ne]; exact fun e => hxy (UInt32.toNat_inj.1 (by omega))
      have hr := hide (hne.out hxy)
      clear hne hxy hst
      go_wp2_with fail
      go_region
      go_wp2
      go_ret
      exact ⟨by rw [decide_eq_false hr.out, Bool.false_and, Bool.and_false]; rfl, E2.out.drew⟩
    ·obtain rfl : k = s2.length := by omega
     have hall2 : s2 = t2 := by
      have h2 : s2.take s2.length = t2.take t2.length := by rw [htk, n2.out]
      rwa [List.take_length, List.take_length] at h2
     clear hlt hk htk
     replace hF := hide hF
     replace hall2 := hide hall2
     go_wp2_with fail
     go_loopw [7] (fun i wr => ∃ k : Nat, k ≤ s3.length ∧ i = .int .i64 k ∧ Ext W2 wr ∧ s3.take k = t3.take k) (fun i _ => s3.length - (intOf i).toNat)
     case atStart => exact ⟨0, Nat.zero_le _, rfl, Ext.refl _, rfl⟩
     case round =>
      clear S_0 S_1 S_2 S_3 S_4 T_0 T_1 T_2 T_3 T_4
      obtain ⟨k, hk, rfl, hG, htk⟩ := hrel
      rename World => W3
      have S : Blk W3 (g0) 67 #[.string ⟨nm0.toArray⟩, .int .i64 kd, .slice a1 s1.length c1, .slice a2 s2.length c2, .slice a3 s3.length c3] := S.out.ext hG
      replace S := hide S
      have T : Blk W3 (g0 + 1) 67 #[.string ⟨nm0.toArray⟩, .int .i64 kd, .slice b1 s1.length d1, .slice b2 s2.length d2, .slice b3 s3.length d3] := T.out.ext hG
      replace T := hide T
      have E3 := hide (E2.out.trans hG)
      have S_0 : W3.cell? ⟨g0, 0, none⟩ = some (.string ⟨nm0.toArray⟩) := S.out.cell 0
      have S_1 : W3.cell? ⟨g0, 1, none⟩ = some (.int .i64 kd) := S.out.cell 1
      have S_2 : W3.cell? ⟨g0, 2, none⟩ = some (.slice a1 s1.length c1) := S.out.cell 2
      have S_3 : W3.cell? ⟨g0, 3, none⟩ = some (.slice a2 s2.length c2) := S.out.cell 3
      have S_4 : W3.cell? ⟨g0, 4, none⟩ = some (.slice a3 s3.length c3) := S.out.cell 4
      have T_0 : W3.cell? ⟨g0 + 1, 0, none⟩ = some (.string ⟨nm0.toArray⟩) := T.out.cell 0
      have T_1 : W3.cell? ⟨g0 + 1, 1, none⟩ = some (.int .i64 kd) := T.out.cell 1
      have T_2 : W3.cell? ⟨g0 + 1, 2, none⟩ = some (.slice b1 s1.length d1) := T.out.cell 2
      have T_3 : W3.cell? ⟨g0 + 1, 3, none⟩ = some (.slice b2 s2.length d2) := T.out.cell 3
      have T_4 : W3.cell? ⟨g0 + 1, 4, none⟩ = some (.slice b3 s3.length d3) := T.out.cell 4
      by_cases hlt : k < s3.length
      ·have hlt2 : k < t3.length := n3.out ▸ hlt
       obtain ⟨b, off, ak, ck, rfl, _, x0, hm, hsk⟩ := EPat.at (hp1.out W3 E3.out) k hlt
       obtain ⟨b', off', ak', ck', rfl, _, y0, hm', hsk'⟩ := EPat.at (hp2.out W3 E3.out) k hlt2
       have hst := take_step htk hlt hlt2
       have hne : ¬ s3[k] = t3[k] → ¬ s3 = t3 := fun h e => h (by subst e; rfl)
       generalize s3[k] = x at *
       generalize t3[k] = y at *
       replace hG := hide hG
       replace hst := hide hst
       replace hne := hide hne
       replace htk := hide htk
       by_cases nx : x.length = y.length
       case neg =>
        have hnb : ((x.length : Int) == (y.length : Int)) = false := by rw [beq_eq_false_iff_ne]; omega
        have hr := hide (hne.out (fun e => nx (by rw [e])))
        clear hne hst nx hsk hsk'
        go_wp2_with fail
        go_region
        go_wp2
        go_ret
        exact ⟨by rw [decide_eq_false hr.out, Bool.and_false, Bool.and_false]; rfl, E3.out.drew⟩
       rw [← nx] at y0
       replace hsk := hide hsk
       replace hsk' := hide hsk'
       replace nx := hide nx
       go_wp2_with fail
       go_region
       go_wp2
       go_loopw [8] (fun i wr => ∃ j : Nat, j ≤ x.length ∧ i = .int .i64 j ∧ Ext W3 wr ∧ x.take j = y.take j) (fun i _ => x.length - (intOf i).toNat)
       case atStart => exact ⟨0, Nat.zero_le _, rfl, (Ext.refl _).drew, rfl⟩
       case round =>
        clear S_0 S_1 S_2 S_3 S_4 T_0 T_1 T_2 T_3 T_4
        obtain ⟨j, hj, rfl, hH, htj⟩ := hrel
        rename World => W4
        have S : Blk W4 (g0) 67 #[.string ⟨nm0.toArray⟩, .int .i64 kd, .slice a1 s1.length c1, .slice a2 s2.length c2, .slice (some ⟨b, off, none⟩) s3.length c3] := S.out.ext hH
        replace S := hide S
        have T : Blk W4 (g0 + 1) 67 #[.string ⟨nm0.toArray⟩, .int .i64 kd, .slice b1 s1.length d1, .slice b2 s2.length d2, .slice (some ⟨b', off', none⟩) s3.length d3] := T.out.ext hH
        replace T := hide T
        have E4 := hide (E3.out.trans hH)
        replace x0 := hH.cell x0
        replace y0 := hH.cell y0
        have S_0 : W4.cell? ⟨g0, 0, none⟩ = some (.string ⟨nm0.toArray⟩) := S.out.cell 0
        have S_1 : W4.cell? ⟨g0, 1, none⟩ = some (.int .i64 kd) := S.out.cell 1
        have S_2 : W4.cell? ⟨g0, 2, none⟩ = some (.slice a1 s1.length c1) := S.out.cell 2
        have S_3 : W4.cell? ⟨g0, 3, none⟩ = some (.slice a2 s2.length c2) := S.out.cell 3
        have S_4 : W4.cell? ⟨g0, 4, none⟩ = some (.slice (some ⟨b, off, none⟩) s3.length c3) := S.out.cell 4
        have T_0 : W4.cell? ⟨g0 + 1, 0, none⟩ = some (.string ⟨nm0.toArray⟩) := T.out.cell 0
        have T_1 : W4.cell? ⟨g0 + 1, 1, none⟩ = some (.int .i64 kd) := T.out.cell 1
        have T_2 : W4.cell? ⟨g0 + 1, 2, none⟩ = some (.slice b1 s1.length d1) := T.out.cell 2
        have T_3 : W4.cell? ⟨g0 + 1, 3, none⟩ = some (.slice b2 s2.length d2) := T.out.cell 3
        have T_4 : W4.cell? ⟨g0 + 1, 4, none⟩ = some (.slice (some ⟨b', off', none⟩) s3.length d3) := T.out.cell 4
        by_cases hjt : j < x.length
        ·have hjt2 : j < y.length := nx.out ▸ hjt
         obtain ⟨e, p, rfl, _, _, u0, u1⟩ := EAtm.at (hsk.out.ext hH) j hjt
         obtain ⟨e', p', rfl, _, _, v0, v1⟩ := EAtm.at (hsk'.out.ext hH) j hjt2
         have hsj := take_step htj hjt hjt2
         have hnj : ¬ x[j] = y[j] → ¬ x = y := fun h e => h (by subst e; rfl)
         have heq := fun (W : World) (e : Bool) (h : e = true ↔ x[j] = y[j]) => neqA_run W x[j] y[j] e h
         generalize x[j] = xa at *
         generalize y[j] = ya at *
         replace hH := hide hH
         replace hsj := hide hsj
         replace hnj := hide hnj
         replace htj := hide htj
         by_cases hxy : xa = ya
         ·have hq := fun W => heq W true (by simp [hxy])
          have hs := hide (hsj.out hxy)
          clear hsj hnj heq hxy
          go_wp2_with fail
          go_region
          go_wp2
          go_roundw
          case rel => exact ⟨j + 1, by omega, by go_num, hH.out.drew, hs.out⟩
          case measure => simp [intOf]; omega
         ·have hq := fun W => heq W false (by simp [hxy])
          have hr := hide (hne.out (hnj.out hxy))
          clear hsj hnj heq hxy hne hst
          go_wp2_with fail
          go_region
          go_wp2
          go_ret
          exact ⟨by rw [decide_eq_false hr.out, Bool.and_false, Bool.and_false]; rfl, E4.out.drew⟩
        ·obtain rfl : j = x.length := by omega
         have hxy : x = y := by
          have h2 : x.take x.length = y.take y.length := by rw [htj, nx.out]
          rwa [List.take_length, List.take_length] at h2
         have hs := hide (hst.out hxy)
         clear hjt hj htj hst hne hxy
         have hGH := hide (hG.out.trans hH)
         clear hH
         go_wp2_with fail
         go_roundw
         case rel => exact ⟨k + 1, by omega, by go_num, hGH.out, hs.out⟩
         case measure => simp [intOf]; omega
      ·obtain rfl : k = s3.length := by omega
       have hall3 : s3 = t3 := by
        have h2 : s3.take s3.length = t3.take t3.length := by rw [htk, n3.out]
        rwa [List.take_length, List.take_length] at h2
       clear hlt hk htk
       replace hG := hide hG
       replace hall3 := hide hall3
       go_wp2_with fail
       go_ret
       exact ⟨by rw [decide_eq_true hall1.out, decide_eq_true hall2.out, decide_eq_true hall3.out]; rfl, E3.out⟩
end
section
open Go.RowKit Go.Sort
set_option linter.unusedVariables false
theorem EIns.atQ {w : World} {S : Nat → Prop} {a : Option Addr} {l : List InsS} (h : Sl EIns w S a l) (k : Nat) (hk : k < l.length) :
  ∃ b off, a = some ⟨b, off, none⟩ ∧ S b ∧ InsIn l[k] ∧ ∀ j u, (insCs l[k])[j]? = some u → w.cell? ⟨b, off + k * 11 + j, none⟩ = some u := by
 obtain ⟨b, off, cs, rfl, hb, ⟨rfl, hi⟩, hc⟩ := h.at k hk
 exact ⟨b, off, rfl, hb, hi, hc⟩
set_option maxRecDepth 20000 in
theorem run_neqIns (W : World) (x : InsS) : (binOp .neq 62 (.agg #[.int .i64 x.kind, .int .i64 x.cond.kind, .bool x.cond.neg, .string ⟨x.cond.name.toArray⟩, .int .i64 x.cond.n, .int .i64 x.act.kind, .string ⟨x.act.name.toArray⟩, .int .u32 (x.act.n.toNat : Int), .string ⟨x.act.addr.toArray⟩, .int .i64 x.to, .int .i64 x.n]) (.agg #[.int .i64 x.kind, .int .i64 x.cond.kind, .bool x.cond.neg, .string ⟨x.cond.name.toArray⟩, .int .i64 x.cond.n, .int .i64 x.act.kind, .string ⟨x.act.name.toArray⟩, .int .u32 (x.act.n.toNat : Int), .string ⟨x.act.addr.toArray⟩, .int .i64 x.to, .int .i64 x.n])).run Tryz.prog W = .ok (.bool false) W := by
 have hS : Tryz.prog.underlying 62 = some (.struct (Tryz.prog.fieldsOf 62)) := by kernel_rfl
 have hC : Tryz.prog.underlying 48 = some (.struct (Tryz.prog.fieldsOf 48)) := by kernel_rfl
 have hA : Tryz.prog.underlying 51 = some (.struct (Tryz.prog.fieldsOf 51)) := by kernel_rfl
 have key : (binOp .eql 62 (.agg #[.int .i64 x.kind, .int .i64 x.cond.kind, .bool x.cond.neg, .string ⟨x.cond.name.toArray⟩, .int .i64 x.cond.n, .int .i64 x.act.kind, .string ⟨x.act.name.toArray⟩, .int .u32 (x.act.n.toNat : Int), .string ⟨x.act.addr.toArray⟩, .int .i64 x.to, .int .i64 x.n]) (.agg #[.int .i64 x.kind, .int .i64 x.cond.kind, .bool x.cond.neg, .string ⟨x.cond.name.toArray⟩, .int .i64 x.cond.n, .int .i64 x.act.kind, .string ⟨x.act.name.toArray⟩, .int .u32 (x.act.n.toNat : Int), .string ⟨x.act.addr.toArray⟩, .int .i64 x.to, .int .i64 x.n])).run Tryz.prog W = .ok (.bool true) W := by
  rw [run_eql_struct, run_equalIn_agg W 9999 _ _ _ hS Tryz.stoodInHeld62]
  have eC : ∀ (k n : Int) (g : Bool) (s : List UInt8) (w : World), (Op.equalIn 9999 48 (.agg #[.int .i64 k, .bool g, .string ⟨s.toArray⟩, .int .i64 n]) (.agg #[.int .i64 k, .bool g, .string ⟨s.toArray⟩, .int .i64 n])).run Tryz.prog w = .ok true w := fun k n g s w => by
   rw [run_equalIn_agg w 9998 _ _ _ hC Tryz.stoodInHeld48]
   simp only [Program.fieldsOf, Tryz.underlying48]
   have e1 : ∀ (a b : Int) (w : World), (Op.equalIn 9998 3 (.int .i64 a) (.int .i64 b)).run Tryz.prog w = .ok (a == b) w := fun a b w => run_equalIn_int w 9997 _ .i64 .i64 a b Tryz.underlying3
   have e2 : ∀ (a b : Bool) (w : World), (Op.equalIn 9998 4 (.bool a) (.bool b)).run Tryz.prog w = .ok (a == b) w := fun a b w => run_equalIn_bool' w 9997 _ a b Tryz.underlying4
   have e3 : ∀ (a b : List UInt8) (w : World), (Op.equalIn 9998 9 (.string ⟨a.toArray⟩) (.string ⟨b.toArray⟩)).run Tryz.prog w = .ok (a == b) w := fun a b w => by
    rw [run_equalIn_string w 9997 _ _ _ Tryz.underlying9, ByteArray.toList_eq, ByteArray.toList_eq]
   simp [Op.eqFields, part, e1, e2, e3]
  have eA : ∀ (k n : Int) (s q : List UInt8) (w : World), (Op.equalIn 9999 51 (.agg #[.int .i64 k, .string ⟨s.toArray⟩, .int .u32 n, .string ⟨q.toArray⟩]) (.agg #[.int .i64 k, .string ⟨s.toArray⟩, .int .u32 n, .string ⟨q.toArray⟩])).run Tryz.prog w = .ok true w := fun k n s q w => by
   rw [run_equalIn_agg w 9998 _ _ _ hA Tryz.stoodInHeld51]
   simp only [Program.fieldsOf, Tryz.underlying51]
   have e1 : ∀ (a b : Int) (w : World), (Op.equalIn 9998 3 (.int .i64 a) (.int .i64 b)).run Tryz.prog w = .ok (a == b) w := fun a b w => run_equalIn_int w 9997 _ .i64 .i64 a b Tryz.underlying3
   have e2 : ∀ (a b : Int) (w : World), (Op.equalIn 9998 49 (.int .u32 a) (.int .u32 b)).run Tryz.prog w = .ok (a == b) w := fun a b w => run_equalIn_int w 9997 _ .u32 .u32 a b Tryz.underlying49
   have e3 : ∀ (a b : List UInt8) (w : World), (Op.equalIn 9998 9 (.string ⟨a.toArray⟩) (.string ⟨b.toArray⟩)).run Tryz.prog w = .ok (a == b) w := fun a b w => by
    rw [run_equalIn_string w 9997 _ _ _ Tryz.underlying9, ByteArray.toList_eq, ByteArray.toList_eq]
   simp [Op.eqFields, part, e1, e2, e3]
  simp only [Program.fieldsOf, Tryz.underlying62]
  have e1 : ∀ (a b : Int) (w : World), (Op.equalIn 9999 3 (.int .i64 a) (.int .i64 b)).run Tryz.prog w = .ok (a == b) w := fun a b w => run_equalIn_int w 9998 _ .i64 .i64 a b Tryz.underlying3
  simp [Op.eqFields, part, e1, eC, eA]
 exact run_neq_ofB key
theorem sl_hd {w : World} {a : Option Addr} {l : List HdS} (h : Sl EHd w (· < w.heap.size) a l) (hi : ∀ x ∈ l, SetIn w (· < w.heap.size) x.s x.a1 x.a2 x.a3) : Sl ESet w (· < w.heap.size) a (l.map (·.s)) := by
  rcases h with h | ⟨b, off, rfl, hb, hc⟩
  · exact .inl (by rw [h]; rfl)
  · refine .inr ⟨b, off, rfl, hb, fun k y hy => ?_⟩
    rw [List.getElem?_map] at hy
    cases hx : l[k]? with
    | none => rw [hx] at hy; cases hy
    | some x =>
      rw [hx] at hy
      injection hy with hy
      subst hy
      obtain ⟨cs, ⟨rfl, _⟩, hcs⟩ := hc k x hx
      exact ⟨hdCs x, ESet.iff.2 ⟨x.a1, x.c1, x.a2, x.c2, x.a3, x.c3, rfl, hi x (List.mem_of_getElem? hx)⟩, hcs⟩
theorem sl_setB {w : World} {S : Nat → Prop} {a : Option Addr} {l : List (StS × Nat × Nat)} (h : Sl ESetB w S a l) : Sl ESet w S a (l.map (·.1)) := by
  rcases h with h | ⟨b, off, rfl, hb, hc⟩
  · exact .inl (by rw [h]; rfl)
  · refine .inr ⟨b, off, rfl, hb, fun k y hy => ?_⟩
    rw [List.getElem?_map] at hy
    cases hx : l[k]? with
    | none => rw [hx] at hy; cases hy
    | some x =>
      rw [hx] at hy
      injection hy with hy
      subst hy
      obtain ⟨cs, ⟨v1, v2, v3, rfl, h2⟩, hcs⟩ := hc k x hx
      obtain ⟨a1, c1, a2, c2, a3, c3, rfl, rfl, rfl, h3⟩ := h2.setIn
      exact ⟨_, ESet.iff.2 ⟨a1, c1, a2, c2, a3, c3, rfl, h3.mono fun _ hb => hb.1⟩, hcs⟩
set_option maxRecDepth 20000 in
set_option maxHeartbeats 2000000 in
theorem DSameSets_eq (a : Option Addr) (c : Nat) (b : Option Addr) (d : Nat) (l : List StS) (w : World) (hl : l.length ≤ 16777216) (s1 : Sl ESet w (· < w.heap.size) a l) (s2 : Sl ESet w (· < w.heap.size) b l) :
  Calls Tryz.prog 30 #[.slice a l.length c, .slice b l.length d] w fun e w' => e = .returned (.bool true) ∧ Ext w w' := by
 have mixed : Tryz.prog.follows Departure.mixedOrders = true := by kernel_rfl
 replace s1 := hide s1
 replace s2 := hide s2
 go_enter Tryz.func30, Tryz.ntmps30
 go_wp2_with fail
 go_loopw [5] (fun i wr => ∃ k : Nat, k ≤ l.length ∧ i = .int .i64 k ∧ Ext w wr) (fun i _ => l.length - (intOf i).toNat)
 case atStart => exact ⟨0, Nat.zero_le _, rfl, Ext.refl _⟩
 case round =>
  obtain ⟨k, hk, rfl, E⟩ := hrel
  by_cases hlt : k < l.length
  ·obtain ⟨b1, o1, a1, c1, a2, c2, a3, c3, rfl, hi, i0, i1, i2, i3, i4⟩ := ESet.at16 (s1.out.ext E) k hlt
   obtain ⟨b2, o2, x1, y1, x2, y2, x3, y3, rfl, hj, j0, j1, j2, j3, j4⟩ := ESet.at16 (s2.out.ext E) k hlt
   generalize l[k] = s at *
   have qs := fun W (h : Ext wr W) => DSameSet_any s s a1 c1 a2 c2 a3 c3 x1 y1 x2 y2 x3 y3 W (hi.ext h) (hj.ext h)
   simp only [decide_true] at qs
   have E0 := hide (Ext.refl wr)
   generalize s.name = nm at *
   generalize s.kind = kd at *
   generalize s.items.length = z1 at *
   generalize s.comms.length = z2 at *
   generalize s.paths.length = z3 at *
   clear hi hj
   replace E := hide E
   replace qs := hide qs
   go_wp2_with fail
   replace i0 := fun d os => cell_regrown i0 d os
   replace i1 := fun d os => cell_regrown i1 d os
   replace i2 := fun d os => cell_regrown i2 d os
   replace i3 := fun d os => cell_regrown i3 d os
   replace i4 := fun d os => cell_regrown i4 d os
   replace j0 := fun d os => cell_regrown j0 d os
   replace j1 := fun d os => cell_regrown j1 d os
   replace j2 := fun d os => cell_regrown j2 d os
   replace j3 := fun d os => cell_regrown j3 d os
   replace j4 := fun d os => cell_regrown j4 d os
   have cq0 := Calls.regrE qs.out E0.out
   refine wp_region_quiet_below (by assumption) (by kernel_rfl) ?_
   repeat (go_big_quiet_step (first | (with_reducible exact cq0 _ _)))
   refine wpQuiet_nil ?_
   intro _ hw_
   obtain ⟨⟨dq_, osq_⟩, hw_'⟩ := hw_
   subst hw_'
   replace E := hide (E.out.trans (below_regrown _ dq_ osq_))
   clear cq0
   generalize grow (redrawn wr dq_) osq_ = W5 at E ⊢
   clear i0 i1 i2 i3 i4 j0 j1 j2 j3 j4
   go_wp2
   go_roundw
   case rel => exact ⟨k + 1, by omega, by go_num, E.out⟩
   case measure => simp [intOf]; omega
  ·obtain rfl : k = l.length := by omega
   replace E := hide E
   go_wp2
   go_ret
   exact ⟨rfl, E.out⟩
set_option maxRecDepth 20000 in
set_option maxHeartbeats 4000000 in
theorem DSameProg_eq (I : List InsS) (L : List StS) (a1 : Option Addr) (c1 : Nat) (a2 : Option Addr) (c2 : Nat) (b1 : Option Addr) (d1 : Nat) (b2 : Option Addr) (d2 : Nat) (w : World) (hI : I.length ≤ 16777216) (hL : L.length ≤ 16777216)
  (s1 : Sl EIns w (· < w.heap.size) a1 I) (s2 : Sl ESet w (· < w.heap.size) a2 L) (r1 : Sl EIns w (· < w.heap.size) b1 I) (r2 : Sl ESet w (· < w.heap.size) b2 L) :
  Calls Tryz.prog 27 #[.agg #[.slice a1 I.length c1, .slice a2 L.length c2], .agg #[.slice b1 I.length d1, .slice b2 L.length d2]] w fun e w' => e = .returned (.bool true) ∧ Ext w w' := by
 have mixed : Tryz.prog.follows Departure.mixedOrders = true := by kernel_rfl
 have heq := fun x W => run_neqIns W x
 have hgi : ∀ x y xs ys W, (eqGuard .neq 62 x y (.agg xs) (.agg ys)).run Tryz.prog W = .ok () W := fun x y xs ys W => run_eqGuard_agg W .neq _ x y xs ys Tryz.eqGuardType62
 replace s1 := hide s1
 replace s2 := hide s2
 replace r1 := hide r1
 replace r2 := hide r2
 replace heq := hide heq
 go_enter Tryz.func27, Tryz.ntmps27
 have S := (Blk.new w 56 #[.slice a1 I.length c1, .slice a2 L.length c2]).alloc (Obj.cells #[.slice b1 I.length d1, .slice b2 L.length d2] 56)
 have E := ((Ext.refl w).alloc (Obj.cells #[.slice a1 I.length c1, .slice a2 L.length c2] 56)).alloc (Obj.cells #[.slice b1 I.length d1, .slice b2 L.length d2] 56)
 have T := Blk.new (w.alloc (Obj.cells #[.slice a1 I.length c1, .slice a2 L.length c2] 56)) 56 #[.slice b1 I.length d1, .slice b2 L.length d2]
 rw [show (w.alloc (Obj.cells #[.slice a1 I.length c1, .slice a2 L.length c2] 56)).heap.size = w.heap.size + 1 by simp] at T
 generalize hW0 : (w.alloc (Obj.cells #[.slice a1 I.length c1, .slice a2 L.length c2] 56)).alloc (Obj.cells #[.slice b1 I.length d1, .slice b2 L.length d2] 56) = W0 at S E T
 generalize hg0 : w.heap.size = g0 at S T
 replace S := hide S
 replace E := hide E
 replace T := hide T
 have S_0 : W0.cell? ⟨g0, 0, none⟩ = some (.slice a1 I.length c1) := S.out.cell 0
 have S_1 : W0.cell? ⟨g0, 1, none⟩ = some (.slice a2 L.length c2) := S.out.cell 1
 have T_0 : W0.cell? ⟨g0 + 1, 0, none⟩ = some (.slice b1 I.length d1) := T.out.cell 0
 have T_1 : W0.cell? ⟨g0 + 1, 1, none⟩ = some (.slice b2 L.length d2) := T.out.cell 1
 go_wp2_with fail
 clear hW0 hg0
 go_loopw [5] (fun i wr => ∃ k : Nat, k ≤ I.length ∧ i = .int .i64 k ∧ Ext W0 wr) (fun i _ => I.length - (intOf i).toNat)
 case atStart => exact ⟨0, Nat.zero_le _, rfl, Ext.refl _⟩
 case round =>
  clear S_0 S_1 T_0 T_1
  obtain ⟨k, hk, rfl, hE⟩ := hrel
  rename World => W1
  have S : Blk W1 (g0) 56 #[.slice a1 I.length c1, .slice a2 L.length c2] := S.out.ext hE
  replace S := hide S
  have T : Blk W1 (g0 + 1) 56 #[.slice b1 I.length d1, .slice b2 L.length d2] := T.out.ext hE
  replace T := hide T
  have E1 := hide (E.out.trans hE)
  by_cases hlt : k < I.length
  ·obtain ⟨b, off, rfl, _, hin, hx⟩ := EIns.atQ (s1.out.ext E1.out) k hlt
   obtain ⟨b', off', rfl, _, _, hy⟩ := EIns.atQ (r1.out.ext E1.out) k hlt
   have x0 : W1.cell? ⟨b, off + k * 11, none⟩ = some (.int .i64 I[k].kind) := hx 0 _ rfl
   have y0 : W1.cell? ⟨b', off' + k * 11, none⟩ = some (.int .i64 I[k].kind) := hy 0 _ rfl
   have x1 : W1.cell? ⟨b, off + k * 11 + 1, none⟩ = some (.int .i64 I[k].cond.kind) := hx 1 _ rfl
   have y1 : W1.cell? ⟨b', off' + k * 11 + 1, none⟩ = some (.int .i64 I[k].cond.kind) := hy 1 _ rfl
   have x2 : W1.cell? ⟨b, off + k * 11 + 2, none⟩ = some (.bool I[k].cond.neg) := hx 2 _ rfl
   have y2 : W1.cell? ⟨b', off' + k * 11 + 2, none⟩ = some (.bool I[k].cond.neg) := hy 2 _ rfl
   have x3 : W1.cell? ⟨b, off + k * 11 + 3, none⟩ = some (.string ⟨I[k].cond.name.toArray⟩) := hx 3 _ rfl
   have y3 : W1.cell? ⟨b', off' + k * 11 + 3, none⟩ = some (.string ⟨I[k].cond.name.toArray⟩) := hy 3 _ rfl
   have x4 : W1.cell? ⟨b, off + k * 11 + 4, none⟩ = some (.int .i64 I[k].cond.n) := hx 4 _ rfl
   have y4 : W1.cell? ⟨b', off' + k * 11 + 4, none⟩ = some (.int .i64 I[k].cond.n) := hy 4 _ rfl
   have x5 : W1.cell? ⟨b, off + k * 11 + 5, none⟩ = some (.int .i64 I[k].act.kind) := hx 5 _ rfl
   have y5 : W1.cell? ⟨b', off' + k * 11 + 5, none⟩ = some (.int .i64 I[k].act.kind) := hy 5 _ rfl
   have x6 : W1.cell? ⟨b, off + k * 11 + 6, none⟩ = some (.string ⟨I[k].act.name.toArray⟩) := hx 6 _ rfl
   have y6 : W1.cell? ⟨b', off' + k * 11 + 6, none⟩ = some (.string ⟨I[k].act.name.toArray⟩) := hy 6 _ rfl
   have x7 : W1.cell? ⟨b, off + k * 11 + 7, none⟩ = some (.int .u32 (I[k].act.n.toNat : Int)) := hx 7 _ rfl
   have y7 : W1.cell? ⟨b', off' + k * 11 + 7, none⟩ = some (.int .u32 (I[k].act.n.toNat : Int)) := hy 7 _ rfl
   have x8 : W1.cell? ⟨b, off + k * 11 + 8, none⟩ = some (.string ⟨I[k].act.addr.toArray⟩) := hx 8 _ rfl
   have y8 : W1.cell? ⟨b', off' + k * 11 + 8, none⟩ = some (.string ⟨I[k].act.addr.toArray⟩) := hy 8 _ rfl
   have x9 : W1.cell? ⟨b, off + k * 11 + 9, none⟩ = some (.int .i64 I[k].to) := hx 9 _ rfl
   have y9 : W1.cell? ⟨b', off' + k * 11 + 9, none⟩ = some (.int .i64 I[k].to) := hy 9 _ rfl
   have x10 : W1.cell? ⟨b, off + k * 11 + 10, none⟩ = some (.int .i64 I[k].n) := hx 10 _ rfl
   have y10 : W1.cell? ⟨b', off' + k * 11 + 10, none⟩ = some (.int .i64 I[k].n) := hy 10 _ rfl
   have heq' := fun W => heq.out I[k] W
   clear hx hy hin
   generalize I[k] = x at *
   have S_0 : W1.cell? ⟨g0, 0, none⟩ = some (.slice (some ⟨b, off, none⟩) I.length c1) := S.out.cell 0
   have S_1 : W1.cell? ⟨g0, 1, none⟩ = some (.slice a2 L.length c2) := S.out.cell 1
   have T_0 : W1.cell? ⟨g0 + 1, 0, none⟩ = some (.slice (some ⟨b', off', none⟩) I.length d1) := T.out.cell 0
   have T_1 : W1.cell? ⟨g0 + 1, 1, none⟩ = some (.slice b2 L.length d2) := T.out.cell 1
   replace hE := hide hE
   go_wp2_with fail
   go_region
   go_wp2
   go_roundw
   case rel => exact ⟨k + 1, by omega, by go_num, hE.out.drew⟩
   case measure => simp [intOf]; omega
  ·obtain rfl : k = I.length := by omega
   clear hlt hk s1 r1 heq
   replace hE := hide hE
   have S_0 : W1.cell? ⟨g0, 0, none⟩ = some (.slice a1 I.length c1) := S.out.cell 0
   have S_1 : W1.cell? ⟨g0, 1, none⟩ = some (.slice a2 L.length c2) := S.out.cell 1
   have T_0 : W1.cell? ⟨g0 + 1, 0, none⟩ = some (.slice b1 I.length d1) := T.out.cell 0
   have T_1 : W1.cell? ⟨g0 + 1, 1, none⟩ = some (.slice b2 L.length d2) := T.out.cell 1
   go_wp2_with fail
   go_loopw [6] (fun i wr => ∃ k : Nat, k ≤ L.length ∧ i = .int .i64 k ∧ Ext W1 wr) (fun i _ => L.length - (intOf i).toNat)
   case atStart => exact ⟨0, Nat.zero_le _, rfl, Ext.refl _⟩
   case round =>
    clear S_0 S_1 T_0 T_1
    obtain ⟨k, hk, rfl, hF⟩ := hrel
    rename World => W2
    have S : Blk W2 (g0) 56 #[.slice a1 I.length c1, .slice a2 L.length c2] := S.out.ext hF
    replace S := hide S
    have T : Blk W2 (g0 + 1) 56 #[.slice b1 I.length d1, .slice b2 L.length d2] := T.out.ext hF
    replace T := hide T
    have E2 := hide (E1.out.trans hF)
    by_cases hlt : k < L.length
    ·obtain ⟨e1, o1, z1, q1, z2, q2, z3, q3, rfl, hi, i0, i1, i2, i3, i4⟩ := ESet.at16 (s2.out.ext E2.out) k hlt
     obtain ⟨e2, o2, x1, y1, x2, y2, x3, y3, rfl, hj, j0, j1, j2, j3, j4⟩ := ESet.at16 (r2.out.ext E2.out) k hlt
     generalize L[k] = s at *
     have qs := fun W (h : Ext W2 W) => DSameSet_any s s z1 q1 z2 q2 z3 q3 x1 y1 x2 y2 x3 y3 W (hi.ext h) (hj.ext h)
     simp only [decide_true] at qs
     have E5 := hide (Ext.refl W2)
     generalize s.name = nm at *
     generalize s.kind = kd at *
     generalize s.items.length = n1 at *
     generalize s.comms.length = n2 at *
     generalize s.paths.length = n3 at *
     clear hi hj
     have S_0 : W2.cell? ⟨g0, 0, none⟩ = some (.slice a1 I.length c1) := S.out.cell 0
     have S_1 : W2.cell? ⟨g0, 1, none⟩ = some (.slice (some ⟨e1, o1, none⟩) L.length c2) := S.out.cell 1
     have T_0 : W2.cell? ⟨g0 + 1, 0, none⟩ = some (.slice b1 I.length d1) := T.out.cell 0
     have T_1 : W2.cell? ⟨g0 + 1, 1, none⟩ = some (.slice (some ⟨e2, o2, none⟩) L.length d2) := T.out.cell 1
     have hF' := hide hF
     clear hF
     replace qs := hide qs
     go_wp2_with fail
     clear S_0 S_1 T_0 T_1
     replace i0 := fun d os => cell_regrown i0 d os
     replace i1 := fun d os => cell_regrown i1 d os
     replace i2 := fun d os => cell_regrown i2 d os
     replace i3 := fun d os => cell_regrown i3 d os
     replace i4 := fun d os => cell_regrown i4 d os
     replace j0 := fun d os => cell_regrown j0 d os
     replace j1 := fun d os => cell_regrown j1 d os
     replace j2 := fun d os => cell_regrown j2 d os
     replace j3 := fun d os => cell_regrown j3 d os
     replace j4 := fun d os => cell_regrown j4 d os
     have S_0 : ∀ d os, (grow (redrawn W2 d) os).cell? ⟨g0, 0, none⟩ = some (.slice a1 I.length c1) := cell_regrown (S.out.cell 0)
     have S_1 : ∀ d os, (grow (redrawn W2 d) os).cell? ⟨g0, 1, none⟩ = some (.slice (some ⟨e1, o1, none⟩) L.length c2) := cell_regrown (S.out.cell 1)
     have T_0 : ∀ d os, (grow (redrawn W2 d) os).cell? ⟨g0 + 1, 0, none⟩ = some (.slice b1 I.length d1) := cell_regrown (T.out.cell 0)
     have T_1 : ∀ d os, (grow (redrawn W2 d) os).cell? ⟨g0 + 1, 1, none⟩ = some (.slice (some ⟨e2, o2, none⟩) L.length d2) := cell_regrown (T.out.cell 1)
     have cq0 := Calls.regrE qs.out E5.out
     refine wp_region_quiet_below (by assumption) (by kernel_rfl) ?_
     repeat (go_big_quiet_step (first | (with_reducible exact cq0 _ _)))
     refine wpQuiet_nil ?_
     intro _ hw_
     obtain ⟨⟨dq_, osq_⟩, hw_'⟩ := hw_
     subst hw_'
     replace hF' := hide (hF'.out.trans (below_regrown _ dq_ osq_))
     replace S := hide (S.out.ext (below_regrown _ dq_ osq_))
     replace T := hide (T.out.ext (below_regrown _ dq_ osq_))
     clear S_0 S_1 T_0 T_1
     clear cq0
     generalize grow (redrawn W2 dq_) osq_ = W5 at hF' S T ⊢
     have S_0 : W5.cell? ⟨g0, 0, none⟩ = some (.slice a1 I.length c1) := S.out.cell 0
     have S_1 : W5.cell? ⟨g0, 1, none⟩ = some (.slice (some ⟨e1, o1, none⟩) L.length c2) := S.out.cell 1
     have T_0 : W5.cell? ⟨g0 + 1, 0, none⟩ = some (.slice b1 I.length d1) := T.out.cell 0
     have T_1 : W5.cell? ⟨g0 + 1, 1, none⟩ = some (.slice (some ⟨e2, o2, none⟩) L.length d2) := T.out.cell 1
     clear i0 i1 i2 i3 i4 j0 j1 j2 j3 j4
     go_wp2
     go_roundw
     case rel => exact ⟨k + 1, by omega, by go_num, hF'.out⟩
     case measure => simp [intOf]; omega
    ·obtain rfl : k = L.length := by omega
     replace hF := hide hF
     have S_0 : W2.cell? ⟨g0, 0, none⟩ = some (.slice a1 I.length c1) := S.out.cell 0
     have S_1 : W2.cell? ⟨g0, 1, none⟩ = some (.slice a2 L.length c2) := S.out.cell 1
     have T_0 : W2.cell? ⟨g0 + 1, 0, none⟩ = some (.slice b1 I.length d1) := T.out.cell 0
     have T_1 : W2.cell? ⟨g0 + 1, 1, none⟩ = some (.slice b2 L.length d2) := T.out.cell 1
     go_wp2
     go_ret
     exact ⟨rfl, E2.out⟩
end
section
section
open Go.RowKit
set_option linter.unusedVariables false
/-- A bound whose literal the walk does not see. -/
structure Tiny (n : Nat) : Prop where
  out : n ≤ 16777216
theorem Own.asideS {α : Type} {E : Enc α} {e : TypeId} {w : World} {B : Nat} {v : Value} {l : List α} (h : Own E e w B v l) {p : Addr} (hp : p.block < B) (u : Value) : Own E e (w.setCell p u) B v l :=
 h.kept (Nat.le_of_eq (by simp)) fun b hb _ => Below.heap_setCell w p u b (by omega)
theorem ext_pushNilT {w w' : World} (hg : w.grownBy w' (Value.slice none 0 0).ownBlock) : Ext w w' := (Ext.refl w).grown hg (fun k hk => by cases hk)
theorem ECond_one : ∀ x : CondS, ∀ u ∈ condCs x, u.oneCell' = true := fun x u hu => by
 simp only [condCs, List.mem_cons, List.not_mem_nil, or_false] at hu; rcases hu with rfl | rfl | rfl | rfl <;> rfl
theorem EAct_one : ∀ x : ActS, ∀ u ∈ actCs x, u.oneCell' = true := fun x u hu => by
 simp only [actCs, List.mem_cons, List.not_mem_nil, or_false] at hu; rcases hu with rfl | rfl | rfl | rfl <;> rfl
theorem okCondN : ElemOk Tryz.prog 22 48 4 40 := okCond
theorem okActN : ElemOk Tryz.prog 23 51 4 48 := okAct
set_option maxHeartbeats 4000000 in
theorem DOwnTerm_any (a1 : Option Addr) (c1 : Nat) (a2 : Option Addr) (c2 : Nat) (t : TermS) (w : World)
    (ht1 : t.conds.length ≤ 16777216) (ht2 : t.acts.length ≤ 16777216)
    (s1 : Sl ECond w (· < w.heap.size) a1 t.conds) (s2 : Sl EAct w (· < w.heap.size) a2 t.acts) :
    Calls Tryz.prog 11 #[.agg #[.slice a1 t.conds.length c1, .slice a2 t.acts.length c2]] w fun e w' => ∃ v1 v2, e = .returned (.agg #[v1, v2]) ∧ Own ECond 48 w' w.heap.size v1 t.conds ∧ Own EAct 51 w' w.heap.size v2 t.acts ∧ Ext w w' := by
  have S := (Blk.new w 25 #[.slice a1 t.conds.length c1, .slice a2 t.acts.length c2]).alloc (Obj.cells #[.slice none 0 0, .slice none 0 0] 25)
  have R := Blk.new (w.alloc (Obj.cells #[.slice a1 t.conds.length c1, .slice a2 t.acts.length c2] 25)) 25 #[.slice none 0 0, .slice none 0 0]
  have E := ((Ext.refl w).alloc (Obj.cells #[.slice a1 t.conds.length c1, .slice a2 t.acts.length c2] 25)).alloc (Obj.cells #[.slice none 0 0, .slice none 0 0] 25)
  have hz : (w.alloc (Obj.cells #[.slice a1 t.conds.length c1, .slice a2 t.acts.length c2] 25)).heap.size = w.heap.size + 1 := by simp
  rw [hz] at R
  have hzz : ((w.alloc (Obj.cells #[.slice a1 t.conds.length c1, .slice a2 t.acts.length c2] 25)).alloc (Obj.cells #[.slice none 0 0, .slice none 0 0] 25)).heap.size = w.heap.size + 2 := by simp
  generalize hW0 : (w.alloc (Obj.cells #[.slice a1 t.conds.length c1, .slice a2 t.acts.length c2] 25)).alloc (Obj.cells #[.slice none 0 0, .slice none 0 0] 25) = W0 at S R E hzz
  have z1 := s1.ext E
  generalize hg0 : w.heap.size = g0 at S R hzz
  have hgw : w.heap.size ≤ g0 := Nat.le_of_eq hg0
  have hgw1 : w.heap.size ≤ g0 + 1 := by omega
  have m0 := S.cell 0
  have m1 := S.cell 1
  have mf := fun i => S.frozen i
  simp at m0 m1
  replace s1 := hide s1
  replace s2 := hide s2
  replace z1 := hide z1
  replace S := hide S
  replace R := hide R
  replace E := hide E
  replace hgw := hide hgw
  replace hgw1 := hide hgw1
  replace hzz := hide hzz
  go_enter Tryz.func11, Tryz.ntmps11
  have z2 : Sl (Enc.cells condCs CondIn 4 (fun _ => rfl) ECond_one) W0 (· < W0.heap.size) a1 t.conds := z1.out
  replace z2 := hide z2
  replace ht1 : Tiny t.conds.length := ⟨ht1⟩
  replace ht2 : Tiny t.acts.length := ⟨ht2⟩
  clear z1
  have tok1 := hide hgw.out
  go_wp2_with (
    first
    | (
       at_builtin
       have tok2 := tok1; clear tok1
       go_must (refine wpList_pushesC (f := condCs) (P := CondIn) (n := 4) (hn := fun _ => rfl) (h1 := ECond_one) (B := W0.heap.size) (v := .slice none 0 0) (l := []) (l2 := t.conds) (a := a1) (c := c1) rfl _ _ _ rfl (by decide) okCondN (by decide) rfl Own.nil (Nat.le_refl _) rfl (by rw [List.length_nil, Nat.zero_add]; have := ht1.out; omega) z2.out ?_)
       intro v1 w1 hown1 hg1 hat1
       have he1 := ext_pushNilT hg1
       have hO1 : Own ECond 48 w1 W0.heap.size v1 t.conds := hown1
       clear hat1 hg1 hown1 z2 m0 m1 mf
       have S1 := S.out.ext he1
       have R1 := R.out.ext he1
       have E1 := E.out.trans he1
       have mf := fun i => S1.frozen i
       have m0 := S1.cell 0
       have m1 := S1.cell 1
       simp at m0 m1
       have hs1 := he1.size
       clear he1
       obtain ⟨x1, d1, rfl⟩ := hO1.form
       replace S1 := hide S1; replace R1 := hide R1; replace E1 := hide E1; replace hO1 := hide hO1; replace hs1 := hide hs1
       clear S R E)
    | (
       at_builtin
       have tok3 := tok2; clear tok2
       have S2 : Blk (w1.setCell ⟨g0, 0, none⟩ (.slice x1 t.conds.length d1)) g0 25 #[(.slice x1 t.conds.length d1), .slice a2 t.acts.length c2] := S1.out.set_ 0 _
       have R2 := R1.out.far (p := ⟨g0, 0, none⟩) (show g0 + 1 ≠ g0 by omega) (.slice x1 t.conds.length d1)
       have E2 := E1.out.setCell (p := ⟨g0, 0, none⟩) hgw.out (.slice x1 t.conds.length d1)
       have O1 := hO1.out.asideS (p := ⟨g0, 0, none⟩) (show g0 < W0.heap.size by have := hzz.out; omega) (.slice x1 t.conds.length d1)
       have y2 : Sl (Enc.cells actCs ActIn 4 (fun _ => rfl) EAct_one) (w1.setCell ⟨g0, 0, none⟩ (.slice x1 t.conds.length d1)) (· < (w1.setCell ⟨g0, 0, none⟩ (.slice x1 t.conds.length d1)).heap.size) a2 t.acts := s2.out.ext E2
       have hs2 : W0.heap.size ≤ (w1.setCell ⟨g0, 0, none⟩ (.slice x1 t.conds.length d1)).heap.size := by have := hs1.out; simpa using this
       go_must (refine wpList_pushesC (f := actCs) (P := ActIn) (n := 4) (hn := fun _ => rfl) (h1 := EAct_one) (B := (w1.setCell ⟨g0, 0, none⟩ (.slice x1 t.conds.length d1)).heap.size) (v := .slice none 0 0) (l := []) (l2 := t.acts) (a := a2) (c := c2) rfl _ _ _ rfl (by decide) okActN (by decide) rfl Own.nil (Nat.le_refl _) rfl (by rw [List.length_nil, Nat.zero_add]; have := ht2.out; omega) y2 ?_)
       intro v2 w2 hown2 hg2 hat2
       have he2 := ext_pushNilT hg2
       have hO2 : Own EAct 51 w2 (w1.setCell ⟨g0, 0, none⟩ (.slice x1 t.conds.length d1)).heap.size v2 t.acts := hown2
       clear hat2 hg2 hown2 y2 m0 m1 mf
       have S3 := S2.ext he2
       have R3 := R2.ext he2
       have E3 := E2.trans he2
       have O3 := O1.ext he2
       have mf := fun i => S3.frozen i
       have nf := fun i => R3.frozen i
       have m0 := S3.cell 0
       have m1 := S3.cell 1
       have n0 := R3.cell 0
       have n1 := R3.cell 1
       simp at m0 m1 n0 n1
       obtain ⟨x2, d2, rfl⟩ := hO2.form
       replace hO2 := hide (hO2.low hs2)
       clear he2 S2 R2 E2 O1 hO1 hs1 hs2 S1 R1 E1
       replace S3 := hide S3; replace R3 := hide R3; replace E3 := hide E3; replace O3 := hide O3))
  have l0 : g0 < W0.heap.size := by have := hzz.out; omega
  have l1 : g0 + 1 < W0.heap.size := by have := hzz.out; omega
  have P1 := ((O3.out.asideS (p := ⟨g0, 1, none⟩) l0 (.slice x2 t.acts.length d2)).asideS (p := ⟨g0 + 1, 0, none⟩) l1 (.slice x1 t.conds.length d1)).asideS (p := ⟨g0 + 1, 1, none⟩) l1 (.slice x2 t.acts.length d2)
  have P2 := ((hO2.out.asideS (p := ⟨g0, 1, none⟩) l0 (.slice x2 t.acts.length d2)).asideS (p := ⟨g0 + 1, 0, none⟩) l1 (.slice x1 t.conds.length d1)).asideS (p := ⟨g0 + 1, 1, none⟩) l1 (.slice x2 t.acts.length d2)
  have PE := ((E3.out.setCell (p := ⟨g0, 1, none⟩) hgw.out (.slice x2 t.acts.length d2)).setCell (p := ⟨g0 + 1, 0, none⟩) hgw1.out (.slice x1 t.conds.length d1)).setCell (p := ⟨g0 + 1, 1, none⟩) hgw1.out (.slice x2 t.acts.length d2)
  have PR : Blk (((w2.setCell ⟨g0, 1, none⟩ (.slice x2 t.acts.length d2)).setCell ⟨g0 + 1, 0, none⟩ (.slice x1 t.conds.length d1)).setCell ⟨g0 + 1, 1, none⟩ (.slice x2 t.acts.length d2)) (g0 + 1) 25 #[.slice x1 t.conds.length d1, .slice x2 t.acts.length d2] :=
    ((R3.out.far (p := ⟨g0, 1, none⟩) (show g0 + 1 ≠ g0 by omega) _).set_ 0 _).set_ 1 _
  clear m0 m1 n0 n1 mf nf S3 R3 E3 O3 hO2
  generalize ((w2.setCell ⟨g0, 1, none⟩ (.slice x2 t.acts.length d2)).setCell ⟨g0 + 1, 0, none⟩ (.slice x1 t.conds.length d1)).setCell ⟨g0 + 1, 1, none⟩ (.slice x2 t.acts.length d2) = W3 at P1 P2 PE PR ⊢
  have z0 : W3.cell? ⟨g0 + 1, 0, none⟩ = some (.slice x1 t.conds.length d1) := PR.cell 0
  have z1 : W3.cell? ⟨g0 + 1, 1, none⟩ = some (.slice x2 t.acts.length d2) := PR.cell 1
  exact bodyPost_ret (v := .agg #[.slice x1 t.conds.length d1, .slice x2 t.acts.length d2]) (by simp [results, Tryz.results11, go_sem, z0, z1]) rfl ⟨_, _, rfl, P1.low (Nat.le_of_lt l0), P2.low (Nat.le_of_lt l0), PE⟩
end
section
open Go.RowKit
set_option linter.unusedVariables false
attribute [local go_sem ↓] Go.wp_at_zero Go.wp_at_succ
end
section
open Go.RowKit
set_option linter.unusedVariables false
attribute [local go_sem ↓] Go.wp_at_zero Go.wp_at_succ
end
section
open Go.RowKit
set_option linter.unusedVariables false
set_option linter.unusedSimpArgs false
attribute [local go_sem ↓] Go.wp_at_zero Go.wp_at_succ
end
section
open Go.RowKit
set_option linter.unusedVariables false
end
end
section
section
open Go.RowKit Go.Sort
set_option linter.unusedVariables false
theorem insP_len (p : PolS) : (insP p).length = (insL 0 p.terms).length + 1 := by unfold insP; simp
end
section
open Go.RowKit Go.Sort
set_option linter.unusedVariables false
/-- The cells of a row, one after the other. -/
theorem Sl.cells {α : Type} {E : Enc α} {w : World} {S : Nat → Prop} {a : Option Addr} {l : List α} (h : Sl E w S a l) :
    ∃ ys : List Value, ys.length = l.length * E.sz ∧ (∀ u ∈ ys, u.oneCell' = true) ∧ (a = none → l.length = 0) ∧ (∀ ad, a = some ad → ∀ j u, ys[j]? = some u → w.cell? (ad.add j) = some u) ∧
      ∀ k x, l[k]? = some x → ∃ cs, E.R w S x cs ∧ ∀ j u, cs[j]? = some u → ys[k * E.sz + j]? = some u := by
  rcases h with h | ⟨b, off, rfl, hb, h⟩
  · subst h
    exact ⟨([] : List Value), by simp, (fun u hu => absurd hu List.not_mem_nil), (fun _ => rfl), (fun ad _ j u hu => by simp at hu), (fun k x hx => by simp at hx)⟩
  have h' : ∀ k (hk : k < l.length), ∃ cs, E.R w S l[k] cs ∧ ∀ j u, cs[j]? = some u → w.cell? ⟨b, off + k * E.sz + j, none⟩ = some u := fun k hk => h k l[k] (List.getElem?_eq_getElem hk)
  obtain ⟨f, hf⟩ : ∃ f : Nat → List Value, ∀ k, (f k).length = E.sz ∧ ∀ (hk : k < l.length), E.R w S l[k] (f k) ∧ ∀ j u, (f k)[j]? = some u → w.cell? ⟨b, off + k * E.sz + j, none⟩ = some u := by
    refine ⟨fun k => if hk : k < l.length then (h' k hk).choose else List.replicate E.sz undef, fun k => ?_⟩
    by_cases hk : k < l.length
    · simp only [dif_pos hk]
      exact ⟨E.size (h' k hk).choose_spec.1, fun _ => (h' k hk).choose_spec⟩
    · simp only [dif_neg hk]
      exact ⟨List.length_replicate, fun hk' => absurd hk' hk⟩
  have hn := fun k => (hf k).1
  have hget : ∀ k j, k < l.length → j < E.sz → ((List.range l.length).flatMap f)[k * E.sz + j]? = (f k)[j]? := fun k j hk hj => by
    have := flat_get f E.sz hn (List.range l.length) k j (by simpa using hk) hj
    simpa using this
  refine ⟨(List.range l.length).flatMap f, by rw [flatC_len f E.sz hn]; simp, fun u hu => ?_, fun e => (by cases e), fun ad he j u hj => ?_, fun k x hx => ?_⟩
  · obtain ⟨k, hk, hu⟩ := List.mem_flatMap.1 hu
    have hk := List.mem_range.1 hk
    exact E.one ((hf k).2 hk).1 u hu
  · injection he with he
    subst he
    have hlt := (List.getElem?_eq_some_iff.1 hj).1
    rw [flatC_len f E.sz hn, List.length_range] at hlt
    have hz : 0 < E.sz := by
      rcases Nat.eq_zero_or_pos E.sz with h0 | h0
      · rw [h0, Nat.mul_zero] at hlt; omega
      · exact h0
    have hk : j / E.sz < l.length := Nat.div_lt_of_lt_mul (by rw [Nat.mul_comm]; exact hlt)
    have hjm : j % E.sz < E.sz := Nat.mod_lt _ hz
    have he : j / E.sz * E.sz + j % E.sz = j := by rw [Nat.mul_comm]; exact Nat.div_add_mod j E.sz
    have h2 := hget (j / E.sz) (j % E.sz) hk hjm
    rw [he, hj] at h2
    have h3 := ((hf (j / E.sz)).2 hk).2 _ u h2.symm
    rw [add_lit, show off + j = off + j / E.sz * E.sz + j % E.sz by omega]
    exact h3
  · have hk : k < l.length := (List.getElem?_eq_some_iff.1 hx).1
    obtain rfl : l[k] = x := by rw [List.getElem?_eq_getElem hk] at hx; exact Option.some.inj hx
    refine ⟨f k, ((hf k).2 hk).1, fun j u hj => ?_⟩
    have hj' : j < E.sz := by
      have := (List.getElem?_eq_some_iff.1 hj).1
      rw [hn] at this
      exact this
    rw [hget k j hk hj']
    exact hj
end
end
end Go.Proofs.YtljibkfbldjgdaaGreatDoor
