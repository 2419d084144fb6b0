/- The walk of SetsKnown. -/
import Derived.Test.YtoghdmoldcjedaaGreatDoorYI
import Derived.Test.YtoghdmoldcjedaaGreatDoorVJ
namespace Go.Proofs.YtoghdmoldcjedaaGreatDoor
open Go.RowKit Go.Sort
set_option linter.unusedVariables false

theorem sl_oneU {w : World} {g : Nat} {x : UInt32} (h : Blk w g 37 #[.int .u32 (x.toNat : Int)]) : Sl EU32 w (· < w.heap.size) (some ⟨g, 0, none⟩) [x] := by
  refine .inr ⟨g, 0, rfl, h.lt, fun k y hy => ?_⟩
  match k, hy with
  | 0, hy =>
    injection hy with hy
    subst hy
    refine ⟨_, ⟨rfl, trivial⟩, fun j u hu => ?_⟩
    match j, hu with
    | 0, hu => rw [← hu]; exact h.cell 0
    | j + 1, hu => cases hu
  | k + 1, hy => cases hy
theorem sl_atm {w : World} {g : Nat} {x : Int} {y : UInt32} (h : Blk w g 40 #[.int .i64 x, .int .u32 (y.toNat : Int)]) (hx : i64 x) : Sl EAtm w (· < w.heap.size) (some ⟨g, 0, none⟩) [(x, y)] := by
  refine .inr ⟨g, 0, rfl, h.lt, fun k z hz => ?_⟩
  match k, hz with
  | 0, hz =>
    injection hz with hz
    subst hz
    refine ⟨_, ⟨rfl, hx⟩, fun j u hu => ?_⟩
    match j, hu with
    | 0, hu => rw [← hu]; exact h.cell 0
    | 1, hu => rw [← hu]; exact h.cell 1
    | j + 2, hu => cases hu
  | k + 1, hz => cases hz
set_option maxRecDepth 20000 in
set_option maxHeartbeats 4000000 in
theorem SetsKnown_walk (w : World) (hT : Tab w) (hD : Deb w) (hV : Vars w) : Calls Tryz.prog 7 #[] w fun e w' => e = .returned (.bool true) ∧ Ext w w' := by
  have mixed : Tryz.prog.follows Departure.mixedOrders = true := by kernel_rfl
  have qw := fun W (h : Ext w W) => LWorks_any W (hT.ext h) (hD.ext h) (hV.ext h)
  have qp := fun (s : List UInt8) (hs : s.length ≤ 1048576) W (h : Ext w W) => SParse_any s hs W (hT.ext h) (hV.ext h)
  have qbad : ∀ s ∈ badT, ∀ W, Ext w W → Calls Tryz.prog 27 #[.string ⟨s.toArray⟩] W fun e w' => ∃ v, e = .returned (.tuple #[v, .int .i64 4]) ∧ Ext W w' := fun s hs W h => (qp s (by revert s; decide) W h).mono fun e w' hq => by
    obtain ⟨⟨v, he, _⟩, hE⟩ := hq
    rw [badT_p s hs] at he
    exact ⟨v, he, hE⟩
  have hTab := fun W (h : Ext w W) => hT.ext h
  have qk := fun lo hi W (h : Ext w W) => Known1_any lo hi W (hT.ext h) (hD.ext h) (hV.ext h)
  have q0 := fun W (h : Ext w W) => LP_any t8 ex8 0 (by decide) ex8_p W (hT.ext h) (hD.ext h) (hV.ext h)
  simp only [ex8, t8] at q0
  clear hT hD hV
  replace qw := hide qw
  replace qp := hide qp
  replace qbad := hide qbad
  replace hTab := hide hTab
  replace qk := hide qk
  replace q0 := hide q0
  go_enter Tryz.func7, Tryz.ntmps7
  have B := Blk.new w 9 #[.string ⟨#[]⟩, .string ⟨#[48]⟩, .string ⟨#[48, 49]⟩, .string ⟨#[49, 32, 32, 50]⟩, .string ⟨#[52, 50, 57, 52, 57, 54, 55, 50, 57, 54]⟩, .string ⟨#[49, 32]⟩, .string ⟨#[45, 49]⟩, .string ⟨#[45, 32, 49]⟩, .string ⟨#[43]⟩]
  have E := (Ext.refl w).alloc (Obj.cells #[.string ⟨#[]⟩, .string ⟨#[48]⟩, .string ⟨#[48, 49]⟩, .string ⟨#[49, 32, 32, 50]⟩, .string ⟨#[52, 50, 57, 52, 57, 54, 55, 50, 57, 54]⟩, .string ⟨#[49, 32]⟩, .string ⟨#[45, 49]⟩, .string ⟨#[45, 32, 49]⟩, .string ⟨#[43]⟩] 9)
  generalize hW : w.alloc (Obj.cells #[.string ⟨#[]⟩, .string ⟨#[48]⟩, .string ⟨#[48, 49]⟩, .string ⟨#[49, 32, 32, 50]⟩, .string ⟨#[52, 50, 57, 52, 57, 54, 55, 50, 57, 54]⟩, .string ⟨#[49, 32]⟩, .string ⟨#[45, 49]⟩, .string ⟨#[45, 32, 49]⟩, .string ⟨#[43]⟩] 9) = W1 at B E
  generalize hg : w.heap.size = g1 at B
  have hc : ∀ k (h : k < 9), W1.cell? ⟨g1, k, none⟩ = some (.string ⟨(badT[k]'(by exact h)).toArray⟩) := fun k h => (B.cell k).trans (match k, h with
    | 0, _ => rfl
    | 1, _ => rfl
    | 2, _ => rfl
    | 3, _ => rfl
    | 4, _ => rfl
    | 5, _ => rfl
    | 6, _ => rfl
    | 7, _ => rfl
    | 8, _ => rfl)
  clear B
  replace E := hide E
  replace hc := hide hc
  go_wp2_with fail
  clear hW hg
  go_loopw [24] (fun q wr => ∃ k : Nat, k ≤ 9 ∧ q = .int .i64 (k : Int) ∧ Ext W1 wr) (fun q _ => 9 - (intOf q).toNat)
  case atStart => exact ⟨0, by omega, rfl, Ext.refl _⟩
  case round =>
    obtain ⟨k, hk, rfl, hE⟩ := hrel
    rename World => W2
    by_cases hlt : k < 9
    · have x0 : W2.cell? ⟨g1, k, none⟩ = some (.string ⟨(badT[k]'(by exact hlt)).toArray⟩) := hE.cell (hc.out k hlt)
      have q1 := qbad.out _ (List.getElem_mem (by exact hlt)) W2 (E.out.trans hE)
      generalize (badT[k]'(by exact hlt)) = S at x0 q1
      replace q1 := hide q1
      replace hE := hide hE
      go_wp2_with fail
      refine q1.out.mono ?_
      rintro e W3 ⟨v, rfl, hE3⟩
      replace hE := hide (hE.out.trans hE3)
      clear hE3
      go_wp2_with fail
      go_roundw
      case rel => exact ⟨k + 1, by omega, by go_num, hE.out⟩
      case measure => simp [intOf]; omega
    · obtain rfl : k = 9 := by omega
      clear hlt hk hc qbad
      replace E := hide (E.out.trans hE)
      clear hE
      go_wp2_with fail
      refine (qp.out [45] (by decide) _ E.out).mono ?_
      rintro e W4 ⟨⟨v4, rfl, o4⟩, E4⟩
      rw [none_p] at o4 ⊢
      obtain ⟨a4, c4, rfl⟩ := o4.form
      rw [show ([] : List Atm).length = 0 from rfl] at o4 ⊢
      replace E := hide (E.out.trans E4)
      clear E4
      replace o4 := hide o4
      go_wp2_with fail
      refine (qp.out bigT (by decide) _ E.out).mono ?_
      rintro e W5 ⟨⟨v5, rfl, o5⟩, E5⟩
      rw [big_p.1]
      obtain ⟨hb1, hb2, hb3⟩ := big_p
      generalize (parseA bigT).1 = big at o5 hb2 hb3
      obtain ⟨a5, c5, rfl⟩ := o5.form
      replace E := hide (E.out.trans E5)
      replace o4 := hide (o4.out.ext E5)
      have qt := fun W (h : Ext W5 W) (hT : Tab W) => Text_any a5 c5 big W hT (by rw [hb3]; decide) ((o5.ext h).slAt.mono fun _ h => h.2)
      rw [hb2] at qt
      simp only [bigT] at qt
      clear E5 hb1
      clear hb2
      replace o5 := hide o5
      replace qt := hide qt
      replace hb3 := hide hb3
      go_wp2_with fail
      refine (qt.out _ (Ext.refl _) (hTab.out _ E.out)).mono ?_
      rintro e W6 ⟨rfl, E6⟩
      replace E := hide (E.out.trans E6)
      replace o4 := hide (o4.out.ext E6)
      replace o5 := hide (o5.out.ext E6)
      clear E6 qt
      go_wp2_with fail
      have k1 := fun W (h : Ext W6 W) => Match_any a4 none c4 0 [] [] W (by decide) (by decide) ((o4.out.ext h).slAt.mono fun _ h => h.2) Sl.nil
      rw [m_none] at k1
      simp only [List.length_nil] at k1
      have k2 := fun g W (hB : Blk W g 37 #[.int .u32 1]) (h : Ext W6 W) => Match_any a4 (some ⟨g, 0, none⟩) c4 1 [] [1] W (by decide) (by decide) ((o4.out.ext h).slAt.mono fun _ h => h.2) (sl_oneU hB)
      rw [m_none1] at k2
      simp only [List.length_nil, List.length_cons, Nat.zero_add] at k2
      replace k1 := hide k1
      replace k2 := hide k2
      refine (k1.out _ (Ext.refl _)).mono ?_
      rintro e W7 ⟨rfl, E7⟩
      have B8 := Blk.new W7 37 #[.int .u32 1]
      replace E7 := hide (E7.alloc (Obj.cells #[.int .u32 1] 37))
      replace B8 := hide B8
      go_wp2_with fail
      refine (k2.out _ _ B8.out E7.out).mono ?_
      rintro e W8 ⟨rfl, E8⟩
      replace E8 := hide (E7.out.trans E8)
      clear E7 B8 k1 k2
      have B9 := Blk.new W8 40 #[.int .i64 3, .int .u32 0]
      have k3 := Match_any (some ⟨W8.heap.size, 0, none⟩) none 1 0 [(3, 0)] [] _ (by decide) (by decide) (sl_atm B9 ⟨by decide, by decide⟩) Sl.nil
      rw [m_many] at k3
      simp only [List.length_nil, List.length_cons, Nat.zero_add] at k3
      replace E8 := hide (E8.out.alloc (Obj.cells #[.int .i64 3, .int .u32 0] 40))
      replace k3 := hide k3
      replace B9 := hide B9
      go_wp2_with fail
      refine k3.out.mono ?_
      rintro e W9 ⟨rfl, E9⟩
      replace E := hide (E.out.trans (E8.out.trans E9))
      clear E8 E9 k3 B9 o4 o5
      go_wp2_with fail
      refine (qk.out 7 8 _ E.out).mono ?_
      rintro e W10 ⟨i1, rfl, F, I1, _⟩
      replace E := hide (E.out.trans F)
      clear F
      replace I1 := hide I1
      go_wp2_with fail
      refine (qk.out 8 33 _ E.out).mono ?_
      rintro e W11 ⟨i2, rfl, F, I2, _⟩
      replace E := hide (E.out.trans F)
      replace I1 := hide (I1.out.ext F)
      clear F
      replace I2 := hide I2
      go_wp2_with fail
      refine (qk.out 9 8 _ E.out).mono ?_
      rintro e W12 ⟨i3, rfl, F, I3, _⟩
      replace E := E.out.trans F
      replace I1 := I1.out.ext F
      replace I2 := I2.out.ext F
      clear F qk
      have M1 := Blk.new W12 37 #[.int .u32 2, .int .u32 1]
      replace E := E.alloc (Obj.cells #[.int .u32 2, .int .u32 1] 37)
      replace I1 := I1.alloc (Obj.cells #[.int .u32 2, .int .u32 1] 37)
      replace I2 := I2.alloc (Obj.cells #[.int .u32 2, .int .u32 1] 37)
      replace I3 := I3.alloc (Obj.cells #[.int .u32 2, .int .u32 1] 37)
      generalize hW13 : W12.alloc (Obj.cells #[.int .u32 2, .int .u32 1] 37) = W13 at E M1 I1 I2 I3
      generalize hm1 : W12.heap.size = m1 at M1
      have PA := Blk.new W13 40 #[.int .i64 2, .int .u32 1]
      replace E := E.alloc (Obj.cells #[.int .i64 2, .int .u32 1] 40)
      replace I1 := I1.alloc (Obj.cells #[.int .i64 2, .int .u32 1] 40)
      replace I2 := I2.alloc (Obj.cells #[.int .i64 2, .int .u32 1] 40)
      replace I3 := I3.alloc (Obj.cells #[.int .i64 2, .int .u32 1] 40)
      replace M1 := M1.alloc (Obj.cells #[.int .i64 2, .int .u32 1] 40)
      generalize hW14 : W13.alloc (Obj.cells #[.int .i64 2, .int .u32 1] 40) = W14 at E PA I1 I2 I3 M1
      generalize hpa : W13.heap.size = pa at PA
      have P1 := Blk.new W14 38 #[.slice (some ⟨pa, 0, none⟩) 1 1]
      replace E := E.alloc (Obj.cells #[.slice (some ⟨pa, 0, none⟩) 1 1] 38)
      replace I1 := I1.alloc (Obj.cells #[.slice (some ⟨pa, 0, none⟩) 1 1] 38)
      replace I2 := I2.alloc (Obj.cells #[.slice (some ⟨pa, 0, none⟩) 1 1] 38)
      replace I3 := I3.alloc (Obj.cells #[.slice (some ⟨pa, 0, none⟩) 1 1] 38)
      replace M1 := M1.alloc (Obj.cells #[.slice (some ⟨pa, 0, none⟩) 1 1] 38)
      replace PA := PA.alloc (Obj.cells #[.slice (some ⟨pa, 0, none⟩) 1 1] 38)
      generalize hW15 : W14.alloc (Obj.cells #[.slice (some ⟨pa, 0, none⟩) 1 1] 38) = W15 at E P1 I1 I2 I3 M1 PA
      generalize hp1 : W14.heap.size = p1 at P1
      have M2 := Blk.new W15 37 #[.int .u32 1]
      replace E := E.alloc (Obj.cells #[.int .u32 1] 37)
      replace I1 := I1.alloc (Obj.cells #[.int .u32 1] 37)
      replace I2 := I2.alloc (Obj.cells #[.int .u32 1] 37)
      replace I3 := I3.alloc (Obj.cells #[.int .u32 1] 37)
      replace M1 := M1.alloc (Obj.cells #[.int .u32 1] 37)
      replace PA := PA.alloc (Obj.cells #[.int .u32 1] 37)
      replace P1 := P1.alloc (Obj.cells #[.int .u32 1] 37)
      generalize hW16 : W15.alloc (Obj.cells #[.int .u32 1] 37) = W16 at E M2 I1 I2 I3 M1 PA P1
      generalize hm2 : W15.heap.size = m2 at M2
      obtain ⟨CS, hCS⟩ : ∃ CS : Array Value, CS = #[.string ⟨#[115]⟩, .int .i64 1, .slice (some ⟨i1, 0, none⟩) 1 1, .slice none 0 0, .slice none 0 0, .string ⟨#[115]⟩, .int .i64 1, .slice (some ⟨i2, 0, none⟩) 1 1, .slice none 0 0, .slice none 0 0, .string ⟨#[115]⟩, .int .i64 1, .slice (some ⟨i3, 0, none⟩) 1 1, .slice none 0 0, .slice none 0 0, .string ⟨#[115]⟩, .int .i64 2, .slice none 0 0, .slice (some ⟨m1, 0, none⟩) 2 2, .slice none 0 0, .string ⟨#[115]⟩, .int .i64 4, .slice none 0 0, .slice none 0 0, .slice none 0 0, .string ⟨#[83]⟩, .int .i64 2, .slice none 0 0, .slice none 0 0, .slice none 0 0, .string ⟨#[49, 115]⟩, .int .i64 2, .slice none 0 0, .slice none 0 0, .slice none 0 0, .string ⟨#[45]⟩, .int .i64 2, .slice none 0 0, .slice none 0 0, .slice none 0 0, .string ⟨#[115]⟩, .int .i64 3, .slice none 0 0, .slice none 0 0, .slice (some ⟨p1, 0, none⟩) 1 1, .string ⟨#[115]⟩, .int .i64 3, .slice none 0 0, .slice (some ⟨m2, 0, none⟩) 1 1, .slice none 0 0] := ⟨_, rfl⟩
      have L := Blk.new W16 27 CS
      replace E := E.alloc (Obj.cells CS 27)
      replace I1 := I1.alloc (Obj.cells CS 27)
      replace I2 := I2.alloc (Obj.cells CS 27)
      replace I3 := I3.alloc (Obj.cells CS 27)
      replace M1 := M1.alloc (Obj.cells CS 27)
      replace PA := PA.alloc (Obj.cells CS 27)
      replace P1 := P1.alloc (Obj.cells CS 27)
      replace M2 := M2.alloc (Obj.cells CS 27)
      generalize hW17 : W16.alloc (Obj.cells CS 27) = W17 at E L I1 I2 I3 M1 PA P1 M2
      generalize hgL : W16.heap.size = gL at L
      subst hCS
      have hS := sl_badS L (sl_itm (x := itmK 7 8) I1 (itmK_in 7 8 ⟨by decide, by decide⟩ ⟨by decide, by decide⟩)) (sl_itm (x := itmK 8 33) I2 (itmK_in 8 33 ⟨by decide, by decide⟩ ⟨by decide, by decide⟩)) (sl_itm (x := itmK 9 8) I3 (itmK_in 9 8 ⟨by decide, by decide⟩ ⟨by decide, by decide⟩)) (sl_twoU (x := 2) (y := 1) M1) (sl_oneU (x := 1) M2) (sl_pat (c := 1) P1 (by decide) (sl_atm PA ⟨by decide, by decide⟩))
      clear I1 I2 I3 M1 PA P1 M2 L
      replace E := hide E
      replace hS := hide hS
      go_wp2_with fail
      clear hW13 hm1 hW14 hpa hW15 hp1 hW16 hm2 hW17 hgL
      go_loopw [13] (fun q wr => ∃ k : Nat, k ≤ 10 ∧ q = .int .i64 (k : Int) ∧ Ext W17 wr) (fun q _ => 10 - (intOf q).toNat)
      case atStart => exact ⟨0, by omega, rfl, Ext.refl _⟩
      case round =>
        obtain ⟨k, hk, rfl, hE⟩ := hrel
        rename World => W18
        replace E := hide (E.out.trans hE)
        by_cases hlt : k < 10
        · obtain ⟨b, off, a1, c1, a2, c2, a3, c3, hab, _, hin, hcell⟩ := ESet.at hS.out k (by exact hlt)
          injection hab with hab
          injection hab with h1 h2 _
          subst h1
          subst h2
          replace hin := hin.ext hE
          have hbad := badS_ok _ (List.getElem_mem (by exact hlt))
          have hpfx := badS_pfx ex8 _ (List.getElem_mem (by exact hlt))
          have hcom := badS_com [1, 2] _ (List.getElem_mem (by exact hlt))
          generalize (badS[k]'(by exact hlt)) = X at hin hcell hbad hpfx hcom
          have s0 : W18.cell? ⟨gL, k * 5, none⟩ = some (.string ⟨X.name.toArray⟩) := hE.cell (by have := hcell 0 _ rfl; simpa using this)
          have s1 : W18.cell? ⟨gL, k * 5 + 1, none⟩ = some (.int .i64 X.kind) := hE.cell (by have := hcell 1 _ rfl; simpa using this)
          have s2 : W18.cell? ⟨gL, k * 5 + 2, none⟩ = some (.slice a1 X.items.length c1) := hE.cell (by have := hcell 2 _ rfl; simpa using this)
          have s3 : W18.cell? ⟨gL, k * 5 + 3, none⟩ = some (.slice a2 X.comms.length c2) := hE.cell (by have := hcell 3 _ rfl; simpa using this)
          have s4 : W18.cell? ⟨gL, k * 5 + 4, none⟩ = some (.slice a3 X.paths.length c3) := hE.cell (by have := hcell 4 _ rfl; simpa using this)
          clear hcell
          have r0 := fun W (h : Ext W18 W) => q0.out W (E.out.trans h)
          have r1 := fun W (h : Ext W18 W) => SCheck_any X a1 c1 a2 c2 a3 c3 W (hin.ext h)
          have r2 := fun W (h : Ext W18 W) => SPrefix_any X ex8 (by decide) a1 c1 a2 c2 a3 c3 W (hin.ext h)
          have r3 := fun g W (h : Ext W18 W) (B : Blk W g 37 #[.int .u32 1, .int .u32 2]) => SComm_any X (some ⟨g, 0, none⟩) 2 [1, 2] a1 c1 a2 c2 a3 c3 W (hin.ext h) (by decide) (sl_twoU (x := 1) (y := 2) B)
          rw [hbad] at r1
          rw [hpfx] at r2
          rw [hcom] at r3
          simp only [ex8, errOf_f] at r2 r1
          simp only [List.length_cons, List.length_nil, Nat.zero_add] at r3
          clear hbad hpfx hcom hin
          obtain ⟨nm, kd, items, comms, paths⟩ := X
          dsimp only at *
          generalize items.length = nI at *
          generalize comms.length = nC at *
          generalize paths.length = nP at *
          have hk10 := hide hlt
          replace r0 := hide r0
          replace r1 := hide r1
          replace r2 := hide r2
          replace r3 := hide r3
          replace hE := hide hE
          go_wp2_with fail
          refine wp_region_JM (J := JV W18 _ (fun i => match i with | 0 => .val (.slice (some ⟨gL, 0, none⟩) 10 10) | 1 => .val (.int .i64 (k : Int)) | 2 => .val (.pointer (some ⟨gL, k * 5, none⟩)) | 3 => .val (.agg #[.string ⟨nm.toArray⟩, .int .i64 kd, .slice a1 nI c1, .slice a2 nC c2, .slice a3 nP c3]) | 4 => .val (.int .i64 2) | 5 => .val (.bool false) | 6 => .val (.bool false) | 7 => .val (.slice (some ⟨gL, 0, none⟩) 10 10) | 8 => .val (.int .i64 (k : Int)) | 9 => .val (.pointer (some ⟨gL, k * 5, none⟩)) | 10 => .val (.agg #[.string ⟨nm.toArray⟩, .int .i64 kd, .slice a1 nI c1, .slice a2 nC c2, .slice a3 nP c3]) | 11 => .val (.agg #[.int .i64 1, .int .u64 0, .string ⟨#[10, 0, 0, 0]⟩, .int .i64 8]) | 12 => .val (.bool false) | 13 => .val (.bool false) | 14 => .val (.bool false) | 15 => .val (.slice (some ⟨gL, 0, none⟩) 10 10) | 16 => .val (.int .i64 (k : Int)) | 17 => .val (.pointer (some ⟨gL, k * 5, none⟩)) | 18 => .val (.agg #[.string ⟨nm.toArray⟩, .int .i64 kd, .slice a1 nI c1, .slice a2 nC c2, .slice a3 nP c3]) | 19 => .mk (fun g => .slice (some ⟨g, 0, none⟩) 2 2) 37 #[.int .u32 1, .int .u32 2] | 20 => .val (.bool false) | 21 => .val (.bool false) | _ => .val undef)) mixed (by kernel_rfl) (by kernel_rfl) (fun _ => undef) (JV.start _ _ _ _) (JW.keepsG (by kernel_rfl) ?anys ?fill ?box ?steps) ?rest
          case anys =>
            intro i R hi hR
            replace hi : i < 22 := hi
            match i, hi, hR with
            | 0, _, hR => cases hR
            | 1, _, hR => cases hR
            | 2, _, hR => cases hR
            | 3, _, hR => cases hR
            | 4, _, hR => cases hR
            | 5, _, hR => cases hR
            | 6, _, hR => cases hR
            | 7, _, hR => cases hR
            | 8, _, hR => cases hR
            | 9, _, hR => cases hR
            | 10, _, hR => cases hR
            | 11, _, hR => cases hR
            | 12, _, hR => cases hR
            | 13, _, hR => cases hR
            | 14, _, hR => cases hR
            | 15, _, hR => cases hR
            | 16, _, hR => cases hR
            | 17, _, hR => cases hR
            | 18, _, hR => cases hR
            | 19, _, hR => cases hR
            | 20, _, hR => cases hR
            | 21, _, hR => cases hR
            | i + 22, h, _ => exact absurd h (by omega)
          case fill =>
            intro i b hi hb
            replace hi : i < 22 := hi
            match i, hi, hb with
            | 0, _, hb => cases hb
            | 1, _, hb => cases hb
            | 2, _, hb => cases hb
            | 3, _, hb => cases hb
            | 4, _, hb => cases hb
            | 5, _, hb => cases hb
            | 6, _, hb => cases hb
            | 7, _, hb => cases hb
            | 8, _, hb => cases hb
            | 9, _, hb => cases hb
            | 10, _, hb => cases hb
            | 11, _, hb => cases hb
            | 12, _, hb => cases hb
            | 13, _, hb => cases hb
            | 14, _, hb => cases hb
            | 15, _, hb => cases hb
            | 16, _, hb => cases hb
            | 17, _, hb => cases hb
            | 18, _, hb => cases hb
            | 19, _, hb => cases hb
            | 20, _, hb => cases hb
            | 21, _, hb => cases hb
            | i + 22, h, _ => exact absurd h (by omega)
          case box =>
            intro b st t z cs hi hb
            replace hi : b < 22 := hi
            match b, hi, hb with
            | 0, _, hb => cases hb
            | 1, _, hb => cases hb
            | 2, _, hb => cases hb
            | 3, _, hb => cases hb
            | 4, _, hb => cases hb
            | 5, _, hb => cases hb
            | 6, _, hb => cases hb
            | 7, _, hb => cases hb
            | 8, _, hb => cases hb
            | 9, _, hb => cases hb
            | 10, _, hb => cases hb
            | 11, _, hb => cases hb
            | 12, _, hb => cases hb
            | 13, _, hb => cases hb
            | 14, _, hb => cases hb
            | 15, _, hb => cases hb
            | 16, _, hb => cases hb
            | 17, _, hb => cases hb
            | 18, _, hb => cases hb
            | 19, _, hb => cases hb
            | 20, _, hb => cases hb
            | 21, _, hb => cases hb
            | i + 22, h, _ => exact absurd h (by omega)
          case steps =>
            intro i hi
            replace hi : i < 22 := hi
            match i, hi with
            | 0, _ =>
              refine ⟨_, rfl, .inl rfl, ?_⟩
              intro a w9 done val G H hdn hdep hev hout hE9 hok hge9
              refine ⟨(fun v b hb => by cases hb), ?_⟩
              have u12 : a.eval (.tmp 12) = .slice (some ⟨gL, 0, none⟩) 10 10 := (hout 12 (by kernel_rfl)).trans rfl
              simp [Act.eval] at u12
              clear hdep hev hout hok hge9
              refine step_val (w'' := w9) ?_ (Ext.refl _)
              go_simp
            | 1, _ =>
              refine ⟨_, rfl, .inl rfl, ?_⟩
              intro a w9 done val G H hdn hdep hev hout hE9 hok hge9
              refine ⟨(fun v b hb => by cases hb), ?_⟩
              have u13 : a.eval (.tmp 13) = .int .i64 (k : Int) := (hout 13 (by kernel_rfl)).trans rfl
              simp [Act.eval] at u13
              clear hdep hev hout hok hge9
              refine step_val (w'' := w9) ?_ (Ext.refl _)
              go_simp
            | 2, _ =>
              refine ⟨_, rfl, .inl rfl, ?_⟩
              intro a w9 done val G H hdn hdep hev hout hE9 hok hge9
              refine ⟨(fun v b hb => by cases hb), ?_⟩
              have d0 : done 0 = true := by first | exact hdep ⟨0, .data⟩ (by simp) rfl | exact hdep ⟨0, .phase⟩ (by simp) rfl
              have e0 := hev 0 _ 109 rfl rfl (by simp) d0
              have k0 := hok 0 (by decide) d0
              replace k0 : val 0 = (.slice (some ⟨gL, 0, none⟩) 10 10) := k0
              rw [k0] at e0
              clear k0
              simp [Act.eval] at e0
              clear d0
              have d1 : done 1 = true := by first | exact hdep ⟨1, .data⟩ (by simp) rfl | exact hdep ⟨1, .phase⟩ (by simp) rfl
              have e1 := hev 1 _ 110 rfl rfl (by simp) d1
              have k1 := hok 1 (by decide) d1
              replace k1 : val 1 = (.int .i64 (k : Int)) := k1
              rw [k1] at e1
              clear k1
              simp [Act.eval] at e1
              clear d1
              clear hdep hev hout hok hge9
              have hk10 := hk10.out
              refine step_val (w'' := w9) ?_ (Ext.refl _)
              go_simp
            | 3, _ =>
              refine ⟨_, rfl, .inl rfl, ?_⟩
              intro a w9 done val G H hdn hdep hev hout hE9 hok hge9
              refine ⟨(fun v b hb => by cases hb), ?_⟩
              have d2 : done 2 = true := by first | exact hdep ⟨2, .data⟩ (by simp) rfl | exact hdep ⟨2, .phase⟩ (by simp) rfl
              have e2 := hev 2 _ 111 rfl rfl (by simp) d2
              have k2 := hok 2 (by decide) d2
              replace k2 : val 2 = (.pointer (some ⟨gL, k * 5, none⟩)) := k2
              rw [k2] at e2
              clear k2
              simp [Act.eval] at e2
              clear d2
              clear hdep hev hout hok hge9
              have y0 := hE9.cell s0
              have y1 := hE9.cell s1
              have y2 := hE9.cell s2
              have y3 := hE9.cell s3
              have y4 := hE9.cell s4
              refine step_val (w'' := w9) ?_ (Ext.refl _)
              go_simp
            | 4, _ =>
              refine ⟨_, rfl, .inl rfl, ?_⟩
              intro a w9 done val G H hdn hdep hev hout hE9 hok hge9
              refine ⟨(fun v b hb => by cases hb), ?_⟩
              have d3 : done 3 = true := by first | exact hdep ⟨3, .data⟩ (by simp) rfl | exact hdep ⟨3, .phase⟩ (by simp) rfl
              have e3 := hev 3 _ 112 rfl rfl (by simp) d3
              have k3 := hok 3 (by decide) d3
              replace k3 : val 3 = (.agg #[.string ⟨nm.toArray⟩, .int .i64 kd, .slice a1 nI c1, .slice a2 nC c2, .slice a3 nP c3]) := k3
              rw [k3] at e3
              clear k3
              simp [Act.eval] at e3
              clear d3
              clear hdep hev hout hok hge9
              exact step_go 15 #[.tmp 112] #[27] rfl Tryz.func15 (by kernel_rfl) (by kernel_rfl) _ (by simp [Act.eval, e3]; try rfl) (r1.out w9 hE9)
            | 5, _ =>
              refine ⟨_, rfl, .inl rfl, ?_⟩
              intro a w9 done val G H hdn hdep hev hout hE9 hok hge9
              refine ⟨(fun v b hb => by cases hb), ?_⟩
              have d4 : done 4 = true := by first | exact hdep ⟨4, .data⟩ (by simp) rfl | exact hdep ⟨4, .phase⟩ (by simp) rfl
              have e4 := hev 4 _ 113 rfl rfl (by simp) d4
              have k4 := hok 4 (by decide) d4
              replace k4 : val 4 = (.int .i64 2) := k4
              rw [k4] at e4
              clear k4
              simp [Act.eval] at e4
              clear d4
              clear hdep hev hout hok hge9
              refine step_val (w'' := w9) ?_ (Ext.refl _)
              go_simp
            | 6, _ =>
              refine ⟨_, rfl, .inl rfl, ?_⟩
              intro a w9 done val G H hdn hdep hev hout hE9 hok hge9
              refine ⟨(fun v b hb => by cases hb), ?_⟩
              have d5 : done 5 = true := by first | exact hdep ⟨5, .data⟩ (by simp) rfl | exact hdep ⟨5, .phase⟩ (by simp) rfl
              have e5 := hev 5 _ 114 rfl rfl (by simp) d5
              have k5 := hok 5 (by decide) d5
              replace k5 : val 5 = (.bool false) := k5
              rw [k5] at e5
              clear k5
              simp [Act.eval] at e5
              clear d5
              clear hdep hev hout hok hge9
              refine step_val (w'' := w9) ?_ (Ext.refl _)
              go_simp
            | 7, _ =>
              refine ⟨_, rfl, .inr ⟨6, false, _, 115, rfl, rfl, rfl, (by simp), (by decide), rfl, (by simp [Region.binds])⟩, ?_⟩
              intro a w9 done val G H hdn hdep hev hout hE9 hok hge9
              refine ⟨(fun v b hb => by cases hb), ?_⟩
              have u12 : a.eval (.tmp 12) = .slice (some ⟨gL, 0, none⟩) 10 10 := (hout 12 (by kernel_rfl)).trans rfl
              simp [Act.eval] at u12
              clear hdep hev hout hok hge9
              refine step_val (w'' := w9) ?_ (Ext.refl _)
              go_simp
            | 8, _ =>
              refine ⟨_, rfl, .inr ⟨6, false, _, 115, rfl, rfl, rfl, (by simp), (by decide), rfl, (by simp [Region.binds])⟩, ?_⟩
              intro a w9 done val G H hdn hdep hev hout hE9 hok hge9
              refine ⟨(fun v b hb => by cases hb), ?_⟩
              have u13 : a.eval (.tmp 13) = .int .i64 (k : Int) := (hout 13 (by kernel_rfl)).trans rfl
              simp [Act.eval] at u13
              clear hdep hev hout hok hge9
              refine step_val (w'' := w9) ?_ (Ext.refl _)
              go_simp
            | 9, _ =>
              refine ⟨_, rfl, .inr ⟨6, false, _, 115, rfl, rfl, rfl, (by simp), (by decide), rfl, (by simp [Region.binds])⟩, ?_⟩
              intro a w9 done val G H hdn hdep hev hout hE9 hok hge9
              refine ⟨(fun v b hb => by cases hb), ?_⟩
              have d7 : done 7 = true := by first | exact hdep ⟨7, .data⟩ (by simp) rfl | exact hdep ⟨7, .phase⟩ (by simp) rfl
              have e7 := hev 7 _ 116 rfl rfl (by simp) d7
              have k7 := hok 7 (by decide) d7
              replace k7 : val 7 = (.slice (some ⟨gL, 0, none⟩) 10 10) := k7
              rw [k7] at e7
              clear k7
              simp [Act.eval] at e7
              clear d7
              have d8 : done 8 = true := by first | exact hdep ⟨8, .data⟩ (by simp) rfl | exact hdep ⟨8, .phase⟩ (by simp) rfl
              have e8 := hev 8 _ 117 rfl rfl (by simp) d8
              have k8 := hok 8 (by decide) d8
              replace k8 : val 8 = (.int .i64 (k : Int)) := k8
              rw [k8] at e8
              clear k8
              simp [Act.eval] at e8
              clear d8
              clear hdep hev hout hok hge9
              have hk10 := hk10.out
              refine step_val (w'' := w9) ?_ (Ext.refl _)
              go_simp
            | 10, _ =>
              refine ⟨_, rfl, .inr ⟨6, false, _, 115, rfl, rfl, rfl, (by simp), (by decide), rfl, (by simp [Region.binds])⟩, ?_⟩
              intro a w9 done val G H hdn hdep hev hout hE9 hok hge9
              refine ⟨(fun v b hb => by cases hb), ?_⟩
              have d9 : done 9 = true := by first | exact hdep ⟨9, .data⟩ (by simp) rfl | exact hdep ⟨9, .phase⟩ (by simp) rfl
              have e9 := hev 9 _ 118 rfl rfl (by simp) d9
              have k9 := hok 9 (by decide) d9
              replace k9 : val 9 = (.pointer (some ⟨gL, k * 5, none⟩)) := k9
              rw [k9] at e9
              clear k9
              simp [Act.eval] at e9
              clear d9
              clear hdep hev hout hok hge9
              have y0 := hE9.cell s0
              have y1 := hE9.cell s1
              have y2 := hE9.cell s2
              have y3 := hE9.cell s3
              have y4 := hE9.cell s4
              refine step_val (w'' := w9) ?_ (Ext.refl _)
              go_simp
            | 11, _ =>
              refine ⟨_, rfl, .inr ⟨6, false, _, 115, rfl, rfl, rfl, (by simp), (by decide), rfl, (by simp [Region.binds])⟩, ?_⟩
              intro a w9 done val G H hdn hdep hev hout hE9 hok hge9
              refine ⟨(fun v b hb => by cases hb), ?_⟩
              clear hdep hev hout hok hge9
              exact step_go 34 #[.const (.string ⟨#[118, 52, 32, 49, 48, 46, 48, 46, 48, 46, 48, 47, 56]⟩)] #[9] rfl Tryz.func34 (by kernel_rfl) (by kernel_rfl) _ (by simp [Act.eval]; try rfl) (r0.out w9 hE9)
            | 12, _ =>
              refine ⟨_, rfl, .inr ⟨6, false, _, 115, rfl, rfl, rfl, (by simp), (by decide), rfl, (by simp [Region.binds])⟩, ?_⟩
              intro a w9 done val G H hdn hdep hev hout hE9 hok hge9
              refine ⟨(fun v b hb => by cases hb), ?_⟩
              have d10 : done 10 = true := by first | exact hdep ⟨10, .data⟩ (by simp) rfl | exact hdep ⟨10, .phase⟩ (by simp) rfl
              have e10 := hev 10 _ 119 rfl rfl (by simp) d10
              have k10 := hok 10 (by decide) d10
              replace k10 : val 10 = (.agg #[.string ⟨nm.toArray⟩, .int .i64 kd, .slice a1 nI c1, .slice a2 nC c2, .slice a3 nP c3]) := k10
              rw [k10] at e10
              clear k10
              simp [Act.eval] at e10
              clear d10
              have d11 : done 11 = true := by first | exact hdep ⟨11, .data⟩ (by simp) rfl | exact hdep ⟨11, .phase⟩ (by simp) rfl
              have e11 := hev 11 _ 120 rfl rfl (by simp) d11
              have k11 := hok 11 (by decide) d11
              replace k11 : val 11 = (.agg #[.int .i64 1, .int .u64 0, .string ⟨#[10, 0, 0, 0]⟩, .int .i64 8]) := k11
              rw [k11] at e11
              clear k11
              simp [Act.eval] at e11
              clear d11
              clear hdep hev hout hok hge9
              exact step_go 17 #[.tmp 119, .tmp 120] #[27, 34] rfl Tryz.func17 (by kernel_rfl) (by kernel_rfl) _ (by simp [Act.eval, e10, e11]; try rfl) (r2.out w9 hE9)
            | 13, _ =>
              refine ⟨_, rfl, .inl rfl, ?_⟩
              intro a w9 done val G H hdn hdep hev hout hE9 hok hge9
              refine ⟨(fun v b hb => by cases hb), ?_⟩
              have d6 : done 6 = true := by first | exact hdep ⟨6, .data⟩ (by simp) rfl | exact hdep ⟨6, .phase⟩ (by simp) rfl
              have e6 := hev 6 _ 115 rfl rfl (by simp) d6
              have k6 := hok 6 (by decide) d6
              replace k6 : val 6 = (.bool false) := k6
              rw [k6] at e6
              clear k6
              simp [Act.eval] at e6
              clear d6
              have d12 : done 12 = true := by first | exact hdep ⟨12, .data⟩ (by simp) rfl | exact hdep ⟨12, .phase⟩ (by simp) rfl
              have e12 := hev 12 _ 121 rfl rfl (by simp) d12
              have k12 := hok 12 (by decide) d12
              replace k12 : val 12 = (.bool false) := k12
              rw [k12] at e12
              clear k12
              simp [Act.eval] at e12
              clear d12
              clear hdep hev hout hok hge9
              refine step_val (w'' := w9) ?_ (Ext.refl _)
              go_simp
            | 14, _ =>
              refine ⟨_, rfl, .inl rfl, ?_⟩
              intro a w9 done val G H hdn hdep hev hout hE9 hok hge9
              refine ⟨(fun v b hb => by cases hb), ?_⟩
              have d13 : done 13 = true := by first | exact hdep ⟨13, .data⟩ (by simp) rfl | exact hdep ⟨13, .phase⟩ (by simp) rfl
              have e13 := hev 13 _ 122 rfl rfl (by simp) d13
              have k13 := hok 13 (by decide) d13
              replace k13 : val 13 = (.bool false) := k13
              rw [k13] at e13
              clear k13
              simp [Act.eval] at e13
              clear d13
              clear hdep hev hout hok hge9
              refine step_val (w'' := w9) ?_ (Ext.refl _)
              go_simp
            | 15, _ =>
              refine ⟨_, rfl, .inr ⟨14, false, _, 123, rfl, rfl, rfl, (by simp), (by decide), rfl, (by simp [Region.binds])⟩, ?_⟩
              intro a w9 done val G H hdn hdep hev hout hE9 hok hge9
              refine ⟨(fun v b hb => by cases hb), ?_⟩
              have u12 : a.eval (.tmp 12) = .slice (some ⟨gL, 0, none⟩) 10 10 := (hout 12 (by kernel_rfl)).trans rfl
              simp [Act.eval] at u12
              clear hdep hev hout hok hge9
              refine step_val (w'' := w9) ?_ (Ext.refl _)
              go_simp
            | 16, _ =>
              refine ⟨_, rfl, .inr ⟨14, false, _, 123, rfl, rfl, rfl, (by simp), (by decide), rfl, (by simp [Region.binds])⟩, ?_⟩
              intro a w9 done val G H hdn hdep hev hout hE9 hok hge9
              refine ⟨(fun v b hb => by cases hb), ?_⟩
              have u13 : a.eval (.tmp 13) = .int .i64 (k : Int) := (hout 13 (by kernel_rfl)).trans rfl
              simp [Act.eval] at u13
              clear hdep hev hout hok hge9
              refine step_val (w'' := w9) ?_ (Ext.refl _)
              go_simp
            | 17, _ =>
              refine ⟨_, rfl, .inr ⟨14, false, _, 123, rfl, rfl, rfl, (by simp), (by decide), rfl, (by simp [Region.binds])⟩, ?_⟩
              intro a w9 done val G H hdn hdep hev hout hE9 hok hge9
              refine ⟨(fun v b hb => by cases hb), ?_⟩
              have d15 : done 15 = true := by first | exact hdep ⟨15, .data⟩ (by simp) rfl | exact hdep ⟨15, .phase⟩ (by simp) rfl
              have e15 := hev 15 _ 124 rfl rfl (by simp) d15
              have k15 := hok 15 (by decide) d15
              replace k15 : val 15 = (.slice (some ⟨gL, 0, none⟩) 10 10) := k15
              rw [k15] at e15
              clear k15
              simp [Act.eval] at e15
              clear d15
              have d16 : done 16 = true := by first | exact hdep ⟨16, .data⟩ (by simp) rfl | exact hdep ⟨16, .phase⟩ (by simp) rfl
              have e16 := hev 16 _ 125 rfl rfl (by simp) d16
              have k16 := hok 16 (by decide) d16
              replace k16 : val 16 = (.int .i64 (k : Int)) := k16
              rw [k16] at e16
              clear k16
              simp [Act.eval] at e16
              clear d16
              clear hdep hev hout hok hge9
              have hk10 := hk10.out
              refine step_val (w'' := w9) ?_ (Ext.refl _)
              go_simp
            | 18, _ =>
              refine ⟨_, rfl, .inr ⟨14, false, _, 123, rfl, rfl, rfl, (by simp), (by decide), rfl, (by simp [Region.binds])⟩, ?_⟩
              intro a w9 done val G H hdn hdep hev hout hE9 hok hge9
              refine ⟨(fun v b hb => by cases hb), ?_⟩
              have d17 : done 17 = true := by first | exact hdep ⟨17, .data⟩ (by simp) rfl | exact hdep ⟨17, .phase⟩ (by simp) rfl
              have e17 := hev 17 _ 126 rfl rfl (by simp) d17
              have k17 := hok 17 (by decide) d17
              replace k17 : val 17 = (.pointer (some ⟨gL, k * 5, none⟩)) := k17
              rw [k17] at e17
              clear k17
              simp [Act.eval] at e17
              clear d17
              clear hdep hev hout hok hge9
              have y0 := hE9.cell s0
              have y1 := hE9.cell s1
              have y2 := hE9.cell s2
              have y3 := hE9.cell s3
              have y4 := hE9.cell s4
              refine step_val (w'' := w9) ?_ (Ext.refl _)
              go_simp
            | 19, _ =>
              refine ⟨_, rfl, .inr ⟨14, false, _, 123, rfl, rfl, rfl, (by simp), (by decide), rfl, (by simp [Region.binds])⟩, ?_⟩
              intro a w9 done val G H hdn hdep hev hout hE9 hok hge9
              refine ⟨(fun v b hb => by cases hb), ?_⟩
              clear hdep hev hout hok hge9
              unfold StepW
              refine step_mk (v := .slice (some ⟨w9.heap.size, 0, none⟩) 2 2) ?_ (Nat.le_refl _) ((Ext.refl w9).alloc _) (Blk.new w9 _ _) (fun g => .slice (some ⟨g, 0, none⟩) 2 2) rfl
              go_simp
            | 20, _ =>
              refine ⟨_, rfl, .inr ⟨14, false, _, 123, rfl, rfl, rfl, (by simp), (by decide), rfl, (by simp [Region.binds])⟩, ?_⟩
              intro a w9 done val G H hdn hdep hev hout hE9 hok hge9
              refine ⟨(fun v b hb => by cases hb), ?_⟩
              have d18 : done 18 = true := by first | exact hdep ⟨18, .data⟩ (by simp) rfl | exact hdep ⟨18, .phase⟩ (by simp) rfl
              have e18 := hev 18 _ 127 rfl rfl (by simp) d18
              have k18 := hok 18 (by decide) d18
              replace k18 : val 18 = (.agg #[.string ⟨nm.toArray⟩, .int .i64 kd, .slice a1 nI c1, .slice a2 nC c2, .slice a3 nP c3]) := k18
              rw [k18] at e18
              clear k18
              simp [Act.eval] at e18
              clear d18
              have d19 : done 19 = true := by first | exact hdep ⟨19, .data⟩ (by simp) rfl | exact hdep ⟨19, .phase⟩ (by simp) rfl
              have e19 := hev 19 _ 128 rfl rfl (by simp) d19
              have k19 := hok 19 (by decide) d19
              obtain ⟨⟨k19, B19⟩, _⟩ := k19
              rw [k19] at e19
              clear k19
              have g19 := (hge9 19 (by decide) d19 rfl).1
              simp [Act.eval] at e19
              clear d19
              clear hdep hev hout hok hge9
              exact step_go 19 #[.tmp 127, .tmp 128] #[27, 24] rfl Tryz.func19 (by kernel_rfl) (by kernel_rfl) _ (by simp [Act.eval, e18, e19]; try rfl) (r3.out (G 19) w9 hE9 B19)
            | 21, _ =>
              refine ⟨_, rfl, .inl rfl, ?_⟩
              intro a w9 done val G H hdn hdep hev hout hE9 hok hge9
              refine ⟨(fun v b hb => by cases hb), ?_⟩
              have d14 : done 14 = true := by first | exact hdep ⟨14, .data⟩ (by simp) rfl | exact hdep ⟨14, .phase⟩ (by simp) rfl
              have e14 := hev 14 _ 123 rfl rfl (by simp) d14
              have k14 := hok 14 (by decide) d14
              replace k14 : val 14 = (.bool false) := k14
              rw [k14] at e14
              clear k14
              simp [Act.eval] at e14
              clear d14
              have d20 : done 20 = true := by first | exact hdep ⟨20, .data⟩ (by simp) rfl | exact hdep ⟨20, .phase⟩ (by simp) rfl
              have e20 := hev 20 _ 129 rfl rfl (by simp) d20
              have k20 := hok 20 (by decide) d20
              replace k20 : val 20 = (.bool false) := k20
              rw [k20] at e20
              clear k20
              simp [Act.eval] at e20
              clear d20
              clear hdep hev hout hok hge9
              refine step_val (w'' := w9) ?_ (Ext.refl _)
              go_simp
            | i + 22, h => exact absurd h (by omega)
          case rest =>
            rintro done val W19 hall ⟨⟨hE19, G, H, hok, hge, hdis, _⟩, _⟩
            replace hall : ∀ i, i < 22 → done i = true := hall
            have e0 := hall 0 (by decide)
            have e1 := hall 1 (by decide)
            have e2 := hall 2 (by decide)
            have e3 := hall 3 (by decide)
            have e4 := hall 4 (by decide)
            have e5 := hall 5 (by decide)
            have e6 := hall 6 (by decide)
            have e7 := hall 7 (by decide)
            have e8 := hall 8 (by decide)
            have e9 := hall 9 (by decide)
            have e10 := hall 10 (by decide)
            have e11 := hall 11 (by decide)
            have e12 := hall 12 (by decide)
            have e13 := hall 13 (by decide)
            have e14 := hall 14 (by decide)
            have e15 := hall 15 (by decide)
            have e16 := hall 16 (by decide)
            have e17 := hall 17 (by decide)
            have e18 := hall 18 (by decide)
            have e19 := hall 19 (by decide)
            have e20 := hall 20 (by decide)
            have e21 := hall 21 (by decide)
            have k0 := hok 0 (by decide) e0
            replace k0 : val 0 = (.slice (some ⟨gL, 0, none⟩) 10 10) := k0
            have k1 := hok 1 (by decide) e1
            replace k1 : val 1 = (.int .i64 (k : Int)) := k1
            have k2 := hok 2 (by decide) e2
            replace k2 : val 2 = (.pointer (some ⟨gL, k * 5, none⟩)) := k2
            have k3 := hok 3 (by decide) e3
            replace k3 : val 3 = (.agg #[.string ⟨nm.toArray⟩, .int .i64 kd, .slice a1 nI c1, .slice a2 nC c2, .slice a3 nP c3]) := k3
            have k4 := hok 4 (by decide) e4
            replace k4 : val 4 = (.int .i64 2) := k4
            have k5 := hok 5 (by decide) e5
            replace k5 : val 5 = (.bool false) := k5
            have k6 := hok 6 (by decide) e6
            replace k6 : val 6 = (.bool false) := k6
            have k7 := hok 7 (by decide) e7
            replace k7 : val 7 = (.slice (some ⟨gL, 0, none⟩) 10 10) := k7
            have k8 := hok 8 (by decide) e8
            replace k8 : val 8 = (.int .i64 (k : Int)) := k8
            have k9 := hok 9 (by decide) e9
            replace k9 : val 9 = (.pointer (some ⟨gL, k * 5, none⟩)) := k9
            have k10 := hok 10 (by decide) e10
            replace k10 : val 10 = (.agg #[.string ⟨nm.toArray⟩, .int .i64 kd, .slice a1 nI c1, .slice a2 nC c2, .slice a3 nP c3]) := k10
            have k11 := hok 11 (by decide) e11
            replace k11 : val 11 = (.agg #[.int .i64 1, .int .u64 0, .string ⟨#[10, 0, 0, 0]⟩, .int .i64 8]) := k11
            have k12 := hok 12 (by decide) e12
            replace k12 : val 12 = (.bool false) := k12
            have k13 := hok 13 (by decide) e13
            replace k13 : val 13 = (.bool false) := k13
            have k14 := hok 14 (by decide) e14
            replace k14 : val 14 = (.bool false) := k14
            have k15 := hok 15 (by decide) e15
            replace k15 : val 15 = (.slice (some ⟨gL, 0, none⟩) 10 10) := k15
            have k16 := hok 16 (by decide) e16
            replace k16 : val 16 = (.int .i64 (k : Int)) := k16
            have k17 := hok 17 (by decide) e17
            replace k17 : val 17 = (.pointer (some ⟨gL, k * 5, none⟩)) := k17
            have k18 := hok 18 (by decide) e18
            replace k18 : val 18 = (.agg #[.string ⟨nm.toArray⟩, .int .i64 kd, .slice a1 nI c1, .slice a2 nC c2, .slice a3 nP c3]) := k18
            have k19 := hok 19 (by decide) e19
            obtain ⟨⟨k19, B19⟩, z19⟩ := k19
            have G19 := hge 19 (by decide) e19 rfl
            rw [z19] at G19
            have k20 := hok 20 (by decide) e20
            replace k20 : val 20 = (.bool false) := k20
            have k21 := hok 21 (by decide) e21
            replace k21 : val 21 = (.bool false) := k21
            clear hok hge hdis hall
            simp only [putD, e0, e1, e2, e3, e4, e5, e6, e7, e8, e9, e10, e11, e12, e13, e14, e15, e16, e17, e18, e19, e20, e21, if_true, Nat.zero_add, Nat.reduceAdd, k0, k1, k2, k3, k4, k5, k6, k7, k8, k9, k10, k11, k12, k13, k14, k15, k16, k17, k18, k19, k20, k21]
            clear e0 e1 e2 e3 e4 e5 e6 e7 e8 e9 e10 e11 e12 e13 e14 e15 e16 e17 e18 e19 e20 e21 k0 k1 k2 k3 k4 k5 k6 k7 k8 k9 k10 k11 k12 k13 k14 k15 k16 k17 k18 k19 k20 k21 z19
            generalize G 19 = g_19 at *
            replace hE := hide (hE.out.trans hE19)
            clear hE19 B19 G19 s0 s1 s2 s3 s4 r0 r1 r2 r3 hk10
            simp only [Act.put, List.setIfInBounds_toArray, List.set_cons_succ, List.set_cons_zero]
            go_wp2_with fail
            go_roundw
            case rel => exact ⟨k + 1, by omega, by go_num, hE.out⟩
            case measure => simp [intOf]; omega
        · obtain rfl : k = 10 := by omega
          clear hlt hk hS q0
          go_upto_region 20 with fail
          clear hE
          obtain ⟨CS, hCS⟩ : ∃ CS : Array Value, CS = #[.int .u32 1, .int .u32 5] := ⟨_, rfl⟩
          have M3 := Blk.new W18 37 CS
          have F := (Ext.refl W18).alloc (Obj.cells CS 37)
          generalize hW19 : W18.alloc (Obj.cells CS 37) = W19 at F M3
          generalize hm3 : W18.heap.size = m3 at M3
          subst hCS
          replace E := hide (E.out.trans F)
          clear F
          replace M3 := hide M3
          obtain ⟨CS, hCS⟩ : ∃ CS : Array Value, CS = #[.string ⟨#[]⟩, .int .i64 0, .slice none 0 0, .slice none 0 0, .slice none 0 0] := ⟨_, rfl⟩
          have S := Blk.new W19 27 CS
          have F := (Ext.refl W19).alloc (Obj.cells CS 27)
          generalize hWp : W19.alloc (Obj.cells CS 27) = W20a at F S
          generalize hgc : W19.heap.size = gc at S
          subst hCS
          have y0 : W20a.cell? ⟨gc, 0, none⟩ = some (.string ⟨#[]⟩) := S.cell 0
          have y1 : W20a.cell? ⟨gc, 1, none⟩ = some (.int .i64 0) := S.cell 1
          have y2 : W20a.cell? ⟨gc, 2, none⟩ = some (.slice none 0 0) := S.cell 2
          have y3 : W20a.cell? ⟨gc, 3, none⟩ = some (.slice none 0 0) := S.cell 3
          have y4 : W20a.cell? ⟨gc, 4, none⟩ = some (.slice none 0 0) := S.cell 4
          have yf := fun i => S.frozen i
          have BC := S.set5w (.string ⟨#[99]⟩) (.int .i64 2) (.slice none 0 0) (.slice (some ⟨m3, 0, none⟩) 2 2) (.slice none 0 0)
          have hon : OnlyAt gc W20a _ := OnlyAt.set5w (g := gc) (w := W20a) (.string ⟨#[99]⟩) (.int .i64 2) (.slice none 0 0) (.slice (some ⟨m3, 0, none⟩) 2 2) (.slice none 0 0)
          replace F := hon.ext F (Nat.le_of_eq hgc)
          clear S hon
          replace BC := hide BC
          replace F := hide F
          go_upto_region 21 with fail
          replace F := F.out
          generalize (((((W20a.setCell ⟨gc, 0, none⟩ (.string ⟨#[99]⟩)).setCell ⟨gc, 1, none⟩ (.int .i64 2)).setCell ⟨gc, 2, none⟩ (.slice none 0 0)).setCell ⟨gc, 3, none⟩ (.slice (some ⟨m3, 0, none⟩) 2 2)).setCell ⟨gc, 4, none⟩ (.slice none 0 0)) = W20 at BC F ⊢
          clear y0 y1 y2 y3 y4 yf hWp
          replace E := hide (E.out.trans F)
          replace M3 := hide (M3.out.ext F)
          clear F
          clear hW19 hm3 hgc
          go_wp2_with fail
          refine (qp.out [54, 53, 48, 48, 48, 32, 42] (by decide) _ E.out).mono ?_
          rintro e W21 ⟨⟨v21, rfl, o21⟩, F⟩
          rw [patW_p] at o21 ⊢
          obtain ⟨a21, c21, rfl⟩ := o21.form
          have hP : Sl EAtm W21 (· < W21.heap.size) a21 patW := o21.slAt.mono fun _ h => h.2
          rw [patW_l]
          clear o21 qp
          replace E := hide (E.out.trans F)
          replace M3 := hide (M3.out.ext F)
          replace BC := hide (BC.out.ext F)
          clear F
          replace hP := hide hP
          go_upto_region 22 with fail
          obtain ⟨CS, hCS⟩ : ∃ CS : Array Value, CS = #[.slice a21 2 c21] := ⟨_, rfl⟩
          have P3 := Blk.new W21 38 CS
          have F := (Ext.refl W21).alloc (Obj.cells CS 38)
          generalize hW22 : W21.alloc (Obj.cells CS 38) = W22 at F P3
          generalize hp3 : W21.heap.size = p3 at P3
          subst hCS
          replace E := hide (E.out.trans F)
          replace M3 := hide (M3.out.ext F)
          replace BC := hide (BC.out.ext F)
          replace hP := hide (hP.out.ext F)
          clear F
          replace P3 := hide P3
          obtain ⟨CS, hCS⟩ : ∃ CS : Array Value, CS = #[.string ⟨#[]⟩, .int .i64 0, .slice none 0 0, .slice none 0 0, .slice none 0 0] := ⟨_, rfl⟩
          have S := Blk.new W22 27 CS
          have F := (Ext.refl W22).alloc (Obj.cells CS 27)
          generalize hWp : W22.alloc (Obj.cells CS 27) = W23a at F S
          generalize hgd : W22.heap.size = gd at S
          subst hCS
          have y0 : W23a.cell? ⟨gd, 0, none⟩ = some (.string ⟨#[]⟩) := S.cell 0
          have y1 : W23a.cell? ⟨gd, 1, none⟩ = some (.int .i64 0) := S.cell 1
          have y2 : W23a.cell? ⟨gd, 2, none⟩ = some (.slice none 0 0) := S.cell 2
          have y3 : W23a.cell? ⟨gd, 3, none⟩ = some (.slice none 0 0) := S.cell 3
          have y4 : W23a.cell? ⟨gd, 4, none⟩ = some (.slice none 0 0) := S.cell 4
          have yf := fun i => S.frozen i
          have BD := S.set5w (.string ⟨#[100]⟩) (.int .i64 3) (.slice none 0 0) (.slice none 0 0) (.slice (some ⟨p3, 0, none⟩) 1 1)
          have hon : OnlyAt gd W23a _ := OnlyAt.set5w (g := gd) (w := W23a) (.string ⟨#[100]⟩) (.int .i64 3) (.slice none 0 0) (.slice none 0 0) (.slice (some ⟨p3, 0, none⟩) 1 1)
          replace F := hon.ext F (Nat.le_of_eq hgd)
          clear S hon
          replace BD := hide BD
          replace F := hide F
          go_upto_region 23 with fail
          replace F := F.out
          generalize (((((W23a.setCell ⟨gd, 0, none⟩ (.string ⟨#[100]⟩)).setCell ⟨gd, 1, none⟩ (.int .i64 3)).setCell ⟨gd, 2, none⟩ (.slice none 0 0)).setCell ⟨gd, 3, none⟩ (.slice none 0 0)).setCell ⟨gd, 4, none⟩ (.slice (some ⟨p3, 0, none⟩) 1 1)) = W23 at BD F ⊢
          clear y0 y1 y2 y3 y4 yf hWp
          replace E := hide (E.out.trans F)
          replace M3 := hide (M3.out.ext F)
          replace BC := hide (BC.out.ext F)
          replace hP := hide (hP.out.ext F)
          replace P3 := hide (P3.out.ext F)
          clear F
          clear hW22 hp3 hgd
          have c0 : W23.cell? ⟨gc, 0, none⟩ = some (.string ⟨#[99]⟩) := BC.out.cell 0
          have c1 : W23.cell? ⟨gc, 1, none⟩ = some (.int .i64 2) := BC.out.cell 1
          have c2 : W23.cell? ⟨gc, 2, none⟩ = some (.slice none 0 0) := BC.out.cell 2
          have c3 : W23.cell? ⟨gc, 3, none⟩ = some (.slice (some ⟨m3, 0, none⟩) 2 2) := BC.out.cell 3
          have c4 : W23.cell? ⟨gc, 4, none⟩ = some (.slice none 0 0) := BC.out.cell 4
          have d0 : W23.cell? ⟨gd, 0, none⟩ = some (.string ⟨#[100]⟩) := BD.out.cell 0
          have d1 : W23.cell? ⟨gd, 1, none⟩ = some (.int .i64 3) := BD.out.cell 1
          have d2 : W23.cell? ⟨gd, 2, none⟩ = some (.slice none 0 0) := BD.out.cell 2
          have d3 : W23.cell? ⟨gd, 3, none⟩ = some (.slice none 0 0) := BD.out.cell 3
          have d4 : W23.cell? ⟨gd, 4, none⟩ = some (.slice (some ⟨p3, 0, none⟩) 1 1) := BD.out.cell 4
          have hD3 : Sl EAtm.slice W23 (· < W23.heap.size) (some ⟨p3, 0, none⟩) [patW] := sl_pat (by rw [patW_l]; exact P3.out) (by rw [patW_l]; decide) hP.out
          replace hD3 := hide hD3
          clear P3 hP
          obtain ⟨CS, hCS⟩ : ∃ CS : Array Value, CS = #[.string ⟨#[99]⟩, .int .i64 2, .slice none 0 0, .slice (some ⟨m3, 0, none⟩) 2 2, .slice none 0 0, .string ⟨#[100]⟩, .int .i64 3, .slice none 0 0, .slice none 0 0, .slice (some ⟨p3, 0, none⟩) 1 1, .string ⟨#[99]⟩, .int .i64 0, .slice none 0 0, .slice none 0 0, .slice none 0 0] := ⟨_, rfl⟩
          have BR := Blk.new W23 27 CS
          have F := (Ext.refl W23).alloc (Obj.cells CS 27)
          generalize hW24 : W23.alloc (Obj.cells CS 27) = W24 at F BR
          generalize hgR : W23.heap.size = gR at BR
          subst hCS
          replace E := hide (E.out.trans F)
          replace M3 := hide (M3.out.ext F)
          replace BC := hide (BC.out.ext F)
          replace BD := hide (BD.out.ext F)
          replace hD3 := hide (hD3.out.ext F)
          clear F
          replace BR := hide BR
          have f1 := SFind_any (some ⟨gR, 0, none⟩) 3 [setC2, setD3, setC0] [99] W24 (by decide) (sl_set3 BR.out (sl_twoU (x := 1) (y := 5) M3.out) hD3.out)
          clear BR
          simp only [List.length_cons, List.length_nil, Nat.zero_add, Nat.reduceAdd] at f1
          replace f1 := hide f1
          go_wp2_with fail
          clear hW24 hgR c0 c1 c2 c3 c4 d0 d1 d2 d3 d4
          refine f1.out.mono ?_
          rintro e W25 ⟨F, hq⟩
          obtain ⟨v1, v2, v3, rfl, h1, h2, h3⟩ : ∃ v1 v2 v3, e = .returned (.tuple #[.agg #[.string ⟨#[99]⟩, .int .i64 2, v1, v2, v3], .bool true]) ∧ (∃ a c, v1 = .slice a 0 c) ∧ (∃ a c, v2 = .slice a 2 c) ∧ (∃ a c, v3 = .slice a 0 c) := by
            rw [find_1] at hq
            obtain ⟨v1, v2, v3, h0, h1, h2, h3, _⟩ := hq
            exact ⟨v1, v2, v3, h0, h1.form, h2.form, h3.form⟩
          obtain ⟨x1, z1, rfl⟩ := h1
          obtain ⟨x2, z2, rfl⟩ := h2
          obtain ⟨x3, z3, rfl⟩ := h3
          clear hq f1
          replace E := hide (E.out.trans F)
          replace M3 := hide (M3.out.ext F)
          replace BC := hide (BC.out.ext F)
          replace BD := hide (BD.out.ext F)
          replace hD3 := hide (hD3.out.ext F)
          clear F
          obtain ⟨CS, hCS⟩ : ∃ CS : Array Value, CS = #[.string ⟨#[]⟩, .int .i64 0, .slice none 0 0, .slice none 0 0, .slice none 0 0] := ⟨_, rfl⟩
          have S := Blk.new W25 27 CS
          have F := (Ext.refl W25).alloc (Obj.cells CS 27)
          generalize hWp : W25.alloc (Obj.cells CS 27) = W26a at F S
          generalize hgx : W25.heap.size = gx at S
          subst hCS
          have y0 : W26a.cell? ⟨gx, 0, none⟩ = some (.string ⟨#[]⟩) := S.cell 0
          have y1 : W26a.cell? ⟨gx, 1, none⟩ = some (.int .i64 0) := S.cell 1
          have y2 : W26a.cell? ⟨gx, 2, none⟩ = some (.slice none 0 0) := S.cell 2
          have y3 : W26a.cell? ⟨gx, 3, none⟩ = some (.slice none 0 0) := S.cell 3
          have y4 : W26a.cell? ⟨gx, 4, none⟩ = some (.slice none 0 0) := S.cell 4
          have yf := fun i => S.frozen i
          have BX := S.set5w (.string ⟨#[99]⟩) (.int .i64 2) (.slice x1 0 z1) (.slice x2 2 z2) (.slice x3 0 z3)
          have hon : OnlyAt gx W26a _ := OnlyAt.set5w (g := gx) (w := W26a) (.string ⟨#[99]⟩) (.int .i64 2) (.slice x1 0 z1) (.slice x2 2 z2) (.slice x3 0 z3)
          replace F := hon.ext F (Nat.le_of_eq hgx)
          clear S hon
          replace BX := hide BX
          replace F := hide F
          go_upto_region 24 with fail
          replace F := F.out
          generalize (((((W26a.setCell ⟨gx, 0, none⟩ (.string ⟨#[99]⟩)).setCell ⟨gx, 1, none⟩ (.int .i64 2)).setCell ⟨gx, 2, none⟩ (.slice x1 0 z1)).setCell ⟨gx, 3, none⟩ (.slice x2 2 z2)).setCell ⟨gx, 4, none⟩ (.slice x3 0 z3)) = W26 at BX F ⊢
          clear y0 y1 y2 y3 y4 yf hWp
          replace E := hide (E.out.trans F)
          replace M3 := hide (M3.out.ext F)
          replace BC := hide (BC.out.ext F)
          replace BD := hide (BD.out.ext F)
          replace hD3 := hide (hD3.out.ext F)
          clear F
          clear hgx
          have c0 : W26.cell? ⟨gc, 0, none⟩ = some (.string ⟨#[99]⟩) := BC.out.cell 0
          have c1 : W26.cell? ⟨gc, 1, none⟩ = some (.int .i64 2) := BC.out.cell 1
          have c2 : W26.cell? ⟨gc, 2, none⟩ = some (.slice none 0 0) := BC.out.cell 2
          have c3 : W26.cell? ⟨gc, 3, none⟩ = some (.slice (some ⟨m3, 0, none⟩) 2 2) := BC.out.cell 3
          have c4 : W26.cell? ⟨gc, 4, none⟩ = some (.slice none 0 0) := BC.out.cell 4
          obtain ⟨CS, hCS⟩ : ∃ CS : Array Value, CS = #[.string ⟨#[99]⟩, .int .i64 2, .slice none 0 0, .slice (some ⟨m3, 0, none⟩) 2 2, .slice none 0 0] := ⟨_, rfl⟩
          have BQ := Blk.new W26 27 CS
          have F := (Ext.refl W26).alloc (Obj.cells CS 27)
          generalize hW27 : W26.alloc (Obj.cells CS 27) = W27 at F BQ
          generalize hgQ : W26.heap.size = gQ at BQ
          subst hCS
          replace E := hide (E.out.trans F)
          replace M3 := hide (M3.out.ext F)
          replace BC := hide (BC.out.ext F)
          replace BD := hide (BD.out.ext F)
          replace hD3 := hide (hD3.out.ext F)
          replace BX := hide (BX.out.ext F)
          clear F
          replace BQ := hide BQ
          have f2 := SFind_any (some ⟨gQ, 0, none⟩) 1 [setC2] [101] W27 (by decide) (sl_set1 BQ.out (sl_twoU (x := 1) (y := 5) M3.out))
          clear BQ
          simp only [List.length_cons, List.length_nil, Nat.zero_add, Nat.reduceAdd] at f2
          replace f2 := hide f2
          go_wp2_with fail
          clear hW27 hgQ c0 c1 c2 c3 c4
          refine f2.out.mono ?_
          rintro e W28 ⟨F, hq⟩
          rw [find_0] at hq
          replace hq : e = .returned (.tuple #[.agg #[.string ⟨#[]⟩, .int .i64 0, .slice none 0 0, .slice none 0 0, .slice none 0 0], .bool false]) := hq
          subst hq
          clear f2
          replace E := hide (E.out.trans F)
          replace M3 := hide (M3.out.ext F)
          replace BC := hide (BC.out.ext F)
          replace BD := hide (BD.out.ext F)
          replace hD3 := hide (hD3.out.ext F)
          replace BX := hide (BX.out.ext F)
          clear F
          obtain ⟨CS, hCS⟩ : ∃ CS : Array Value, CS = #[.string ⟨#[]⟩, .int .i64 0, .slice none 0 0, .slice none 0 0, .slice none 0 0] := ⟨_, rfl⟩
          have S := Blk.new W28 27 CS
          have F := (Ext.refl W28).alloc (Obj.cells CS 27)
          generalize hWp : W28.alloc (Obj.cells CS 27) = W29a at F S
          generalize hgz : W28.heap.size = gz at S
          subst hCS
          have y0 : W29a.cell? ⟨gz, 0, none⟩ = some (.string ⟨#[]⟩) := S.cell 0
          have y1 : W29a.cell? ⟨gz, 1, none⟩ = some (.int .i64 0) := S.cell 1
          have y2 : W29a.cell? ⟨gz, 2, none⟩ = some (.slice none 0 0) := S.cell 2
          have y3 : W29a.cell? ⟨gz, 3, none⟩ = some (.slice none 0 0) := S.cell 3
          have y4 : W29a.cell? ⟨gz, 4, none⟩ = some (.slice none 0 0) := S.cell 4
          have yf := fun i => S.frozen i
          have BZ := S.set5w (.string ⟨#[]⟩) (.int .i64 0) (.slice none 0 0) (.slice none 0 0) (.slice none 0 0)
          have hon : OnlyAt gz W29a _ := OnlyAt.set5w (g := gz) (w := W29a) (.string ⟨#[]⟩) (.int .i64 0) (.slice none 0 0) (.slice none 0 0) (.slice none 0 0)
          replace F := hon.ext F (Nat.le_of_eq hgz)
          clear S hon
          replace BZ := hide BZ
          replace F := hide F
          go_upto_region 25 with fail
          replace F := F.out
          generalize (((((W29a.setCell ⟨gz, 0, none⟩ (.string ⟨#[]⟩)).setCell ⟨gz, 1, none⟩ (.int .i64 0)).setCell ⟨gz, 2, none⟩ (.slice none 0 0)).setCell ⟨gz, 3, none⟩ (.slice none 0 0)).setCell ⟨gz, 4, none⟩ (.slice none 0 0)) = W29 at BZ F ⊢
          clear y0 y1 y2 y3 y4 yf hWp
          replace E := hide (E.out.trans F)
          replace M3 := hide (M3.out.ext F)
          replace BC := hide (BC.out.ext F)
          replace BD := hide (BD.out.ext F)
          replace hD3 := hide (hD3.out.ext F)
          replace BX := hide (BX.out.ext F)
          clear F
          clear hgz
          clear BZ
          have c0 : W29.cell? ⟨gc, 0, none⟩ = some (.string ⟨#[99]⟩) := BC.out.cell 0
          have c1 : W29.cell? ⟨gc, 1, none⟩ = some (.int .i64 2) := BC.out.cell 1
          have c2 : W29.cell? ⟨gc, 2, none⟩ = some (.slice none 0 0) := BC.out.cell 2
          have c3 : W29.cell? ⟨gc, 3, none⟩ = some (.slice (some ⟨m3, 0, none⟩) 2 2) := BC.out.cell 3
          have c4 : W29.cell? ⟨gc, 4, none⟩ = some (.slice none 0 0) := BC.out.cell 4
          obtain ⟨CS, hCS⟩ : ∃ CS : Array Value, CS = #[.int .u32 5, .int .u32 9] := ⟨_, rfl⟩
          have N1 := Blk.new W29 37 CS
          have F := (Ext.refl W29).alloc (Obj.cells CS 37)
          generalize hW30 : W29.alloc (Obj.cells CS 37) = W30 at F N1
          generalize hn1 : W29.heap.size = n1 at N1
          subst hCS
          replace E := hide (E.out.trans F)
          replace M3 := hide (M3.out.ext F)
          replace BC := hide (BC.out.ext F)
          replace BD := hide (BD.out.ext F)
          replace hD3 := hide (hD3.out.ext F)
          replace BX := hide (BX.out.ext F)
          clear F
          replace N1 := hide N1
          have u1 := SComm_any setC2 (some ⟨n1, 0, none⟩) 2 [5, 9] none 0 (some ⟨m3, 0, none⟩) 2 none 0 W30 ⟨by decide, ⟨by decide, by decide⟩, by decide, .inl rfl, by decide, sl_twoU (x := 1) (y := 5) M3.out, by decide, .inl rfl⟩ (by decide) (sl_twoU (x := 5) (y := 9) N1.out)
          rw [com_1] at u1
          simp only [setC2, List.length_cons, List.length_nil, Nat.zero_add, Nat.reduceAdd] at u1
          replace u1 := hide u1
          clear N1
          go_wp2_with fail
          clear hW30 hn1 c0 c1 c2 c3 c4
          refine u1.out.mono ?_
          rintro e W31 ⟨rfl, F⟩
          clear u1
          replace E := hide (E.out.trans F)
          replace M3 := hide (M3.out.ext F)
          replace BC := hide (BC.out.ext F)
          replace BD := hide (BD.out.ext F)
          replace hD3 := hide (hD3.out.ext F)
          replace BX := hide (BX.out.ext F)
          clear F
          have c0 : W31.cell? ⟨gc, 0, none⟩ = some (.string ⟨#[99]⟩) := BC.out.cell 0
          have c1 : W31.cell? ⟨gc, 1, none⟩ = some (.int .i64 2) := BC.out.cell 1
          have c2 : W31.cell? ⟨gc, 2, none⟩ = some (.slice none 0 0) := BC.out.cell 2
          have c3 : W31.cell? ⟨gc, 3, none⟩ = some (.slice (some ⟨m3, 0, none⟩) 2 2) := BC.out.cell 3
          have c4 : W31.cell? ⟨gc, 4, none⟩ = some (.slice none 0 0) := BC.out.cell 4
          have u2 := SComm_any setC2 none 0 [] none 0 (some ⟨m3, 0, none⟩) 2 none 0 W31 ⟨by decide, ⟨by decide, by decide⟩, by decide, .inl rfl, by decide, sl_twoU (x := 1) (y := 5) M3.out, by decide, .inl rfl⟩ (by decide) Sl.nil
          rw [com_0] at u2
          simp only [setC2, List.length_cons, List.length_nil, Nat.zero_add, Nat.reduceAdd] at u2
          replace u2 := hide u2
          go_wp2_with fail
          clear c0 c1 c2 c3 c4
          refine u2.out.mono ?_
          rintro e W32 ⟨rfl, F⟩
          clear u2
          replace E := hide (E.out.trans F)
          replace M3 := hide (M3.out.ext F)
          replace BC := hide (BC.out.ext F)
          replace BD := hide (BD.out.ext F)
          replace hD3 := hide (hD3.out.ext F)
          replace BX := hide (BX.out.ext F)
          clear F
          clear BC M3
          have d0 : W32.cell? ⟨gd, 0, none⟩ = some (.string ⟨#[100]⟩) := BD.out.cell 0
          have d1 : W32.cell? ⟨gd, 1, none⟩ = some (.int .i64 3) := BD.out.cell 1
          have d2 : W32.cell? ⟨gd, 2, none⟩ = some (.slice none 0 0) := BD.out.cell 2
          have d3 : W32.cell? ⟨gd, 3, none⟩ = some (.slice none 0 0) := BD.out.cell 3
          have d4 : W32.cell? ⟨gd, 4, none⟩ = some (.slice (some ⟨p3, 0, none⟩) 1 1) := BD.out.cell 4
          obtain ⟨CS, hCS⟩ : ∃ CS : Array Value, CS = #[.int .u32 65000, .int .u32 1] := ⟨_, rfl⟩
          have N1 := Blk.new W32 37 CS
          have F := (Ext.refl W32).alloc (Obj.cells CS 37)
          generalize hW33 : W32.alloc (Obj.cells CS 37) = W33 at F N1
          generalize hs1 : W32.heap.size = s1 at N1
          subst hCS
          replace E := hide (E.out.trans F)
          replace BD := hide (BD.out.ext F)
          replace hD3 := hide (hD3.out.ext F)
          replace BX := hide (BX.out.ext F)
          clear F
          replace N1 := hide N1
          obtain ⟨CS, hCS⟩ : ∃ CS : Array Value, CS = #[.int .u32 2] := ⟨_, rfl⟩
          have N2 := Blk.new W33 37 CS
          have F := (Ext.refl W33).alloc (Obj.cells CS 37)
          generalize hW34 : W33.alloc (Obj.cells CS 37) = W34 at F N2
          generalize hs2 : W33.heap.size = s2 at N2
          subst hCS
          replace E := hide (E.out.trans F)
          replace BD := hide (BD.out.ext F)
          replace hD3 := hide (hD3.out.ext F)
          replace BX := hide (BX.out.ext F)
          replace N1 := hide (N1.out.ext F)
          clear F
          replace N2 := hide N2
          obtain ⟨CS, hCS⟩ : ∃ CS : Array Value, CS = #[.int .i64 2, .slice (some ⟨s1, 0, none⟩) 2 2, .int .i64 1, .slice (some ⟨s2, 0, none⟩) 1 1] := ⟨_, rfl⟩
          have N3 := Blk.new W34 48 CS
          have F := (Ext.refl W34).alloc (Obj.cells CS 48)
          generalize hW35 : W34.alloc (Obj.cells CS 48) = W35 at F N3
          generalize hsg : W34.heap.size = sg at N3
          subst hCS
          replace E := hide (E.out.trans F)
          replace BD := hide (BD.out.ext F)
          replace hD3 := hide (hD3.out.ext F)
          replace BX := hide (BX.out.ext F)
          replace N1 := hide (N1.out.ext F)
          replace N2 := hide (N2.out.ext F)
          clear F
          replace N3 := hide N3
          have u3 := SPath_any setD3 (some ⟨sg, 0, none⟩) 2 [⟨2, [65000, 1]⟩, ⟨1, [2]⟩] none 0 none 0 (some ⟨p3, 0, none⟩) 1 W35 ⟨by decide, ⟨by decide, by decide⟩, by decide, .inl rfl, by decide, .inl rfl, by decide, hD3.out⟩ (by decide) (by rw [flat_2]; decide) (sl_path2 N3.out (sl_twoU (x := 65000) (y := 1) N1.out) (sl_oneU (x := 2) N2.out))
          rw [flat_2, path_1] at u3
          simp only [setD3, List.length_cons, List.length_nil, Nat.zero_add, Nat.reduceAdd] at u3
          replace u3 := hide u3
          clear N1 N2 N3
          go_wp2_with fail
          clear hW33 hW34 hW35 hs1 hs2 hsg d0 d1 d2 d3 d4
          refine u3.out.mono ?_
          rintro e W36 ⟨rfl, F⟩
          clear u3
          replace E := hide (E.out.trans F)
          replace BD := hide (BD.out.ext F)
          replace hD3 := hide (hD3.out.ext F)
          replace BX := hide (BX.out.ext F)
          clear F
          have d0 : W36.cell? ⟨gd, 0, none⟩ = some (.string ⟨#[100]⟩) := BD.out.cell 0
          have d1 : W36.cell? ⟨gd, 1, none⟩ = some (.int .i64 3) := BD.out.cell 1
          have d2 : W36.cell? ⟨gd, 2, none⟩ = some (.slice none 0 0) := BD.out.cell 2
          have d3 : W36.cell? ⟨gd, 3, none⟩ = some (.slice none 0 0) := BD.out.cell 3
          have d4 : W36.cell? ⟨gd, 4, none⟩ = some (.slice (some ⟨p3, 0, none⟩) 1 1) := BD.out.cell 4
          have u4 := SPath_any setD3 none 0 [] none 0 none 0 (some ⟨p3, 0, none⟩) 1 W36 ⟨by decide, ⟨by decide, by decide⟩, by decide, .inl rfl, by decide, .inl rfl, by decide, hD3.out⟩ (by decide) (by rw [flat_0]; decide) Sl.nil
          rw [flat_0, path_0] at u4
          simp only [setD3, List.length_cons, List.length_nil, Nat.zero_add, Nat.reduceAdd] at u4
          replace u4 := hide u4
          go_wp2_with fail
          clear d0 d1 d2 d3 d4
          refine u4.out.mono ?_
          rintro e W37 ⟨rfl, F⟩
          clear u4
          replace E := hide (E.out.trans F)
          replace BD := hide (BD.out.ext F)
          replace hD3 := hide (hD3.out.ext F)
          replace BX := hide (BX.out.ext F)
          clear F
          clear BD hD3
          have d0 : W37.cell? ⟨gx, 0, none⟩ = some (.string ⟨#[99]⟩) := BX.out.cell 0
          have d1 : W37.cell? ⟨gx, 1, none⟩ = some (.int .i64 2) := BX.out.cell 1
          have d2 : W37.cell? ⟨gx, 2, none⟩ = some (.slice x1 0 z1) := BX.out.cell 2
          have d3 : W37.cell? ⟨gx, 3, none⟩ = some (.slice x2 2 z2) := BX.out.cell 3
          have d4 : W37.cell? ⟨gx, 4, none⟩ = some (.slice x3 0 z3) := BX.out.cell 4
          obtain ⟨CS, hCS⟩ : ∃ CS : Array Value, CS = #[.int .i64 9, .int .u32 0] := ⟨_, rfl⟩
          have N1 := Blk.new W37 40 CS
          have F := (Ext.refl W37).alloc (Obj.cells CS 40)
          generalize hW38 : W37.alloc (Obj.cells CS 40) = W38 at F N1
          generalize hn3 : W37.heap.size = n3 at N1
          subst hCS
          replace E := hide (E.out.trans F)
          replace BX := hide (BX.out.ext F)
          clear F
          replace N1 := hide N1
          obtain ⟨CS, hCS⟩ : ∃ CS : Array Value, CS = #[.int .u32 1] := ⟨_, rfl⟩
          have N2 := Blk.new W38 37 CS
          have F := (Ext.refl W38).alloc (Obj.cells CS 37)
          generalize hW39 : W38.alloc (Obj.cells CS 37) = W39 at F N2
          generalize hn4 : W38.heap.size = n4 at N2
          subst hCS
          replace E := hide (E.out.trans F)
          replace BX := hide (BX.out.ext F)
          replace N1 := hide (N1.out.ext F)
          clear F
          replace N2 := hide N2
          have u5 := Match_any (some ⟨n3, 0, none⟩) (some ⟨n4, 0, none⟩) 1 1 [(9, 0)] [1] W39 (by decide) (by decide) (sl_atm N1.out ⟨by decide, by decide⟩) (sl_oneU N2.out)
          rw [m_bad] at u5
          simp only [List.length_cons, List.length_nil, Nat.zero_add] at u5
          replace u5 := hide u5
          clear N1 N2
          go_wp2_with fail
          clear hW38 hW39 hn3 hn4 d0 d1 d2 d3 d4
          refine u5.out.mono ?_
          rintro e W40 ⟨rfl, F⟩
          clear u5
          replace E := hide (E.out.trans F)
          replace BX := hide (BX.out.ext F)
          clear F
          go_wp2_with fail
          refine (qw.out _ E.out).mono ?_
          rintro e W41 ⟨rfl, F⟩
          replace E := hide (E.out.trans F)
          replace BX := hide (BX.out.ext F)
          clear F
          go_wp2_with fail
          go_ret
          exact ⟨rfl, E.out⟩
end Go.Proofs.YtoghdmoldcjedaaGreatDoor
