/- aspath.Parse. -/
import Derived.Test.YtiappobhljiknaaGreatDoorA16
import Derived.Test.YtiappobhljiknaaGreatDoorW28
namespace Go.Proofs.YtiappobhljiknaaGreatDoor
open Go.RowKit
set_option linter.unusedVariables false

set_option maxRecDepth 20000 in
set_option maxHeartbeats 1000000 in
theorem AParse_dash (w : World) :
    Calls Tryz.prog 13 #[.string ⟨#[45]⟩] w fun e w' => e = .returned (.tuple #[.slice none 0 0, .int .i64 0]) ∧ Ext w w' := by
  go_enter Tryz.func13, Tryz.ntmps13
  go_wp2
  go_ret2
  exact ⟨rfl, (Ext.refl _).alloc _⟩

def strLen0 (w : World) (g : Nat) : Nat := match w.cell? ⟨g, 0, none⟩ with | some (.string b) => b.size | _ => 0
theorem strLen0_blk {w : World} {g : Nat} {t : TypeId} {r : List UInt8} (h : Blk w g t #[.string ⟨r.toArray⟩]) : strLen0 w g = r.length := by
  unfold strLen0
  rw [show w.cell? ⟨g, 0, none⟩ = some (.string ⟨r.toArray⟩) from h.cell 0]
  simp [ByteArray.size]
set_option maxRecDepth 20000 in
set_option maxHeartbeats 1000000 in
theorem AParse_go (s : List UInt8) (w : World) (hs : s.length ≤ 1048576) (hT : Tab w) (hV : Vars w) (hd : s ≠ [45]) :
    Calls Tryz.prog 13 #[.string ⟨s.toArray⟩] w fun e w' => ∃ v, e = .returned (.tuple #[v, .int .i64 (parS s).2]) ∧ Ext w w' ∧ Own ESegW 24 w' w.heap.size v (parS s).1 := by
  have mixed : Tryz.prog.follows Departure.mixedOrders = true := by kernel_rfl
  have hsd : (s == [45]) = false := by simpa using hd
  go_enter Tryz.func13, Tryz.ntmps13
  go_wp2_with fail
  refine (brackets_any _).mono ?_
  rintro e w1 ⟨rfl, he1⟩
  have hg1 := hide ((Blk.new w 9 #[.string ⟨s.toArray⟩]).ext he1)
  have e1 := hide (((Ext.refl w).alloc (Obj.cells #[.string ⟨s.toArray⟩] 9)).trans he1)
  have hz1 := he1.size
  clear he1
  simp at hz1
  rw [brkV]
  go_wp2
  have hBk := hide (Blk.new w1 61 brkCells)
  have hg2 : Blk (w1.alloc (Obj.cells brkCells 61)) w.heap.size 9 #[.string ⟨s.toArray⟩] := hg1.out.alloc _
  have e2 : Ext w (w1.alloc (Obj.cells brkCells 61)) := e1.out.alloc _
  replace hg2 := hide hg2
  replace e2 := hide e2
  clear hg1 e1
  go_loopw [5, 6] (fun v f wr => ∃ (out : List Seg) (r : List UInt8) (b : Bool), out.length ≤ 16 ∧ f = .bool b ∧ (b = true ↔ out = []) ∧ Own ESegW 24 wr (w1.heap.size + 1) v out ∧ Blk wr w.heap.size 9 #[.string ⟨r.toArray⟩] ∧ Blk wr w1.heap.size 61 brkCells ∧ Hid (pathT out ++ r = s) ∧ Hid (∀ x ∈ out, wk x) ∧ r.length ≤ 1048576 ∧ Ext w wr) (fun _ _ wr => strLen0 wr w.heap.size)
  case atStart => exact ⟨[], s, true, by simp, rfl, by simp, Own.nil, hg2.out, hBk.out, (show pathT [] ++ s = s from rfl), (fun x hx => by cases hx), hs, e2.out⟩
  case round =>
    clear hBk hg2 e2
    obtain ⟨out, r, b, h16, rfl, hbo, hown, hg, hB, hi, hw, hrl, hE⟩ := hrel
    rename World => W0
    have hmeas := strLen0_blk hg
    have hVr := hV.ext hE
    have hTr := hT.ext hE
    have hzE := hE.size
    have hlt1 : w1.heap.size < W0.heap.size := hB.lt
    obtain ⟨vo, dd, rfl⟩ := hown.form
    replace hmeas := hide hmeas
    have hgc : W0.cell? ⟨w.heap.size, 0, none⟩ = some (.string ⟨r.toArray⟩) := hg.cell 0
    have hgf := hg.frozen 0
    replace hown := hide hown
    replace hg := hide hg
    replace hB := hide hB
    replace hE := hide hE
    replace hVr := hide hVr
    replace hTr := hide hTr
    have hcase : (b = false ∧ r = []) ∨ (b = false ∧ r ≠ [] ∧ ∀ r1, r ≠ 32 :: r1) ∨ (∃ r1, b = false ∧ r = 32 :: r1) ∨ b = true := by
      cases b with
      | true => exact .inr (.inr (.inr rfl))
      | false =>
        cases r with
        | nil => exact .inl ⟨rfl, rfl⟩
        | cons x r' =>
          by_cases hx : x = 32
          · exact .inr (.inr (.inl ⟨r', rfl, by rw [hx]⟩))
          · exact .inr (.inl ⟨rfl, by simp, fun r1 h => hx (by injection h)⟩)
    have hb1 : b = true → out = [] := hbo.1
    have hb0 : b = false → out ≠ [] := fun h h0 => by rw [hbo.2 h0] at h; cases h
    clear hbo
    replace hb1 := hide hb1
    replace hb0 := hide hb0
    rcases hcase with ⟨rfl, rfl⟩ | ⟨rfl, hr0, hsep⟩ | ⟨r1, rfl, hreq⟩ | rfl
    case inl =>
      obtain ⟨_, _, hvv, _, hp⟩ := hown.out.weak.toPath
      injection hvv with e1 e2 e3
      clear e2
      subst e1 e3
      replace hp := hide hp
      cases hc : chk out with
      | true =>
        have hds := hide (parS_text (s := s) (l := out) ⟨hc, hb0.out rfl, by have := hi.out; rwa [List.append_nil] at this⟩)
        replace hc := hide hc
        go_wp2_with fail
        refine (Check_ok _ _ out _ (by omega) hp.out hc.out).mono ?_
        rintro e w5 ⟨rfl, he5⟩
        replace he5 := hide he5
        go_wp2
        go_ret2
        rw [hds.out]
        exact ⟨_, rfl, hE.out.trans he5.out, (hown.out.ext he5.out).low (by omega)⟩
      | false =>
        have hds := hide (parS_none (s := s) hd (no_chk hi.out hw.out hc))
        replace hc := hide hc
        go_wp2_with fail
        refine (Check_no _ _ out _ (by omega) hp.out hc.out).mono ?_
        rintro e w5 ⟨rfl, he5⟩
        replace he5 := hide he5
        go_wp2
        go_ret2
        rw [hds.out]
        exact ⟨_, rfl, hE.out.trans he5.out, Own.nil⟩
    case inr.inl =>
      have hds := hide (parS_none (s := s) hd (no_sep hi.out hw.out (hb0.out rfl) hr0 hsep))
      have hrn : (r == []) = false := by simpa using hr0
      replace hsep := hide hsep
      replace hr0 := hide hr0
      go_wp2_with fail
      refine (CutPrefix_no r _ hsep.out).mono ?_
      rintro e w5 ⟨rfl, rfl⟩
      go_wp2
      go_ret2
      rw [hds.out]
      exact ⟨_, rfl, hE.out, Own.nil⟩
    case' inr.inr.inl =>
      subst hreq
      have hen : Hid (out = [] ∨ (32 :: r1) ≠ []) := .inr (by simp)
      have hr1 : Hid ((32 :: r1) = if out = [] then r1 else 32 :: r1) := hide (by rw [if_neg (hb0.out rfl)])
      have hl1 : r1.length < 1048576 := by simp at hrl; omega
      have hl1' : r1.length ≤ (32 :: r1).length := by simp
      go_wp2_with fail
      refine (CutPrefix_yes r1 _).mono ?_
      rintro e w5 ⟨rfl, rfl⟩
      have hg3 : Blk (W0.setCell ⟨w.heap.size, 0, none⟩ (.string ⟨r1.toArray⟩)) w.heap.size 9 #[.string ⟨r1.toArray⟩] := by simpa using hg.out.set_ 0 (.string ⟨r1.toArray⟩)
      have hB3 : Blk (W0.setCell ⟨w.heap.size, 0, none⟩ (.string ⟨r1.toArray⟩)) w1.heap.size 61 brkCells := hB.out.far (p := ⟨w.heap.size, 0, none⟩) (show w1.heap.size ≠ w.heap.size by omega) _
      have ho3 : Own ESegW 24 (W0.setCell ⟨w.heap.size, 0, none⟩ (.string ⟨r1.toArray⟩)) (w1.heap.size + 1) (.slice vo out.length dd) out := hown.out.kept (by simp [World.setCell]) fun q hq _ => Below.heap_setCell W0 ⟨w.heap.size, 0, none⟩ _ q (show q ≠ w.heap.size by omega)
      have hE3 : Ext w (W0.setCell ⟨w.heap.size, 0, none⟩ (.string ⟨r1.toArray⟩)) := hE.out.setCell (by exact Nat.le_refl _) _
    case' inr.inr.inr =>
      obtain ⟨r1, rfl⟩ : ∃ r1, r1 = r := ⟨r, rfl⟩
      have hen : Hid (out = [] ∨ r1 ≠ []) := .inl (hb1.out rfl)
      have hr1 : Hid (r1 = if out = [] then r1 else 32 :: r1) := hide (by rw [if_pos (hb1.out rfl)])
      have hl1 := hrl
      have hl1' : r1.length ≤ r1.length := Nat.le_refl _
      have hg3 := hg.out
      have hB3 := hB.out
      have ho3 := hown.out
      have hE3 := hE.out
    all_goals
      replace hg3 := hide hg3
      replace hB3 := hide hB3
      replace ho3 := hide ho3
      replace hE3 := hide hE3
      have hidx := IdxBrk_any w.heap.size w1.heap.size 61 r1 _ (hg3.out.cell 0) hB3.out
      rcases kindOf_bd r1 with hk1 | hk1
      · have hds := hide (parS_none (s := s) hd (no_kind hi.out hw.out hen.out hr1.out hk1))
        rw [hk1] at hidx
        replace hidx := hide hidx
        replace hk1 := hide hk1
        go_wp2_with fail
        refine hidx.out.mono ?_
        rintro e w4 ⟨rfl, hd4⟩
        replace hd4 := hide hd4
        go_wp2
        go_ret2
        rw [hds.out]
        exact ⟨_, rfl, hE3.out.trans hd4.out.ext, Own.nil⟩
      · obtain ⟨kn, hkn⟩ : ∃ kn : Nat, kindOf r1 = (kn : Int) := ⟨(kindOf r1).toNat, by omega⟩
        rw [hkn] at hk1 hidx
        replace hidx := hide hidx
        by_cases hl16 : out.length = 16
        · have hds := hide (parS_none (s := s) hd (no_more hi.out hw.out hen.out hr1.out hl16))
          go_wp2_with fail
          refine hidx.out.mono ?_
          rintro e w4 ⟨rfl, hd4⟩
          replace hd4 := hide hd4
          go_wp2
          go_ret2
          rw [hds.out]
          exact ⟨_, rfl, hE3.out.trans hd4.out.ext, Own.nil⟩
        · obtain ⟨t1, ht1⟩ : ∃ t1, r1 = opn kn :: t1 := by
            have h := (kindOf_at r1 kn (by omega) (by omega)).2 hkn
            unfold startsB at h
            cases r1 with
            | nil => cases h
            | cons x t => exact ⟨t, by rw [beq_iff_eq.1 h]⟩
          replace hkn := hide hkn
          replace ht1 := hide ht1
          have hkd : decide ((kn : Int) < 0) = false := by simp
          have hld : ((out.length : Int) == 16) = false := by simp; omega
          go_wp2_with fail
          refine hidx.out.mono ?_
          rintro e w4 ⟨rfl, hd4⟩
          have hg4 : Blk w4 w.heap.size 9 #[.string ⟨r1.toArray⟩] := by obtain ⟨n, rfl⟩ := hd4; exact hg3.out
          have hB4 : Blk w4 w1.heap.size 61 brkCells := by obtain ⟨n, rfl⟩ := hd4; exact hB3.out
          have ho4 := ho3.out.ext hd4.ext
          have hE4 := hE3.out.trans hd4.ext
          have hc4 : w4.cell? ⟨w1.heap.size, kn, none⟩ = some (.string (brk kn)) := by
            have h := hB4.cell kn
            have e1 : kn = 1 ∨ kn = 2 ∨ kn = 3 ∨ kn = 4 := by omega
            rcases e1 with rfl | rfl | rfl | rfl <;> exact h
          have hgc4 : w4.cell? ⟨w.heap.size, 0, none⟩ = some (.string ⟨r1.toArray⟩) := hg4.cell 0
          replace hg4 := hide hg4
          replace hB4 := hide hB4
          replace ho4 := hide ho4
          replace hE4 := hide hE4
          clear hd4
          have hz1 : (ByteArray.mk r1.toArray).size = r1.length := by simp [ByteArray.size]
          have hz0 : 1 ≤ r1.length := by rw [ht1.out]; simp
          have hz2 : (brk kn).size = 2 := rfl
          have hx1 : (ByteArray.mk r1.toArray).extract 1 r1.length = ⟨t1.toArray⟩ := by
            rw [ext_list, ht1.out]
            simp
          have hx2 : (brk kn).extract 1 2 = ⟨#[cls kn]⟩ := by
            refine ba_ext ?_
            rw [Lib.extract_data]
            rfl
          have htl : t1.length ≤ 1048576 := by rw [ht1.out] at hl1; simp at hl1; omega
          have hV4 := hV.ext hE4.out
          have hcut : ∀ n, Calls Tryz.prog 37 #[.string ⟨t1.toArray⟩, .string ⟨#[cls kn]⟩] (w4.drewN n) fun e w' => e = .returned (.tuple #[.string ⟨(Lib.cut t1 [cls kn]).1.toArray⟩, .string ⟨(Lib.cut t1 [cls kn]).2.1.toArray⟩, .bool (Lib.cut t1 [cls kn]).2.2]) ∧ Drew (w4.drewN n) w' := fun n => Cut_any t1 (cls kn) _ (hV4.ext ((Ext.refl _).drewN n)) htl
          replace hcut := hide hcut
          replace hV4 := hide hV4
          go_wp2
          go_quiet ((go_at_call 37; exact Calls.quiet_of (hcut.out _)))
          generalize hW5 : w4.drewN nq = W5
          have hg5 : Blk W5 w.heap.size 9 #[.string ⟨r1.toArray⟩] := by rw [← hW5]; exact hg4.out
          have hB5 : Blk W5 w1.heap.size 61 brkCells := by rw [← hW5]; exact hB4.out
          have ho5 : Own ESegW 24 W5 (w1.heap.size + 1) (.slice vo out.length dd) out := by rw [← hW5]; exact ho4.out.drewN nq
          have hE5 : Ext w W5 := by rw [← hW5]; exact hE4.out.drewN nq
          have hl5 : w1.heap.size < W5.heap.size := hB5.lt
          clear hW5 hcut hc4 hgc4 hg4 hB4 ho4 hE4 hV4 hx1 hx2
          obtain ⟨inn, hinn⟩ : ∃ inn, inn = (Lib.cut t1 [cls kn]).1 := ⟨_, rfl⟩
          obtain ⟨rest, hrest⟩ : ∃ rest, rest = (Lib.cut t1 [cls kn]).2.1 := ⟨_, rfl⟩
          obtain ⟨is, his⟩ : ∃ is, is = (Lib.cut t1 [cls kn]).2.2 := ⟨_, rfl⟩
          have hil : inn.length ≤ t1.length ∧ rest.length ≤ t1.length := by rw [hinn, hrest]; exact cut_le t1 (cls kn)
          rw [← hinn, ← hrest, ← his]
          replace hinn := hide hinn
          replace hrest := hide hrest
          replace his := hide his
          replace hg5 := hide hg5
          replace hB5 := hide hB5
          replace ho5 := hide ho5
          replace hE5 := hide hE5
          go_wp2_with fail
          have hX := Blk.new W5 24 #[.int .i64 (kn : Int), .slice none 0 0]
          have hEx : Ext w (W5.alloc (Obj.cells #[.int .i64 (kn : Int), .slice none 0 0] 24)) := hE5.out.alloc _
          refine (Split_any inn 32 _ (hV.ext hEx) (by omega)).mono ?_
          rintro e w6 ⟨sa, sd, rfl, he6, hsp⟩
          have hX6 := hX.ext he6
          have hg6 := (hg5.out.alloc _).ext he6
          have hB6 := (hB5.out.alloc _).ext he6
          have hK6 : ∀ q, q < W5.heap.size → w6.heap[q]? = W5.heap[q]? := fun q hq => (he6.block q (by simp; omega)).trans (Below.heap_alloc _ _ _ hq)
          have hE6 := hEx.trans he6
          have hW56 : W5.heap.size < w6.heap.size := hX6.lt
          have hwne := spl_ne 32 inn
          have hwl : (spl 32 inn).length ≤ 1048577 := spl_len 32 inn 1048576 (by omega)
          have hww : ∀ v ∈ spl 32 inn, v.length ≤ 1048576 := fun v hv => Nat.le_trans (spl_part 32 inn v hv) (by omega)
          obtain ⟨ws, hws⟩ : ∃ ws, ws = spl 32 inn := ⟨_, rfl⟩
          rw [← hws] at hsp hwne hwl hww
          rw [← hws]
          replace hws := hide hws
          replace hX6 := hide hX6
          replace hg6 := hide hg6
          replace hB6 := hide hB6
          replace hK6 := hide hK6
          replace hE6 := hide hE6
          replace hsp := hide hsp
          replace hww := hide hww
          clear hX hEx he6 hg5 hB5 hE5
          go_wp2
          go_loopw [62] (fun i wq => ∃ (j : Nat) (v : Value) (ys : List UInt32), j ≤ ws.length ∧ i = .int .i64 j ∧ Hid (ys.map asT = ws.take j) ∧ Blk wq W5.heap.size 24 #[.int .i64 (kn : Int), v] ∧ Own EU32 26 wq w6.heap.size v ys ∧ w6.grownBy wq (some W5.heap.size)) (fun i _ => ws.length - (intOf i).toNat)
          case atStart => exact ⟨0, _, [], Nat.zero_le _, rfl, (show ([] : List UInt32).map asT = ws.take 0 from rfl), hX6.out, Own.nil, ⟨rfl, rfl, rfl, Nat.le_refl _, fun _ _ _ => rfl⟩⟩
          case round =>
            obtain ⟨j, v, ys, hj, rfl, hys, hXj, hv, hG⟩ := hrel
            have hyl : ys.length = j := by have := congrArg List.length hys.out; rw [List.length_map, List.length_take] at this; omega
            obtain ⟨va, vd, rfl⟩ := hv.form
            rw [hyl] at hXj hv
            have x0 := hXj.cell 0
            have x1 := hXj.cell 1
            have xf0 := hXj.frozen 0
            simp only [List.getElem?_toArray, List.getElem?_cons_zero, List.getElem?_cons_succ] at x0 x1
            have hxw : W5.heap.size < wr.heap.size := hXj.lt
            have hGz := hG.size
            have hEj : Ext w wr := hE6.out.grown hG (fun q hq => by have := Option.some.inj hq; omega)
            have hVj := hV.ext hEj
            have hTj := hT.ext hEj
            replace hXj := hide hXj
            replace hv := hide hv
            replace hG := hide hG
            replace hEj := hide hEj
            replace hVj := hide hVj
            replace hTj := hide hTj
            replace hyl := hide hyl
            by_cases hjl : j < ws.length
            · obtain ⟨wb, wo, hsa, hwb0, hwc⟩ := hsp.out j hjl
              have hwb : W5.heap.size + 1 ≤ wb := by simpa using hwb0
              clear hwb0
              have hwc' : wr.cell? ⟨wb, wo + j, none⟩ = some (.string ⟨ws[j].toArray⟩) := (World.cell?_of_block (a := ⟨wb, wo + j, none⟩) (hG.out.block wb (block_lt_of_cell hwc) (fun he => by have := Option.some.inj he; omega))).trans hwc
              subst hsa
              have hwl1 : ws[j].length ≤ 1048576 := hww.out _ (List.getElem_mem hjl)
              have hnw : num32 ws[j] = none → parS s = ([], 4) := fun hn => parS_none hd (no_word hi.out hw.out hen.out hr1.out hkn.out ht1.out (v := ws[j]) (by rw [← hinn.out, ← hws.out]; exact List.getElem_mem hjl) hn)
              replace hnw := hide hnw
              clear hwc
              go_wp2_with fail
              refine (PU32_any ⟨ws[j].toArray⟩ wr hVj.out (by simpa [ByteArray.size] using hwl1)).mono ?_
              rintro e w7 ⟨he7, hres⟩
              have hl7 : (ByteArray.mk ws[j].toArray).data.toList = ws[j] := rfl
              rw [hl7] at hres
              have hE7 := hEj.out.trans he7
              rcases hres with ⟨u, hu, rfl⟩ | ⟨hno, z, T, p, rfl⟩
              · have hu32 := Lib.parseUintB_le hu
                obtain ⟨y, rfl⟩ : ∃ y : UInt32, u = y.toNat := ⟨UInt32.ofNat u, by rw [UInt32.toNat_ofNat']; omega⟩
                have hy := y.toNat_lt
                have hF := FormatUint_any y.toNat (by omega) w7 (hT.ext hE7)
                simp only [dec] at hF
                replace hF := hide hF
                by_cases hdd : Lib.decDigits y.toNat = ws[j]
                · have hbe : (Lib.decDigits y.toNat == ws[j]) = true := by simpa using hdd
                  have hbn : (Lib.decDigits y.toNat != ws[j]) = false := by simp [bne, hdd]
                  have g6 : IntKind.u32.wrap (y.toNat : Int) = (y.toNat : Int) := by rw [IntKind.wrap_u32]; omega
                  replace hdd := hide hdd
                  replace hu := hide hu
                  go_wp2_with fail
                  refine hF.out.mono ?_
                  rintro e w8 ⟨rfl, he8⟩
                  have he78 := he7.trans he8
                  have hX8 := hXj.out.ext he78
                  have hv8 := hv.out.ext he78
                  have z1 := hX8.cell 1
                  simp only [List.getElem?_toArray, List.getElem?_cons_zero, List.getElem?_cons_succ] at z1
                  have hG8 : w6.grownBy w8 (some W5.heap.size) := grown_push hG.out ⟨he78.os, he78.tape, he78.output, he78.size, fun q hq _ => he78.block q hq⟩ (row := none) (fun q hq => by cases hq)
                  have hx8 : W5.heap.size < w8.heap.size := hX8.lt
                  have hz8 : w6.heap.size ≤ w8.heap.size := hG8.size
                  replace hX8 := hide hX8
                  replace hv8 := hide hv8
                  replace hG8 := hide hG8
                  clear he7 he8 he78 hE7 hF
                  go_wp2_with (at_builtin
                               have hox := hv8.out.alloc (Obj.cells #[.int .u32 (y.toNat : Int)] 26)
                               have has : ys.length ≤ 17179869184 := by have := hyl.out; omega
                               have hwb : w6.heap.size ≤ (w8.alloc (Obj.cells #[.int .u32 (y.toNat : Int)] 26)).heap.size := by simp; omega
                               refine wpList_push (E := EU32) rfl _ _ _ rfl okU32q (by decide) (by decide) rfl hox has hwb rfl (y := y) (cs := [.int .u32 (y.toNat : Int)]) ⟨rfl, trivial⟩ (cell_one_new _ _ _) ?_
                               intro v9 w9 hv9 hg9 hat9
                               obtain ⟨a9, d9, rfl⟩ := hv9.form
                               have hX9 := Blk.grown (hX8.out.alloc _) hg9 (fun he => by have := (hv8.out.lt _ he.symm).1; omega)
                               have y1 := hX9.cell 1
                               have f1 := hX9.frozen 1
                               simp only [List.getElem?_toArray, List.getElem?_cons_zero, List.getElem?_cons_succ] at y1
                               have hn2 : (ys ++ [y]).length = j + 1 := by rw [List.length_append, hyl.out]; rfl
                               rw [hn2] at hv9
                               have hG9 : w6.grownBy w9 (some W5.heap.size) := grown_push (grown_alloc hG8.out _) hg9 (fun q hq => (hv8.out.lt _ hq).1)
                               replace hX9 := hide hX9
                               replace hv9 := hide hv9
                               replace hG9 := hide hG9
                               clear hg9 hat9 z1 hox)
                  have hys' : (ys ++ [y]).map asT = ws.take (j + 1) := by
                    rw [List.map_append, hys.out, List.take_succ_eq_append_getElem hjl, ← hdd.out]
                    rfl
                  replace hys' := hide hys'
                  go_roundw
                  case rel => exact ⟨j + 1, _, ys ++ [y], by omega, by go_num, hys', by simpa using hX9.out.set_ 1 _, hv9.out.kept (by simp [World.setCell]) (fun q hq _ => Below.heap_setCell w9 ⟨W5.heap.size, 1, none⟩ _ q (show q ≠ W5.heap.size by have := hz8; omega)), grown_self hG9.out _ _⟩
                  case measure => simp [intOf]; omega
                · have hds := hide (hnw.out (by
                    unfold num32
                    rw [hu]
                    simp only
                    rw [if_neg hdd]))
                  have hbe : (Lib.decDigits y.toNat == ws[j]) = false := by simpa using hdd
                  have hbn : (Lib.decDigits y.toNat != ws[j]) = true := by simp [bne, hbe]
                  replace hdd := hide hdd
                  replace hu := hide hu
                  go_wp2_with fail
                  refine hF.out.mono ?_
                  rintro e w8 ⟨rfl, he8⟩
                  have hE8 := hide (hE7.trans he8)
                  clear he7 he8 hE7
                  go_wp2
                  go_ret2
                  rw [hds.out]
                  exact ⟨_, rfl, hE8.out, Own.nil⟩
              · have hds := hide (hnw.out (by
                  unfold num32
                  split
                  · rename_i u hu
                    exact absurd hu (hno u)
                  · rfl))
                replace hno := hide hno
                replace hE7 := hide hE7
                clear he7
                go_wp2
                go_ret2
                rw [hds.out]
                exact ⟨_, rfl, hE7.out, Own.nil⟩
            · have hjw : j = ws.length := by omega
              have hyw : ys.map asT = ws := by rw [hys.out, hjw, List.take_length]
              replace hjw := hide hjw
              replace hyw := hide hyw
              cases is with
              | false =>
                have hds := hide (parS_none (s := s) hd (no_shut hi.out hw.out hen.out hr1.out hkn.out ht1.out his.out.symm))
                go_wp2
                go_ret2
                rw [hds.out]
                exact ⟨_, rfl, hEj.out, Own.nil⟩
              | true =>
                have hmore := text_more (rest := rest) (ys := ys) hi.out hw.out hr1.out hk1.1 hk1.2 ht1.out (by rw [hrest.out]; exact Prod.ext rfl his.out.symm) (by rw [hyw.out, hws.out, hinn.out])
                obtain ⟨hm1, hm2⟩ := hmore
                replace hm1 := hide hm1
                replace hm2 := hide hm2
                obtain ⟨_, _, hvv, hsl⟩ := hv.out.sl
                injection hvv with ev1 ev2 ev3
                clear ev2
                subst ev1 ev3
                have ho9 : Own ESegW 24 wr (w1.heap.size + 1) (.slice vo out.length dd) out := ho5.out.kept (by omega) fun q hq hq2 => (hG.out.block q (by omega) (fun he => by have := Option.some.inj he; omega)).trans (hK6.out q hq2)
                have hg9 : Blk wr w.heap.size 9 #[.string ⟨r1.toArray⟩] := hg6.out.grown hG.out (fun he => by have := Option.some.inj he; omega)
                have hB9 : Blk wr w1.heap.size 61 brkCells := hB6.out.grown hG.out (fun he => by have := Option.some.inj he; omega)
                have hyl2 : ys.length = j := hyl.out
                have hsq : ESegW.R (wr.alloc (Obj.cells #[.int .i64 (kn : Int), .slice va j vd] 24)) (fun q => w1.heap.size + 1 ≤ q ∧ q < (wr.alloc (Obj.cells #[.int .i64 (kn : Int), .slice va j vd] 24)).heap.size ∧ some q ≠ (Value.slice vo out.length dd).ownBlock) ⟨(kn : Int), ys⟩ [.int .i64 (kn : Int), .slice va j vd] := by
                  have := segRW (w1 := wr) (B := w1.heap.size + 1) (v := .slice vo out.length dd) (x := ⟨(kn : Int), ys⟩) (C := W5.heap.size) (d := vd) (b := va) (T := 24) (cs := #[.int .i64 (kn : Int), .slice va j vd]) (fun q hq => (ho5.out.lt q hq).2) (by omega) (by show _ ≤ (kn : Int); omega) (by show (kn : Int) ≤ _; omega) (by show ys.length ≤ _; omega) (hsl.mono fun q hq => ⟨by omega, hq.2⟩) hv.out.soft
                  rw [show (⟨(kn : Int), ys⟩ : Seg).as.length = j from hyl2] at this
                  exact this
                have hgc9 : wr.cell? ⟨w.heap.size, 0, none⟩ = some (.string ⟨r1.toArray⟩) := hg9.cell 0
                replace ho9 := hide ho9
                replace hsq := hide hsq
                replace hg9 := hide hg9
                replace hB9 := hide hB9
                clear hsl hyl2
                go_wp2_with (at_builtin
                             have hox := ho9.out.alloc (Obj.cells #[.int .i64 (kn : Int), .slice va j vd] 24)
                             have hll : out.length ≤ 17179869184 := by omega
                             have hwb : w1.heap.size + 1 ≤ (wr.alloc (Obj.cells #[.int .i64 (kn : Int), .slice va j vd] 24)).heap.size := by simp; omega
                             refine wpList_push (E := ESegW) rfl _ _ _ rfl okSegW' (by decide) (by decide) rfl hox hll hwb rfl hsq.out (cells_new wr #[.int .i64 (kn : Int), .slice va j vd] _) ?_
                             intro v' w10 hown' hg' hat
                             have hgA : Blk w10 w.heap.size 9 #[.string ⟨r1.toArray⟩] := (hg9.out.alloc _).grown hg' (fun he => by have := (ho9.out.lt _ he.symm).1; omega)
                             have hBA : Blk w10 w1.heap.size 61 brkCells := (hB9.out.alloc _).grown hg' (fun he => by have := (ho9.out.lt _ he.symm).1; omega)
                             have hEA : Ext w w10 := (hEj.out.alloc _).push (fun q hq => by have := (ho9.out.lt q hq).1; omega) hg'
                             have hgcA : w10.cell? ⟨w.heap.size, 0, none⟩ = some (.string ⟨r1.toArray⟩) := hgA.cell 0
                             have hgfA := hgA.frozen 0
                             replace hgA := hide hgA
                             replace hBA := hide hBA
                             replace hEA := hide hEA
                             replace hown' := hide hown'
                             clear hg' hat hox)
                have hgZ : Blk (w10.setCell ⟨w.heap.size, 0, none⟩ (.string ⟨rest.toArray⟩)) w.heap.size 9 #[.string ⟨rest.toArray⟩] := by simpa using hgA.out.set_ 0 (.string ⟨rest.toArray⟩)
                have hmZ := strLen0_blk hgZ
                have hrt : r1.length = t1.length + 1 := by rw [ht1.out]; simp
                go_roundw
                case rel => exact ⟨out ++ [⟨(kn : Int), ys⟩], rest, false, by simp; omega, rfl, by simp, hown'.out.kept (by simp [World.setCell]) (fun q hq _ => Below.heap_setCell w10 ⟨w.heap.size, 0, none⟩ _ q (show q ≠ w.heap.size by omega)), hgZ, hBA.out.far (p := ⟨w.heap.size, 0, none⟩) (show w1.heap.size ≠ w.heap.size by omega) _, hm1, hm2, by omega, hEA.out.setCell (by exact Nat.le_refl _) _⟩
                case measure => rw [hmZ, hmeas.out]; omega
theorem AParse_any (s : List UInt8) (w : World) (hs : s.length ≤ 1048576) (hT : Tab w) (hV : Vars w) :
    Calls Tryz.prog 13 #[.string ⟨s.toArray⟩] w fun e w' => ∃ v, e = .returned (.tuple #[v, .int .i64 (parS s).2]) ∧ Ext w w' ∧ Own ESegW 24 w' w.heap.size v (parS s).1 := by
  by_cases hd : s = [45]
  · subst hd
    refine (AParse_dash w).mono ?_
    rintro e w' ⟨rfl, he⟩
    rw [parS_dash]
    exact ⟨_, rfl, he, Own.nil⟩
  · exact AParse_go s w hs hT hV hd
end Go.Proofs.YtiappobhljiknaaGreatDoor
