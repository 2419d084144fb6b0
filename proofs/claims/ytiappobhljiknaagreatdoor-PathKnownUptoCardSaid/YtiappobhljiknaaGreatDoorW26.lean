/- aspath.Decode, of 4 bytes an AS. -/
import Derived.Test.YtiappobhljiknaaGreatDoorW28
namespace Go.Proofs.YtiappobhljiknaaGreatDoor
open Go.RowKit
set_option linter.unusedVariables false

set_option maxRecDepth 20000 in
set_option maxHeartbeats 4000000 in
theorem ADecode_T (s : List UInt8) (w : World) (hs : s.length ≤ 1048576) :
    Calls Tryz.prog 12 #[.string ⟨s.toArray⟩, .bool true] w fun e w' => ∃ v, e = .returned (.tuple #[v, .int .i64 (decS s true).2]) ∧ Ext w w' ∧ Own ESegW 24 w' w.heap.size v (decS s true).1 := by
  have mixed : Tryz.prog.follows Departure.mixedOrders = true := by kernel_rfl
  go_enter Tryz.func12, Tryz.ntmps12
  go_wp2_with fail
  refine (New_any _ w).mono ?_
  rintro e w0 ⟨rfl, rfl⟩
  have hR0 : RdL (w.alloc (.cells #[.bool true, .string ⟨s.toArray⟩] 85)) w.heap.size s := Blk.new w _ _
  replace hR0 := hide hR0
  go_wp2
  go_loopw [8] (fun v wr => ∃ (l : List Seg) (r : List UInt8), l.length ≤ 16 ∧ r.length ≤ 1048576 ∧ Own ESegW 24 wr (w.heap.size + 1) v l ∧ RdL wr w.heap.size r ∧ Hid (bdec 4 s = (bdec 4 r).map (l ++ ·)) ∧ Ext w wr) (fun _ wr => strLen wr w.heap.size)
  case atStart => exact ⟨[], s, by simp, hs, Own.nil, hR0.out, (show bdec 4 s = (bdec 4 s).map (fun x => [] ++ x) by cases bdec 4 s <;> rfl), (Ext.refl _).alloc _⟩
  case round =>
    obtain ⟨l, r, hl, hr, hown, hR, hd, hE⟩ := hrel
    rename World => W0
    clear hR0
    have hsz := hE.size
    have hgW : w.heap.size < W0.heap.size := hR.lt
    have hmeas := strLen_rd hR
    replace hown := hide hown
    replace hR := hide hR
    replace hE := hide hE
    replace hmeas := hide hmeas
    go_wp2_with fail
    refine (LeftL w.heap.size r W0 hR.out (by omega)).mono ?_
    rintro e w' ⟨rfl, rfl⟩
    match r, hr, hR, hd, hmeas with
    | [], hr, hR, hd, hmeas =>
      obtain ⟨va, vd, rfl, _, hp⟩ := hown.out.weak.toPath
      replace hp := hide hp
      have hd0 : bdec 4 s = some l := by rw [hd.out, dec_nil]; simp
      have hl0 : l.length ≤ 16777216 := by omega
      cases hc : chk l with
      | true =>
        have hds := hide (decS_ok (four := true) hd0 hc)
        replace hc := hide hc
        go_wp2_with fail
        refine (Check_ok _ _ l _ hl0 hp.out hc.out).mono ?_
        rintro e w1 ⟨rfl, he1⟩
        replace he1 := hide he1
        clear hd hmeas
        go_wp2
        go_ret2
        rw [hds.out]
        exact ⟨_, rfl, hE.out.trans he1.out, (hown.out.ext he1.out).low (by omega)⟩
      | false =>
        have hds := hide (decS_bad (four := true) hd0 hc)
        replace hc := hide hc
        go_wp2_with fail
        refine (Check_no _ _ l _ hl0 hp.out hc.out).mono ?_
        rintro e w1 ⟨rfl, he1⟩
        replace he1 := hide he1
        clear hd hmeas
        go_wp2
        go_ret2
        rw [hds.out]
        exact ⟨_, rfl, hE.out.trans he1.out, Own.nil⟩
    | [k], hr, hR, hd, hmeas =>
      have hds := hide (decS_none (four := true) (by rw [show szF true = 4 from rfl, hd.out, dec_one]; rfl))
      go_wp2_with fail
      refine (NumL_yes w.heap.size 1 [k] W0 hR.out hr (by simp) (by omega) (by omega)).mono ?_
      rintro e w1 ⟨rfl, hg1, hR1⟩
      have hR1' : RdL w1 w.heap.size [] := hR1
      go_wp2_with fail
      refine (NumL_no w.heap.size 1 [] w1 hR1' (by simp) (by simp) (by omega)).mono ?_
      rintro e w2 ⟨rfl, hg2, hR2⟩
      have hG2 : W0.grownBy w2 (some w.heap.size) := grown_trans hg1 hg2
      replace hG2 := hide hG2
      clear hR1 hR1' hR2 hg1 hg2 hR hmeas hd
      simp only [val_one]
      have hk8 := k.toNat_lt
      go_wp2
      go_loopw [12, 36] (fun q i wr => q = .bool false ∧ i = .int .u64 0 ∧ wr = w2.alloc (Obj.cells #[.int .i64 (k.toNat : Int), .slice none 0 0] 24)) (fun _ _ _ => 0)
      case atStart => exact ⟨rfl, rfl, rfl⟩
      case round =>
        obtain ⟨rfl, rfl, rfl⟩ := hrel
        have hext : Ext w w2 := hE.out.grown hG2.out fun j hj => by have := Option.some.inj hj; omega
        replace hext := hide (hext.alloc (Obj.cells #[.int .i64 (k.toNat : Int), .slice none 0 0] 24))
        go_wp2
        go_ret2
        rw [hds.out]
        exact ⟨_, rfl, hext.out, Own.nil⟩
    | k :: n :: t, hr, hR, hd, hmeas =>
      obtain ⟨vo, dd, rfl⟩ := hown.out.form
      go_wp2_with fail
      refine (NumL_yes w.heap.size 1 (k :: n :: t) W0 hR.out hr (by simp) (by omega) (by omega)).mono ?_
      rintro e w1 ⟨rfl, hg1, hR1⟩
      have hR1' : RdL w1 w.heap.size (n :: t) := hR1
      go_wp2_with fail
      refine (NumL_yes w.heap.size 1 (n :: t) w1 hR1' (by simp at hr ⊢; omega) (by simp) (by omega) (by omega)).mono ?_
      rintro e w2 ⟨rfl, hg2, hR2⟩
      have hR2' : RdL w2 w.heap.size t := hR2
      replace hR2' := hide hR2'
      have hG2 : W0.grownBy w2 (some w.heap.size) := grown_trans hg1 hg2
      replace hG2 := hide hG2
      clear hR1 hR1' hR2 hg1 hg2 hR
      simp only [List.take_succ_cons, List.take_zero, val_one]
      have hk8 := k.toNat_lt
      have hn8 := n.toNat_lt
      go_wp2
      have hX := hide (Blk.new w2 24 #[.int .i64 (k.toNat : Int), .slice none 0 0])
      have hGx : W0.grownBy (w2.alloc (Obj.cells #[.int .i64 (k.toNat : Int), .slice none 0 0] 24)) (some w.heap.size) := grown_alloc hG2.out _
      have hR2x : RdL (w2.alloc (Obj.cells #[.int .i64 (k.toNat : Int), .slice none 0 0] 24)) w.heap.size t := hR2'.out.alloc _
      have hW2 : W0.heap.size ≤ w2.heap.size := hG2.out.size
      replace hGx := hide hGx
      replace hR2x := hide hR2x
      clear hR2' hG2
      go_loopw [12, 36] (fun q i wq => ∃ (j : Nat) (ok : Bool) (v : Value) (ys : List UInt32) (r' : List UInt8), j ≤ n.toNat ∧ q = .bool ok ∧ i = .int .u64 j ∧ ys.length = j ∧ r'.length ≤ t.length ∧ Blk wq w2.heap.size 24 #[.int .i64 (k.toNat : Int), v] ∧ Own EU32 26 wq (w2.heap.size + 1) v ys ∧ RdL wq w.heap.size r' ∧ W0.grownBy wq (some w.heap.size) ∧
        DInv 4 n.toNat t r' ys j ok) (fun _ i _ => n.toNat - (intOf i).toNat)
      case atStart => exact ⟨0, true, _, [], t, Nat.zero_le _, rfl, rfl, rfl, Nat.le_refl _, hX.out, Own.nil, hR2x.out, hGx.out, ⟨fun _ => ⟨by omega, by simp, rfl⟩, fun h => by cases h⟩⟩
      case round =>
        clear hX hR2x hGx
        obtain ⟨j, ok, v, ys, r', hj, rfl, rfl, hal, hrl, hB, hv, hR, hG, hinv⟩ := hrel
        obtain ⟨va, vd, rfl⟩ := hv.form
        rw [hal] at hB hv
        have x0 := hB.cell 0
        have x1 := hB.cell 1
        simp only [List.getElem?_toArray, List.getElem?_cons_zero, List.getElem?_cons_succ] at x0 x1
        have hgx : w2.heap.size < wr.heap.size := hB.lt
        replace hB := hide hB
        replace hv := hide hv
        replace hR := hide hR
        replace hG := hide hG
        replace hal := hide hal
        by_cases hjn : j < n.toNat
        · cases ok
          all_goals
            go_wp2_with fail
            refine (NumU w.heap.size 4 r' wr hR.out (by simp at hr; omega) (by omega) (by omega)).mono ?_
            rintro e w3 ⟨y, b, r2, rfl, hg3, hR3, hl3, hb1, hb0⟩
            have hy := y.toNat_lt
            have hgN : w2.heap.size ≠ w.heap.size := by omega
            have hB3 := hB.out.grown hg3 (fun he => hgN (Option.some.inj he))
            have hv3 : Own EU32 26 w3 (w2.heap.size + 1) (.slice va j vd) ys := hv.out.kept hg3.size fun q hq hq2 => hg3.block q hq2 (fun he => by have := Option.some.inj he; omega)
            have x03 := hB3.cell 0
            have x13 := hB3.cell 1
            simp only [List.getElem?_toArray, List.getElem?_cons_zero, List.getElem?_cons_succ] at x03 x13
            have hG3 := grown_trans hG.out hg3
            have hgx3 : w2.heap.size < w3.heap.size := hB3.lt
            have x13' : (w3.alloc (Obj.cells #[.int .u32 (y.toNat : Int)] 26)).cell? ⟨w2.heap.size, 1, none⟩ = some (.slice va j vd) := (World.cell?_of_block (a := ⟨w2.heap.size, 1, none⟩) (Below.heap_alloc _ _ _ hgx3)).trans x13
            replace hB3 := hide hB3
            replace hv3 := hide hv3
            replace hR3 := hide hR3
            replace hG3 := hide hG3
            replace hb1 := hide hb1
            replace hb0 := hide hb0
            clear hg3 x0 x1
            go_wp2_with (at_builtin
                         have hox := hv3.out.alloc (Obj.cells #[.int .u32 (y.toNat : Int)] 26)
                         have has : ys.length ≤ 17179869184 := by have := hal.out; omega
                         have hwb : w2.heap.size + 1 ≤ (w3.alloc (Obj.cells #[.int .u32 (y.toNat : Int)] 26)).heap.size := by simp; omega
                         refine wpList_push (E := EU32) rfl _ _ _ rfl okU32q (by decide) (by decide) rfl hox has hwb rfl (y := y) (cs := [.int .u32 (y.toNat : Int)]) ⟨rfl, trivial⟩ (cell_one_new _ _ _) ?_
                         intro v4 w4 hv4 hg4 hat4
                         obtain ⟨a4, d4, rfl⟩ := hv4.form
                         have hB4 := Blk.grown (hB3.out.alloc _) hg4 (fun he => by have := (hv3.out.lt _ he.symm).1; omega)
                         have y1 := hB4.cell 1
                         have f1 := hB4.frozen 1
                         simp only [List.getElem?_toArray, List.getElem?_cons_zero, List.getElem?_cons_succ] at y1
                         have hn2 : (ys ++ [y]).length = j + 1 := by rw [List.length_append, hal.out]; rfl
                         rw [hn2] at hv4
                         have hR4 : RdL w4 w.heap.size r2 := Blk.grown (hR3.out.alloc _) hg4 (fun he => by have := (hv3.out.lt _ he.symm).1; omega)
                         have hG4 : W0.grownBy w4 (some w.heap.size) := grown_push (grown_alloc hG3.out _) hg4 (fun q hq => by have := (hv3.out.lt _ hq).1; omega)
                         replace hB4 := hide hB4
                         replace hv4 := hide hv4
                         replace hR4 := hide hR4
                         replace hG4 := hide hG4
                         clear hg4 hat4 x03 x13 x13' hox)
            go_roundw
            case rel =>
              refine ⟨j + 1, _, _, ys ++ [y], r2, by omega, rfl, by go_num, by rw [List.length_append, hal.out]; rfl, by omega, by simpa using hB4.out.set_ 1 _, hv4.out.kept (by simp [World.setCell]) (fun q hq _ => Below.heap_setCell w4 ⟨w2.heap.size, 1, none⟩ _ q (show q ≠ w2.heap.size by omega)), hR4.out.far (p := ⟨w2.heap.size, 1, none⟩) (show w.heap.size ≠ w2.heap.size by omega) _, grown_set hG4.out (p := ⟨w2.heap.size, 1, none⟩) hW2 _, ?_⟩
              exact dec_inv hinv hjn hb1.out hb0.out
            case measure => simp [intOf]; omega
        · have hjn' : j = n.toNat := by omega
          replace hjn' := hide hjn'
          have hEr : Ext w wr := hE.out.grown hG.out fun q hq => by have := Option.some.inj hq; omega
          replace hEr := hide hEr
          cases ok with
          | false =>
            have hds := hide (decS_none (s := s) (four := true) (by rw [show szF true = 4 from rfl, hd.out, dec_two, if_pos (hinv.2 rfl)]; rfl))
            go_wp2
            go_ret2
            rw [hds.out]
            exact ⟨_, rfl, hEr.out, Own.nil⟩
          | true =>
            obtain ⟨i1, i2, i3⟩ := hinv.1 rfl
            rw [hjn'.out] at i1 i2 i3
            by_cases h16 : l.length = 16
            · have hds := hide (decS_long (s := s) (four := true) (r := k :: n :: t) hd.out h16 (by simp))
              clear i1 i2 i3 hinv
              go_wp2
              go_ret2
              rw [hds.out]
              exact ⟨_, rfl, hEr.out, Own.nil⟩
            · have hdn := dec_take hd.out i1
              rw [← i2, ← i3] at hdn
              replace hdn := hide hdn
              have hlen : ys.length = j := hal.out
              obtain ⟨_, _, hvv, hsl⟩ := hv.out.sl
              injection hvv with ev1 ev2 ev3
              clear ev2
              subst ev1 ev3
              have hsp : ESegW.R (wr.alloc (Obj.cells #[.int .i64 (k.toNat : Int), .slice va j vd] 24)) (fun q => w.heap.size + 1 ≤ q ∧ q < (wr.alloc (Obj.cells #[.int .i64 (k.toNat : Int), .slice va j vd] 24)).heap.size ∧ some q ≠ (Value.slice vo l.length dd).ownBlock) ⟨(k.toNat : Int), ys⟩ [.int .i64 (k.toNat : Int), .slice va j vd] := by
                have := segRW (w1 := wr) (B := w.heap.size + 1) (v := .slice vo l.length dd) (x := ⟨(k.toNat : Int), ys⟩) (C := w2.heap.size + 1) (d := vd) (b := va) (T := 24) (cs := #[.int .i64 (k.toNat : Int), .slice va j vd]) (fun q hq => by have := (hown.out.lt q hq).2; omega) (by omega) (by show _ ≤ (k.toNat : Int); omega) (by show (k.toNat : Int) ≤ _; omega) (by show ys.length ≤ _; omega) hsl hv.out.soft
                rw [show (⟨(k.toNat : Int), ys⟩ : Seg).as.length = j from hlen] at this
                exact this
              have hoW : Own ESegW 24 wr (w.heap.size + 1) (.slice vo l.length dd) l := hown.out.kept hG.out.size fun q hq hq2 => hG.out.block q hq2 (fun he => by have := Option.some.inj he; omega)
              replace hsp := hide hsp
              replace hoW := hide hoW
              clear i1 i2 i3 hinv hsl
              go_wp2_with (at_builtin
                           have hox := hoW.out.alloc (Obj.cells #[.int .i64 (k.toNat : Int), .slice va j vd] 24)
                           have hll : l.length ≤ 17179869184 := by omega
                           have hwb : w.heap.size + 1 ≤ (wr.alloc (Obj.cells #[.int .i64 (k.toNat : Int), .slice va j vd] 24)).heap.size := by simp; omega
                           refine wpList_push (E := ESegW) rfl _ _ _ rfl okSegW' (by decide) (by decide) rfl hox hll hwb rfl hsp.out (cells_new wr #[.int .i64 (k.toNat : Int), .slice va j vd] _) ?_
                           intro v' w5 hown' hg hat
                           have hR5 : RdL w5 w.heap.size r' := Blk.grown (hR.out.alloc _) hg (fun he => by have := (hown.out.lt _ he.symm).1; omega)
                           have hE5 : Ext w w5 := (hEr.out.alloc _).push (fun q hq => by have := (hown.out.lt q hq).1; omega) hg
                           have hm5 := strLen_rd hR5
                           replace hR5 := hide hR5
                           replace hE5 := hide hE5
                           replace hm5 := hide hm5
                           replace hown' := hide hown'
                           clear hg hat hox)
              go_roundw
              case rel => exact ⟨l ++ [⟨(k.toNat : Int), ys⟩], r', by simp; omega, by simp at hr; omega, hown'.out, hR5.out, hdn, hE5.out⟩
              case measure => rw [hm5.out, hmeas.out]; simp; omega
end Go.Proofs.YtiappobhljiknaaGreatDoor
