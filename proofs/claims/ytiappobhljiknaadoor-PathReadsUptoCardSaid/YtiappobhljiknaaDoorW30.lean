/- heraldref04.Decode, of 4 bytes an AS. -/
import Derived.Test.YtiappobhljiknaaDoorW29
import Derived.Test.YtiappobhljiknaaDoorW7
namespace Go.Proofs.YtiappobhljiknaaDoor
open Go.RowKit
set_option linter.unusedVariables false

set_option maxRecDepth 20000 in
set_option maxHeartbeats 2000000 in
theorem RDecode_T (s : List UInt8) (w : World) (hs : s.length ≤ 1048576) :
    Calls Tryd.prog 38 #[.string ⟨s.toArray⟩, .bool true] w fun e w' => ∃ a c, e = .returned (.tuple #[.slice a (decS s true).1.length c, .int .i64 (decS s true).2]) ∧ Ext w w' ∧ Sl ESeg w' (fun b => w.heap.size ≤ b ∧ b < w'.heap.size) a (decS s true).1 := by
  have mixed : Tryd.prog.follows Departure.mixedOrders = true := by kernel_rfl
  have hnm := hide (show (Tryd.f64.name == "runtime.NumGoroutine") = false by kernel_rfl)
  have hbd := hide (show Tryd.f64.body.isNone = false by kernel_rfl)
  go_enter Tryd.func38, Tryd.ntmps38
  go_wp2
  go_loopw [0, 7] (fun q v wr => ∃ (l : List Seg) (r : List UInt8), l.length + r.length ≤ 1048576 ∧ q = .string ⟨r.toArray⟩ ∧ Own ESeg 48 wr w.heap.size v l ∧ Hid (bdec 4 s = (bdec 4 r).map (l ++ ·)) ∧ Ext w wr) (fun q _ _ => match q with | .string b => b.size | _ => 0)
  case atStart => exact ⟨[], s, by simpa using hs, rfl, Own.nil, (show bdec 4 s = (bdec 4 s).map (fun x => [] ++ x) by cases bdec 4 s <;> rfl), Ext.refl _⟩
  case round =>
    obtain ⟨l, r, hlr, rfl, hown, hd, hE⟩ := hrel
    rename World => W0
    have hsz := hE.size
    replace hown := hide hown
    replace hE := hide hE
    match r, hlr, hd with
    | [], hlr, hd =>
      obtain ⟨va, vd, rfl, hsl⟩ := hown.out.sl
      have hp : Path W0 va l := hsl.mono fun b hb => hb.2
      replace hp := hide hp
      replace hsl := hide hsl
      have hd0 : bdec 4 s = some l := by rw [hd.out, dec_nil]; simp
      have hl0 : l.length ≤ 16777216 := by simp at hlr; omega
      cases hc : chk l with
      | true =>
        have hds := hide (decS_ok (four := true) hd0 hc)
        replace hc := hide hc
        clear hd
        go_wp2_with fail
        refine (RCheck_ok _ _ l _ hl0 hp.out hc.out).mono ?_
        rintro e w1 ⟨rfl, rfl⟩
        go_wp2
        go_ret2
        rw [hds.out]
        exact ⟨_, _, rfl, hE.out, hsl.out⟩
      | false =>
        have hds := hide (decS_bad (four := true) hd0 hc)
        replace hc := hide hc
        clear hd
        go_wp2_with fail
        refine (RCheck_no _ _ l _ hl0 hp.out hc.out).mono ?_
        rintro e w1 ⟨rfl, rfl⟩
        go_wp2
        go_ret2
        rw [hds.out]
        exact ⟨_, _, rfl, hE.out, .inl rfl⟩
    | [k], hlr, hd =>
      have hds := hide (decS_none (s := s) (four := true) (by rw [show szF true = 4 from rfl, hd.out, dec_one]; rfl))
      have hz1 : (ByteArray.mk [k].toArray).size = 1 := rfl
      clear hd
      go_wp2
      go_ret2
      rw [hds.out]
      exact ⟨_, _, rfl, hE.out, .inl rfl⟩
    | k :: n :: t, hlr, hd =>
      have hz2 : (ByteArray.mk (k :: n :: t).toArray).size = t.length + 2 := by simp [ByteArray.size]
      have hk8 := k.toNat_lt
      have hn8 := n.toNat_lt
      generalize hb : ByteArray.mk (k :: n :: t).toArray = b at hz2
      have hb0 : b[0]'(by omega) = k := by subst hb; rfl
      have hb1 : b[1]'(by omega) = n := by subst hb; rfl
      replace hb := hide hb
      by_cases hlt : t.length < n.toNat * 4
      · have hds := hide (decS_none (s := s) (four := true) (by rw [show szF true = 4 from rfl, hd.out, dec_two, if_pos hlt]; rfl))
        clear hd
        go_wp2
        go_ret2
        rw [hds.out]
        exact ⟨_, _, rfl, hE.out, .inl rfl⟩
      · go_wp2
        have hB0 := Blk.new W0 48 #[.int .i64 (k.toNat : Int), .slice none 0 0]
        replace hB0 := hide hB0
        have hd1 : decide ((t.length : Int) + 2 < 2) = false := by simp; omega
        have hd2 : decide ((t.length : Int) + 2 < 2 + (n.toNat : Int) * 4) = false := by simp; omega
        have hd3 : decide (0 < (t.length : Int) + 2) = true := by simp; omega
        simp only [hd1, hd2, hd3]
        clear hd1 hd2 hd3
        go_loopw [10] (fun q wq => ∃ (j : Nat) (v : Value), j ≤ n.toNat ∧ q = .int .i64 j ∧ Blk wq W0.heap.size 48 #[.int .i64 (k.toNat : Int), v] ∧ Own EU32 31 wq (W0.heap.size + 1) v (decA 4 j t) ∧ Ext W0 wq) (fun q _ => n.toNat - (intOf q).toNat)
        case atStart => exact ⟨0, _, Nat.zero_le _, rfl, hB0.out, Own.nil, (Ext.refl _).alloc _⟩
        case round =>
          obtain ⟨j, v, hj, rfl, hB, hv, hEq⟩ := hrel
          have x0 := hB.cell 0
          have x1 := hB.cell 1
          simp only [List.getElem?_toArray, List.getElem?_cons_zero, List.getElem?_cons_succ] at x0 x1
          have hgx : W0.heap.size < wr.heap.size := hB.lt
          obtain ⟨va, vd, rfl⟩ := hv.form
          rw [decA_len] at hB x1 hv
          replace hB := hide hB
          replace hEq := hide hEq
          replace hv := hide hv
          by_cases hjn : j < n.toNat
          · have hjt : j * 4 + 4 ≤ t.length := by omega
            have hvl := val_lt ((t.drop (j * 4)).take 4)
            obtain ⟨y, hy⟩ : ∃ y, y = UInt32.ofNat (val ((t.drop (j * 4)).take 4)) := ⟨_, rfl⟩
            have hyv : y.toNat = val ((t.drop (j * 4)).take 4) := by
              rw [hy, UInt32.toNat_ofNat']
              rw [List.length_take, List.length_drop, Nat.min_eq_left (by omega)] at hvl
              omega
            clear hvl
            have hyl := y.toNat_lt
            replace hy := hide hy
            replace hyv := hide hyv
            have x1' : (wr.drew.alloc (Obj.cells #[.int .u32 (y.toNat : Int)] 31)).cell? ⟨W0.heap.size, 1, none⟩ = some (.slice va j vd) := (World.cell?_of_block (a := ⟨W0.heap.size, 1, none⟩) (Below.heap_alloc _ _ _ hgx)).trans x1
            have g1 : IntKind.i64.wrap ((j : Int) * 4) = (j : Int) * 4 := by rw [IntKind.wrap_i64]; omega
            have g2 : IntKind.i64.wrap (2 + (j : Int) * 4) = 2 + (j : Int) * 4 := by rw [IntKind.wrap_i64]; omega
            have g3 : IntKind.i64.wrap ((j : Int) + 1) = (j : Int) + 1 := by rw [IntKind.wrap_i64]; omega
            have g4 : IntKind.i64.wrap (((j : Int) + 1) * 4) = ((j : Int) + 1) * 4 := by rw [IntKind.wrap_i64]; omega
            have g5 : IntKind.i64.wrap (2 + ((j : Int) + 1) * 4) = 2 + ((j : Int) + 1) * 4 := by rw [IntKind.wrap_i64]; omega
            have g6 : IntKind.u32.wrap (y.toNat : Int) = (y.toNat : Int) := by rw [IntKind.wrap_u32]; omega
            have q1 : 0 ≤ 2 + ((j : Int) + 1) * 4 := by omega
            have q2 : 2 + ((j : Int) + 1) * 4 ≤ (t.length : Int) + 2 := by omega
            have q3 : 0 ≤ 2 + (j : Int) * 4 := by omega
            have q4 : 2 + (j : Int) * 4 ≤ 2 + ((j : Int) + 1) * 4 := by omega
            have q5 : (2 + (j : Int) * 4).toNat = 2 + j * 4 := by omega
            have q6 : (2 + ((j : Int) + 1) * 4).toNat = 2 + (j + 1) * 4 := by omega
            have hEx : (b.extract (2 + j * 4) (2 + (j + 1) * 4)).data.toList = (t.drop (j * 4)).take 4 := by
              rw [← hb.out, ext_list, show 2 + (j + 1) * 4 - (2 + j * 4) = 4 by omega, Nat.add_comm 2]
              rfl
            have hval : ∀ W, Calls Tryd.prog 64 #[.string (b.extract (2 + j * 4) (2 + (j + 1) * 4))] W fun e w' => e = .returned (.int .u64 (y.toNat : Int)) ∧ W = w' := fun W => by
              have := Value_any (b.extract (2 + j * 4) (2 + (j + 1) * 4)) W (by rw [ByteArray.size_extract]; omega)
              rwa [hEx, ← hyv.out] at this
            replace hval := hide hval
            clear hEx
            go_wp2
            go_region_law_o (first
              | (refine step_call1 (fn := Tryd.f64) rfl _ _ _ rfl Tryd.func64 hnm.out hbd.out (.string (b.extract (2 + j * 4) (2 + (j + 1) * 4))) (by simp [Act.eval, Act.put]) (hval.out _) ?_
                 rintro e w' ⟨rfl, rfl⟩
                 refine ⟨_, rfl, ?_⟩)
              | (refine step_push (E := EU32) (B := W0.heap.size + 1) (v := .slice va j vd) (l := decA 4 j t) (y := y) (cs := [.int .u32 (y.toNat : Int)]) rfl _ _ _ (by rfl) okU32' (by decide) (by decide) (by rfl) (hv.out.draw.alloc _) (by rw [decA_len]; omega) (by simp; omega) (by rfl) ⟨rfl, trivial⟩ (cell_one_new _ _ _) ?_
                 intro v2 w2 hv2 hg2 hat2
                 obtain ⟨a2, d2, rfl⟩ := hv2.form
                 have hB2 := Blk.grown (hB.out.drew.alloc _) hg2 (fun he => by have := (hv.out.lt _ he.symm).1; omega)
                 have y1 := hB2.cell 1
                 have f1 := hB2.frozen 1
                 simp only [List.getElem?_toArray, List.getElem?_cons_zero, List.getElem?_cons_succ] at y1
                 have hn2 : (decA 4 j t ++ [y]).length = j + 1 := by rw [List.length_append, decA_len]; rfl
                 rw [hn2] at hv2
                 replace hB2 := hide hB2
                 replace hv2 := hide hv2
                 replace hg2 := hide hg2
                 clear hat2))
            all_goals
              go_wp2
              go_roundw
              case rel => exact ⟨j + 1, _, by omega, by go_num, by simpa using hB2.out.set_ 1 _, by rw [decA_succ, ← hy.out]; exact hv2.out.kept (by simp [World.setCell]) (fun b hb _ => Below.heap_setCell w2 ⟨W0.heap.size, 1, none⟩ _ b (show b ≠ W0.heap.size by omega)), ((hEq.out.drew.alloc _).grown hg2.out fun b hb => by have := (hv.out.lt _ hb).1; omega).setCell (by exact Nat.le_refl _) _⟩
              case measure => simp [intOf]; omega
          · have hjn' : j = n.toNat := by omega
            rw [hjn'] at hv x1
            have hdn := dec_take hd.out (by omega : n.toNat * 4 ≤ t.length)
            replace hdn := hide hdn
            have hEr : Ext w wr := hE.out.trans hEq.out
            obtain ⟨_, _, hvv, hsl⟩ := hv.out.sl
            injection hvv with ev1 ev2 ev3
            clear ev2
            subst ev1 ev3
            obtain ⟨vo, dd, rfl⟩ := hown.out.form
            have hsp : ESeg.R (wr.alloc (Obj.cells #[.int .i64 (k.toNat : Int), .slice va n.toNat vd] 48)) (fun q => w.heap.size ≤ q ∧ q < (wr.alloc (Obj.cells #[.int .i64 (k.toNat : Int), .slice va n.toNat vd] 48)).heap.size ∧ some q ≠ (Value.slice vo l.length dd).ownBlock) ⟨(k.toNat : Int), decA 4 n.toNat t⟩ [.int .i64 (k.toNat : Int), .slice va n.toNat vd] := by
              have := segR (w1 := wr) (B := w.heap.size) (v := .slice vo l.length dd) (x := ⟨(k.toNat : Int), decA 4 n.toNat t⟩) (C := W0.heap.size) (d := vd) (b := va) (T := 48) (cs := #[.int .i64 (k.toNat : Int), .slice va n.toNat vd]) (fun q hq => (hown.out.lt q hq).2) hsz (by show _ ≤ (k.toNat : Int); omega) (by show (k.toNat : Int) ≤ _; omega) (by show (decA 4 n.toNat t).length ≤ _; rw [decA_len]; omega) (hsl.mono fun q hq => ⟨by omega, hq.2⟩)
              rw [show (⟨(k.toNat : Int), decA 4 n.toNat t⟩ : Seg).as.length = n.toNat from decA_len _ _ _] at this
              exact this
            have hsr : b.extract (2 + n.toNat * 4) (t.length + 2) = ⟨(t.drop (n.toNat * 4)).toArray⟩ := by
              rw [← hb.out, ext_list, Nat.add_comm 2]
              show ByteArray.mk ((t.drop (n.toNat * 4)).take _).toArray = _
              rw [List.take_of_length_le (by rw [List.length_drop]; omega)]
            have g1 : (2 + (n.toNat : Int) * 4).toNat = 2 + n.toNat * 4 := by omega
            have g2 : ((t.length : Int) + 2).toNat = t.length + 2 := by omega
            have hwz : w.heap.size ≤ wr.heap.size := hEr.size
            replace hsp := hide hsp
            replace hsr := hide hsr
            replace hEr := hide hEr
            replace hjn' := hide hjn'
            clear hsl hv hd
            go_wp2_with (at_builtin
                         have hox := (hown.out.ext hEq.out).alloc (Obj.cells #[.int .i64 (k.toNat : Int), .slice va n.toNat vd] 48)
                         have hll : l.length ≤ 17179869184 := by omega
                         have hwb : w.heap.size ≤ (wr.alloc (Obj.cells #[.int .i64 (k.toNat : Int), .slice va n.toNat vd] 48)).heap.size := by simp; omega
                         refine wpList_push (E := ESeg) rfl _ _ _ rfl okSeg' (by decide) (by decide) rfl hox hll hwb rfl hsp.out (cells_new wr #[.int .i64 (k.toNat : Int), .slice va n.toNat vd] _) ?_
                         intro v' w5 hown' hg hat
                         have hE5 : Ext w w5 := (hEr.out.alloc _).push (fun q hq => (hown.out.lt q hq).1) hg
                         replace hE5 := hide hE5
                         replace hown' := hide hown'
                         clear hg hat hox)
            go_roundw
            case rel => exact ⟨l ++ [⟨(k.toNat : Int), decA 4 n.toNat t⟩], t.drop (n.toNat * 4), by simp at hlr ⊢; omega, by rw [← hsr.out], hown'.out, hdn, hE5.out⟩
            case measure => simp [ByteArray.size_extract]; omega
end Go.Proofs.YtiappobhljiknaaDoor
