/- The law's paths that may be. -/
import Derived.Test.YtiappobhljiknaaDoorA13
import Derived.Test.YtiappobhljiknaaDoorW15
namespace Go.Proofs.YtiappobhljiknaaDoor
open Go.RowKit
set_option linter.unusedVariables false

set_option maxRecDepth 20000 in
set_option maxHeartbeats 2000000 in
theorem right_any (a : Option Addr) (c : Nat) (l : List Seg) (w : World) (hl : l.length ≤ 16777216) (hs : Path w a l) :
    Calls Tryd.prog 36 #[.slice a l.length c] w fun e w' => ∃ v, e = .returned v ∧ Ext w w' ∧ Own ESeg 48 w' w.heap.size v (rightS l) := by
  replace hs := hide hs
  have mixed : Tryd.prog.follows Departure.mixedOrders = true := by kernel_rfl
  go_enter Tryd.func36, Tryd.ntmps36
  go_wp2
  go_loopw [3, 4] (fun v i wr => ∃ k : Nat, k ≤ l.length ∧ k ≤ 6 ∧ i = .int .i64 k ∧ Own ESeg 48 wr w.heap.size v (rightN l k) ∧ Ext w wr) (fun _ i _ => 6 - (intOf i).toNat)
  case atStart => exact ⟨0, Nat.zero_le _, by omega, rfl, Own.nil, Ext.refl _⟩
  case round =>
    obtain ⟨k, hk, h6, rfl, hown, hE⟩ := hrel
    rename World => W0
    have hsz := hE.size
    replace hE := hide hE
    replace hown := hide hown
    by_cases hlt : k < l.length
    · by_cases hlt6 : k < 6
      · obtain ⟨b1, o1, a1, c1, rfl, _, h0, h1, hm1, hs1, hk1, hk2⟩ := ESeg.at (hs.out.ext hE.out) k hlt
        replace hs1 := hide hs1
        have t1 := Int.lt_tmod_of_pos l[k].kind (show (0 : Int) < 4 by omega)
        have t2 := Int.tmod_lt_of_pos l[k].kind (show (0 : Int) < 4 by omega)
        have t3 := Int.tmod_nonneg 4 (show 0 ≤ l[k].kind.tmod 4 + 4 by omega)
        have t4 := Int.tmod_lt_of_pos (l[k].kind.tmod 4 + 4) (show (0 : Int) < 4 by omega)
        have hw1 : wrap64 (l[k].kind.tmod 4 + 4) = l[k].kind.tmod 4 + 4 := IntWalk.wrap64_in _ (by omega)
        have hw2 : wrap64 (1 + (l[k].kind.tmod 4 + 4).tmod 4) = 1 + (l[k].kind.tmod 4 + 4).tmod 4 := IntWalk.wrap64_in _ (by omega)
        clear t1 t2 t3 t4
        go_wp2
        have hB0 := Blk.new W0 48 #[.int .i64 (1 + (l[k].kind.tmod 4 + 4).tmod 4), .slice none 0 0]
        replace h0 := hide h0
        replace h1 := hide h1
        replace hB0 := hide hB0
        have hd6 : decide ((k : Int) < 6) = true := by simp; omega
        simp only [hw1, hw2, hd6]
        clear hw1 hw2 hd6
        go_loopw [6] (fun q wq => ∃ (j : Nat) (v : Value), j ≤ l[k].as.length ∧ j ≤ 3 ∧ q = .int .i64 j ∧ Blk wq W0.heap.size 48 #[.int .i64 (1 + (l[k].kind.tmod 4 + 4).tmod 4), v] ∧ Own EU32 31 wq (W0.heap.size + 1) v ((l[k].as.take j).map max1) ∧ Ext W0 wq) (fun q _ => 3 - (intOf q).toNat)
        case atStart => exact ⟨0, _, Nat.zero_le _, by omega, rfl, hB0.out, Own.nil, (Ext.refl _).alloc _⟩
        case round =>
          obtain ⟨j, v, hj, hj3, rfl, hB, hv, hEq⟩ := hrel
          have q1 := hEq.cell h1.out
          have x0 := hB.cell 0
          have x1 := hB.cell 1
          simp only [List.getElem?_toArray, List.getElem?_cons_zero, List.getElem?_cons_succ] at x0 x1
          have hgx : W0.heap.size < wr.heap.size := hB.lt
          obtain ⟨va, vd, rfl⟩ := hv.form
          have hvl : ((l[k].as.take j).map max1).length = j := by simp; omega
          rw [hvl] at hB x1 hv
          replace hB := hide hB
          replace hEq := hide hEq
          by_cases hgo : j < l[k].as.length ∧ j < 3
          · obtain ⟨hjl, hj33⟩ := hgo
            obtain ⟨b4, o4, rfl, _, q0⟩ := EU32.at (hs1.out.ext hEq.out) j hjl
            have hmx := max1_int l[k].as[j]
            replace hv := hide hv
            have x1' : (wr.drew.alloc (Obj.cells #[.int .u32 ((max1 l[k].as[j]).toNat : Int)] 31)).cell? ⟨W0.heap.size, 1, none⟩ = some (.slice va j vd) := (World.cell?_of_block (a := ⟨W0.heap.size, 1, none⟩) (Below.heap_alloc _ _ _ hgx)).trans x1
            go_wp2
            go_region_law_o (refine step_push (E := EU32) (B := W0.heap.size + 1) (v := .slice va j vd) (l := (l[k].as.take j).map max1) (y := max1 l[k].as[j]) (cs := [.int .u32 ((max1 l[k].as[j]).toNat : Int)]) rfl _ _ _ (by rfl) okU32' (by decide) (by decide) (by rfl) (hv.out.draw.alloc _) (by simp; omega) (by simp; omega) (by rfl) ⟨rfl, trivial⟩ (cell_one_new _ _ _) ?_
                             intro v2 w2 hv2 hg2 hat2
                             obtain ⟨a2, d2, rfl⟩ := hv2.form
                             have hB2 := Blk.grown (hB.out.drew.alloc _) hg2 (fun he => by have := (hv.out.lt _ he.symm).1; omega)
                             have y1 := hB2.cell 1
                             have f1 := hB2.frozen 1
                             simp only [List.getElem?_toArray, List.getElem?_cons_zero, List.getElem?_cons_succ] at y1
                             have hn2 : ((l[k].as.take j).map max1 ++ [max1 l[k].as[j]]).length = j + 1 := by simp; omega
                             rw [hn2] at hv2
                             replace hB2 := hide hB2
                             replace hv2 := hide hv2
                             replace hg2 := hide hg2
                             clear hat2)
            all_goals
              go_wp2
              go_roundw
              case rel => exact ⟨j + 1, _, by omega, by omega, by go_num, hB2.out.set_ 1 _, by rw [map_take_succ max1 _ _ hjl]; exact hv2.out.kept (by simp [World.setCell]) (fun b hb _ => Below.heap_setCell w2 ⟨W0.heap.size, 1, none⟩ _ b (show b ≠ W0.heap.size by omega)), ((hEq.out.drew.alloc _).grown hg2.out fun b hb => by have := (hv.out.lt _ hb).1; omega).setCell (by exact Nat.le_refl _) _⟩
              case measure => simp [intOf]; omega
          · have hjm : j = (rseg l[k]).as.length := by simp [rseg]; omega
            have hjs : (l[k].as.take j).map max1 = (rseg l[k]).as := by
              unfold rseg
              rcases Nat.lt_or_ge 3 l[k].as.length with h | h
              · have : j = 3 := by omega
                rw [this]
              · rw [List.take_of_length_le h, List.take_of_length_le (by omega)]
            have hsu := hide (rightN_succ l k hlt)
            rw [hjs] at hv
            replace hv := hide hv
            obtain ⟨_, _, hvv, hsl⟩ := hv.out.sl
            injection hvv with ev1 ev2 ev3
            clear ev2
            subst ev1 ev3
            have hne : neS (rseg l[k]) = decide (0 < j) := by rw [hjm]; rfl
            have hrk := rkind_bd l[k].kind
            have hsp : ESeg.R (wr.alloc (Obj.cells #[.int .i64 (1 + (l[k].kind.tmod 4 + 4).tmod 4), .slice va j vd] 48)) (fun b => w.heap.size ≤ b ∧ b < (wr.alloc (Obj.cells #[.int .i64 (1 + (l[k].kind.tmod 4 + 4).tmod 4), .slice va j vd] 48)).heap.size ∧ some b ≠ u3.ownBlock) (rseg l[k]) [.int .i64 (1 + (l[k].kind.tmod 4 + 4).tmod 4), .slice va j vd] := by
              have := segR (w1 := wr) (B := w.heap.size) (v := u3) (x := rseg l[k]) (C := W0.heap.size) (d := vd) (T := 48) (cs := #[.int .i64 (1 + (l[k].kind.tmod 4 + 4).tmod 4), .slice va j vd]) (fun b hb => (hown.out.lt b hb).2) hsz (by show _ ≤ rkind l[k].kind; omega) (by show rkind l[k].kind ≤ _; omega) (by omega) (hsl.mono fun b hb => ⟨by omega, hb.2⟩)
              rw [← hjm] at this
              exact this
            replace hsp := hide hsp
            replace hsu := hide (by have := hsu.out; rw [hne] at this; exact this)
            have hx5 : ∀ q : World, q = wr.alloc (Obj.cells #[.int .i64 (1 + (l[k].kind.tmod 4 + 4).tmod 4), .slice va j vd] 48) → q.heap.size = wr.heap.size + 1 := fun q hq => by rw [hq]; simp
            have hgz : W0.heap.size ≤ wr.heap.size := hEq.out.size
            replace hjm := hide hjm
            clear hsl hrk hne hjs hx5
            rcases (show (j < l[k].as.length ∧ 3 ≤ j) ∨ l[k].as.length ≤ j by omega) with ⟨hjl, hj33⟩ | hjl
            all_goals
              rcases Nat.eq_zero_or_pos j with hj0 | hj0
            case inl.inl => omega
            case inr.inl =>
              have hs0 := hsu.out
              rw [if_neg (by simp [hj0]), List.append_nil] at hs0
              replace hs0 := hide hs0
              go_wp2
              go_roundw
              case rel => exact ⟨k + 1, by omega, by omega, by go_num, by rw [hs0.out]; exact hown.out.ext hEq.out, hE.out.trans hEq.out⟩
              case measure => simp [intOf]; omega
            all_goals
              replace hgo := hide hgo
              have hs0 := hsu.out
              rw [if_pos (by simpa using hj0)] at hs0
              replace hs0 := hide hs0
              go_wp2_with (at_builtin
                           have hox := (hown.out.ext hEq.out).alloc (Obj.cells #[.int .i64 (1 + (l[k].kind.tmod 4 + 4).tmod 4), .slice va j vd] 48)
                           have hrl : (rightN l k).length ≤ 17179869184 := by have h1 : (rightN l k).length ≤ ((l.take k).map rseg).length := List.length_filter_le _ _; simp at h1; omega
                           have hwb : w.heap.size ≤ (wr.alloc (Obj.cells #[.int .i64 (1 + (l[k].kind.tmod 4 + 4).tmod 4), .slice va j vd] 48)).heap.size := by simp; omega
                           refine wpList_push (E := ESeg) rfl _ _ _ rfl okSeg' (by decide) (by decide) rfl hox hrl hwb rfl hsp.out (cells_new wr #[.int .i64 (1 + (l[k].kind.tmod 4 + 4).tmod 4), .slice va j vd] _) ?_
                           intro v' w2 hown' hg hat)
              go_roundw
              case rel => exact ⟨k + 1, by omega, by omega, by go_num, by rw [hs0.out]; exact hown', ((hE.out.trans hEq.out).alloc _).push (fun b hb => (hown.out.lt b hb).1) hg⟩
              case measure => simp [intOf]; omega
      · have hk6 : k = 6 := by omega
        rw [hk6] at hown
        replace hown : Hid (Own ESeg 48 W0 w.heap.size u3 (rightS l)) := hown
        go_wp2
        go_ret
        exact ⟨_, rfl, hE.out, hown.out⟩
    · have hkl : k = l.length := by omega
      have ho := hown.out
      rw [rightN_all l k (by omega) (by omega)] at ho
      replace ho := hide ho
      go_wp2
      go_ret
      exact ⟨_, rfl, hE.out, ho.out⟩
end Go.Proofs.YtiappobhljiknaaDoor
