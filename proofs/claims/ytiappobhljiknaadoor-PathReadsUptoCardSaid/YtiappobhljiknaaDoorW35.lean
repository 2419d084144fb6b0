/- heraldref04.Parse. -/
import Derived.Test.YtiappobhljiknaaDoorW34
import Derived.Test.YtiappobhljiknaaDoorW7
import Derived.Test.YtiappobhljiknaaDoorW9
import Derived.Test.YtiappobhljiknaaDoorW29
namespace Go.Proofs.YtiappobhljiknaaDoor
open Go.RowKit
set_option linter.unusedVariables false

set_option maxRecDepth 20000 in
set_option maxHeartbeats 2000000 in
theorem RParse_any (s : List UInt8) (w : World) (hs : s.length ≤ 1048576) (hT : Tab w) :
    Calls Tryd.prog 40 #[.string ⟨s.toArray⟩] w fun e w' => ∃ a c, e = .returned (.tuple #[.slice a (parS s).1.length c, .int .i64 (parS s).2]) ∧ Ext w w' ∧ Path w' a (parS s).1 := by
  have mixed : Tryd.prog.follows Departure.mixedOrders = true := by kernel_rfl
  have hps := hide (parS_scan s)
  replace hT := hide hT
  have hz : (ByteArray.mk s.toArray).size = s.length := by simp [ByteArray.size]
  go_enter Tryd.func40, Tryd.ntmps40
  go_wp2
  go_loopw [4, 5, 6, 7] (fun q v d i wr => ∃ (ls : List (Seg × Nat)) (n m k : Nat), k ≤ s.length ∧ ls.length ≤ 17 ∧ n ≤ 8589934592 ∧ m ≤ k ∧ v = .int .u64 n ∧ d = .int .i64 m ∧ i = .int .i64 k ∧ Hid (scanK s k = ⟨ls.map (·.1), n, m⟩) ∧ Own ESegB 48 wr w.heap.size q ls ∧ Hid ((ls.map (·.2)).Pairwise (· < ·)) ∧ Hid (∀ p ∈ ls, p.2 < wr.heap.size) ∧ Ext w wr) (fun _ _ _ i _ => s.length - (intOf i).toNat)
  case atStart => exact ⟨[], 0, 0, 0, Nat.zero_le _, by simp, by omega, by omega, rfl, rfl, rfl, scanK_zero s, Own.nil, (List.Pairwise.nil : List.Pairwise _ _), (fun p hp => by cases hp), Ext.refl _⟩
  case round =>
    obtain ⟨ls, n, m, k, hk, hl17, hn, hm, rfl, rfl, rfl, hsc, hown, hpw, hlt, hE⟩ := hrel
    rename World => W0
    have hzE := hE.size
    obtain ⟨vo, dd, rfl⟩ := hown.form
    replace hown := hide hown
    replace hE := hide hE
    by_cases hend : s.length ≤ k ∨ 16 < ls.length
    · have hso := scanK_end s k (by rcases hend with h | h; exact .inl h; exact .inr (by rw [hsc.out]; simpa using h))
      rw [hsc.out] at hso
      replace hso := hide hso
      obtain ⟨_, _, hvv, _, hp⟩ := hown.out.plain.weak.toPath
      injection hvv with e1 e2 e3
      subst e1 e3
      rw [List.length_map] at e2
      clear e2
      replace hp := hide hp
      have hT2 := RText_any vo dd (ls.map (·.1)) W0 (by simp; omega) hp.out (hT.out.ext hE.out)
      have hps2 := hps.out
      rw [hso.out] at hps2
      have hml : (ls.map (·.1)).length = ls.length := List.length_map _
      rw [hml] at hT2 
      generalize ls.map (·.1) = l at hT2 hps2 hml hp
      replace hml := hide hml
      rcases (show s.length ≤ k ∨ (k < s.length ∧ 16 < ls.length) by omega) with he1 | ⟨he1, he2⟩
      all_goals
        clear hend
        cases hc : chk l with
        | false =>
          rw [hc] at hT2
          rw [if_neg (by rw [hc]; simp)] at hps2
          simp only [errOf, Bool.false_eq_true, if_false] at hT2
          replace hT2 := hide hT2
          replace hps2 := hide hps2
          replace hc := hide hc
          go_wp2_with fail
          refine hT2.out.mono ?_
          rintro e w5 ⟨rfl, he5⟩
          replace he5 := hide he5
          go_wp2
          go_ret2
          rw [hps2.out]
          exact ⟨_, _, rfl, hE.out.trans he5.out, .inl rfl⟩
        | true =>
          rw [hc] at hT2
          simp only [errOf, if_true] at hT2
          by_cases ht : textS l = ⟨s.toArray⟩
          · rw [if_pos ⟨hc, ht⟩] at hps2
            rw [ht] at hT2
            replace hT2 := hide hT2
            replace hps2 := hide hps2
            replace hc := hide hc
            replace ht := hide ht
            go_wp2_with fail
            refine hT2.out.mono ?_
            rintro e w5 ⟨rfl, he5⟩
            replace he5 := hide he5
            go_wp2
            go_ret2
            rw [hps2.out]
            exact ⟨_, _, by rw [hml.out]; rfl, hE.out.trans he5.out, hp.out.ext he5.out⟩
          · rw [if_neg (fun h => ht h.2)] at hps2
            obtain ⟨t, hte⟩ : ∃ t : List UInt8, textS l = ⟨t.toArray⟩ := ⟨(textS l).data.toList, by cases textS l; simp⟩
            rw [hte] at hT2 ht
            clear hte
            replace hT2 := hide hT2
            replace hps2 := hide hps2
            replace hc := hide hc
            have htb : (t == s) = false := beq_eq_false_iff_ne.2 fun h => ht (by rw [h])
            replace ht := hide ht
            go_wp2_with fail
            refine hT2.out.mono ?_
            rintro e w5 ⟨rfl, he5⟩
            replace he5 := hide he5
            go_wp2
            go_ret2
            rw [hps2.out]
            exact ⟨_, _, rfl, hE.out.trans he5.out, .inl rfl⟩
    · have hk1 : k < s.length := by omega
      have hl16 : ls.length ≤ 16 := by omega
      have hnx := scanK_succ s k hk1
      rw [hsc.out] at hnx
      have hby : (ByteArray.mk s.toArray)[k]'(by omega) = s[k] := rfl
      generalize s[k] = c at hnx hby
      have hc8 := c.toNat_lt
      replace hnx := hide hnx
      rcases (show (48 ≤ c.toNat ∧ c.toNat ≤ 57) ∨ ((c.toNat < 48 ∨ 57 < c.toNat) ∧ refK c = 0) ∨ ((c.toNat < 48 ∨ 57 < c.toNat) ∧ 0 < refK c) from by have := refK_bd c; omega) with ⟨hd1, hd2⟩ | ⟨hd, hK⟩ | ⟨hd, hK⟩
      case inl =>
        have hK : refK c = 0 := refK_dig (by unfold digP; simp; omega)
        have hcall := RKind_any c W0
        rw [hK] at hcall
        replace hcall := hide hcall
        replace hK := hide hK
        have hx : scanK s (k + 1) = ⟨ls.map (·.1), min (n * 10 + (c.toNat - 48)) 8589934592, m + 1⟩ := by
          rw [hnx.out, stp_dig (by simpa using hl16) (by unfold digP; simp; omega)]
        replace hx := hide hx
        go_wp2_with fail
        refine hcall.out.mono ?_
        rintro e w5 ⟨rfl, rfl⟩
        go_wp2
        go_roundw
        case rel =>
          exact ⟨ls, min (n * 10 + (c.toNat - 48)) 8589934592, m + 1, k + 1, by omega, hl17, by omega, by omega, by congr 1; omega, by go_num, by go_num, hx, hown.out, hpw, hlt, hE.out⟩
        case measure => simp [intOf]; omega
      case' inr.inl =>
        have hcall := RKind_any c W0
        rw [hK] at hcall
        replace hcall := hide hcall
        replace hK := hide hK
        go_wp2_with fail
        refine hcall.out.mono ?_
        rintro e w5 ⟨rfl, rfl⟩
        have hdg : digP c = false := by unfold digP; simp; omega
        have hx : scanK s (k + 1) = ⟨if 0 < m then addV (ls.map (·.1)) n else ls.map (·.1), 0, 0⟩ := by
          rw [hnx.out, stp_end (by simpa using hl16) hdg hK.out]
        rcases (show m = 0 ∨ (0 < m ∧ ls = []) ∨ (0 < m ∧ ls ≠ []) by by_cases h0 : m = 0; exact .inl h0; by_cases h1 : ls = []; exact .inr (.inl ⟨by omega, h1⟩); exact .inr (.inr ⟨by omega, h1⟩)) with rfl | ⟨hm0, rfl⟩ | ⟨hm0, hne⟩
        case inl =>
          rw [if_neg (by omega)] at hx
          replace hx := hide hx
          rcases (show (¬ ((48 : Int) ≤ (c.toNat : Int))) ∨ ((48 : Int) ≤ (c.toNat : Int) ∧ ¬ ((c.toNat : Int) ≤ 57)) by omega) with hc1 | ⟨hc1, hc2⟩
          all_goals
            go_wp2
            go_roundw
            case rel => exact ⟨ls, 0, 0, k + 1, by omega, hl17, by omega, by omega, rfl, rfl, by go_num, hx, hown.out, hpw, hlt, hE.out⟩
            case measure => simp [intOf]; omega
        case inr.inl =>
          rw [if_pos hm0] at hx
          replace hx := hide hx
          rcases (show (¬ ((48 : Int) ≤ (c.toNat : Int))) ∨ ((48 : Int) ≤ (c.toNat : Int) ∧ ¬ ((c.toNat : Int) ≤ 57)) by omega) with hc1 | ⟨hc1, hc2⟩
          all_goals
            go_wp2
            go_roundw
            case rel => exact ⟨[], 0, 0, k + 1, by omega, hl17, by omega, by omega, rfl, rfl, by go_num, hx, hown.out, hpw, hlt, hE.out⟩
            case measure => simp [intOf]; omega
        case inr.inr =>
          obtain ⟨l0, ⟨x, hb⟩, rfl⟩ : ∃ l0 p, ls = l0 ++ [p] := ⟨ls.dropLast, ls.getLast hne, (List.dropLast_concat_getLast hne).symm⟩
          rw [if_pos hm0, List.map_append, List.map_cons, List.map_nil, addV_snoc] at hx
          clear hne
          obtain ⟨g, dg, hvg⟩ := hown.out.formNe (by simp)
          injection hvg with e1 e2 e3
          clear e2
          subst e1 e3
          obtain ⟨u, x0, x1, hk1', hk2', hmx, hu, hub⟩ := own_lastB hown.out
          obtain ⟨ua, ud, rfl⟩ := hu.form
          have hll : (l0 ++ [(x, hb)]).length = l0.length + 1 := by simp
          rw [hll] at hl17 hl16 hown
          rcases (show 4294967296 ≤ n ∨ (n < 4294967296 ∧ 255 < x.as.length) ∨ (n < 4294967296 ∧ x.as.length ≤ 255) by omega) with hq | ⟨hq, hq2⟩ | ⟨hq, hq2⟩
          case inl =>
            rw [if_neg (by omega)] at hx
            have hq1 : True → decide ((n : Int) < 4294967296) = false := fun _ => by simp; omega
            replace hq := hide hq
            replace hx := hide hx
            replace hu := hide hu
            replace hub := hide hub
            rcases (show (¬ ((48 : Int) ≤ (c.toNat : Int))) ∨ ((48 : Int) ≤ (c.toNat : Int) ∧ ¬ ((c.toNat : Int) ≤ 57)) by omega) with hc1 | ⟨hc1, hc2⟩
            all_goals
              simp only [hll]
              replace hll := hide hll
              clear hby hend
              have hm1 : (0 : Int) < (m : Int) := by omega
              go_wp2
              go_roundw
              case rel => exact ⟨l0 ++ [(x, hb)], 0, 0, k + 1, by omega, by omega, by omega, by omega, rfl, rfl, by go_num, by rw [List.map_append]; exact hx.out, hown.out, hpw, hlt, hE.out⟩
              case measure => simp [intOf]; omega
          case inr.inl =>
            rw [if_neg (by show ¬ (n < 4294967296 ∧ x.as.length ≤ 255); omega)] at hx
            have hq1 : True → decide ((n : Int) < 4294967296) = true := fun _ => by simp; omega
            have hq3 : ¬ ((x.as.length : Int) ≤ 255) := by omega
            replace hq := hide hq
            replace hq2 := hide hq2
            replace hx := hide hx
            replace hu := hide hu
            replace hub := hide hub
            rcases (show (¬ ((48 : Int) ≤ (c.toNat : Int))) ∨ ((48 : Int) ≤ (c.toNat : Int) ∧ ¬ ((c.toNat : Int) ≤ 57)) by omega) with hc1 | ⟨hc1, hc2⟩
            all_goals
              simp only [hll]
              replace hll := hide hll
              clear hby hend
              have hm1 : (0 : Int) < (m : Int) := by omega
              go_wp2
              go_roundw
              case rel => exact ⟨l0 ++ [(x, hb)], 0, 0, k + 1, by omega, by omega, by omega, by omega, rfl, rfl, by go_num, by rw [List.map_append]; exact hx.out, hown.out, hpw, hlt, hE.out⟩
              case measure => simp [intOf]; omega
          case inr.inr =>
            obtain ⟨y, rfl⟩ : ∃ y : UInt32, n = y.toNat := ⟨UInt32.ofNat n, by rw [UInt32.toNat_ofNat']; omega⟩
            rw [if_pos ⟨hq, hq2⟩, UInt32.ofNat_toNat] at hx
            have g6 : IntKind.u32.wrap (y.toNat : Int) = (y.toNat : Int) := by rw [IntKind.wrap_u32]; omega
            have hq1 : True → decide ((y.toNat : Int) < 4294967296) = true := fun _ => by simp; omega
            have hq3 : (x.as.length : Int) ≤ 255 := by omega
            replace hq := hide hq
            replace hq2 := hide hq2
            have hgB := hown.out.blockLt
            have x1' : (W0.alloc (Obj.cells #[.int .u32 (y.toNat : Int)] 31)).cell? ⟨g, l0.length * 2 + 1, none⟩ = some (.slice ua x.as.length ud) := (World.cell?_of_block (a := ⟨g, l0.length * 2 + 1, none⟩) (Below.heap_alloc _ _ _ hgB.2)).trans x1
            replace hx := hide hx
            replace hu := hide hu
            replace hub := hide hub
            rcases (show (¬ ((48 : Int) ≤ (c.toNat : Int))) ∨ ((48 : Int) ≤ (c.toNat : Int) ∧ ¬ ((c.toNat : Int) ≤ 57)) by omega) with hc1 | ⟨hc1, hc2⟩
            all_goals
              simp only [hll]
              replace hll := hide hll
              clear hby hend
              have hm1 : (0 : Int) < (m : Int) := by omega
              go_wp2_with (at_builtin
                           refine wpList_push (E := EU32) (B := w.heap.size) (v := .slice ua x.as.length ud) (l := x.as) (y := y) (cs := [.int .u32 (y.toNat : Int)]) rfl _ _ _ rfl okU32' (by decide) (by decide) rfl (hu.out.alloc _) (by omega) (by simp; omega) (by rfl) ⟨rfl, trivial⟩ (cell_one_new _ _ _) ?_
                           intro v2 w2 hv2 hg2 hat2
                           have hub1 : ∀ q, (Value.slice ua x.as.length ud).ownBlock = some q → q ≠ g ∧ q < (W0.alloc (Obj.cells #[.int .u32 (y.toNat : Int)] 31)).heap.size ∧ q = hb := fun q hq => ⟨(hub.out q hq).1, by have := (hub.out q hq).2.1; simp; omega, (hub.out q hq).2.2⟩
                           have hoA := hown.out.alloc (Obj.cells #[.int .u32 (y.toNat : Int)] 31)
                           obtain ⟨y1, f1⟩ := own_lastCell hoA x1' hub1 hg2
                           obtain ⟨hb', r1, r2, r3⟩ := own_lastPush hoA hpw.out (fun p hp => by have := hlt.out p hp; simp; omega) hub1 hg2 hv2 hat2 hq2.out
                           have hE2 := ((hE.out.alloc (Obj.cells #[.int .u32 (y.toNat : Int)] 31)).grown hg2 (fun q hq => (hu.out.lt q hq).1)).setCell (p := ⟨g, l0.length * 2 + 1, none⟩) hgB.1 v2
                           obtain ⟨a2, d2, hvf⟩ := hv2.form
                           rw [show (x.as ++ [y]).length = x.as.length + 1 by simp] at hvf
                           subst hvf
                           replace r1 := hide r1
                           replace r2 := hide r2
                           replace r3 := hide r3
                           replace hE2 := hide hE2
                           clear hoA hub1 hv2 hg2 hat2 hq1 hq3)
              go_roundw
              case rel => exact ⟨l0 ++ [(⟨x.kind, x.as ++ [y]⟩, hb')], 0, 0, k + 1, by omega, by simp; omega, by omega, by omega, rfl, rfl, by go_num, by rw [List.map_append]; exact hx.out, r1.out, r2, r3, hE2.out⟩
              case measure => simp [intOf]; omega
      case inr.inr =>
        have hcall := RKind_any c W0
        have hdg : digP c = false := by unfold digP; simp; omega
        have hx : scanK s (k + 1) = ⟨if 0 < m then addV (ls.map (·.1) ++ [⟨refK c, []⟩]) n else ls.map (·.1) ++ [⟨refK c, []⟩], 0, 0⟩ := by
          rw [hnx.out]
          unfold stp addK
          rw [if_neg (by show ¬ 16 < (ls.map (·.1)).length; simpa using hl16), if_neg (by rw [hdg]; simp)]
          simp only [if_pos hK]
        have hK4 := (refK_bd c).2
        rw [addV_snoc] at hx
        generalize refK c = K at hcall hx hK hK4
        replace hcall := hide hcall
        rcases (show m = 0 ∨ (0 < m ∧ 4294967296 ≤ n) ∨ (0 < m ∧ n < 4294967296) by omega) with rfl | ⟨hm0, hq⟩ | ⟨hm0, hq⟩
        case inl =>
          rw [if_neg (by omega)] at hx
          replace hx := hide hx
          rcases (show (¬ ((48 : Int) ≤ (c.toNat : Int))) ∨ ((48 : Int) ≤ (c.toNat : Int) ∧ ¬ ((c.toNat : Int) ≤ 57)) by omega) with hc1 | ⟨hc1, hc2⟩
          all_goals
            go_wp2_with fail
            refine hcall.out.mono ?_
            rintro e w5 ⟨rfl, rfl⟩
            go_wp2_with fail
            refine hcall.out.mono ?_
            rintro e w5 ⟨rfl, rfl⟩
            go_wp2_with (at_builtin
                         have hox := hown.out.alloc (Obj.cells #[.int .i64 K, .slice none 0 0] 48)
                         have hll : ls.length ≤ 17179869184 := by omega
                         have hwb : w.heap.size ≤ (W0.alloc (Obj.cells #[.int .i64 K, .slice none 0 0] 48)).heap.size := by simp; omega
                         refine wpList_push (E := ESegB) (B := w.heap.size) rfl _ _ _ rfl okSegB' (by decide) (by decide) rfl hox hll hwb rfl (y := (⟨K, []⟩, W0.heap.size)) (segNone _ (by omega) (by omega)) (cells_new W0 #[.int .i64 K, .slice none 0 0] _) ?_
                         intro v' w5 hown' hg hat
                         have hE5 : Ext w w5 := (hE.out.alloc _).push (fun q hq => (hown.out.lt q hq).1) hg
                         obtain ⟨hp5, hl5⟩ := own_newB (x := ⟨K, []⟩) (C := W0.heap.size) (D := w5.heap.size) hpw.out hlt.out (Nat.lt_of_lt_of_le (by simp) hg.size)
                         have hw5 : w.heap.size ≤ w5.heap.size := hE5.size
                         obtain ⟨g, dg, hvg⟩ := hown'.formNe (by simp)
                         rw [show (ls ++ [((⟨K, []⟩ : Seg), W0.heap.size)]).length = ls.length + 1 by simp] at hvg
                         subst hvg
                         obtain ⟨u, _, x1, _, _, _, hu, hub⟩ := own_lastB hown'
                         obtain ⟨ua, ud, rfl⟩ := hu.form
                         replace x1 : w5.cell? ⟨g, ls.length * 2 + 1, none⟩ = some (.slice ua 0 ud) := x1
                         replace hu : Own EU32 31 w5 w.heap.size (.slice ua 0 ud) [] := hu
                         replace hub : ∀ q, (Value.slice ua 0 ud).ownBlock = some q → q ≠ g ∧ q < w5.heap.size ∧ q = W0.heap.size := hub
                         replace hu := hide hu
                         replace hub := hide hub
                         replace hown' := hide hown'
                         replace hE5 := hide hE5
                         replace hp5 := hide hp5
                         replace hl5 := hide hl5
                         clear hg hat hox)
            go_roundw
            case rel => exact ⟨ls ++ [(⟨K, []⟩, W0.heap.size)], 0, 0, k + 1, by omega, by simp; omega, by omega, by omega, rfl, rfl, by go_num, by rw [List.map_append]; exact hx.out, hown'.out, hp5, hl5, hE5.out⟩
            case measure => simp [intOf]; omega
        case inr.inl =>
          rw [if_pos hm0, if_neg (by omega)] at hx
          have hm1 : (0 : Int) < (m : Int) := by omega
          replace hq := hide hq
          replace hx := hide hx
          rcases (show (¬ ((48 : Int) ≤ (c.toNat : Int))) ∨ ((48 : Int) ≤ (c.toNat : Int) ∧ ¬ ((c.toNat : Int) ≤ 57)) by omega) with hc1 | ⟨hc1, hc2⟩
          all_goals
            go_wp2_with fail
            refine hcall.out.mono ?_
            rintro e w5 ⟨rfl, rfl⟩
            go_wp2_with fail
            refine hcall.out.mono ?_
            rintro e w5 ⟨rfl, rfl⟩
            go_wp2_with (at_builtin
                         have hox := hown.out.alloc (Obj.cells #[.int .i64 K, .slice none 0 0] 48)
                         have hll : ls.length ≤ 17179869184 := by omega
                         have hwb : w.heap.size ≤ (W0.alloc (Obj.cells #[.int .i64 K, .slice none 0 0] 48)).heap.size := by simp; omega
                         refine wpList_push (E := ESegB) (B := w.heap.size) rfl _ _ _ rfl okSegB' (by decide) (by decide) rfl hox hll hwb rfl (y := (⟨K, []⟩, W0.heap.size)) (segNone _ (by omega) (by omega)) (cells_new W0 #[.int .i64 K, .slice none 0 0] _) ?_
                         intro v' w5 hown' hg hat
                         have hE5 : Ext w w5 := (hE.out.alloc _).push (fun q hq => (hown.out.lt q hq).1) hg
                         obtain ⟨hp5, hl5⟩ := own_newB (x := ⟨K, []⟩) (C := W0.heap.size) (D := w5.heap.size) hpw.out hlt.out (Nat.lt_of_lt_of_le (by simp) hg.size)
                         have hw5 : w.heap.size ≤ w5.heap.size := hE5.size
                         obtain ⟨g, dg, hvg⟩ := hown'.formNe (by simp)
                         rw [show (ls ++ [((⟨K, []⟩ : Seg), W0.heap.size)]).length = ls.length + 1 by simp] at hvg
                         subst hvg
                         obtain ⟨u, _, x1, _, _, _, hu, hub⟩ := own_lastB hown'
                         obtain ⟨ua, ud, rfl⟩ := hu.form
                         replace x1 : w5.cell? ⟨g, ls.length * 2 + 1, none⟩ = some (.slice ua 0 ud) := x1
                         replace hu : Own EU32 31 w5 w.heap.size (.slice ua 0 ud) [] := hu
                         replace hub : ∀ q, (Value.slice ua 0 ud).ownBlock = some q → q ≠ g ∧ q < w5.heap.size ∧ q = W0.heap.size := hub
                         replace hu := hide hu
                         replace hub := hide hub
                         replace hown' := hide hown'
                         replace hE5 := hide hE5
                         replace hp5 := hide hp5
                         replace hl5 := hide hl5
                         clear hg hat hox
                         have hq1 : True → decide ((n : Int) < 4294967296) = false := fun _ => by have := hq.out; simp; omega)
            go_roundw
            case rel => exact ⟨ls ++ [(⟨K, []⟩, W0.heap.size)], 0, 0, k + 1, by omega, by simp; omega, by omega, by omega, rfl, rfl, by go_num, by rw [List.map_append]; exact hx.out, hown'.out, hp5, hl5, hE5.out⟩
            case measure => simp [intOf]; omega
        case inr.inr =>
          obtain ⟨y, rfl⟩ : ∃ y : UInt32, n = y.toNat := ⟨UInt32.ofNat n, by rw [UInt32.toNat_ofNat']; omega⟩
          rw [if_pos hm0, if_pos ⟨hq, by simp⟩, UInt32.ofNat_toNat] at hx
          have g6 : IntKind.u32.wrap (y.toNat : Int) = (y.toNat : Int) := by rw [IntKind.wrap_u32]; omega
          have hm1 : (0 : Int) < (m : Int) := by omega
          replace hq := hide hq
          replace hx := hide hx
          rcases (show (¬ ((48 : Int) ≤ (c.toNat : Int))) ∨ ((48 : Int) ≤ (c.toNat : Int) ∧ ¬ ((c.toNat : Int) ≤ 57)) by omega) with hc1 | ⟨hc1, hc2⟩
          all_goals
            go_wp2_with fail
            refine hcall.out.mono ?_
            rintro e w5 ⟨rfl, rfl⟩
            go_wp2_with fail
            refine hcall.out.mono ?_
            rintro e w5 ⟨rfl, rfl⟩
            go_wp2_with (first
              | (at_builtin
                 have hox := hown.out.alloc (Obj.cells #[.int .i64 K, .slice none 0 0] 48)
                 have hll : ls.length ≤ 17179869184 := by omega
                 have hwb : w.heap.size ≤ (W0.alloc (Obj.cells #[.int .i64 K, .slice none 0 0] 48)).heap.size := by simp; omega
                 refine wpList_push (E := ESegB) (B := w.heap.size) rfl _ _ _ rfl okSegB' (by decide) (by decide) rfl hox hll hwb rfl (y := (⟨K, []⟩, W0.heap.size)) (segNone _ (by omega) (by omega)) (cells_new W0 #[.int .i64 K, .slice none 0 0] _) ?_
                 intro v' w5 hown' hg hat
                 have hE5 : Ext w w5 := (hE.out.alloc _).push (fun q hq => (hown.out.lt q hq).1) hg
                 obtain ⟨hp5, hl5⟩ := own_newB (x := ⟨K, []⟩) (C := W0.heap.size) (D := w5.heap.size) hpw.out hlt.out (Nat.lt_of_lt_of_le (by simp) hg.size)
                 have hw5 : w.heap.size ≤ w5.heap.size := hE5.size
                 obtain ⟨g, dg, hvg⟩ := hown'.formNe (by simp)
                 rw [show (ls ++ [((⟨K, []⟩ : Seg), W0.heap.size)]).length = ls.length + 1 by simp] at hvg
                 subst hvg
                 obtain ⟨u, _, x1, _, _, _, hu, hub⟩ := own_lastB hown'
                 obtain ⟨ua, ud, rfl⟩ := hu.form
                 replace x1 : w5.cell? ⟨g, ls.length * 2 + 1, none⟩ = some (.slice ua 0 ud) := x1
                 replace hu : Own EU32 31 w5 w.heap.size (.slice ua 0 ud) [] := hu
                 replace hub : ∀ q, (Value.slice ua 0 ud).ownBlock = some q → q ≠ g ∧ q < w5.heap.size ∧ q = W0.heap.size := hub
                 replace hu := hide hu
                 replace hub := hide hub
                 replace hown' := hide hown'
                 replace hE5 := hide hE5
                 replace hp5 := hide hp5
                 replace hl5 := hide hl5
                 clear hg hat hox
                 have hq1 : True → decide ((y.toNat : Int) < 4294967296) = true := fun _ => by have := hq.out; simp; omega
                 have hgB := hown'.out.blockLt
                 have x1' : (w5.alloc (Obj.cells #[.int .u32 (y.toNat : Int)] 31)).cell? ⟨g, ls.length * 2 + 1, none⟩ = some (.slice ua 0 ud) := (World.cell?_of_block (a := ⟨g, ls.length * 2 + 1, none⟩) (Below.heap_alloc _ _ _ hgB.2)).trans x1)
              | (at_builtin
                 refine wpList_push (E := EU32) (B := w.heap.size) (v := .slice ua 0 ud) (l := []) (y := y) (cs := [.int .u32 (y.toNat : Int)]) rfl _ _ _ rfl okU32' (by decide) (by decide) rfl (hu.out.alloc _) (by simp) (by simp; omega) (by rfl) ⟨rfl, trivial⟩ (cell_one_new _ _ _) ?_
                 intro v2 w2 hv2 hg2 hat2
                 have hub1 : ∀ q, (Value.slice ua 0 ud).ownBlock = some q → q ≠ g ∧ q < (w5.alloc (Obj.cells #[.int .u32 (y.toNat : Int)] 31)).heap.size ∧ q = W0.heap.size := fun q hq => ⟨(hub.out q hq).1, by have := (hub.out q hq).2.1; simp; omega, (hub.out q hq).2.2⟩
                 have hoA := hown'.out.alloc (Obj.cells #[.int .u32 (y.toNat : Int)] 31)
                 obtain ⟨y1, f1⟩ := own_lastCell hoA x1' hub1 hg2
                 obtain ⟨hb', r1, r2, r3⟩ := own_lastPush (s := ⟨K, []⟩) hoA hp5.out (fun p hp => by have := hl5.out p hp; simp; omega) hub1 hg2 hv2 hat2 (by simp)
                 have hE2 := ((hE5.out.alloc (Obj.cells #[.int .u32 (y.toNat : Int)] 31)).grown hg2 (fun q hq => (hu.out.lt q hq).1)).setCell (p := ⟨g, ls.length * 2 + 1, none⟩) hgB.1 v2
                 obtain ⟨a2, d2, hvf⟩ := hv2.form
                 rw [show ([] ++ [y] : List UInt32).length = 1 from rfl] at hvf
                 subst hvf
                 replace r1 := hide r1
                 replace r2 := hide r2
                 replace r3 := hide r3
                 replace hE2 := hide hE2
                 clear hoA hub1 hv2 hg2 hat2 hq1))
            go_roundw
            case rel => exact ⟨ls ++ [(⟨K, [] ++ [y]⟩, hb')], 0, 0, k + 1, by omega, by simp; omega, by omega, by omega, rfl, rfl, by go_num, by rw [List.map_append]; exact hx.out, r1.out, r2, r3, hE2.out⟩
            case measure => simp [intOf]; omega
end Go.Proofs.YtiappobhljiknaaDoor
