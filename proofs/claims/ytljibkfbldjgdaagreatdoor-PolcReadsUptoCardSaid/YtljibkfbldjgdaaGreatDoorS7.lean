/- Walks: an address read, by the document. -/
import Derived.Test.YtljibkfbldjgdaaGreatDoorS6
import Derived.Test.YtljibkfbldjgdaaGreatDoorQ8
namespace Go.Proofs.YtljibkfbldjgdaaGreatDoor
open Go.RowKit Go.Sort
set_option linter.unusedVariables false

def SpR (P : List (List UInt8)) (w : World) (e : Ending) (w' : World) : Prop :=
  Ext w w' ∧ ∃ g o d, e = .returned (.slice (some ⟨g, o, none⟩) P.length d) ∧ P.length ≤ d ∧ ∀ k, (h : k < P.length) → w'.cell? ⟨g, o + k, none⟩ = some (.string ⟨P[k].toArray⟩)
theorem RSplit46 (s : List UInt8) (hs : s.length ≤ 1048576) (w : World) : Calls Tryz.prog 52 #[.string ⟨s.toArray⟩, .int .u8 46] w (SpR (spl 46 s) w) := RSplit_any s hs 46 w
theorem RSplit58 (s : List UInt8) (hs : s.length ≤ 1048576) (w : World) : Calls Tryz.prog 52 #[.string ⟨s.toArray⟩, .int .u8 58] w (SpR (spl 58 s) w) := RSplit_any s hs 58 w
theorem RSplit32 (s : List UInt8) (hs : s.length ≤ 1048576) (w : World) : Calls Tryz.prog 52 #[.string ⟨s.toArray⟩, .int .u8 32] w (SpR (spl 32 s) w) := RSplit_any s hs 32 w
theorem RSplit47 (s : List UInt8) (hs : s.length ≤ 1048576) (w : World) : Calls Tryz.prog 52 #[.string ⟨s.toArray⟩, .int .u8 47] w (SpR (spl 47 s) w) := RSplit_any s hs 47 w
theorem RRead8 (s : List UInt8) (hs : s.length ≤ 1048576) (w : World) : Calls Tryz.prog 140 #[.string ⟨s.toArray⟩, .int .u64 10, .int .u64 255] w (RdP 10 255 s w) := RRead_any 10 255 (by decide) (by decide) (by decide) (by decide) s hs w
theorem RRead7 (s : List UInt8) (hs : s.length ≤ 1048576) (w : World) : Calls Tryz.prog 140 #[.string ⟨s.toArray⟩, .int .u64 10, .int .u64 128] w (RdP 10 128 s w) := RRead_any 10 128 (by decide) (by decide) (by decide) (by decide) s hs w
theorem RRead16 (s : List UInt8) (hs : s.length ≤ 1048576) (w : World) : Calls Tryz.prog 140 #[.string ⟨s.toArray⟩, .int .u64 16, .int .u64 65535] w (RdP 16 65535 s w) := RRead_any 16 65535 (by decide) (by decide) (by decide) (by decide) s hs w
theorem RRead64 (s : List UInt8) (hs : s.length ≤ 1048576) (w : World) : Calls Tryz.prog 140 #[.string ⟨s.toArray⟩, .int .u64 10, .int .u64 18446744073709551615] w (RdP 10 18446744073709551615 s w) := RRead_any 10 18446744073709551615 (by decide) (by decide) (by decide) (by decide) s hs w
theorem addr_long {s : List UInt8} (h : 40 < s.length) : addrC s = ([], 4) := by
  rcases addrC_err s with h1 | h1
  · have := (addr_text h1).2.2
    omega
  · exact h1
set_option maxRecDepth 20000 in
set_option maxHeartbeats 2000000 in
theorem RAddrL_any (s : List UInt8) (hs : 40 < s.length) (w : World) :
    Calls Tryz.prog 108 #[.string ⟨s.toArray⟩] w (AdP s w) := by
  have hz : (ByteArray.mk s.toArray).size = s.length := ba_size s
  have b1 : decide ((40 : Int) < (s.length : Int)) = true := decide_eq_true (by omega)
  have hC := hide (addr_long hs)
  go_enter Tryz.func108, Tryz.ntmps108
  go_wp2
  go_ret2
  exact AdP.of hC.out (Ext.refl _)
set_option maxRecDepth 20000 in
set_option maxHeartbeats 2000000 in
theorem RAddr4_any (s : List UInt8) (hs : s.length ≤ 40) (h4 : (spl 46 s).length = 4) (w : World) :
    Calls Tryz.prog 108 #[.string ⟨s.toArray⟩] w (AdP s w) := by
  have hz : (ByteArray.mk s.toArray).size = s.length := ba_size s
  have b1 : decide ((40 : Int) < (s.length : Int)) = false := decide_eq_false (by omega)
  have hS := RSplit46 s (by omega) w
  have hS2 := fun W => RSplit58 s (by omega) W
  have hnum := fun (x : List UInt8) (hx : x ∈ spl 46 s) W => RRead8 x (Nat.le_trans (spl_len 46 s x hx) (by omega)) W
  have hC : addrC s = (match rdAll 10 255 (spl 46 s) with | some l => (l.map UInt8.ofNat, 0) | none => ([], 4)) := if_pos h4
  generalize spl 46 s = P at hS hnum hC h4
  generalize spl 58 s = P8 at hS2
  replace hS := hide hS
  replace hS2 := hide hS2
  replace hnum := hide hnum
  replace hC := hide hC
  go_enter Tryz.func108, Tryz.ntmps108
  go_wp2_with fail
  refine hS.out.mono ?_
  rintro e w1 ⟨hEw1, g1, o1, d1, rfl, hd1, hc1⟩
  rw [h4] at hd1
  rw [h4]
  clear hS
  replace hc1 := hide hc1
  replace hEw1 := hide hEw1
  go_wp2_with fail
  refine (hS2.out _).mono ?_
  rintro e w2 ⟨hEw2, g2, o2, d2, rfl, hd2, _⟩
  have hEw := hide (hEw1.out.trans hEw2)
  replace hc1 := hide fun k h => hEw2.cell (hc1.out k h)
  clear hS2 hEw1 hEw2
  generalize P8.length = l8 at hd2 ⊢
  go_wp2_with fail
  go_loopw [6, 7] (fun v q wr => ∃ (k : Nat) (ns : List Nat), k ≤ 4 ∧ q = .int .i64 (k : Int) ∧ rdAll 10 255 (P.take k) = some ns ∧ ns.length = k ∧ OwnB 5 wr w2.heap.size v (ns.map UInt8.ofNat) ∧ Ext w2 wr) (fun _ q _ => 4 - (intOf q).toNat)
  case atStart => exact ⟨0, [], by omega, rfl, by rw [List.take_zero]; rfl, rfl, OwnB.nil, Ext.refl _⟩
  case round =>
    obtain ⟨k, ns, hk, rfl, hrd, hnl, hown, hE⟩ := hrel
    rename World => W0
    have hz0 := hE.size
    obtain ⟨vo, dd, rfl⟩ := hown.form
    have hlk : (ns.map UInt8.ofNat).length = k := by rw [List.length_map, hnl]
    rw [hlk] at hown ⊢
    replace hlk := hide hlk
    replace hE := hide hE
    replace hown := hide hown
    by_cases hlt : k < 4
    · have hkP : k < P.length := by omega
      have x0 : W0.cell? ⟨g1, o1 + k, none⟩ = some (.string ⟨(P[k]'hkP).toArray⟩) := hE.out.cell (hc1.out k hkP)
      have hn := hnum.out (P[k]'hkP) (List.getElem_mem hkP) W0
      have hbad : rdN 10 255 (P[k]'hkP) = none → addrC s = ([], 4) := fun h => by rw [hC.out, rdAll_bad (List.getElem_mem hkP) h]
      have hnx := fun n (h : rdN 10 255 (P[k]'hkP) = some n) => rdAll_next hkP hrd h
      have hmost := fun n (h : rdN 10 255 (P[k]'hkP) = some n) => ((rdN_iff (b := 10) (by decide) (by decide)).1 h).1
      generalize (P[k]'hkP) = wd at x0 hn hbad hnx hmost
      replace hrd := hide hrd
      replace hnl := hide hnl
      cases hr : rdN 10 255 wd with
      | none =>
        have hb := hbad hr
        clear hbad hmost hnx
        replace hb := hide hb
        unfold RdP at hn
        rw [hr] at hn
        replace hn := hide hn
        replace hr := hide hr
        go_wp2_with fail
        refine hn.out.mono ?_
        rintro e w3 ⟨⟨z, _, rfl, _⟩, he3⟩
        have hE3 := hide (hEw.out.trans (hE.out.trans he3))
        clear he3
        go_wp2
        go_ret2
        exact AdP.of hb.out hE3.out
      | some n =>
        have hm := hmost n hr
        have hnx2 := hnx n hr
        clear hbad hmost hnx
        unfold RdP at hn
        rw [hr] at hn
        replace hn := hide hn
        replace hr := hide hr
        have hw8 : IntKind.u8.wrap (n : Int) = ((UInt8.ofNat n).toNat : Int) := by rw [IntKind.wrap_u8, UInt8.toNat_ofNat']; omega
        have hap : ns.map UInt8.ofNat ++ [UInt8.ofNat n] = (ns ++ [n]).map UInt8.ofNat := by simp
        generalize hu : UInt8.ofNat n = u at hw8 hap
        replace hu := hide hu
        replace hap := hide hap
        replace hnx2 := hide hnx2
        replace hm := hide hm
        go_wp2_with fail
        refine hn.out.mono ?_
        rintro e w3 ⟨⟨z, _, rfl, hz⟩, he3⟩
        obtain rfl := hz n rfl
        have hown3 := hide (hown.out.ext he3)
        have hE3 := hide (hE.out.trans he3)
        have hz3 := he3.size
        clear he3 hz
        go_wp2_with (at_builtin
                     have hox := hown3.out.alloc (Obj.cells #[.int .u8 (u.toNat : Int)] 5)
                     refine wpList_appendB rfl _ _ _ rfl okB8 okB8z rfl hox (by simp; omega) [u] rfl (by rw [hlk.out]; simp; omega) (byte_new _ _ _) ?_
                     intro v' w5 hown1 hg hat)
        go_roundw
        case rel => exact ⟨k + 1, ns ++ [n], by omega, by go_num, hnx2.out, by simp [hnl.out], by rw [← hap.out]; exact hown1, (hE3.out.alloc _).push (fun j hj => (hown3.out.lt j hj).1) hg⟩
        case measure => simp [intOf]; omega
    · obtain rfl : k = 4 := by omega
      rw [List.take_of_length_le (by omega)] at hrd
      have hfin : addrC s = (ns.map UInt8.ofNat, 0) := by rw [hC.out, hrd]
      have kd := run_stringB (P := Tryz.prog) (src := 148) (dst := 9) Tryz.underlying148 Tryz.underlying5 Tryz.underlying9 hown.out
      replace hfin := hide hfin
      replace hrd := hide hrd
      replace hnl := hide hnl
      go_wp2
      go_ret2
      exact AdP.of hfin.out (hEw.out.trans hE.out)
set_option maxRecDepth 20000 in
set_option maxHeartbeats 2000000 in
theorem RAddr16_any (s : List UInt8) (hs : s.length ≤ 40) (h4 : (spl 46 s).length ≠ 4) (w : World) :
    Calls Tryz.prog 108 #[.string ⟨s.toArray⟩] w (AdP s w) := by
  have hz : (ByteArray.mk s.toArray).size = s.length := ba_size s
  have b1 : decide ((40 : Int) < (s.length : Int)) = false := decide_eq_false (by omega)
  have hS := RSplit46 s (by omega) w
  have b4 : ((((spl 46 s).length : Nat) : Int) == 4) = false := by rw [beq_eq_false_iff_ne]; omega
  have hS2 := fun W => RSplit58 s (by omega) W
  have hnum := fun (x : List UInt8) (hx : x ∈ spl 58 s) W => RRead16 x (Nat.le_trans (spl_len 58 s x hx) (by omega)) W
  by_cases h8 : (spl 58 s).length = 8
  · have hC : addrC s = (match rdAll 16 65535 (spl 58 s) with | some l => (l.flatMap unpair, 0) | none => ([], 4)) := by unfold addrC; rw [if_neg h4, if_pos h8]; cases rdAll 16 65535 (spl 58 s) <;> rfl
    generalize spl 46 s = P4 at b4 hS h4
    generalize spl 58 s = P at hS2 hnum hC h8
    replace hS := hide hS
    replace hS2 := hide hS2
    replace hnum := hide hnum
    replace hC := hide hC
    have h4' : ¬ P4.length = 4 := h4
    go_enter Tryz.func108, Tryz.ntmps108
    go_wp2_with fail
    refine hS.out.mono ?_
    rintro e w1 ⟨hEw1, g1, o1, d1, rfl, hd1, _⟩
    replace hEw1 := hide hEw1
    generalize P4.length = l4 at hd1 b4 h4 h4' ⊢
    go_wp2_with fail
    refine (hS2.out _).mono ?_
    rintro e w2 ⟨hEw2, g2, o2, d2, rfl, hd2, hc1⟩
    have hEw := hide (hEw1.out.trans hEw2)
    clear hEw2 hEw1
    rw [h8] at hd2
    rw [h8]
    clear hS hS2
    replace hc1 := hide hc1
    go_wp2_with fail
    go_loopw [6, 10] (fun v q wr => ∃ (k : Nat) (ns : List Nat), k ≤ 8 ∧ q = .int .i64 (k : Int) ∧ rdAll 16 65535 (P.take k) = some ns ∧ ns.length = k ∧ OwnB 5 wr w2.heap.size v (ns.flatMap unpair) ∧ Ext w2 wr) (fun _ q _ => 8 - (intOf q).toNat)
    case atStart => exact ⟨0, [], by omega, rfl, by rw [List.take_zero]; rfl, rfl, OwnB.nil, Ext.refl _⟩
    case round =>
      obtain ⟨k, ns, hk, rfl, hrd, hnl, hown, hE⟩ := hrel
      rename World => W0
      have hz0 := hE.size
      obtain ⟨vo, dd, rfl⟩ := hown.form
      have hlk : (ns.flatMap unpair).length = 2 * k := by rw [unpair_len, hnl]
      rw [hlk] at hown ⊢
      replace hlk := hide hlk
      replace hE := hide hE
      replace hown := hide hown
      by_cases hlt : k < 8
      · have hkP : k < P.length := by omega
        have x0 : W0.cell? ⟨g2, o2 + k, none⟩ = some (.string ⟨(P[k]'hkP).toArray⟩) := hE.out.cell (hc1.out k hkP)
        have hn := hnum.out (P[k]'hkP) (List.getElem_mem hkP) W0
        have hbad : rdN 16 65535 (P[k]'hkP) = none → addrC s = ([], 4) := fun h => by rw [hC.out, rdAll_bad (List.getElem_mem hkP) h]
        have hnx := fun n (h : rdN 16 65535 (P[k]'hkP) = some n) => rdAll_next hkP hrd h
        have hmost := fun n (h : rdN 16 65535 (P[k]'hkP) = some n) => ((rdN_iff (b := 16) (by decide) (by decide)).1 h).1
        generalize (P[k]'hkP) = wd at x0 hn hbad hnx hmost
        replace hrd := hide hrd
        replace hnl := hide hnl
        cases hr : rdN 16 65535 wd with
        | none =>
          have hb := hbad hr
          clear hbad hmost hnx
          replace hb := hide hb
          unfold RdP at hn
          rw [hr] at hn
          replace hn := hide hn
          replace hr := hide hr
          go_wp2_with fail
          refine hn.out.mono ?_
          rintro e w3 ⟨⟨z, _, rfl, _⟩, he3⟩
          have hE3 := hide (hEw.out.trans (hE.out.trans he3))
          clear he3
          go_wp2
          go_ret2
          exact AdP.of hb.out hE3.out
        | some n =>
          have hm := hmost n hr
          have hnx2 := hnx n hr
          clear hbad hmost hnx
          unfold RdP at hn
          rw [hr] at hn
          replace hn := hide hn
          replace hr := hide hr
          have hw8 : IntKind.u8.wrap (n : Int) = ((UInt8.ofNat n).toNat : Int) := by rw [IntKind.wrap_u8, UInt8.toNat_ofNat']; omega
          have hw9 : IntKind.u8.wrap ((n : Int) / 256) = ((UInt8.ofNat (n / 256)).toNat : Int) := by rw [IntKind.wrap_u8, UInt8.toNat_ofNat']; omega
          have hap : ns.flatMap unpair ++ [UInt8.ofNat (n / 256), UInt8.ofNat n] = (ns ++ [n]).flatMap unpair := by simp [unpair]
          generalize hu : UInt8.ofNat n = u at hw8 hap
          generalize hu2 : UInt8.ofNat (n / 256) = u2 at hw9 hap
          replace hu := hide hu
          replace hu2 := hide hu2
          replace hap := hide hap
          replace hnx2 := hide hnx2
          replace hm := hide hm
          go_wp2_with fail
          refine hn.out.mono ?_
          rintro e w3 ⟨⟨z, _, rfl, hz⟩, he3⟩
          obtain rfl := hz n rfl
          have hown3 := hide (hown.out.ext he3)
          have hE3 := hide (hE.out.trans he3)
          have hz3 := he3.size
          clear he3 hz
          go_wp2_with (at_builtin
                       have hox := hown3.out.alloc (Obj.cells #[.int .u8 (u2.toNat : Int), .int .u8 (u.toNat : Int)] 5)
                       refine wpList_appendB rfl _ _ _ rfl okB8 okB8z rfl hox (by simp; omega) [u2, u] rfl (by rw [hlk.out]; simp; omega) (byte_new2 _ _ _ _) ?_
                       intro v' w5 hown1 hg hat)
          go_roundw
          case rel => exact ⟨k + 1, ns ++ [n], by omega, by go_num, hnx2.out, by simp [hnl.out], by rw [← hap.out]; exact hown1, (hE3.out.alloc _).push (fun j hj => (hown3.out.lt j hj).1) hg⟩
          case measure => simp [intOf]; omega
      · obtain rfl : k = 8 := by omega
        rw [List.take_of_length_le (by omega)] at hrd
        have hfin : addrC s = (ns.flatMap unpair, 0) := by rw [hC.out, hrd]
        have kd := run_stringB (P := Tryz.prog) (src := 148) (dst := 9) Tryz.underlying148 Tryz.underlying5 Tryz.underlying9 hown.out
        replace hfin := hide hfin
        replace hrd := hide hrd
        replace hnl := hide hnl
        go_wp2
        go_ret2
        exact AdP.of hfin.out (hEw.out.trans hE.out)
  · have hC : addrC s = ([], 4) := by unfold addrC; rw [if_neg h4, if_neg h8]
    have b8 : ((((spl 58 s).length : Nat) : Int) != 8) = true := by rw [bne_iff_ne]; omega
    have h8' : ¬ (((spl 58 s).length : Nat) : Int) = 8 := by omega
    clear hnum
    generalize spl 46 s = P4 at b4 hS h4
    generalize spl 58 s = P8 at b8 hS2 h8 h8'
    replace hS := hide hS
    replace hS2 := hide hS2
    replace hC := hide hC
    go_enter Tryz.func108, Tryz.ntmps108
    go_wp2_with fail
    refine hS.out.mono ?_
    rintro e w1 ⟨hEw1, g1, o1, d1, rfl, hd1, _⟩
    replace hEw1 := hide hEw1
    generalize P4.length = l4 at hd1 b4 h4 ⊢
    go_wp2_with fail
    refine (hS2.out _).mono ?_
    rintro e w2 ⟨hEw2, g2, o2, d2, rfl, hd2, _⟩
    have hEw := hide (hEw1.out.trans hEw2)
    clear hEw2 hEw1
    generalize P8.length = l8 at hd2 b8 h8 h8' ⊢
    go_wp2
    go_ret2
    exact AdP.of hC.out hEw.out
theorem RAddr_any (s : List UInt8) (w : World) :
    Calls Tryz.prog 108 #[.string ⟨s.toArray⟩] w (AdP s w) := by
  by_cases hs : s.length ≤ 40
  · by_cases h4 : (spl 46 s).length = 4
    · exact RAddr4_any s hs h4 w
    · exact RAddr16_any s hs h4 w
  · exact RAddrL_any s (by omega) w
end Go.Proofs.YtljibkfbldjgdaaGreatDoor
