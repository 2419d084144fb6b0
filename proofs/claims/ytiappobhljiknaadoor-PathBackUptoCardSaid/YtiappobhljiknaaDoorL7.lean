/- The walk of the law PathBack. -/
import Derived.Test.YtiappobhljiknaaDoorL6
import Derived.Test.YtiappobhljiknaaDoorW24
namespace Go.Proofs.YtiappobhljiknaaDoor
open Go.RowKit
set_option linter.unusedVariables false

theorem narrowS_true (m : List Seg) : m.map (narrowS true) = m := by
  have : (fun s => narrowS true s) = id := by
    funext s
    unfold narrowS
    have : (fun a => narrow true a) = id := by funext a; rfl
    show (⟨s.kind, s.as.map fun a => narrow true a⟩ : Seg) = s
    rw [this, List.map_id]
  show m.map (fun s => narrowS true s) = m
  rw [this, List.map_id]
theorem chk_segs {m : List Seg} (h : chk m = true) : m.length ≤ 16 ∧ ∀ s ∈ m, segOk s = true := by
  unfold chk at h
  simp only [Bool.and_eq_true, decide_eq_true_eq, List.all_eq_true] at h
  exact h
theorem chk_narrow {m : List Seg} (h : chk m = true) : chk (m.map (narrowS false)) = true := by
  obtain ⟨h1, h2⟩ := chk_segs h
  unfold chk
  simp only [Bool.and_eq_true, decide_eq_true_eq, List.all_eq_true, List.length_map]
  refine ⟨h1, fun s hs => ?_⟩
  obtain ⟨t, ht, rfl⟩ := List.mem_map.1 hs
  have := h2 t ht
  unfold segOk at this ⊢
  simp only [Bool.and_eq_true, decide_eq_true_eq, Bool.not_eq_true'] at this ⊢
  obtain ⟨⟨⟨⟨a1, a2⟩, a3⟩, a4⟩, a5⟩ := this
  refine ⟨⟨⟨⟨a1, a2⟩, by simpa [narrowS] using a3⟩, by simpa [narrowS] using a4⟩, ?_⟩
  cases hc : (narrowS false t).as.contains 0 with
  | false => rfl
  | true =>
    have hm : (0 : UInt32) ∈ (narrowS false t).as := by simpa [List.contains_iff_mem] using hc
    obtain ⟨x, hx, hx0⟩ := List.mem_map.1 hm
    exfalso
    have hx1 : x ≠ 0 := fun h0 => by
      rw [h0] at hx
      have : t.as.contains 0 = true := by simpa [List.contains_iff_mem] using hx
      rw [this] at a5
      cases a5
    unfold narrow at hx0
    simp only [Bool.false_eq_true, if_false] at hx0
    split at hx0
    · exact absurd hx0 (by decide)
    · exact hx1 hx0
theorem decS_back (m : List Seg) (four : Bool) (h : chk m = true) : decS (pathB four m) four = (m.map (narrowS four), 0) := by
  refine decS_ok (dec_pathB four m (chk_segs h).2) ?_
  cases four
  · exact chk_narrow h
  · rw [narrowS_true]; exact h
theorem pathB_small (m : List Seg) (four : Bool) (h : chk m = true) : (pathB four m).length ≤ 1048576 := by
  have := segB_le four h m.length (Nat.le_refl _)
  rw [List.take_length] at this
  omega
/-- A path's text, as bytes. -/
def textL (m : List Seg) : List UInt8 := if m = [] then [45] else pathT m
theorem textL_eq (m : List Seg) (h : chk m = true) : textS m = ⟨(textL m).toArray⟩ := by
  unfold textS textL
  rw [if_pos h]
  split <;> rfl
theorem textL_small (m : List Seg) (h : chk m = true) : (textL m).length ≤ 1048576 := by
  unfold textL
  split
  · decide
  · have h1 := pathT_le h
    have h2 := chk_len h
    have : 5358 * m.length ≤ 5358 * 16 := Nat.mul_le_mul_left _ h2
    omega
theorem parS_back (m : List Seg) (h : chk m = true) : parS (textL m) = (m, 0) := by
  unfold textL
  split
  · rename_i h0
    rw [h0]
    exact parS_dash
  · rename_i h0
    exact parS_text ⟨h, h0, rfl⟩
theorem narrow_int (a : UInt32) : ((narrow false a).toNat : Int) = if 65535 < (a.toNat : Int) then 23456 else (a.toNat : Int) := by
  unfold narrow
  simp only [Bool.false_eq_true, if_false]
  split
  · rw [if_pos (by omega)]; rfl
  · rw [if_neg (by omega)]

set_option maxRecDepth 20000 in
set_option maxHeartbeats 2000000 in
theorem PathBack_walk (a : Option Addr) (c : Nat) (l : List Seg) (w : World) (hl : l.length ≤ 16777216) (hs : Path w a l) (htab : Tab w) (hV : Vars w) :
    Calls Tryd.prog 10 #[.slice a l.length c] w fun e w' => e = .returned (.bool true) ∧ Ext w w' := by
  have mixed : Tryd.prog.follows Departure.mixedOrders = true := by kernel_rfl
  replace hs := hide hs
  replace htab := hide htab
  replace hV := hide hV
  go_enter Tryd.func10, Tryd.ntmps10
  go_wp2_with fail
  refine (works_any _ htab.out).mono ?_
  rintro e w1 ⟨rfl, he1⟩
  have q1 := hide (hs.out.ext he1)
  replace he1 := hide he1
  go_wp2_with fail
  refine (right_any _ _ l _ hl q1.out).mono ?_
  rintro e w2 ⟨v2, rfl, he2, o2⟩
  obtain ⟨b2, c2, rfl, p2⟩ := o2.path (w' := w2)
  have e2 := hide (he1.out.trans he2)
  replace p2 := hide p2
  clear o2 he2 q1 he1 hs
  have hm6 := rightS_len l
  have hch := rightS_chk l
  generalize rightS l = m at hm6 hch p2 ⊢
  have hm' : m.length ≤ 16777216 := by omega
  have d4 := decS_back m true hch
  rw [narrowS_true] at d4
  have d2 := decS_back m false hch
  have l4 := pathB_small m true hch
  have l2 := pathB_small m false hch
  have lt := textL_small m hch
  have dt := parS_back m hch
  have et := textL_eq m hch
  replace d4 := hide d4
  replace d2 := hide d2
  replace l4 := hide l4
  replace l2 := hide l2
  replace lt := hide lt
  replace dt := hide dt
  replace et := hide et
  replace hch := hide hch
  go_wp2_with fail
  refine (AEncode_ok _ _ m true _ hm' p2.out hch.out).mono ?_
  rintro e w3 ⟨rfl, he3⟩
  have p3 := hide (p2.out.ext he3)
  have e3 := hide (e2.out.trans he3)
  clear he3 p2 e2
  go_wp2_with fail
  refine (ADecode_any _ true _ l4.out).mono ?_
  rw [d4.out]
  rintro e w4 ⟨v4, rfl, he4, o4⟩
  obtain ⟨b4, c4, rfl, _, r4⟩ := o4.weak.toPath
  have p4 := hide (p3.out.ext he4)
  have e4 := hide (e3.out.trans he4)
  replace r4 := hide r4
  clear he4 p3 e3 o4
  have hTx := AText_any b2 c2 m w4 hm' p4.out (htab.out.ext e4.out)
  rw [et.out, hch.out] at hTx
  simp only [errOf, if_true] at hTx
  replace hTx := hide hTx
  go_wp2_with fail
  refine hTx.out.mono ?_
  rintro e w5 ⟨rfl, he5⟩
  have p5 := hide (p4.out.ext he5)
  have r5 := hide (r4.out.ext he5)
  have e5 := hide (e4.out.trans he5)
  clear he5 p4 r4 e4 hTx
  go_wp2_with fail
  refine (AParse_any (textL m) _ lt.out (htab.out.ext e5.out) (hV.out.ext e5.out)).mono ?_
  rw [dt.out]
  rintro e w6 ⟨v6, rfl, he6, o6⟩
  obtain ⟨b6, c6, rfl, _, t6⟩ := o6.weak.toPath
  have p6 := hide (p5.out.ext he6)
  have r6 := hide (r5.out.ext he6)
  have e6 := hide (e5.out.trans he6)
  replace t6 := hide t6
  clear he6 p5 r5 e5 o6
  go_wp2_with fail
  refine (AEncode_ok _ _ m false _ hm' p6.out hch.out).mono ?_
  rintro e w7 ⟨rfl, he7⟩
  have p7 := hide (p6.out.ext he7)
  have r7 := hide (r6.out.ext he7)
  have t7 := hide (t6.out.ext he7)
  have e7 := hide (e6.out.trans he7)
  clear he7 p6 r6 t6 e6
  go_wp2_with fail
  refine (ADecode_any _ false _ l2.out).mono ?_
  rw [d2.out]
  rintro e w8 ⟨v8, rfl, he8, o8⟩
  obtain ⟨b8, c8, rfl, _, z8⟩ := o8.weak.toPath
  have p8 := hide (p7.out.ext he8)
  have r8 := hide (r7.out.ext he8)
  have t8 := hide (t7.out.ext he8)
  have e8 := hide (e7.out.trans he8)
  replace z8 := hide z8
  clear he8 p7 r7 t7 e7 o8
  go_wp2_with fail
  refine (ASame_any _ _ _ _ m m _ hm' hm' r8.out p8.out).mono ?_
  rw [sameP_refl]
  rintro e w9 ⟨rfl, he9⟩
  have p9 := hide (p8.out.ext he9)
  have t9 := hide (t8.out.ext he9)
  have z9 := hide (z8.out.ext he9)
  have e9 := hide (e8.out.trans he9)
  clear he9 p8 r8 t8 z8 e8
  go_wp2_with fail
  refine (ASame_any _ _ _ _ m m _ hm' hm' t9.out p9.out).mono ?_
  rw [sameP_refl]
  rintro e w10 ⟨rfl, he10⟩
  have p10 := hide (p9.out.ext he10)
  have z10 := hide (z9.out.ext he10)
  have e10 := hide (e9.out.trans he10)
  clear he10 p9 t9 z9 e9
  have hzl : (m.map (narrowS false)).length = m.length := List.length_map _
  go_wp2
  go_loopw [15] (fun i wr => ∃ k : Nat, k ≤ m.length ∧ i = .int .i64 k ∧ Ext w10 wr) (fun i _ => m.length - (intOf i).toNat)
  case atStart => exact ⟨0, Nat.zero_le _, rfl, Ext.refl _⟩
  case round =>
    obtain ⟨k, hk, rfl, hE⟩ := hrel
    rename World => W0
    by_cases hlt : k < m.length
    · obtain ⟨g1, f1, a1, n1, rfl, _, h0, h1, hm1, hs1, _, _⟩ := ESeg.at (p10.out.ext hE) k hlt
      obtain ⟨g2, f2, a2, n2, rfl, _, i0, i1, hm2, hs2, _, _⟩ := ESeg.at (z10.out.ext hE) k (by simpa using hlt)
      simp only [List.getElem_map] at i0 i1 hs2
      have hk1 : (narrowS false m[k]).kind = m[k].kind := rfl
      have hk2 : (narrowS false m[k]).as = m[k].as.map (narrow false) := rfl
      rw [hk1] at i0
      rw [hk2, List.length_map] at i1
      rw [hk2] at hs2
      clear hk1 hk2 hm2
      replace hE := hide hE
      replace hs1 := hide hs1
      replace hs2 := hide hs2
      go_wp2
      go_quiet (fail)
      go_wp2
      go_loopw [16] (fun i wr => ∃ j : Nat, j ≤ m[k].as.length ∧ i = .int .i64 j ∧ Ext W0 wr) (fun i _ => m[k].as.length - (intOf i).toNat)
      case atStart => exact ⟨0, Nat.zero_le _, rfl, by first | exact Ext.refl _ | exact (Ext.refl _).drewN _⟩
      case round =>
        obtain ⟨j, hj, rfl, hE2⟩ := hrel
        have k0 := hE2.cell h0
        have k1 := hE2.cell h1
        have l0 := hE2.cell i0
        have l1 := hE2.cell i1
        by_cases hlt2 : j < m[k].as.length
        · obtain ⟨g3, f3, rfl, _, z1⟩ := EU32.at (hs1.out.ext hE2) j hlt2
          obtain ⟨g4, f4, rfl, _, z2⟩ := EU32.at (hs2.out.ext hE2) j (by simpa using hlt2)
          rw [List.getElem_map, narrow_int] at z2
          replace hE2 := hide hE2
          by_cases hbig : 65535 < ((m[k].as[j]).toNat : Int)
          · rw [if_pos hbig] at z2
            go_wp2
            go_roundw
            case rel => exact ⟨j + 1, by omega, by go_num, hE2.out⟩
            case measure => simp [intOf]; omega
          · rw [if_neg hbig] at z2
            go_wp2
            go_roundw
            case rel => exact ⟨j + 1, by omega, by go_num, hE2.out⟩
            case measure => simp [intOf]; omega
        · go_wp2
          go_roundw
          case rel => exact ⟨k + 1, by omega, by go_num, hE.out.trans hE2⟩
          case measure => simp [intOf]; omega
    · go_wp2
      go_ret
      exact ⟨rfl, e10.out.trans hE⟩
end Go.Proofs.YtiappobhljiknaaDoor
