/- Walks: the document's Split and Fam. -/
import Derived.Test.YtljibkfbldjgdaaGreatDoorPG
import Derived.Test.YtljibkfbldjgdaaGreatDoorQ8
import Derived.Test.YtljibkfbldjgdaaGreatDoorS1
namespace Go.Proofs.YtljibkfbldjgdaaGreatDoor
open Go.RowKit Go.Sort
set_option linter.unusedVariables false

/-- What a split answers: a row of the parts. -/
def SpP (c : UInt8) (s : List UInt8) (w : World) (e : Ending) (w' : World) : Prop :=
  Ext w w' ∧ ∃ g o d, e = .returned (.slice (some ⟨g, o, none⟩) (spl c s).length d) ∧ (spl c s).length ≤ d ∧ ∀ k, (h : k < (spl c s).length) → w'.cell? ⟨g, o + k, none⟩ = some (.string ⟨(spl c s)[k].toArray⟩)
theorem ba_extract (s : List UInt8) (i j : Nat) : (ByteArray.mk s.toArray).extract i j = ⟨((s.drop i).take (j - i)).toArray⟩ := by
  apply ByteArray.ext
  rw [ByteArray.data_extract]
  simp
def lb (l : List UInt8) : ByteArray := ⟨l.toArray⟩
theorem row_of_own {w w' : World} {B : Nat} {v : Value} {xs : List (List UInt8)} (h : Own EStr 9 w' B v (xs.map lb)) (hne : xs ≠ []) : ∃ g o d, v = .slice (some ⟨g, o, none⟩) xs.length d ∧ xs.length ≤ d ∧ ∀ k, (h : k < xs.length) → w'.cell? ⟨g, o + k, none⟩ = some (.string ⟨xs[k].toArray⟩) := by
  obtain ⟨a, d, hv, hd, hs⟩ := h.slc
  rw [List.length_map] at hv hd
  rcases hs with hs | ⟨g, o, rfl, hb, hs⟩
  · exact absurd (List.map_eq_nil_iff.1 hs) hne
  · refine ⟨g, o, d, hv, hd, fun k hk => ?_⟩
    obtain ⟨cs, ⟨rfl, _⟩, hcell⟩ := hs k (lb xs[k]) (by simp [hk])
    have := hcell 0 _ rfl
    simpa [EStr, Enc.flat, lb] using this
set_option maxRecDepth 20000 in
set_option maxHeartbeats 2000000 in
theorem RSplit_any (s : List UInt8) (hs : s.length ≤ 1048576) (c : UInt8) (w : World) :
    Calls Tryz.prog 52 #[.string ⟨s.toArray⟩, .int .u8 (c.toNat : Int)] w (SpP c s w) := by
  have hz : (ByteArray.mk s.toArray).size = s.length := ba_size s
  have hfin : ∀ (v : Value) (W : World), Own EStr 9 W w.heap.size v ((spl c s).map lb) → Ext w W → SpP c s w (.returned v) W := fun v W h hE => by
    obtain ⟨g, o, d, h1, h2, h3⟩ := row_of_own (w := w) h (spl_ne c s)
    exact ⟨hE, g, o, d, by rw [h1], h2, h3⟩
  generalize SpP c s w = Post at hfin ⊢
  replace hfin := hide hfin
  replace hz := hide hz
  go_enter Tryz.func52, Tryz.ntmps52
  go_wp2
  go_loopw [5, 6, 7] (fun v f q wr => ∃ (xs : List (List UInt8)) (fr i : Nat), q = .int .i64 (i : Int) ∧ f = .int .i64 (fr : Int) ∧ i ≤ s.length + 1 ∧ xs.length ≤ i ∧ fr ≤ i ∧ ((i ≤ s.length ∧ spl c s = xs ++ spl c (s.drop fr) ∧ c ∉ (s.drop fr).take (i - fr)) ∨ (i = s.length + 1 ∧ spl c s = xs)) ∧ Own EStr 9 wr w.heap.size v (xs.map lb) ∧ Ext w wr) (fun _ _ q _ => s.length + 1 - (intOf q).toNat)
  case atStart => exact ⟨[], 0, 0, rfl, rfl, by omega, by simp, by omega, .inl ⟨by omega, by simp, by simp⟩, Own.nil, Ext.refl _⟩
  case round =>
    obtain ⟨xs, fr, i, rfl, rfl, hi, hxl, hfi, hinv, hown, hE⟩ := hrel
    rename World => W0
    have hz0 := hE.size
    obtain ⟨vo, dd, rfl⟩ := hown.form
    have hlk : (xs.map lb).length = xs.length := List.length_map _
    rw [hlk] at hown ⊢
    have hwi : IntKind.i64.wrap ((i : Int) + 1) = (i : Int) + 1 := by rw [IntKind.wrap_i64]; omega
    have hzz := hz.out
    rcases hinv with ⟨hil, hsp, hnot⟩ | ⟨hil, hsp⟩
    · have hb0 : decide ((i : Int) ≤ (s.length : Int)) = true := decide_eq_true (by omega)
      by_cases hie : i = s.length
      · have hnx : (i + 1 ≤ s.length ∧ spl c s = (xs ++ [(s.drop fr).take (i - fr)]) ++ spl c (s.drop (i + 1)) ∧ c ∉ (s.drop (i + 1)).take (i + 1 - (i + 1))) ∨ (i + 1 = s.length + 1 ∧ spl c s = xs ++ [(s.drop fr).take (i - fr)]) := .inr ⟨by omega, by
          have hd : (s.drop fr).take (i - fr) = s.drop fr := List.take_of_length_le (by rw [List.length_drop]; omega)
          rw [hd] at hnot ⊢
          rw [hsp, spl_no hnot]⟩
        have bi : ((i : Int) == (s.length : Int)) = true := by rw [beq_iff_eq]; omega
        have bi2 : (i == s.length) = true := by rw [beq_iff_eq]; omega
        replace hnx := hide hnx
        replace hie := hide hie
        have hex : (ByteArray.mk s.toArray).extract fr i = ⟨((s.drop fr).take (i - fr)).toArray⟩ := ba_extract s fr i
        have hyy : [(s.drop fr).take (i - fr)].map lb = [⟨((s.drop fr).take (i - fr)).toArray⟩] := rfl
        have hys : (ByteArray.mk ((s.drop fr).take (i - fr)).toArray).size ≤ 1048576 := by rw [ba_size, List.length_take, List.length_drop]; omega
        generalize (ByteArray.mk ((s.drop fr).take (i - fr)).toArray) = y at hex hyy hys
        replace hyy := hide hyy
        replace hys := hide hys
        replace hsp := hide hsp
        replace hnot := hide hnot
        replace hown := hide hown
        replace hE := hide hE
        replace hlk := hide hlk
        replace hxl := hide hxl
        go_wp2_with (at_builtin
                     have hox := hown.out.alloc (Obj.cells #[.string y] 9)
                     refine wpList_push (E := EStr) rfl _ _ _ rfl okStr (by decide) (by decide) rfl hox (by rw [hlk.out]; have := hxl.out; omega) (by simp; omega) rfl (y := y) (cs := [.string y]) ⟨rfl, by have := hys.out; unfold maxLen; omega⟩ (str_new' _ _ _) ?_
                     intro v' w5 hown1 hg hat)
        go_roundw
        case rel => exact ⟨xs ++ [(s.drop fr).take (i - fr)], i + 1, i + 1, by go_num, by go_num, by omega, by have := hxl.out; simp; omega, by omega, hnx.out, by rw [List.map_append]; rw [hyy.out]; exact hown1, (hE.out.alloc _).push (fun j hj => (hown.out.lt j hj).1) hg⟩
        case measure => simp [intOf]; omega
      · have hilt : i < s.length := by omega
        have e1 : (ByteArray.mk s.toArray)[i]'(by omega) = s[i] := rfl
        have bi : ((i : Int) == (s.length : Int)) = false := by rw [beq_eq_false_iff_ne]; omega
        have bi2 : (i == s.length) = false := by rw [beq_eq_false_iff_ne]; omega
        by_cases hc : s[i] = c
        · have hnx : (i + 1 ≤ s.length ∧ spl c s = (xs ++ [(s.drop fr).take (i - fr)]) ++ spl c (s.drop (i + 1)) ∧ c ∉ (s.drop (i + 1)).take (i + 1 - (i + 1))) ∨ (i + 1 = s.length + 1 ∧ spl c s = xs ++ [(s.drop fr).take (i - fr)]) := .inl ⟨by omega, by
            have hd : s.drop fr = (s.drop fr).take (i - fr) ++ c :: s.drop (i + 1) := by
              have h1 : (s.drop fr).drop (i - fr) = s.drop i := by rw [List.drop_drop]; congr 1; omega
              have h2 : s.drop i = c :: s.drop (i + 1) := by rw [← hc]; exact List.drop_eq_getElem_cons hilt
              rw [← h2, ← h1, List.take_append_drop]
            rw [hsp]
            conv => lhs; rw [hd]
            rw [spl_at hnot]
            simp, by simp⟩
          rw [hc] at e1
          replace hnx := hide hnx
          replace hc := hide hc
          replace hie := hide hie
          have hex : (ByteArray.mk s.toArray).extract fr i = ⟨((s.drop fr).take (i - fr)).toArray⟩ := ba_extract s fr i
          have hyy : [(s.drop fr).take (i - fr)].map lb = [⟨((s.drop fr).take (i - fr)).toArray⟩] := rfl
          have hys : (ByteArray.mk ((s.drop fr).take (i - fr)).toArray).size ≤ 1048576 := by rw [ba_size, List.length_take, List.length_drop]; omega
          generalize (ByteArray.mk ((s.drop fr).take (i - fr)).toArray) = y at hex hyy hys
          replace hyy := hide hyy
          replace hys := hide hys
          replace hsp := hide hsp
          replace hnot := hide hnot
          replace hown := hide hown
          replace hE := hide hE
          replace hlk := hide hlk
          replace hxl := hide hxl
          go_wp2_with (at_builtin
                       have hox := hown.out.alloc (Obj.cells #[.string y] 9)
                       refine wpList_push (E := EStr) rfl _ _ _ rfl okStr (by decide) (by decide) rfl hox (by rw [hlk.out]; have := hxl.out; omega) (by simp; omega) rfl (y := y) (cs := [.string y]) ⟨rfl, by have := hys.out; unfold maxLen; omega⟩ (str_new' _ _ _) ?_
                       intro v' w5 hown1 hg hat)
          go_roundw
          case rel => exact ⟨xs ++ [(s.drop fr).take (i - fr)], i + 1, i + 1, by go_num, by go_num, by omega, by have := hxl.out; simp; omega, by omega, hnx.out, by rw [List.map_append]; rw [hyy.out]; exact hown1, (hE.out.alloc _).push (fun j hj => (hown.out.lt j hj).1) hg⟩
          case measure => simp [intOf]; omega
        · have hnx : c ∉ (s.drop fr).take (i + 1 - fr) := by
            rw [show i + 1 - fr = (i - fr) + 1 by omega, List.take_succ_eq_append_getElem (show i - fr < (s.drop fr).length by rw [List.length_drop]; omega)]
            intro hm
            rcases List.mem_append.1 hm with hm | hm
            · exact hnot hm
            · have h1 := List.mem_singleton.1 hm
              rw [List.getElem_drop] at h1
              apply hc
              rw [h1]
              congr 1
              omega
          have hcn : ¬ s[i].toNat = c.toNat := fun h => hc (UInt8.toNat_inj.1 h)
          generalize s[i] = u at e1 hcn hc
          have bc : ((u.toNat : Int) == (c.toNat : Int)) = false := by rw [beq_eq_false_iff_ne]; omega
          have bc2 : (u.toNat == c.toNat) = false := by rw [beq_eq_false_iff_ne]; omega
          have bc3 : (u == c) = false := by rw [beq_eq_false_iff_ne]; exact hc
          replace hnx := hide hnx
          replace hsp := hide hsp
          replace hnot := hide hnot
          replace hown := hide hown
          replace hE := hide hE
          replace hlk := hide hlk
          replace hie := hide hie
          replace hxl := hide hxl
          replace hc := hide hc
          go_wp2
          go_roundw
          case rel => exact ⟨xs, fr, i + 1, by go_num, rfl, by omega, by have := hxl.out; omega, by omega, .inl ⟨by omega, hsp.out, hnx.out⟩, hown.out, hE.out⟩
          case measure => simp [intOf]; omega
    · have hb0 : decide ((i : Int) ≤ (s.length : Int)) = false := decide_eq_false (by omega)
      have hf := hfin.out _ _ (by rw [hsp]; exact hown) hE
      replace hf := hide hf
      replace hsp := hide hsp
      replace hown := hide hown
      replace hE := hide hE
      replace hlk := hide hlk
      replace hil := hide hil
      have hb1 : ¬ i ≤ s.length := by have := hil.out; omega
      go_wp2
      exact hf.out
set_option maxRecDepth 20000 in
theorem RFam_any (s : List UInt8) (w : World) : Calls Tryz.prog 106 #[.string ⟨s.toArray⟩] w fun e w' => e = .returned (.int .i64 (famN s)) ∧ w = w' := by
  have hb := famN_bd s
  have hnm := fun (f : Int) (h1 : 1 ≤ f) (h5 : f ≤ 5) => famN_iff (s := s) h1 h5
  generalize famN s = F at hb hnm ⊢
  have qn := fun f W => RFamN_any f W
  replace qn := hide qn
  replace hnm := hide hnm
  go_enter Tryz.func106, Tryz.ntmps106
  go_wp2
  go_loop [3] (fun q => ∃ k : Nat, 1 ≤ k ∧ k ≤ 6 ∧ q = .int .i64 (k : Int) ∧ (F = 0 ∨ (k : Int) ≤ F)) (fun q => 6 - (intOf q).toNat)
  case atStart => exact ⟨1, by omega, by omega, rfl, by omega⟩
  case round =>
    obtain ⟨k, hk1, hk6, rfl, hF⟩ := hrel
    by_cases hlt : k ≤ 5
    · have hq := fun W => qn.out (k : Int) W
      have hn := hnm.out (k : Int) (by omega) (by omega)
      generalize nameS (k : Int) = nk at hq hn
      by_cases he : F = (k : Int)
      · have eb : (nk == s) = true := beq_iff_eq.2 (hn.2 he)
        replace hq := hide hq
        replace hn := hide hn
        replace he := hide he
        replace hF := hide hF
        go_wp2_with fail
        refine (hq.out _).mono ?_
        rintro e w_ ⟨rfl, rfl⟩
        go_wp2
        go_ret
        exact ⟨by rw [he.out]; rfl, rfl⟩
      · have eb : (nk == s) = false := beq_eq_false_iff_ne.2 fun h => he (hn.1 h)
        replace hq := hide hq
        replace hn := hide hn
        go_wp2_with fail
        refine (hq.out _).mono ?_
        rintro e w_ ⟨rfl, rfl⟩
        go_wp2
        go_round
        case rel => exact ⟨k + 1, by omega, by omega, by go_num, by omega⟩
        case measure => simp [intOf]; omega
    · obtain rfl : k = 6 := by omega
      obtain rfl : F = 0 := by omega
      go_wp2
      go_ret
      exact ⟨rfl, rfl⟩
end Go.Proofs.YtljibkfbldjgdaaGreatDoor
