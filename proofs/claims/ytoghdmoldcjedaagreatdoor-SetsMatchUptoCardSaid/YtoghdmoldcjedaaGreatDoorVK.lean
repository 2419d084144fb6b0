/- Walks: the text of a pattern, by the document. Walks: a pattern read of any text, by the document (heraldref15.Parse). -/
import Derived.Test.YtoghdmoldcjedaaGreatDoorVJ
import Derived.Test.YtoghdmoldcjedaaGreatDoorSB
import Derived.Test.YtoghdmoldcjedaaGreatDoorS6
namespace Go.Proofs.YtoghdmoldcjedaaGreatDoor
open Go.RowKit Go.Sort
set_option linter.unusedVariables false

theorem join_grow (c : UInt8) (xs : List (List UInt8)) (x : List UInt8) : Lib.join (xs ++ [x]) [c] = if xs = [] then Lib.join xs [c] ++ x else Lib.join xs [c] ++ [c] ++ x := by
  rw [join_snoc]
  by_cases h : xs = []
  · subst h; simp [Lib.join]
  · rw [if_neg h, if_neg h]
set_option maxRecDepth 20000 in
set_option maxHeartbeats 4000000 in
theorem RText_any (a : Option Addr) (c : Nat) (l : List Atm) (w : World) (hl : l.length ≤ 16777216) (hs : Sl EAtm w (· < w.heap.size) a l) :
    Calls Tryz.prog 24 #[.slice a l.length c] w fun e w' => e = .returned (.tuple #[.string ⟨(textA l).1.toArray⟩, .int .i64 (textA l).2]) ∧ Ext w w' := by
  have q1 := RMayAtoms_any a c l w hl hs
  have qn := fun x hx W => RNumber_any 10 (by decide) (by decide) x hx W
  by_cases hok : atmsOk l = true
  · have htx : textA l = (textL l, 0) := if_pos hok
    rw [htx]
    rw [hok] at q1
    dsimp only
    replace hs := hide hs
    replace q1 := hide q1
    replace qn := hide qn
    by_cases hnil : l = []
    · subst hnil
      go_enter Tryz.func24, Tryz.ntmps24
      go_wp2_with fail
      refine q1.out.mono ?_
      rintro e W1 ⟨rfl, he⟩
      go_wp2
      go_ret2
      exact ⟨rfl, he⟩
    · have hlen1 : ¬ ((l.length : Int) = 0) := fun h => hnil (List.length_eq_zero_iff.1 (by omega))
      have h64 : l.length ≤ 64 := by unfold atmsOk at hok; simp at hok; exact hok.2
      go_enter Tryz.func24, Tryz.ntmps24
      go_wp2_with fail
      refine q1.out.mono ?_
      rintro e W1 ⟨rfl, he⟩
      clear q1 htx hok
      replace he := hide he
      go_wp2
      rw [show ((l.length : Int) == 0) = false by simpa using hlen1]
      go_loopw [4, 5] (fun v q wr => ∃ (k : Nat) (S : List UInt8), k ≤ l.length ∧ q = .int .i64 k ∧ v = .string ⟨S.toArray⟩ ∧ S = Lib.join ((l.take k).map wordT) [32] ∧ S.length ≤ 22 * k ∧ Ext w wr) (fun _ q _ => l.length - (intOf q).toNat)
      case atStart => exact ⟨0, [], by omega, rfl, rfl, by rw [List.take_zero]; rfl, by simp, he.out⟩
      case round =>
        clear he
        obtain ⟨k, S, hk, rfl, rfl, hS, hSl, E⟩ := hrel
        by_cases hlt : k < l.length
        · obtain ⟨b, off, rfl, _, hkd, x0, x1⟩ := EAtm.at (hs.out.ext E) k hlt
          have hnx := join_grow 32 ((l.take k).map wordT) (wordT l[k])
          rw [show ((l.take k).map wordT) ++ [wordT l[k]] = (l.take (k + 1)).map wordT by rw [List.take_succ_eq_append_getElem hlt, List.map_append]; rfl, ← hS] at hnx
          have hemp : ((l.take k).map wordT) = [] ↔ k = 0 := ⟨fun h => by have := congrArg List.length h; rw [List.length_map, List.length_take, List.length_nil] at this; omega, fun h => by subst h; rfl⟩
          have hdl := wordT_len l[k]
          have hwd : ∃ d, wordT l[k] = d := ⟨_, rfl⟩
          obtain ⟨d, hwd⟩ := hwd
          rw [hwd] at hnx hdl
          generalize l[k] = x at hwd hkd x0 x1
          obtain ⟨kd, av⟩ := x
          have hs2 : ¬ 9223372036854775807 < (ByteArray.mk S.toArray).size + (ByteArray.mk #[32]).size := by rw [ba_size]; show ¬ _ < S.length + 1; omega
          have hs1 : ¬ 9223372036854775807 < (ByteArray.mk S.toArray).size + (ByteArray.mk d.toArray).size := by rw [ba_size, ba_size]; omega
          have hs3 : ¬ 9223372036854775807 < ((ByteArray.mk S.toArray) ++ ⟨#[32]⟩).size + (ByteArray.mk d.toArray).size := by rw [ba_sz_app, ba_size, ba_size]; show ¬ _ < S.length + 1 + d.length; omega
          replace hS := hide hS
          replace E := hide E
          by_cases hk0 : k = 0
          · rw [if_pos (hemp.2 hk0)] at hnx
            subst hk0
            simp only [Nat.zero_mul, Nat.add_zero] at x0 x1
            clear hemp hs2 hs3
            replace hnx := hide hnx
            by_cases h2 : kd = 2
            · subst h2
              obtain rfl : [46] = d := hwd
              go_wp2
              go_roundw
              case rel => exact ⟨1, S ++ [46], by omega, by go_num, by first | rw [ba_app1, ba_app1] | rw [ba_app1, ba_app] | rw [ba_app1] | rw [ba_app], hnx.out.symm, by simp at hdl ⊢; omega, E.out⟩
              case measure => simp [intOf]; omega
            · by_cases h3 : kd = 3
              · subst h3
                obtain rfl : [42] = d := hwd
                go_wp2
                go_roundw
                case rel => exact ⟨1, S ++ [42], by omega, by go_num, by first | rw [ba_app1, ba_app1] | rw [ba_app1, ba_app] | rw [ba_app1] | rw [ba_app], hnx.out.symm, by simp at hdl ⊢; omega, E.out⟩
                case measure => simp [intOf]; omega
              · have hw : digS 10 av.toNat = d := by rw [← hwd]; unfold wordT; rw [if_neg h2, if_neg h3]
                clear hwd
                have hF := qn.out av.toNat (by have := av.toNat_lt; omega) wr
                rw [hw] at hF
                have hwr : IntKind.u64.wrap (av.toNat : Int) = (av.toNat : Int) := by rw [IntKind.wrap_u64]; have := av.toNat_lt; omega
                rw [← hwr] at hF
                clear hwr
                replace hF := hide hF
                go_wp2_with fail
                refine hF.out.mono ?_
                rintro e w3 ⟨rfl, he3⟩
                replace E := hide (E.out.trans he3)
                clear he3 hF
                go_wp2
                go_roundw
                case rel => exact ⟨1, S ++ d, by omega, by go_num, by first | rw [ba_app1, ba_app1] | rw [ba_app1, ba_app] | rw [ba_app1] | rw [ba_app], hnx.out.symm, by simp at hdl ⊢; omega, E.out⟩
                case measure => simp [intOf]; omega
          · rw [if_neg fun h => hk0 (hemp.1 h)] at hnx
            have hk1 : 0 < k := by omega
            clear hemp hs1
            replace hnx := hide hnx
            by_cases h2 : kd = 2
            · subst h2
              obtain rfl : [46] = d := hwd
              go_wp2
              go_roundw
              case rel => exact ⟨k + 1, S ++ [32] ++ [46], by omega, by go_num, by first | rw [ba_app1, ba_app1] | rw [ba_app1, ba_app] | rw [ba_app1] | rw [ba_app], hnx.out.symm, by simp at hdl ⊢; omega, E.out⟩
              case measure => simp [intOf]; omega
            · by_cases h3 : kd = 3
              · subst h3
                obtain rfl : [42] = d := hwd
                go_wp2
                go_roundw
                case rel => exact ⟨k + 1, S ++ [32] ++ [42], by omega, by go_num, by first | rw [ba_app1, ba_app1] | rw [ba_app1, ba_app] | rw [ba_app1] | rw [ba_app], hnx.out.symm, by simp at hdl ⊢; omega, E.out⟩
                case measure => simp [intOf]; omega
              · have hw : digS 10 av.toNat = d := by rw [← hwd]; unfold wordT; rw [if_neg h2, if_neg h3]
                clear hwd
                have hF := qn.out av.toNat (by have := av.toNat_lt; omega) wr
                rw [hw] at hF
                have hwr : IntKind.u64.wrap (av.toNat : Int) = (av.toNat : Int) := by rw [IntKind.wrap_u64]; have := av.toNat_lt; omega
                rw [← hwr] at hF
                clear hwr
                replace hF := hide hF
                go_wp2_with fail
                refine hF.out.mono ?_
                rintro e w3 ⟨rfl, he3⟩
                replace E := hide (E.out.trans he3)
                clear he3 hF
                go_wp2
                go_roundw
                case rel => exact ⟨k + 1, S ++ [32] ++ d, by omega, by go_num, by first | rw [ba_app1, ba_app1] | rw [ba_app1, ba_app] | rw [ba_app1] | rw [ba_app], hnx.out.symm, by simp at hdl ⊢; omega, E.out⟩
                case measure => simp [intOf]; omega
        · obtain rfl : k = l.length := by omega
          rw [List.take_length] at hS
          have hfin : S = textL l := by rw [hS]; unfold textL; rw [if_neg hnil]
          clear hS
          subst hfin
          replace E := hide E
          go_wp2
          go_ret2
          exact ⟨rfl, E.out⟩
  · have htx : textA l = ([], 2) := if_neg hok
    rw [htx]
    rw [show atmsOk l = false by simpa using hok] at q1
    dsimp only
    replace hs := hide hs
    replace q1 := hide q1
    replace qn := hide qn
    go_enter Tryz.func24, Tryz.ntmps24
    go_wp2_with fail
    refine q1.out.mono ?_
    rintro e W1 ⟨rfl, he⟩
    go_wp2
    go_ret2
    exact ⟨rfl, he⟩
open Go.RowKit Go.Sort

set_option maxRecDepth 20000 in
set_option maxHeartbeats 4000000 in
theorem RParse_any15 (s : List UInt8) (hs : s.length ≤ 1048576) (w : World) :
    Calls Tryz.prog 28 #[.string ⟨s.toArray⟩] w (PaP s w) := by
  have mixed : Tryz.prog.follows Departure.mixedOrders = true := by kernel_rfl
  by_cases hd : s = [45]
  · subst hd
    go_enter Tryz.func28, Tryz.ntmps28
    go_wp2
    go_ret2
    exact ⟨⟨.slice none 0 0, rfl, Own.nil⟩, Ext.refl _⟩
  have hz : (ByteArray.mk s.toArray).size = s.length := ba_size s
  have e1 : (s == [45]) = false := beq_eq_false_iff_ne.2 hd
  by_cases hlong : 768 < s.length
  · have hB := fun (W : World) (he : Ext w W) => PaP.bad (parseA_long hlong) he
    have e0 : decide ((768 : Int) < (s.length : Int)) = true := decide_eq_true (by omega)
    generalize PaP s w = Post at hB ⊢
    clear hd hlong
    replace hB := hide hB
    go_enter Tryz.func28, Tryz.ntmps28
    go_wp2
    try go_ret2
    exact hB.out _ (Ext.refl _)
  have e0 : decide ((768 : Int) < (s.length : Int)) = false := decide_eq_false (by omega)
  have hS := fun W => RSplit_any s hs 32 W
  unfold SpP at hS
  have hwl : ∀ x ∈ spl 32 s, x.length ≤ 1048576 := fun x hx => Nat.le_trans (spl_len 32 s x hx) hs
  have hbad := fun k hk h => parseA_bad (s := s) (k := k) hd hk h
  have hpl : (spl 32 s).length ≤ 1048577 := by
    have := splC_len 32 s.length s (Nat.le_refl _)
    omega
  have hend : parseA s = (match wordsA (spl 32 s) with | some l => if l.length ≤ 64 then (l, 0) else ([], 4) | none => ([], 4)) := if_neg hd
  have hB := fun (h : parseA s = ([], 4)) (W : World) (he : Ext w W) => PaP.bad h he
  have hP : PaP s w = fun e w' => (∃ v, e = .returned (.tuple #[v, .int .i64 (parseA s).2]) ∧ Own EAtm 40 w' w.heap.size v (parseA s).1) ∧ Ext w w' := rfl
  generalize PaP s w = Post at hB hP ⊢
  generalize hpa : parseA s = R at *
  generalize spl 32 s = P at *
  clear hpa hd hlong
  have h0 := hS w
  have qr := fun (x : List UInt8) (hx : x.length ≤ 1048576) W => RRead_any 10 4294967295 (by decide) (by decide) (by decide) (by decide) x hx W
  unfold RdP at qr
  replace hwl := hide hwl
  replace hbad := hide hbad
  replace hend := hide hend
  replace hB := hide hB
  replace hP := hide hP
  replace h0 := hide h0
  replace qr := hide qr
  clear hS
  go_enter Tryz.func28, Tryz.ntmps28
  go_wp2_with fail
  refine h0.out.mono ?_
  rintro e W1 ⟨he1, g, o, d, rfl, hd1, hc⟩
  clear h0
  replace he1 := hide he1
  replace hc := hide hc
  replace hd1 := hide hd1
  go_wp2_with fail
  go_loopw [5, 6] (fun v i wr => ∃ (k : Nat) (x : List Atm), k ≤ P.length ∧ i = .int .i64 k ∧ wordsA (P.take k) = some x ∧ Own EAtm 40 wr W1.heap.size v x ∧ Ext W1 wr) (fun _ i _ => P.length - (intOf i).toNat)
  case atStart => exact ⟨0, [], Nat.zero_le _, rfl, rfl, Own.nil, Ext.refl _⟩
  case round =>
    obtain ⟨k, x, hk, rfl, hx, hown, hE⟩ := hrel
    have hxk : x.length = k := by have := wordsA_len hx; rw [List.length_take] at this; omega
    have hxl : x.length ≤ 1048577 := by omega
    have hsz := hE.size
    replace hown := hide hown
    replace hE := hide hE
    replace hxl := hide hxl
    by_cases hlt : k < P.length
    · have hc1 := hE.out.cell (hc.out k hlt)
      have q := qr.out P[k] (hwl.out _ (List.getElem_mem hlt)) wr
      have hnext := fun a (h : wordA P[k] = some a) => wordsA_next hlt hx h
      have hno := fun (h : wordA P[k] = none) W (h2 : Ext W1 W) => hB.out (hbad.out k hlt h) W (he1.out.trans h2)
      generalize P[k] = wd at hc1 q hnext hno
      clear hx hB hbad hwl hend hP qr
      replace q := hide q
      replace hnext := hide hnext
      replace hno := hide hno
      go_wp2_with fail
      refine q.out.mono ?_
      rintro e W2 ⟨⟨z, hz0, rfl, hrd⟩, he2⟩
      clear q
      have hc2 := he2.cell hc1
      clear hc1
      have hsz2 := (hE.out.trans he2).size
      have hE2 := hide (hE.out.trans he2)
      replace hown := hide (hown.out.ext he2)
      clear he2 hE hsz
      by_cases h46 : wd = [46]
      · clear hrd
        subst h46
        have hwa : wordA [46] = some ((2, 0) : Atm) := rfl
        have hnx := hide (hnext.out ((2, 0) : Atm) hwa)
        have hcs : ∀ j y, (atmCs ((2, 0) : Atm))[j]? = some y → (W2.alloc (Obj.cells #[.int .i64 2, .int .u32 0] 40)).cell? ((⟨W2.heap.size, 0, none⟩ : Addr).add j) = some y := cells_new W2 #[.int .i64 2, .int .u32 0] 40
        replace hcs := hide hcs
        clear hnext hno hwa
        go_wp2_with (at_builtin
                     have hox := hown.out.alloc (Obj.cells #[.int .i64 2, .int .u32 0] 40)
                     refine wpList_push (E := EAtm) rfl _ _ _ rfl okAtm (by decide) (by decide) rfl hox (by have := hxl.out; omega) (by simp; omega) rfl (y := ((2, 0) : Atm)) (cs := atmCs ((2, 0) : Atm)) ⟨rfl, by decide, by decide⟩ hcs.out ?_
                     intro v' w5 hown1 hg hat)
        go_roundw
        case rel => exact ⟨k + 1, x ++ [((2, 0) : Atm)], by omega, by go_num, hnx.out, hown1, (hE2.out.alloc _).push (fun j hj => (hown.out.lt j hj).1) hg⟩
        case measure => simp [intOf]; omega
      by_cases h42 : wd = [42]
      · clear hrd h46
        subst h42
        have hwa : wordA [42] = some ((3, 0) : Atm) := rfl
        have hnx := hide (hnext.out ((3, 0) : Atm) hwa)
        have hcs : ∀ j y, (atmCs ((3, 0) : Atm))[j]? = some y → (W2.alloc (Obj.cells #[.int .i64 3, .int .u32 0] 40)).cell? ((⟨W2.heap.size, 0, none⟩ : Addr).add j) = some y := cells_new W2 #[.int .i64 3, .int .u32 0] 40
        replace hcs := hide hcs
        clear hnext hno hwa
        go_wp2_with (at_builtin
                     have hox := hown.out.alloc (Obj.cells #[.int .i64 3, .int .u32 0] 40)
                     refine wpList_push (E := EAtm) rfl _ _ _ rfl okAtm (by decide) (by decide) rfl hox (by have := hxl.out; omega) (by simp; omega) rfl (y := ((3, 0) : Atm)) (cs := atmCs ((3, 0) : Atm)) ⟨rfl, by decide, by decide⟩ hcs.out ?_
                     intro v' w5 hown1 hg hat)
        go_roundw
        case rel => exact ⟨k + 1, x ++ [((3, 0) : Atm)], by omega, by go_num, hnx.out, hown1, (hE2.out.alloc _).push (fun j hj => (hown.out.lt j hj).1) hg⟩
        case measure => simp [intOf]; omega
      have g46 : (wd == [46]) = false := beq_eq_false_iff_ne.2 h46
      have g42 : (wd == [42]) = false := beq_eq_false_iff_ne.2 h42
      by_cases hgood : (rdN 10 4294967295 wd).isSome = true ∧ 0 < z
      · obtain ⟨hg1, hpos⟩ := hgood
        obtain ⟨n, hn⟩ := Option.isSome_iff_exists.1 hg1
        obtain rfl := hrd n hn
        obtain ⟨hu, hdg⟩ := (rdN_iff (by decide) (by decide)).1 hn
        have hwa := word_num h46 h42 hu hpos hdg
        obtain ⟨cv, rfl⟩ : ∃ cv : UInt32, cv.toNat = n := ⟨UInt32.ofNat n, by rw [UInt32.toNat_ofNat']; omega⟩
        rw [UInt32.ofNat_toNat] at hwa
        have hw : IntKind.u32.wrap (cv.toNat : Int) = (cv.toNat : Int) := by rw [IntKind.wrap_u32]; omega
        have hnx := hide (hnext.out _ hwa)
        rw [hg1]
        clear hrd h46 h42 hno hu hnext hwa hdg hn hg1 hz0
        have hcs : ∀ j y, (atmCs ((1, cv) : Atm))[j]? = some y → (W2.alloc (Obj.cells #[.int .i64 1, .int .u32 (cv.toNat : Int)] 40)).cell? ((⟨W2.heap.size, 0, none⟩ : Addr).add j) = some y := cells_new W2 #[.int .i64 1, .int .u32 (cv.toNat : Int)] 40
        replace hcs := hide hcs
        go_wp2_with (at_builtin
                     have hox := hown.out.alloc (Obj.cells #[.int .i64 1, .int .u32 (cv.toNat : Int)] 40)
                     refine wpList_push (E := EAtm) rfl _ _ _ rfl okAtm (by decide) (by decide) rfl hox (by have := hxl.out; omega) (by simp; omega) rfl (y := ((1, cv) : Atm)) (cs := atmCs ((1, cv) : Atm)) ⟨rfl, by show i64 1; exact ⟨by decide, by decide⟩⟩ hcs.out ?_
                     intro v' w5 hown1 hg hat)
        go_roundw
        case rel => exact ⟨k + 1, x ++ [((1, cv) : Atm)], by omega, by go_num, hnx.out, hown1, (hE2.out.alloc _).push (fun j hj => (hown.out.lt j hj).1) hg⟩
        case measure => simp [intOf]; omega
      · have hwn := hide (word_no h46 h42 fun n hn => by
          have h1 := hrd n hn
          subst h1
          rcases Nat.eq_zero_or_pos n with h | h
          · exact h
          · exact absurd ⟨by rw [hn]; rfl, h⟩ hgood)
        have hcs : (rdN 10 4294967295 wd).isSome = false ∨ ((rdN 10 4294967295 wd).isSome = true ∧ z = 0) := by
          cases hq : (rdN 10 4294967295 wd).isSome with
          | false => exact .inl rfl
          | true => exact .inr ⟨rfl, by
              rcases Nat.eq_zero_or_pos z with h | h
              · exact h
              · exact absurd ⟨hq, h⟩ hgood⟩
        clear hrd h46 h42 hnext hgood hz0
        rcases hcs with hq | ⟨hq, rfl⟩
        · rw [hq]
          clear hq
          go_wp2
          try go_ret2
          exact hno.out hwn.out _ hE2.out
        · rw [hq]
          clear hq
          go_wp2
          try go_ret2
          exact hno.out hwn.out _ hE2.out
    · obtain rfl : k = P.length := by omega
      rw [List.take_length] at hx
      replace hend := hend.out
      rw [hx] at hend
      obtain ⟨av, cv, rfl⟩ := hown.out.form
      by_cases h64 : x.length ≤ 64
      · have e6 : decide ((64 : Int) < (x.length : Int)) = false := decide_eq_false (by omega)
        have hR : R = (x, 0) := hend.trans (if_pos h64)
        clear hend h64 hx hB hbad hwl hxk qr
        replace hR := hide hR
        go_wp2
        try go_ret2
        rw [hP.out]
        exact ⟨⟨_, by rw [hR.out]; rfl, by rw [hR.out]; exact hown.out.low he1.out.size⟩, he1.out.trans hE.out⟩
      · have e6 : decide ((64 : Int) < (x.length : Int)) = true := decide_eq_true (by omega)
        have hR : R = ([], 4) := hend.trans (if_neg h64)
        clear hend h64 hx hbad hwl hxk qr
        replace hR := hide hR
        go_wp2
        try go_ret2
        exact hB.out hR.out _ (he1.out.trans hE.out)
end Go.Proofs.YtoghdmoldcjedaaGreatDoor
