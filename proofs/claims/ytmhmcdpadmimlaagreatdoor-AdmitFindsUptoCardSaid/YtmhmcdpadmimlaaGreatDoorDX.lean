/- The walk of AdmitFinds. -/
import Derived.Test.YtmhmcdpadmimlaaGreatDoorDU
import Derived.Test.YtmhmcdpadmimlaaGreatDoorDV
import Derived.Test.YtmhmcdpadmimlaaGreatDoorDW
import Derived.Test.YtmhmcdpadmimlaaGreatDoorDR
import Derived.Lib.QuietBelow
namespace Go.Proofs.YtmhmcdpadmimlaaGreatDoor
open Go.RowKit Go.Sort
set_option linter.unusedVariables false

theorem thereN {α : Type} {E : Enc α} {e : TypeId} {w : World} {B g n c : Nat} {l : List α} (h : Own E e w B (.slice (some ⟨g, 0, none⟩) n c) l) : w.there g 0 (l.length * E.sz) := by
  obtain ⟨xs, ho, _⟩ := h
  have hn : n = l.length := by
    rcases ho.2 with ⟨h2, _⟩ | ⟨g', cap, cur, h2, _⟩
    · cases h2
    · injection h2
  subst hn
  intro j hj
  have hx : j < xs.length := by rw [ho.1]; exact hj
  have h3 := ho.cells (g := g) rfl j _ (List.getElem?_eq_getElem hx)
  rw [add_lit] at h3
  exact ⟨by rw [h3]; rfl, by have := ho.frozenAt j; rwa [Nat.zero_add]⟩
theorem slAtN {α : Type} {E : Enc α} {e : TypeId} {w : World} {B n c : Nat} {a : Option Addr} {l : List α} (h : Own E e w B (.slice a n c) l) : Sl E w (fun b => B ≤ b ∧ b < w.heap.size) a l := by
  obtain ⟨a', c', hv, hs⟩ := h.sl
  injection hv with h1 _ _
  subst h1
  exact hs
theorem there_set {w : World} {g n : Nat} (h : w.there g 0 n) (j : Nat) (u : Value) : (w.setCell ⟨g, j, none⟩ u).there g 0 n := World.there_setCells h g j [u]
set_option maxRecDepth 20000 in
set_option maxHeartbeats 4000000 in
theorem AdmitFinds_walk (ao : Option Addr) (co : Nat) (l : List Nbr) (a : List UInt8) (w : World) (hl : l.length ≤ 16777216) (hc : l.length ≤ co) (hcm : co ≤ 9223372036854775807) (ha : a.length ≤ 1048576) (hs : Sl ENbr w (· < w.heap.size) ao l) (hT : Tab w) (hD : Deb w) (hV : Vars w) :
    Calls Tryz.prog 3 #[.slice ao l.length co, .string ⟨a.toArray⟩] w fun e w' => e = .returned (.bool true) ∧ Ext w w' := by
  have mixed : Tryz.prog.follows Departure.mixedOrders = true := by kernel_rfl
  have qw := fun W (h : Ext w W) => LWorks21 W (hT.ext h) (hD.ext h) (hV.ext h)
  have qd := fun (x : Nbr) (f : Option Addr) (fc : Nat) W (h : Ext w W) (hin : NbrIn W (· < W.heap.size) x f) => Dynamic_any21 x f fc a ha W hin (hT.ext h) (hD.ext h)
  have qr := fun (x : Nbr) (f : Option Addr) (fc : Nat) W (hin : NbrIn W (· < W.heap.size) x f) => RDynamic_any21 x f fc a ha W hin
  have hi24 : ∀ L : List Value, L.length = 23 → (Tryz.prog.info? 31).map (·.size) = some L.toArray.size := fun L hl => by rw [List.size_toArray, hl]; kernel_rfl
  obtain ⟨ZA, hZ, hZl, hZo⟩ : ∃ ZA : List Value, zeroA = ZA.toArray ∧ ZA.length = 23 ∧ (ZA.toArray).all (·.oneCell') = true := ⟨zeroA.toList, rfl, rfl, by kernel_rfl⟩
  have hiZ : (Tryz.prog.info? 31).map (·.size) = some ZA.length := by rw [hZl]; kernel_rfl
  have qs0 : ∀ W, Calls Tryz.prog 12 #[.agg ZA.toArray, .agg ZA.toArray] W fun e w' => e = .returned (.bool true) ∧ Ext W w' := fun W => by
    rw [← hZ]
    exact RSame21_eq zeroN none 0 none 0 W (by show 0 ≤ _; decide) (.inl rfl) (.inl rfl)
  obtain ⟨L, hL⟩ : ∃ L, L = l.take 40 := ⟨_, rfl⟩
  have hK : L.length = min 40 l.length := by rw [hL, List.length_take]
  have hmin : min (l.length : Int) 40 = (L.length : Int) := by omega
  have hmin2 : min l.length 40 = L.length := by omega
  have hh : ∀ W, (Instr.sliceAt 22 (.slice ao l.length co) none (some (.int .i64 (L.length : Int))) none).run Tryz.prog W = .ok (.slice ao L.length co) W := fun W => slice_headP ao l.length co L.length (by omega) hc hcm W
  have hsL : Sl ENbr w (· < w.heap.size) ao L := by rw [hL]; exact hs.take 40
  have hLn : L.length ≤ 40 := by omega
  have qf := Find_any21 L (by omega) ao co a ha w hsL
  have qg := fun W (h : Ext w W) => RFind_any21 L (by omega) ao co a ha W (hsL.ext h)
  generalize findN L a = FN at qf qg
  obtain ⟨fi, fb⟩ := FN
  dsimp only at qf qg
  clear hT hD hV hs hL hK hc hcm hl ha
  generalize l.length = nl at *
  replace qw := hide qw
  replace qd := hide qd
  replace qr := hide qr
  replace hi24 := hide hi24
  replace hZ := hide hZ
  replace hZl := hide hZl
  replace hZo := hide hZo
  replace hiZ := hide hiZ
  replace qs0 := hide qs0
  replace hsL := hide hsL
  replace qf := hide qf
  replace qg := hide qg
  go_enter Tryz.func3, Tryz.ntmps3
  go_wp2_with fail
  refine qf.out.mono ?_
  rintro e W1 ⟨rfl, F⟩
  have E := hide F
  clear qf F hh hmin hmin2
  go_wp2_with fail
  refine (qg.out _ E.out).mono ?_
  rintro e W2 ⟨rfl, F⟩
  replace E := hide (E.out.trans F)
  clear qg F
  go_wp2_with fail
  go_loopw [9] (fun i wr => ∃ k : Nat, k ≤ L.length ∧ i = .int .i64 (k : Int) ∧ Ext W2 wr) (fun i _ => L.length - (intOf i).toNat)
  case atStart => exact ⟨0, Nat.zero_le _, rfl, Ext.refl _⟩
  case round =>
    obtain ⟨k, hk, rfl, hE⟩ := hrel
    rename World => W3
    by_cases hlt : k < L.length
    · obtain ⟨b, off, f, fc, hab, hbs, hin, hc⟩ := ENbr.at ((hsL.out.ext E.out).ext hE) k hlt
      subst hab
      have qd1 := qd.out L[k] f fc W3 (E.out.trans hE) hin
      have qr1 := fun W (h : Ext W3 W) => qr.out L[k] f fc W (hin.ext h)
      have hfam := hin.fams
      have hnF := hin.nFams
      generalize L[k] = X at *
      have hCl : (nbrCs X f fc).length = 23 := rfl
      have c12 : W3.cell? ⟨b, off + k * 23 + 12, none⟩ = some (.slice f X.fams.length fc) := hc 12 _ rfl
      have hra : W3.rangeAt b (off + k * 23) (nbrCs X f fc) := fun j u hu => hc j u hu
      have hi23 : (Tryz.prog.info? 31).map (·.size) = some (nbrCs X f fc).length := by rw [hCl]; kernel_rfl
      have d1 : decide ((k : Int) < (L.length : Int)) = true := decide_eq_true (by omega)
      generalize nbrCs X f fc = CS at qd1 qr1 hra hi23
      clear hc hCl hin
      replace qd1 := hide qd1
      replace qr1 := hide qr1
      replace hra := hide hra
      replace hi23 := hide hi23
      replace hfam := hide hfam
      replace c12 := hide c12
      replace hnF := hide hnF
      replace hE := hide hE
      replace hbs := hide hbs
      go_wp2_with (with_reducible refine wpList_load_mid rfl 31 (.tmp 51) rfl b (off + k * 23) rfl CS _ hra.out Tryz.underlying31 rfl hi23.out ?_)
      refine qd1.out.mono ?_
      rintro e W4 ⟨F4, hq⟩
      have E3 := hide F4
      clear qd1
      rcases hq with ⟨ho, he⟩ | ⟨ho, hlen, he⟩ | ⟨ho, hlen, f2, c2, he, hown⟩
      · rw [hZ.out] at he
        replace ho := hide ho
        clear F4
        subst he
        have hth := hide (nbr_there W4 (ZA).toArray.size (by rw [List.size_toArray, hZl.out]; exact Nat.le_refl _))
        have hi25 := hide (hi24.out (ZA) hZl.out)
        obtain ⟨Ba, hX⟩ := nbr_put W4 (ZA) hZl.out
        replace E3 := hide (E3.out.trans hX)
        replace Ba := hide Ba
        replace hX := hide hX
        go_upto_region 10 with (with_reducible refine wpList_store_mid rfl 31 (.tmp 10) (.tmp 55) rfl W4.heap.size 0 (ZA).toArray rfl rfl hth.out hi25.out hZo.out ?_)
        generalize (W4.alloc (.cells #[.string ⟨#[]⟩, .string ⟨#[]⟩, .int .i64 0, .int .u64 0, .string ⟨#[]⟩, .int .i64 0, .int .u32 0, .int .i64 0, .int .i64 0, .bool false, .bool false, .bool false, .slice none 0 0, .int .i64 0, .bool false, .int .i64 0, .bool false, .int .i64 0, .int .i64 0, .string ⟨#[]⟩, .string ⟨#[]⟩, .string ⟨#[]⟩, .bool false] 31)).setCells W4.heap.size 0 (ZA) = Va at Ba E3  hX ⊢
        generalize W4.heap.size = ga at Ba ⊢
        clear hth hi25 hX
        have hra2 := hide (range_ext hra.out E3.out)
        go_wp2_with (with_reducible refine wpList_load_mid rfl 31 (.tmp 60) rfl b (off + k * 23) rfl CS _ hra2.out Tryz.underlying31 rfl hi23.out ?_)
        refine (qr1.out _ E3.out).mono ?_
        rintro e W5 ⟨F5, hq2⟩
        replace hq2 : e = .returned (.tuple #[.agg ZA.toArray, .int .i64 2]) := by
          rw [← hZ.out]
          rcases hq2 with ⟨_, h⟩ | ⟨h, _⟩ | ⟨h, _⟩
          · exact h
          · rw [ho.out] at h; cases h
          · rw [ho.out] at h; cases h
        subst hq2
        replace E3 := hide (E3.out.trans F5)
        replace Ba := hide (Ba.out.ext F5)
        clear hra2 F5
        have hth := hide (nbr_there W5 (ZA).toArray.size (by rw [List.size_toArray, hZl.out]; exact Nat.le_refl _))
        have hi25 := hide (hi24.out (ZA) hZl.out)
        obtain ⟨Bb, hX⟩ := nbr_put W5 (ZA) hZl.out
        replace E3 := hide (E3.out.trans hX)
        replace Ba := hide (Ba.out.ext hX)
        replace Bb := hide Bb
        replace hX := hide hX
        go_upto_region 11 with (with_reducible refine wpList_store_mid rfl 31 (.tmp 12) (.tmp 64) rfl W5.heap.size 0 (ZA).toArray rfl rfl hth.out hi25.out hZo.out ?_)
        generalize (W5.alloc (.cells #[.string ⟨#[]⟩, .string ⟨#[]⟩, .int .i64 0, .int .u64 0, .string ⟨#[]⟩, .int .i64 0, .int .u32 0, .int .i64 0, .int .i64 0, .bool false, .bool false, .bool false, .slice none 0 0, .int .i64 0, .bool false, .int .i64 0, .bool false, .int .i64 0, .int .i64 0, .string ⟨#[]⟩, .string ⟨#[]⟩, .string ⟨#[]⟩, .bool false] 31)).setCells W5.heap.size 0 (ZA) = Vb at Bb E3 Ba hX ⊢
        generalize W5.heap.size = gb at Bb ⊢
        clear hth hi25 hX hra
        go_wp2_with (first
          | (with_reducible refine wpList_load_mid rfl 31 (.tmp 10) rfl ga 0 rfl ZA _ Ba.out.range Tryz.underlying31 rfl hiZ.out ?_)
          | (with_reducible refine wpList_load_mid rfl 31 (.tmp 12) rfl gb 0 rfl ZA _ Bb.out.range Tryz.underlying31 rfl hiZ.out ?_))
        refine (qs0.out _).mono ?_
        rintro e W6 ⟨rfl, F6⟩
        replace E3 := hide (E3.out.trans F6)
        clear Ba Bb F6
        go_wp2_with fail
        go_roundw
        case rel => exact ⟨k + 1, by omega, by go_num, hE.out.trans E3.out⟩
        case measure => simp [intOf]; omega
      · rw [hZ.out] at he
        replace ho := hide ho
        replace hlen := hide hlen
        clear F4
        subst he
        have hth := hide (nbr_there W4 (ZA).toArray.size (by rw [List.size_toArray, hZl.out]; exact Nat.le_refl _))
        have hi25 := hide (hi24.out (ZA) hZl.out)
        obtain ⟨Ba, hX⟩ := nbr_put W4 (ZA) hZl.out
        replace E3 := hide (E3.out.trans hX)
        replace Ba := hide Ba
        replace hX := hide hX
        go_upto_region 10 with (with_reducible refine wpList_store_mid rfl 31 (.tmp 10) (.tmp 55) rfl W4.heap.size 0 (ZA).toArray rfl rfl hth.out hi25.out hZo.out ?_)
        generalize (W4.alloc (.cells #[.string ⟨#[]⟩, .string ⟨#[]⟩, .int .i64 0, .int .u64 0, .string ⟨#[]⟩, .int .i64 0, .int .u32 0, .int .i64 0, .int .i64 0, .bool false, .bool false, .bool false, .slice none 0 0, .int .i64 0, .bool false, .int .i64 0, .bool false, .int .i64 0, .int .i64 0, .string ⟨#[]⟩, .string ⟨#[]⟩, .string ⟨#[]⟩, .bool false] 31)).setCells W4.heap.size 0 (ZA) = Va at Ba E3  hX ⊢
        generalize W4.heap.size = ga at Ba ⊢
        clear hth hi25 hX
        have hra2 := hide (range_ext hra.out E3.out)
        go_wp2_with (with_reducible refine wpList_load_mid rfl 31 (.tmp 60) rfl b (off + k * 23) rfl CS _ hra2.out Tryz.underlying31 rfl hi23.out ?_)
        refine (qr1.out _ E3.out).mono ?_
        rintro e W5 ⟨F5, hq2⟩
        replace hq2 : e = .returned (.tuple #[.agg ZA.toArray, .int .i64 3]) := by
          rw [← hZ.out]
          rcases hq2 with ⟨h, _⟩ | ⟨_, _, h⟩ | ⟨_, h, _⟩
          · rw [ho.out] at h; cases h
          · exact h
          · have := hlen.out; omega
        subst hq2
        replace E3 := hide (E3.out.trans F5)
        replace Ba := hide (Ba.out.ext F5)
        clear hra2 F5
        have hth := hide (nbr_there W5 (ZA).toArray.size (by rw [List.size_toArray, hZl.out]; exact Nat.le_refl _))
        have hi25 := hide (hi24.out (ZA) hZl.out)
        obtain ⟨Bb, hX⟩ := nbr_put W5 (ZA) hZl.out
        replace E3 := hide (E3.out.trans hX)
        replace Ba := hide (Ba.out.ext hX)
        replace Bb := hide Bb
        replace hX := hide hX
        go_upto_region 11 with (with_reducible refine wpList_store_mid rfl 31 (.tmp 12) (.tmp 64) rfl W5.heap.size 0 (ZA).toArray rfl rfl hth.out hi25.out hZo.out ?_)
        generalize (W5.alloc (.cells #[.string ⟨#[]⟩, .string ⟨#[]⟩, .int .i64 0, .int .u64 0, .string ⟨#[]⟩, .int .i64 0, .int .u32 0, .int .i64 0, .int .i64 0, .bool false, .bool false, .bool false, .slice none 0 0, .int .i64 0, .bool false, .int .i64 0, .bool false, .int .i64 0, .int .i64 0, .string ⟨#[]⟩, .string ⟨#[]⟩, .string ⟨#[]⟩, .bool false] 31)).setCells W5.heap.size 0 (ZA) = Vb at Bb E3 Ba hX ⊢
        generalize W5.heap.size = gb at Bb ⊢
        clear hth hi25 hX hra
        go_wp2_with (first
          | (with_reducible refine wpList_load_mid rfl 31 (.tmp 10) rfl ga 0 rfl ZA _ Ba.out.range Tryz.underlying31 rfl hiZ.out ?_)
          | (with_reducible refine wpList_load_mid rfl 31 (.tmp 12) rfl gb 0 rfl ZA _ Bb.out.range Tryz.underlying31 rfl hiZ.out ?_))
        refine (qs0.out _).mono ?_
        rintro e W6 ⟨rfl, F6⟩
        replace E3 := hide (E3.out.trans F6)
        clear Ba Bb F6
        go_wp2_with fail
        go_roundw
        case rel => exact ⟨k + 1, by omega, by go_num, hE.out.trans E3.out⟩
        case measure => simp [intOf]; omega
      · replace ho := hide ho
        replace hlen := hide hlen
        have hown0 := hide hown
        have hnF := hnF.out
        subst he
        have hCAl : (nbrCs (dynN X a) f2 c2).length = 23 := rfl
        have hCAo := all_oneCell_toArray (nbr_one (dynN X a) f2 c2)
        have hCBl : (nbrCs (dynN X a) f fc).length = 23 := rfl
        have hCBo := all_oneCell_toArray (nbr_one (dynN X a) f fc)
        have hCA12 : (nbrCs (dynN X a) f2 c2)[12]? = some (.slice f2 X.fams.length c2) := rfl
        have qs := fun W (h1 : Sl EI64 W (· < W.heap.size) f2 X.fams) (h2 : Sl EI64 W (· < W.heap.size) f X.fams) => RSame21_eq (dynN X a) f2 c2 f fc W hnF h1 h2
        have hqB : ∀ e W', RDynP X f fc a W3 e W' → True := fun _ _ _ => trivial
        generalize hCB : nbrCs (dynN X a) f fc = CB at hCBl hCBo qs qr1
        generalize nbrCs (dynN X a) f2 c2 = CA at hCAl hCAo hCA12 qs
        have hiA : (Tryz.prog.info? 31).map (·.size) = some CA.length := by rw [hCAl]; kernel_rfl
        have hiB : (Tryz.prog.info? 31).map (·.size) = some CB.length := by rw [hCBl]; kernel_rfl
        clear hqB
        replace hCAl := hide hCAl
        replace hCAo := hide hCAo
        replace hCBl := hide hCBl
        replace hCBo := hide hCBo
        replace hCA12 := hide hCA12
        replace qs := hide qs
        replace hiA := hide hiA
        replace hiB := hide hiB
        replace hCB := hide hCB
        replace hown := hide hown
        have hth := hide (nbr_there W4 (CA).toArray.size (by rw [List.size_toArray, hCAl.out]; exact Nat.le_refl _))
        have hi25 := hide (hi24.out (CA) hCAl.out)
        obtain ⟨Ba, hX⟩ := nbr_put W4 (CA) hCAl.out
        replace E3 := hide (E3.out.trans hX)
        replace hown := hide (hown.out.ext hX)
        replace Ba := hide Ba
        replace hX := hide hX
        go_upto_region 10 with (with_reducible refine wpList_store_mid rfl 31 (.tmp 10) (.tmp 55) rfl W4.heap.size 0 (CA).toArray rfl rfl hth.out hi25.out hCAo.out ?_)
        generalize (W4.alloc (.cells #[.string ⟨#[]⟩, .string ⟨#[]⟩, .int .i64 0, .int .u64 0, .string ⟨#[]⟩, .int .i64 0, .int .u32 0, .int .i64 0, .int .i64 0, .bool false, .bool false, .bool false, .slice none 0 0, .int .i64 0, .bool false, .int .i64 0, .bool false, .int .i64 0, .int .i64 0, .string ⟨#[]⟩, .string ⟨#[]⟩, .string ⟨#[]⟩, .bool false] 31)).setCells W4.heap.size 0 (CA) = Va at Ba E3 hown hX ⊢
        have hgaW := hide (show W4.heap.size ≤ W4.heap.size from Nat.le_refl _)
        have hW34 := hide F4.size
        have hWa : Hid (W4.heap.size < Va.heap.size) := hide (by have := Ba.out.lt; exact this)
        generalize hge : W4.heap.size = ga at Ba hgaW hW34 hWa ⊢
        replace hge := hide hge
        clear hth hi25 hX
        have hra2 := hide (range_ext hra.out E3.out)
        go_wp2_with (with_reducible refine wpList_load_mid rfl 31 (.tmp 60) rfl b (off + k * 23) rfl CS _ hra2.out Tryz.underlying31 rfl hi23.out ?_)
        refine (qr1.out _ E3.out).mono ?_
        rintro e W5 ⟨F5, hq2⟩
        replace hq2 : e = .returned (.tuple #[.agg CB.toArray, .int .i64 0]) := by
          rw [← hCB.out]
          rcases hq2 with ⟨h, _⟩ | ⟨_, h, _⟩ | ⟨_, _, h⟩
          · rw [ho.out] at h; cases h
          · have := hlen.out; omega
          · exact h
        subst hq2
        replace E3 := hide (E3.out.trans F5)
        replace Ba := hide (Ba.out.ext F5)
        replace hown := hide (hown.out.ext F5)
        clear hra2 F5 hCB qr1
        have hth := hide (nbr_there W5 (CB).toArray.size (by rw [List.size_toArray, hCBl.out]; exact Nat.le_refl _))
        have hi25 := hide (hi24.out (CB) hCBl.out)
        obtain ⟨Bb, hX⟩ := nbr_put W5 (CB) hCBl.out
        replace E3 := hide (E3.out.trans hX)
        replace Ba := hide (Ba.out.ext hX)
        replace hown := hide (hown.out.ext hX)
        replace Bb := hide Bb
        replace hX := hide hX
        go_upto_region 11 with (with_reducible refine wpList_store_mid rfl 31 (.tmp 12) (.tmp 64) rfl W5.heap.size 0 (CB).toArray rfl rfl hth.out hi25.out hCBo.out ?_)
        generalize (W5.alloc (.cells #[.string ⟨#[]⟩, .string ⟨#[]⟩, .int .i64 0, .int .u64 0, .string ⟨#[]⟩, .int .i64 0, .int .u32 0, .int .i64 0, .int .i64 0, .bool false, .bool false, .bool false, .slice none 0 0, .int .i64 0, .bool false, .int .i64 0, .bool false, .int .i64 0, .int .i64 0, .string ⟨#[]⟩, .string ⟨#[]⟩, .string ⟨#[]⟩, .bool false] 31)).setCells W5.heap.size 0 (CB) = Vb at Bb E3 Ba hown hX ⊢
        clear hth hi25 hX hra hgaW
        have qs1 := hide (qs.out Vb ((slAtN hown.out).mono fun _ h => h.2) (hfam.out.ext E3.out))
        generalize W5.heap.size = gb at Bb ⊢
        go_wp2_with (first
          | (with_reducible refine wpList_load_mid rfl 31 (.tmp 10) rfl ga 0 rfl CA _ Ba.out.range Tryz.underlying31 rfl hiA.out ?_)
          | (with_reducible refine wpList_load_mid rfl 31 (.tmp 12) rfl gb 0 rfl CB _ Bb.out.range Tryz.underlying31 rfl hiB.out ?_))
        refine qs1.out.mono ?_
        rintro e W6 ⟨rfl, F6⟩
        replace E3 := hide (E3.out.trans F6)
        replace hown := hide (hown.out.ext F6)
        have a12 : Hid (W6.cell? ⟨ga, 12, none⟩ = some (.slice f2 X.fams.length c2)) := hide ((Ba.out.ext F6).cell hCA12.out)
        have hga6 := hide ((Ba.out.ext F6).lt)
        clear Ba Bb qs qs1 F6 hCA12 hiA hiB hCAl hCAo hCBl hCBo
        have l12 := E3.out.cell c12.out
        have hf6 := hide (hfam.out.ext E3.out)
        go_upto_region 16 with (first
          | (at_builtin
             go_must (refine wpList_pushes (B := W6.heap.size) (v := .slice none 0 0) (l := []) rfl _ _ _ rfl okInt (by decide) rfl Own.nil (Nat.le_refl _) rfl (by simp; omega) hf6.out ?_)
             intro v1 V1 o1 hg1 hat1))
        have F7 := (Ext.refl W6).push (fun j hj => by cases hj) hg1
        replace o1 : Own EI64 3 V1 W6.heap.size v1 X.fams := o1
        replace E3 := hide (E3.out.trans F7)
        replace hown := hide (hown.out.ext F7)
        replace a12 := hide (F7.cell a12.out)
        have hga7 : Hid (ga < V1.heap.size) := hide (Nat.lt_of_lt_of_le hga6.out F7.size)
        have hV1 := hide F7.size
        have hgl : Hid (ga < W6.heap.size) := hide hga6.out
        clear l12 hf6 hg1 hat1 hga6 F7
        obtain ⟨a1, c1, rfl⟩ := o1.form
        replace o1 := hide o1
        have hthr : Hid (∀ g, f2 = some ⟨g, 0, none⟩ → V1.there g 0 X.fams.length) := hide (fun g e => by
          subst e
          have := thereN hown.out
          rwa [show X.fams.length * EI64.sz = X.fams.length from Nat.mul_one _] at this)
        have hfo : Hid (f2 = none ∧ X.fams.length = 0 ∨ ∃ g, f2 = some ⟨g, 0, none⟩ ∧ W3.heap.size ≤ g ∧ g < ga) := hide (by
          obtain ⟨xs, ⟨_, h1⟩, _⟩ := hown0.out
          rcases h1 with ⟨h1, h2⟩ | ⟨g, cap, cur, h1, h2, h3, _⟩
          · injection h1 with h1 _ _
            exact .inl ⟨h1, h2⟩
          · injection h1 with h1 _ _
            exact .inr ⟨g, h1, h2, by rw [← hge.out]; exact (Array.getElem?_eq_some_iff.1 h3).1⟩)
        have hsome : Hid (0 < X.fams.length → ∃ g, f2 = some ⟨g, 0, none⟩) := hide (fun h => by
          rcases hfo.out with ⟨_, h0⟩ | ⟨g, h1, _⟩
          · omega
          · exact ⟨g, h1⟩)
        obtain ⟨F, hF⟩ : ∃ F : Nat → Int, ∀ t (ht : t < X.fams.length), X.fams[t] = F t := ⟨fun t => X.fams.getD t 0, fun t ht => by
          show X.fams[t] = X.fams.getD t 0
          rw [List.getD_eq_getElem?_getD, List.getElem?_eq_getElem ht]
          rfl⟩
        have hne : ∀ q, (q < W3.heap.size ∨ ga ≤ q) → some q ≠ Value.ownBlock (.slice f2 X.fams.length c2) := fun q hq e => by
          rcases hfo.out with ⟨h, _⟩ | ⟨g, h, h1, h2⟩
          · rw [h] at e
            cases e
          · rw [h] at e
            injection e with e
            have : q = g := e
            omega
        have hgr : ∀ j, Value.ownBlock (.slice f2 X.fams.length c2) = some j → W3.heap.size ≤ j := fun j e => by
          rcases hfo.out with ⟨h, _⟩ | ⟨g, h, h1, h2⟩
          · rw [h] at e
            cases e
          · rw [h] at e
            injection e with e
            have : g = j := e
            omega
        have hf1 : ∀ t, t < X.fams.length → ∃ b1 o1, f = some ⟨b1, o1, none⟩ ∧ b1 < W3.heap.size ∧ V1.cell? ⟨b1, o1 + t, none⟩ = some (.int .i64 (F t)) := fun t ht => by
          obtain ⟨b1, o1, e, hb1, hc1⟩ := EI64.at hfam.out t ht
          rw [hF t ht] at hc1
          exact ⟨b1, o1, e, hb1, E3.out.cell hc1⟩
        have hf2 : ∀ t, t < X.fams.length → ∃ b1 o2, a1 = some ⟨b1, o2, none⟩ ∧ ga ≤ b1 ∧ b1 < V1.heap.size ∧ V1.cell? ⟨b1, o2 + t, none⟩ = some (.int .i64 (F t)) := fun t ht => by
          obtain ⟨b1, o2, e, hb1, hc1⟩ := EI64.at (slAtN o1.out) t ht
          rw [hF t ht] at hc1
          exact ⟨b1, o2, e, Nat.le_trans (Nat.le_of_lt hgl.out) hb1.1, hb1.2, hc1⟩
        have l12 := E3.out.cell c12.out
        have hWV := E3.out.size
        clear hF o1 hown hown0 hfam c12 hlen ho hfo hge hW34 hWa hV1 hgl
        generalize X.fams.length = n at *
        have hn8 := hnF
        replace hf1 := hide hf1
        replace hf2 := hide hf2
        replace hne := hide hne
        replace hgr := hide hgr
        replace l12 := hide l12
        replace hWV := hide hWV
        go_wp2_with fail
        go_loopw [15] (fun i wr => ∃ j : Nat, j ≤ n ∧ i = .int .i64 (j : Int) ∧ V1.grownBy wr (Value.ownBlock (.slice f2 n c2)) ∧ ∀ g, f2 = some ⟨g, 0, none⟩ → wr.there g 0 n) (fun i _ => n - (intOf i).toNat)
        case atStart => exact ⟨0, Nat.zero_le _, rfl, ⟨rfl, rfl, rfl, Nat.le_refl _, fun _ _ _ => rfl⟩, hthr.out⟩
        case round =>
          obtain ⟨j, hj, rfl, hg, hth⟩ := hrel
          rename World => V2
          have x12 : V2.cell? ⟨ga, 12, none⟩ = some (.slice f2 n c2) := (World.cell?_of_block (a := ⟨ga, 12, none⟩) (hg.block ga hga7.out (hne.out ga (.inr (Nat.le_refl _))))).trans a12.out
          by_cases hjn : j < n
          · have hx : ∃ g, f2 = some ⟨g, 0, none⟩ := hsome.out (by omega)
            obtain ⟨g, rfl⟩ := hx
            obtain ⟨hs1, hs2⟩ := hth g rfl j hjn
            obtain ⟨u, hu⟩ := Option.isSome_iff_exists.1 hs1
            rw [Nat.zero_add] at hu hs2
            have hg2 : V1.grownBy (V2.setCell ⟨g, j, none⟩ (.int .i64 99)) (Value.ownBlock (.slice (some ⟨g, 0, none⟩) n c2)) := ⟨hg.os, hg.tape, hg.output, by have := hg.size; simpa [World.setCell] using this, fun q hq hqn => (Below.heap_setCell V2 ⟨g, j, none⟩ (.int .i64 99) q (fun e => hqn (congrArg some e))).trans (hg.block q hq hqn)⟩
            have hth2 : ∀ g', (some ⟨g, 0, none⟩ : Option Addr) = some ⟨g', 0, none⟩ → (V2.setCell ⟨g, j, none⟩ (.int .i64 99)).there g' 0 n := fun g' e => by
              injection e with e
              injection e with e
              subst e
              exact there_set (hth g rfl) j (.int .i64 99)
            have d2 : decide ((j : Int) < (n : Int)) = true := decide_eq_true (by omega)
            clear hth hg hs1
            replace hg2 := hide hg2
            replace hth2 := hide hth2
            go_wp2_with fail
            go_roundw
            case rel => exact ⟨j + 1, by omega, by go_num, hg2.out, hth2.out⟩
            case measure => simp [intOf]; omega
          · obtain rfl : j = n := by omega
            have k12 : V2.cell? ⟨b, off + k * 23 + 12, none⟩ = some (.slice f j fc) := (World.cell?_of_block (a := ⟨b, off + k * 23 + 12, none⟩) (hg.block b (Nat.lt_of_lt_of_le hbs.out hWV.out) (hne.out b (.inl hbs.out)))).trans l12.out
            have r1 : ∀ t, t < j → ∃ b1 o1, f = some ⟨b1, o1, none⟩ ∧ V2.cell? ⟨b1, o1 + t, none⟩ = some (.int .i64 (F t)) := fun t ht => by
              obtain ⟨b1, o1, e, hb1, hc1⟩ := hf1.out t ht
              exact ⟨b1, o1, e, (World.cell?_of_block (a := ⟨b1, o1 + t, none⟩) (hg.block b1 (Nat.lt_of_lt_of_le hb1 hWV.out) (hne.out b1 (.inl hb1)))).trans hc1⟩
            have r2 : ∀ t, t < j → ∃ b1 o2, a1 = some ⟨b1, o2, none⟩ ∧ V2.cell? ⟨b1, o2 + t, none⟩ = some (.int .i64 (F t)) := fun t ht => by
              obtain ⟨b1, o2, e, hb1, hb2, hc1⟩ := hf2.out t ht
              exact ⟨b1, o2, e, (World.cell?_of_block (a := ⟨b1, o2 + t, none⟩) (hg.block b1 hb2 (hne.out b1 (.inr hb1)))).trans hc1⟩
            have E5 := E3.out.grown hg hgr.out
            clear hg hth hf1 hf2 hne hgr l12 hWV hjn hj a12 hga7 hthr hsome hbs E3
            replace E5 := hide (hE.out.trans E5)
            replace k12 := hide k12
            replace r1 := hide r1
            replace r2 := hide r2
            clear hE
            go_wp2_with fail
            clear x12
            go_loopw [16] (fun i wr => ∃ t : Nat, t ≤ j ∧ i = .int .i64 (t : Int) ∧ Ext V2 wr) (fun i _ => j - (intOf i).toNat)
            case atStart => exact ⟨0, Nat.zero_le _, rfl, Ext.refl _⟩
            case round =>
              obtain ⟨t, ht, rfl, hE⟩ := hrel
              rename World => V3
              by_cases htn : t < j
              · obtain ⟨b1, o3, rfl, y1⟩ := r1.out t htn
                obtain ⟨b2, o4, rfl, y2⟩ := r2.out t htn
                replace y1 := hE.cell y1
                replace y2 := hE.cell y2
                have y3 := hE.cell k12.out
                have d2 : decide ((t : Int) < (j : Int)) = true := decide_eq_true (by omega)
                replace hE := hide hE
                go_wp2_with fail
                go_quiet (fail)
                clear y1 y2 y3
                go_wp2_with fail
                go_roundw
                case rel => exact ⟨t + 1, by omega, by go_num, hE.out.drewN _⟩
                case measure => simp [intOf]; omega
              · obtain rfl : t = j := by omega
                replace E5 := hide (E5.out.trans hE)
                clear hE r1 r2 k12
                go_wp2_with fail
                go_roundw
                case rel => exact ⟨k + 1, by omega, by go_num, E5.out⟩
                case measure => simp [intOf]; omega
    · obtain rfl : k = L.length := by omega
      replace E := hide (E.out.trans hE)
      clear hE hlt hk
      go_wp2_with fail
      refine (qw.out _ E.out).mono ?_
      rintro e W9 ⟨rfl, F⟩
      replace E := hide (E.out.trans F)
      go_wp2_with fail
      go_ret
      exact ⟨rfl, E.out⟩
end Go.Proofs.YtmhmcdpadmimlaaGreatDoor
