/- Walks: a prefix read of any text, by the program (printed by genp29.py). -/
import Derived.Test.YtmhmcdpadmimlaaGreatDoorS1
import Derived.Test.YtmhmcdpadmimlaaGreatDoorP21
namespace Go.Proofs.YtmhmcdpadmimlaaGreatDoor
open Go.RowKit Go.Sort
set_option linter.unusedVariables false

theorem Split_eq (s : List UInt8) (c : UInt8) (w : World) (hV : Vars w) (hs : s.length ≤ 1048576) :
    Calls Tryz.prog 51 #[.string ⟨s.toArray⟩, .string ⟨#[c]⟩] w fun e w' => e = .returned (.slice (some ⟨w.heap.size, 0, none⟩) (spl c s).length (spl c s).length) ∧ Ext w w' ∧ ∀ k, (h : k < (spl c s).length) → w'.cell? ⟨w.heap.size, k, none⟩ = some (.string ⟨(spl c s)[k].toArray⟩) := by
  obtain ⟨m, hm⟩ := hV.max
  have hm2 : (Lib.splitB ⟨#[c]⟩ 0 (Lib.countB ⟨s.toArray⟩ ⟨#[c]⟩) ⟨s.toArray⟩).map (·.data.toList) = spl c s := Lib.splitB_data _ _ _ _
  have hlen : Lib.countB ⟨s.toArray⟩ ⟨#[c]⟩ + 1 = (spl c s).length := by
    rw [← hm2, List.length_map]
    exact (Lib.splitB_all ⟨#[c]⟩ (Nat.le_refl 1) _ _ _ rfl).symm
  refine (Tryz.strings_Split ⟨s.toArray⟩ ⟨#[c]⟩ m w (by simp [ByteArray.size]; omega) hm (Nat.le_refl 1)).mono ?_
  rintro e w' ⟨rfl, rfl⟩
  refine ⟨by rw [hlen], (Ext.refl _).alloc _, fun k h => ?_⟩
  rw [(Blk.new w 9 _).cell k]
  have hk : k < (Lib.splitB ⟨#[c]⟩ 0 (Lib.countB ⟨s.toArray⟩ ⟨#[c]⟩) ⟨s.toArray⟩).length := by
    have := congrArg List.length hm2
    rw [List.length_map] at this
    omega
  have he := congrArg (fun l => l[k]?) hm2
  simp only [List.getElem?_map, List.getElem?_eq_getElem hk, List.getElem?_eq_getElem h, Option.map_some, Option.some.injEq] at he
  rw [List.getElem?_toArray, List.getElem?_map, List.getElem?_eq_getElem hk, ← he]
  rw [ba_list]
  rfl
theorem cut_len (h : List UInt8) (c : UInt8) : (Lib.cut h [c]).1.length ≤ h.length ∧ (Lib.cut h [c]).2.1.length ≤ h.length := by
  by_cases hm : c ∈ h
  · obtain ⟨a, b, rfl, ha⟩ := first_at hm
    rw [cut_hit ha]
    simp
    omega
  · rw [cut_miss hm]
    simp
theorem row_tail (g o n : Nat) (W : World) : (Instr.sliceAt 84 (.slice (some ⟨g, o, none⟩) (n + 1) (n + 1)) (some (.int .i64 1)) none none).run Tryz.prog W = .ok (.slice (some ⟨g, if n = 0 then o else o + 1, none⟩) n n) W := by
  by_cases h : n = 0
  · subst h
    go_simp
  · rw [if_neg h]
    go_simp
    first | omega | (intro h2; omega) | skip
/-- What reading a prefix answers. -/
def PsP (s : List UInt8) (w : World) (e : Ending) (w' : World) : Prop := e = .returned (.tuple #[valP (parseC s).1, .int .i64 (parseC s).2]) ∧ Ext w w'
theorem PsP.of {s : List UInt8} {p : Pfx} {c : Int} {w : World} (h : parseC s = (p, c)) (W : World) (hE : Ext w W) : PsP s w (.returned (.tuple #[valP p, .int .i64 c])) W := ⟨by rw [h], hE⟩
theorem tail_cases (f : Int) (rd : Nat) (h : List UInt8) : ((Lib.cut h [47]).2.2 = false ∧ tailC f rd h = errC) ∨ ((Lib.cut h [47]).2.2 = true ∧ rdN 10 255 (Lib.cut h [47]).2.1 = none ∧ tailC f rd h = errC) ∨
    ((Lib.cut h [47]).2.2 = true ∧ ∃ n, rdN 10 255 (Lib.cut h [47]).2.1 = some n ∧ n ≤ 255 ∧ ((addrC (Lib.cut h [47]).1 = ([], 4) ∧ tailC f rd h = errC) ∨
      ((addrC (Lib.cut h [47]).1).2 = 0 ∧ ¬ MayP ⟨f, rd, (addrC (Lib.cut h [47]).1).1, n⟩ ∧ tailC f rd h = errC) ∨ ((addrC (Lib.cut h [47]).1).2 = 0 ∧ MayP ⟨f, rd, (addrC (Lib.cut h [47]).1).1, n⟩ ∧ tailC f rd h = (⟨f, rd, (addrC (Lib.cut h [47]).1).1, n⟩, 0)))) := by
  unfold tailC
  generalize Lib.cut h [47] = c
  obtain ⟨a, l, is⟩ := c
  cases is with
  | false => exact .inl ⟨rfl, rfl⟩
  | true =>
    simp only [if_true]
    cases h1 : rdN 10 255 l with
    | none =>
      refine .inr (.inl ⟨trivial, rfl, ?_⟩)
      have h2 : rdN 10 128 l = none := (rdN_none (by decide) (by decide)).2 fun u hu => (rdN_none (b := 10) (most := 255) (by decide) (by decide)).1 h1 u (by omega)
      rw [h2]
    | some n =>
      obtain ⟨hn, hd⟩ := (rdN_iff (by decide) (by decide)).1 h1
      refine .inr (.inr ⟨trivial, n, rfl, hn, ?_⟩)
      by_cases h128 : n ≤ 128
      · have h2 : rdN 10 128 l = some n := (rdN_iff (by decide) (by decide)).2 ⟨h128, hd⟩
        rw [h2]
        rcases addrC_err a with ha | ha
        · by_cases hm : MayP ⟨f, rd, (addrC a).1, n⟩
          · exact .inr (.inr ⟨ha, hm, if_pos ⟨ha, hm⟩⟩)
          · exact .inr (.inl ⟨ha, hm, if_neg fun h => hm h.2⟩)
        · exact .inl ⟨ha, if_neg fun h => by rw [ha] at h; exact absurd h.1 (by decide)⟩
      · have h2 : rdN 10 128 l = none := (rdN_none (by decide) (by decide)).2 fun u hu he => by
          have := digS_inj (b := 10) (by decide) (by decide) (he.trans hd.symm)
          omega
        rw [h2]
        rcases addrC_err a with ha | ha
        · exact .inr (.inl ⟨ha, fun hm => by have h3 := hm.1.small.2.2; replace h3 : (n : Int) ≤ 128 := h3; omega, rfl⟩)
        · exact .inl ⟨ha, rfl⟩
theorem parse_cases (f : Int) (tl : List (List UInt8)) :
    (apartS f = true ∧ ∃ r h rest, tl = r :: h :: rest ∧ rdN 10 18446744073709551615 r = none ∧ parseW f tl = errC) ∨
    (apartS f = true ∧ ∃ r h x rest rd, tl = r :: h :: x :: rest ∧ rdN 10 18446744073709551615 r = some rd ∧ parseW f tl = errC) ∨
    (apartS f = true ∧ ∃ r h rd, tl = [r, h] ∧ rdN 10 18446744073709551615 r = some rd ∧ parseW f tl = tailC f rd h) ∨
    (apartS f = true ∧ tl.length ≤ 1 ∧ parseW f tl = errC) ∨ (apartS f = false ∧ f = 0 ∧ parseW f tl = errC) ∨ (apartS f = false ∧ f ≠ 0 ∧ tl.length ≠ 1 ∧ parseW f tl = errC) ∨
    (apartS f = false ∧ f ≠ 0 ∧ ∃ h, tl = [h] ∧ parseW f tl = tailC f 0 h) := by
  unfold parseW
  cases ha : apartS f with
  | true =>
    simp only [if_true]
    match tl with
    | [] => exact .inr (.inr (.inr (.inl ⟨trivial, by simp, rfl⟩)))
    | [_] => exact .inr (.inr (.inr (.inl ⟨trivial, by simp, rfl⟩)))
    | r :: h :: x :: rest =>
      cases hr : rdN 10 18446744073709551615 r with
      | none => exact .inl ⟨trivial, r, h, _, rfl, hr, rfl⟩
      | some rd => exact .inr (.inl ⟨trivial, r, h, x, rest, rd, rfl, hr, rfl⟩)
    | [r, h] =>
      cases hr : rdN 10 18446744073709551615 r with
      | none => exact .inl ⟨trivial, r, h, _, rfl, hr, by simp only [hr]⟩
      | some rd => exact .inr (.inr (.inl ⟨trivial, r, h, rd, rfl, hr, by simp only [hr]⟩))
  | false =>
    rw [if_neg (by decide)]
    by_cases h0 : f = 0
    · exact .inr (.inr (.inr (.inr (.inl ⟨rfl, h0, if_pos h0⟩))))
    · rw [if_neg h0]
      match tl with
      | [] => exact .inr (.inr (.inr (.inr (.inr (.inl ⟨rfl, h0, by simp, rfl⟩)))))
      | _ :: _ :: _ => exact .inr (.inr (.inr (.inr (.inr (.inl ⟨rfl, h0, by simp, rfl⟩)))))
      | [h] => exact .inr (.inr (.inr (.inr (.inr (.inr ⟨rfl, h0, h, rfl, rfl⟩)))))
set_option maxRecDepth 20000 in
set_option maxHeartbeats 8000000 in
theorem AParse_any (s : List UInt8) (hs : s.length ≤ 1048576) (w : World) (hT : Tab w) (hD : Deb w) (hV : Vars w) :
    Calls Tryz.prog 42 #[.string ⟨s.toArray⟩] w (PsP s w) := by
  have mixed : Tryz.prog.follows Departure.mixedOrders = true := by kernel_rfl
  have hS := fun W (h : Ext w W) => Split_eq s 32 W (hV.ext h) hs
  have hwl : ∀ x ∈ spl 32 s, x.length ≤ 1048576 := fun x hx => Nat.le_trans (spl_len 32 s x hx) hs
  have hpc : ∀ hd tl, spl 32 s = hd :: tl → parseC s = parseW (famN hd) tl := fun hd tl h => by unfold parseC; rw [h]; rfl
  obtain ⟨hd, tl, hP⟩ : ∃ hd tl, spl 32 s = hd :: tl := by
    cases h : spl 32 s with
    | nil => exact absurd h (spl_ne 32 s)
    | cons x r => exact ⟨x, r, rfl⟩
  replace hpc := hpc hd tl hP
  generalize spl 32 s = P at hS hwl hP
  subst hP
  have hfb := famN_bd hd
  have qn := fun (f : Int) (h1 : 1 ≤ f) (h5 : f ≤ 5) W m => Calls.quiet_of_same ((name_any f h1 h5 (World.drewN W m)).mono fun e w' h => ⟨h.1, h.2.symm⟩)
  have hnm := fun (f : Int) (h1 : 1 ≤ f) (h5 : f ≤ 5) => famN_iff (s := hd) h1 h5
  have hpcs := parse_cases (famN hd) tl
  rw [← hpc] at hpcs
  clear hpc
  have hlen1 : (hd :: tl).length = tl.length + 1 := rfl
  have hPs := fun p c (h : parseC s = (p, c)) => PsP.of (w := w) h
  generalize PsP s w = Post at hPs ⊢
  generalize parseC s = R0 at hpcs hPs
  generalize hff : famN hd = f at hpcs hfb hnm
  replace hff := hide hff
  replace hS := hide hS
  replace hwl := hide hwl
  replace qn := hide qn
  replace hnm := hide hnm
  replace hT := hide hT
  replace hD := hide hD
  replace hV := hide hV
  replace hPs := hide hPs
  replace hpcs := hide hpcs
  have hPs' := hPs
  go_enter Tryz.func42, Tryz.ntmps42
  have R := Blk.new w 27 #[.int .i64 0, .int .u64 0, .string ⟨#[]⟩, .int .i64 0]
  have E := (Ext.refl w).alloc (Obj.cells #[.int .i64 0, .int .u64 0, .string ⟨#[]⟩, .int .i64 0] 27)
  generalize hW0 : w.alloc (Obj.cells #[.int .i64 0, .int .u64 0, .string ⟨#[]⟩, .int .i64 0] 27) = W0 at R E
  generalize hg0 : w.heap.size = g0 at R
  have hg0l : w.heap.size ≤ g0 := Nat.le_of_eq hg0
  replace R := hide R
  replace E := hide E
  replace hg0l := hide hg0l
  go_wp2_with fail
  refine (hS.out _ E.out).mono ?_
  rintro e W1 ⟨rfl, he1, hc⟩
  clear hW0 hg0 hS
  replace R := hide (R.out.ext he1)
  replace E := hide (E.out.trans he1)
  clear he1
  generalize W0.heap.size = g1 at hc ⊢
  rw [hlen1]
  have P := Blk.new W1 27 #[.int .i64 0, .int .u64 0, .string ⟨#[]⟩, .int .i64 0]
  have F := (Ext.refl W1).alloc (Obj.cells #[.int .i64 0, .int .u64 0, .string ⟨#[]⟩, .int .i64 0] 27)
  generalize hW2 : W1.alloc (Obj.cells #[.int .i64 0, .int .u64 0, .string ⟨#[]⟩, .int .i64 0] 27) = W2 at P F
  generalize hgp : W1.heap.size = gp at P
  have hgpl : W1.heap.size ≤ gp := Nat.le_of_eq hgp
  replace P := hide P
  replace F := hide F
  replace hgpl := hide hgpl
  replace hc := hide hc
  go_wp2_with fail
  clear hW2 hgp
  go_loopw [6] (fun q wr => ∃ k : Nat, 1 ≤ k ∧ k ≤ 6 ∧ q = .int .i64 (k : Int) ∧ Blk wr gp 27 #[.int .i64 (if f < (k : Int) then f else 0), .int .u64 0, .string ⟨#[]⟩, .int .i64 0] ∧ Ext W1 wr) (fun q _ => 6 - (intOf q).toNat)
  case atStart => exact ⟨1, by omega, by omega, rfl, by rw [show (if f < ((1 : Nat) : Int) then f else 0) = 0 by split <;> omega]; exact P.out, F.out⟩
  case round =>
    clear P F
    obtain ⟨k, hk1, hk6, rfl, P, F⟩ := hrel
    have c0 : wr.cell? ⟨g1, 0, none⟩ = some (.string ⟨hd.toArray⟩) := F.cell (hc.out 0 (by simp))
    by_cases hlt : k ≤ 5
    · have hq := fun W m => qn.out (k : Int) (by omega) (by omega) W m
      have hn := hnm.out (k : Int) (by omega) (by omega)
      have y0 : wr.cell? ⟨gp, 0, none⟩ = some (.int .i64 (if f < (k : Int) then f else 0)) := P.cell 0
      have f0 := fun i => P.frozen i
      generalize nameS (k : Int) = nk at hq hn
      by_cases he : f = (k : Int)
      · have eb : (nk == hd) = true := beq_iff_eq.2 (hn.2 he)
        have hv2 : (if f < ((k + 1 : Nat) : Int) then f else 0) = (k : Int) := by rw [if_pos (by omega)]; exact he
        have hP2 := (P.set_ 0 (.int .i64 (k : Int)))
        generalize (if f < (k : Int) then f else 0) = v at y0 P hP2
        replace hq := hide hq
        replace hn := hide hn
        replace P := hide P
        replace F := hide F
        replace he := hide he
        replace hv2 := hide hv2
        replace hP2 := hide hP2
        go_wp2_with fail
        go_quiet ((go_at_call 52; exact hq.out _ _))
        go_wp2
        go_roundw
        case rel => exact ⟨k + 1, by omega, by omega, by go_num, by rw [hv2.out]; have := (P.out.drewN nq).set_ 0 (.int .i64 (k : Int)); simpa using this, (F.out.drewN _).setCell hgpl.out _⟩
        case measure => simp [intOf]; omega
      · have eb : (nk == hd) = false := beq_eq_false_iff_ne.2 fun h => he (hn.1 h)
        have hv2 : (if f < ((k + 1 : Nat) : Int) then f else 0) = (if f < (k : Int) then f else 0) := by
          by_cases h2 : f < (k : Int)
          · rw [if_pos h2, if_pos (by omega)]
          · rw [if_neg h2, if_neg (by omega)]
        generalize (if f < (k : Int) then f else 0) = v at y0 P hv2
        replace hq := hide hq
        replace hn := hide hn
        replace P := hide P
        replace F := hide F
        replace he := hide he
        replace hv2 := hide hv2
        go_wp2_with fail
        go_quiet ((go_at_call 52; exact hq.out _ _))
        go_wp2
        go_roundw
        case rel => exact ⟨k + 1, by omega, by omega, by go_num, by rw [hv2.out]; exact P.out.drewN _, F.out.drewN _⟩
        case measure => simp [intOf]; omega
    · obtain rfl : k = 6 := by omega
      rw [show (if f < ((6 : Nat) : Int) then f else 0) = f by rw [if_pos (by omega)]] at P
      clear c0 hlt hk1 hk6
      replace P := hide P
      replace F := hide F
      have hsl := row_tail g1 0 tl.length
      have qap := fun W => Aapart_any f W
      replace qap := hide qap
      replace hpcs := hpcs.out
      rcases hpcs with ⟨ha, r, h, rest, rfl, hr, hp⟩ | ⟨ha, r, h, x, rest, rd, rfl, hr, hp⟩ | ⟨ha, r, h, rd, rfl, hr, hp⟩ | ⟨ha, hl, hp⟩ | ⟨ha, h0, hp⟩ | ⟨ha, h0, hl, hp⟩ | ⟨ha, h0, h, rfl, hp⟩
      · have qap := fun W => Aapart_any f W
        rw [ha] at qap
        replace qap := hide qap
        replace ha := hide ha
        have hn6 := fun W hT hV => number10_64 r W hT hV (hwl.out r (by simp))
        unfold NumP at hn6
        rw [hr] at hn6
        replace hn6 := hide hn6
        have hn1 : (h :: rest).length = rest.length + 1 := rfl
        simp only [List.length_cons] at hsl ⊢
        have y0 : wr.cell? ⟨gp, 0, none⟩ = some (.int .i64 f) := P.out.cell 0
        have c1 : wr.cell? ⟨g1, 1, none⟩ = some (.string ⟨r.toArray⟩) := F.out.cell (hc.out 1 (by simp))
        replace hr := hide hr
        replace hp := hide hp
        go_wp2_with fail
        refine (qap.out _).mono ?_
        rintro e w_ ⟨rfl, rfl⟩
        go_wp2_with fail
        refine (hn6.out _ (hT.out.ext (E.out.trans F.out)) (hV.out.ext (E.out.trans F.out))).mono ?_
        rintro e W4 ⟨⟨z, rfl, _⟩, he⟩
        replace F := hide (F.out.trans he)
        clear he y0 c1
        have RW := R.out.ext F.out
        have x0 : W4.cell? ⟨g0, 0, none⟩ = some (.int .i64 0) := RW.cell 0
        have x1 : W4.cell? ⟨g0, 1, none⟩ = some (.int .u64 0) := RW.cell 1
        have x2 : W4.cell? ⟨g0, 2, none⟩ = some (.string ⟨#[]⟩) := RW.cell 2
        have x3 : W4.cell? ⟨g0, 3, none⟩ = some (.int .i64 0) := RW.cell 3
        have rf := fun i => RW.frozen i
        replace RW := hide RW
        go_wp2
        have hZ := RW.out.set4 (.int .i64 0) (.int .u64 0) (.string ⟨#[]⟩) (.int .i64 0)
        have hEZ := (E.out.trans F.out).set4 hg0l.out (.int .i64 0) (.int .u64 0) (.string ⟨#[]⟩) (.int .i64 0)
        generalize (((W4.setCell ⟨g0, 0, none⟩ (.int .i64 0)).setCell ⟨g0, 1, none⟩ (.int .u64 0)).setCell ⟨g0, 2, none⟩ (.string ⟨#[]⟩)).setCell ⟨g0, 3, none⟩ (.int .i64 0) = V at hZ hEZ ⊢
        have v0 : V.cell? ⟨g0, 0, none⟩ = some (.int .i64 0) := hZ.cell 0
        have v1 : V.cell? ⟨g0, 1, none⟩ = some (.int .u64 0) := hZ.cell 1
        have v2 : V.cell? ⟨g0, 2, none⟩ = some (.string ⟨#[]⟩) := hZ.cell 2
        have v3 : V.cell? ⟨g0, 3, none⟩ = some (.int .i64 0) := hZ.cell 3
        exact bodyPost_ret (v := .tuple #[.agg #[.int .i64 0, .int .u64 0, .string ⟨#[]⟩, .int .i64 0], .int .i64 4]) (by simp [results, Tryz.results42, go_sem, v0, v1, v2, v3]) rfl (hPs.out _ _ hp.out V hEZ)
      · have qap := fun W => Aapart_any f W
        rw [ha] at qap
        replace qap := hide qap
        have bf : ((f : Int) == 0) = false := by rw [beq_eq_false_iff_ne]; intro h0; rw [h0] at ha; exact absurd ha (by decide)
        have bf2 : ¬ f = 0 := fun h0 => by rw [h0] at ha; exact absurd ha (by decide)
        replace ha := hide ha
        have hn6 := fun W hT hV => number10_64 r W hT hV (hwl.out r (by simp))
        unfold NumP at hn6
        rw [hr] at hn6
        replace hn6 := hide hn6
        simp only [List.length_cons] at hsl ⊢
        have hsl2 := row_tail g1 1 (rest.length + 1 + 1)
        rw [if_neg (by omega)] at hsl2
        have bl : (((rest.length + 1 + 1 : Nat) : Int) != 1) = true := by rw [bne_iff_ne]; omega
        have bl2 : ¬ ((rest.length + 1 + 1 : Nat) : Int) = 1 := by omega
        have bl3 : ¬ rest.length + 1 + 1 = 1 := by omega
        have y0 : wr.cell? ⟨gp, 0, none⟩ = some (.int .i64 f) := P.out.cell 0
        have c1 : wr.cell? ⟨g1, 1, none⟩ = some (.string ⟨r.toArray⟩) := F.out.cell (hc.out 1 (by simp))
        replace hr := hide hr
        replace hp := hide hp
        go_wp2_with fail
        refine (qap.out _).mono ?_
        rintro e w_ ⟨rfl, rfl⟩
        go_wp2_with fail
        refine (hn6.out _ (hT.out.ext (E.out.trans F.out)) (hV.out.ext (E.out.trans F.out))).mono ?_
        rintro e W4 ⟨⟨z, rfl, hz⟩, he⟩
        obtain rfl := hz rd rfl
        replace P := hide (P.out.ext he)
        replace F := hide (F.out.trans he)
        clear he y0 c1 hz
        have y1 : W4.cell? ⟨gp, 1, none⟩ = some (.int .u64 0) := P.out.cell 1
        have f0 := fun i => P.out.frozen i
        have P5 : Blk ((W4.setCell ⟨gp, 1, none⟩ (.int .u64 (rd : Int))).drew) gp 27 #[.int .i64 f, .int .u64 (rd : Int), .string ⟨#[]⟩, .int .i64 0] := by
          have := (P.out.set_ 1 (.int .u64 (rd : Int))).drew
          simpa using this
        have F5 := (F.out.setCell (p := ⟨gp, 1, none⟩) hgpl.out (.int .u64 (rd : Int))).drew
        go_wp2_with fail
        go_region
        generalize (W4.setCell ⟨gp, 1, none⟩ (.int .u64 (rd : Int))).drew = W5 at P5 F5 ⊢
        clear P F y1 f0
        have P := hide P5
        have F := hide F5
        clear P5 F5
        have y0 : W5.cell? ⟨gp, 0, none⟩ = some (.int .i64 f) := P.out.cell 0
        have f0 := fun i => P.out.frozen i
        have RW := R.out.ext F.out
        have x0 : W5.cell? ⟨g0, 0, none⟩ = some (.int .i64 0) := RW.cell 0
        have x1 : W5.cell? ⟨g0, 1, none⟩ = some (.int .u64 0) := RW.cell 1
        have x2 : W5.cell? ⟨g0, 2, none⟩ = some (.string ⟨#[]⟩) := RW.cell 2
        have x3 : W5.cell? ⟨g0, 3, none⟩ = some (.int .i64 0) := RW.cell 3
        have rf := fun i => RW.frozen i
        replace RW := hide RW
        go_wp2
        have hZ := RW.out.set4 (.int .i64 0) (.int .u64 0) (.string ⟨#[]⟩) (.int .i64 0)
        have hEZ := (E.out.trans F.out).set4 hg0l.out (.int .i64 0) (.int .u64 0) (.string ⟨#[]⟩) (.int .i64 0)
        generalize (((W5.setCell ⟨g0, 0, none⟩ (.int .i64 0)).setCell ⟨g0, 1, none⟩ (.int .u64 0)).setCell ⟨g0, 2, none⟩ (.string ⟨#[]⟩)).setCell ⟨g0, 3, none⟩ (.int .i64 0) = V at hZ hEZ ⊢
        have v0 : V.cell? ⟨g0, 0, none⟩ = some (.int .i64 0) := hZ.cell 0
        have v1 : V.cell? ⟨g0, 1, none⟩ = some (.int .u64 0) := hZ.cell 1
        have v2 : V.cell? ⟨g0, 2, none⟩ = some (.string ⟨#[]⟩) := hZ.cell 2
        have v3 : V.cell? ⟨g0, 3, none⟩ = some (.int .i64 0) := hZ.cell 3
        exact bodyPost_ret (v := .tuple #[.agg #[.int .i64 0, .int .u64 0, .string ⟨#[]⟩, .int .i64 0], .int .i64 4]) (by simp [results, Tryz.results42, go_sem, v0, v1, v2, v3]) rfl (hPs.out _ _ hp.out V hEZ)
      · have qap := fun W => Aapart_any f W
        rw [ha] at qap
        replace qap := hide qap
        have bf : ((f : Int) == 0) = false := by rw [beq_eq_false_iff_ne]; intro h0; rw [h0] at ha; exact absurd ha (by decide)
        have bf2 : ¬ f = 0 := fun h0 => by rw [h0] at ha; exact absurd ha (by decide)
        replace ha := hide ha
        have hn6 := fun W hT hV => number10_64 r W hT hV (hwl.out r (by simp))
        unfold NumP at hn6
        rw [hr] at hn6
        replace hn6 := hide hn6
        simp only [List.length_cons, List.length_nil] at hsl ⊢
        have hsl2 := row_tail g1 1 1
        rw [if_neg (by decide)] at hsl2
        have y0 : wr.cell? ⟨gp, 0, none⟩ = some (.int .i64 f) := P.out.cell 0
        have c1 : wr.cell? ⟨g1, 1, none⟩ = some (.string ⟨r.toArray⟩) := F.out.cell (hc.out 1 (by simp))
        replace hr := hide hr
        replace hp := hide hp
        go_wp2_with fail
        refine (qap.out _).mono ?_
        rintro e w_ ⟨rfl, rfl⟩
        go_wp2_with fail
        refine (hn6.out _ (hT.out.ext (E.out.trans F.out)) (hV.out.ext (E.out.trans F.out))).mono ?_
        rintro e W4 ⟨⟨z, rfl, hz⟩, he⟩
        obtain rfl := hz rd rfl
        replace P := hide (P.out.ext he)
        replace F := hide (F.out.trans he)
        clear he y0 c1 hz
        have y1 : W4.cell? ⟨gp, 1, none⟩ = some (.int .u64 0) := P.out.cell 1
        have f0 := fun i => P.out.frozen i
        have P5 : Blk ((W4.setCell ⟨gp, 1, none⟩ (.int .u64 (rd : Int))).drew) gp 27 #[.int .i64 f, .int .u64 (rd : Int), .string ⟨#[]⟩, .int .i64 0] := by
          have := (P.out.set_ 1 (.int .u64 (rd : Int))).drew
          simpa using this
        have F5 := (F.out.setCell (p := ⟨gp, 1, none⟩) hgpl.out (.int .u64 (rd : Int))).drew
        go_wp2_with fail
        go_region
        generalize (W4.setCell ⟨gp, 1, none⟩ (.int .u64 (rd : Int))).drew = W5 at P5 F5 ⊢
        clear P F y1 f0
        have P := hide P5
        have F := hide F5
        clear P5 F5
        have y0 : W5.cell? ⟨gp, 0, none⟩ = some (.int .i64 f) := P.out.cell 0
        have f0 := fun i => P.out.frozen i
        have hlh : h.length ≤ 1048576 := hwl.out h (by simp)
        have hcl := cut_len h 47
        have htc := tail_cases f rd h
        rw [← hp.out] at htc
        clear hp
        have ch : W5.cell? ⟨g1, 2, none⟩ = some (.string ⟨h.toArray⟩) := F.out.cell (hc.out 2 (by simp))
        have qc := fun W hV => Cut_any h 47 W hV hlh
        have qn8 := fun W hT hV => number10_8 (Lib.cut h [47]).2.1 W hT hV (by omega)
        have qad := fun W hT hD hV => AAddr_any (Lib.cut h [47]).1 (by omega) W hT hD hV
        unfold NumP at qn8
        unfold AdP at qad
        clear hcl hlh
        generalize (Lib.cut h [47]).1 = a at *
        generalize (Lib.cut h [47]).2.1 = l at *
        generalize (Lib.cut h [47]).2.2 = is at *
        rcases htc with ⟨rfl, hp⟩ | ⟨rfl, hrn, hp⟩ | ⟨rfl, n, hrn, hn255, ⟨hac, hp⟩ | ⟨hac, hm, hp⟩ | ⟨hac, hm, hp⟩⟩
        · skip
          generalize (⟨(addrC a).1.toArray⟩ : ByteArray) = A at qad
          generalize (addrC a).2 = ea at qad
          replace qc := hide qc
          replace qn8 := hide qn8
          replace qad := hide qad
          replace hp := hide hp
          go_wp2_with fail
          refine (qc.out _ (hV.out.ext (E.out.trans F.out))).mono ?_
          rintro e W6 ⟨rfl, hd6⟩
          replace P := hide (P.out.ext hd6.ext)
          replace F := hide (F.out.trans hd6.ext)
          clear hd6 ch y0 f0
          go_wp2_with fail
          refine (qn8.out _ (hT.out.ext (E.out.trans F.out)) (hV.out.ext (E.out.trans F.out))).mono ?_
          rintro e W7 ⟨⟨z, rfl, hz⟩, he7⟩
          replace P := hide (P.out.ext he7)
          replace F := hide (F.out.trans he7)
          clear he7
          clear hz
          obtain ⟨zw, hzw⟩ : ∃ zw, IntKind.i64.wrap z = zw := ⟨_, rfl⟩
          go_wp2_with fail
          refine (qad.out _ (hT.out.ext (E.out.trans F.out)) (hD.out.ext (E.out.trans F.out)) (hV.out.ext (E.out.trans F.out))).mono ?_
          rintro e W8 ⟨rfl, he8⟩
          replace P := hide (P.out.ext he8)
          replace F := hide (F.out.trans he8)
          clear he8
          have y0 : W8.cell? ⟨gp, 0, none⟩ = some (.int .i64 f) := P.out.cell 0
          have y1 : W8.cell? ⟨gp, 1, none⟩ = some (.int .u64 (rd : Int)) := P.out.cell 1
          have y2 : W8.cell? ⟨gp, 2, none⟩ = some (.string ⟨#[]⟩) := P.out.cell 2
          have y3 : W8.cell? ⟨gp, 3, none⟩ = some (.int .i64 0) := P.out.cell 3
          have f0 := fun i => P.out.frozen i
          have P9 : Blk ((W8.setCell ⟨gp, 2, none⟩ (.string A)).setCell ⟨gp, 3, none⟩ (.int .i64 zw)) gp 27 #[.int .i64 f, .int .u64 (rd : Int), .string A, .int .i64 zw] := by
            have := (P.out.set_ 2 (.string A)).set_ 3 (.int .i64 zw)
            simpa using this
          have F9 := (F.out.setCell (p := ⟨gp, 2, none⟩) hgpl.out (.string A)).setCell (p := ⟨gp, 3, none⟩) hgpl.out (.int .i64 zw)
          generalize hW9 : ((W8.setCell ⟨gp, 2, none⟩ (.string A)).setCell ⟨gp, 3, none⟩ (.int .i64 zw)) = W9 at P9 F9
          clear P
          have P := hide P9
          clear P9 F
          have F := hide F9
          clear F9
          have z0 : W9.cell? ⟨gp, 0, none⟩ = some (.int .i64 f) := P.out.cell 0
          have z1 : W9.cell? ⟨gp, 1, none⟩ = some (.int .u64 (rd : Int)) := P.out.cell 1
          have z2 : W9.cell? ⟨gp, 2, none⟩ = some (.string A) := P.out.cell 2
          have z3 : W9.cell? ⟨gp, 3, none⟩ = some (.int .i64 zw) := P.out.cell 3
          have g0f := fun i => P.out.frozen i
          have RW := R.out.ext F.out
          have x0 : W9.cell? ⟨g0, 0, none⟩ = some (.int .i64 0) := RW.cell 0
          have x1 : W9.cell? ⟨g0, 1, none⟩ = some (.int .u64 0) := RW.cell 1
          have x2 : W9.cell? ⟨g0, 2, none⟩ = some (.string ⟨#[]⟩) := RW.cell 2
          have x3 : W9.cell? ⟨g0, 3, none⟩ = some (.int .i64 0) := RW.cell 3
          have rf := fun i => RW.frozen i
          replace RW := hide RW
          go_wp2
          have hZ := RW.out.set4 (.int .i64 0) (.int .u64 0) (.string ⟨#[]⟩) (.int .i64 0)
          have hEZ := (E.out.trans F.out).set4 hg0l.out (.int .i64 0) (.int .u64 0) (.string ⟨#[]⟩) (.int .i64 0)
          generalize (((W9.setCell ⟨g0, 0, none⟩ (.int .i64 0)).setCell ⟨g0, 1, none⟩ (.int .u64 0)).setCell ⟨g0, 2, none⟩ (.string ⟨#[]⟩)).setCell ⟨g0, 3, none⟩ (.int .i64 0) = V at hZ hEZ ⊢
          have v0 : V.cell? ⟨g0, 0, none⟩ = some (.int .i64 0) := hZ.cell 0
          have v1 : V.cell? ⟨g0, 1, none⟩ = some (.int .u64 0) := hZ.cell 1
          have v2 : V.cell? ⟨g0, 2, none⟩ = some (.string ⟨#[]⟩) := hZ.cell 2
          have v3 : V.cell? ⟨g0, 3, none⟩ = some (.int .i64 0) := hZ.cell 3
          exact bodyPost_ret (v := .tuple #[.agg #[.int .i64 0, .int .u64 0, .string ⟨#[]⟩, .int .i64 0], .int .i64 4]) (by simp [results, Tryz.results42, go_sem, v0, v1, v2, v3]) rfl (hPs.out _ _ hp.out V hEZ)
        · skip
          rw [hrn] at qn8
          replace hrn := hide hrn
          generalize (⟨(addrC a).1.toArray⟩ : ByteArray) = A at qad
          generalize (addrC a).2 = ea at qad
          replace qc := hide qc
          replace qn8 := hide qn8
          replace qad := hide qad
          replace hp := hide hp
          go_wp2_with fail
          refine (qc.out _ (hV.out.ext (E.out.trans F.out))).mono ?_
          rintro e W6 ⟨rfl, hd6⟩
          replace P := hide (P.out.ext hd6.ext)
          replace F := hide (F.out.trans hd6.ext)
          clear hd6 ch y0 f0
          go_wp2_with fail
          refine (qn8.out _ (hT.out.ext (E.out.trans F.out)) (hV.out.ext (E.out.trans F.out))).mono ?_
          rintro e W7 ⟨⟨z, rfl, hz⟩, he7⟩
          replace P := hide (P.out.ext he7)
          replace F := hide (F.out.trans he7)
          clear he7
          clear hz
          obtain ⟨zw, hzw⟩ : ∃ zw, IntKind.i64.wrap z = zw := ⟨_, rfl⟩
          go_wp2_with fail
          refine (qad.out _ (hT.out.ext (E.out.trans F.out)) (hD.out.ext (E.out.trans F.out)) (hV.out.ext (E.out.trans F.out))).mono ?_
          rintro e W8 ⟨rfl, he8⟩
          replace P := hide (P.out.ext he8)
          replace F := hide (F.out.trans he8)
          clear he8
          have y0 : W8.cell? ⟨gp, 0, none⟩ = some (.int .i64 f) := P.out.cell 0
          have y1 : W8.cell? ⟨gp, 1, none⟩ = some (.int .u64 (rd : Int)) := P.out.cell 1
          have y2 : W8.cell? ⟨gp, 2, none⟩ = some (.string ⟨#[]⟩) := P.out.cell 2
          have y3 : W8.cell? ⟨gp, 3, none⟩ = some (.int .i64 0) := P.out.cell 3
          have f0 := fun i => P.out.frozen i
          have P9 : Blk ((W8.setCell ⟨gp, 2, none⟩ (.string A)).setCell ⟨gp, 3, none⟩ (.int .i64 zw)) gp 27 #[.int .i64 f, .int .u64 (rd : Int), .string A, .int .i64 zw] := by
            have := (P.out.set_ 2 (.string A)).set_ 3 (.int .i64 zw)
            simpa using this
          have F9 := (F.out.setCell (p := ⟨gp, 2, none⟩) hgpl.out (.string A)).setCell (p := ⟨gp, 3, none⟩) hgpl.out (.int .i64 zw)
          generalize hW9 : ((W8.setCell ⟨gp, 2, none⟩ (.string A)).setCell ⟨gp, 3, none⟩ (.int .i64 zw)) = W9 at P9 F9
          clear P
          have P := hide P9
          clear P9 F
          have F := hide F9
          clear F9
          have z0 : W9.cell? ⟨gp, 0, none⟩ = some (.int .i64 f) := P.out.cell 0
          have z1 : W9.cell? ⟨gp, 1, none⟩ = some (.int .u64 (rd : Int)) := P.out.cell 1
          have z2 : W9.cell? ⟨gp, 2, none⟩ = some (.string A) := P.out.cell 2
          have z3 : W9.cell? ⟨gp, 3, none⟩ = some (.int .i64 zw) := P.out.cell 3
          have g0f := fun i => P.out.frozen i
          have RW := R.out.ext F.out
          have x0 : W9.cell? ⟨g0, 0, none⟩ = some (.int .i64 0) := RW.cell 0
          have x1 : W9.cell? ⟨g0, 1, none⟩ = some (.int .u64 0) := RW.cell 1
          have x2 : W9.cell? ⟨g0, 2, none⟩ = some (.string ⟨#[]⟩) := RW.cell 2
          have x3 : W9.cell? ⟨g0, 3, none⟩ = some (.int .i64 0) := RW.cell 3
          have rf := fun i => RW.frozen i
          replace RW := hide RW
          go_wp2
          have hZ := RW.out.set4 (.int .i64 0) (.int .u64 0) (.string ⟨#[]⟩) (.int .i64 0)
          have hEZ := (E.out.trans F.out).set4 hg0l.out (.int .i64 0) (.int .u64 0) (.string ⟨#[]⟩) (.int .i64 0)
          generalize (((W9.setCell ⟨g0, 0, none⟩ (.int .i64 0)).setCell ⟨g0, 1, none⟩ (.int .u64 0)).setCell ⟨g0, 2, none⟩ (.string ⟨#[]⟩)).setCell ⟨g0, 3, none⟩ (.int .i64 0) = V at hZ hEZ ⊢
          have v0 : V.cell? ⟨g0, 0, none⟩ = some (.int .i64 0) := hZ.cell 0
          have v1 : V.cell? ⟨g0, 1, none⟩ = some (.int .u64 0) := hZ.cell 1
          have v2 : V.cell? ⟨g0, 2, none⟩ = some (.string ⟨#[]⟩) := hZ.cell 2
          have v3 : V.cell? ⟨g0, 3, none⟩ = some (.int .i64 0) := hZ.cell 3
          exact bodyPost_ret (v := .tuple #[.agg #[.int .i64 0, .int .u64 0, .string ⟨#[]⟩, .int .i64 0], .int .i64 4]) (by simp [results, Tryz.results42, go_sem, v0, v1, v2, v3]) rfl (hPs.out _ _ hp.out V hEZ)
        · skip
          rw [hrn] at qn8
          replace hrn := hide hrn
          rw [hac] at qad
          replace hac := hide hac
          have hA : (⟨([] : List UInt8).toArray⟩ : ByteArray) = ⟨#[]⟩ := rfl
          simp only [] at qad
          generalize (⟨([] : List UInt8).toArray⟩ : ByteArray) = A at qad
          clear hA
          replace qc := hide qc
          replace qn8 := hide qn8
          replace qad := hide qad
          replace hp := hide hp
          go_wp2_with fail
          refine (qc.out _ (hV.out.ext (E.out.trans F.out))).mono ?_
          rintro e W6 ⟨rfl, hd6⟩
          replace P := hide (P.out.ext hd6.ext)
          replace F := hide (F.out.trans hd6.ext)
          clear hd6 ch y0 f0
          go_wp2_with fail
          refine (qn8.out _ (hT.out.ext (E.out.trans F.out)) (hV.out.ext (E.out.trans F.out))).mono ?_
          rintro e W7 ⟨⟨z, rfl, hz⟩, he7⟩
          replace P := hide (P.out.ext he7)
          replace F := hide (F.out.trans he7)
          clear he7
          obtain rfl := hz n rfl
          clear hz
          have hzw : IntKind.i64.wrap (n : Int) = (n : Int) := by rw [IntKind.wrap_i64]; omega
          go_wp2_with fail
          refine (qad.out _ (hT.out.ext (E.out.trans F.out)) (hD.out.ext (E.out.trans F.out)) (hV.out.ext (E.out.trans F.out))).mono ?_
          rintro e W8 ⟨rfl, he8⟩
          replace P := hide (P.out.ext he8)
          replace F := hide (F.out.trans he8)
          clear he8
          have y0 : W8.cell? ⟨gp, 0, none⟩ = some (.int .i64 f) := P.out.cell 0
          have y1 : W8.cell? ⟨gp, 1, none⟩ = some (.int .u64 (rd : Int)) := P.out.cell 1
          have y2 : W8.cell? ⟨gp, 2, none⟩ = some (.string ⟨#[]⟩) := P.out.cell 2
          have y3 : W8.cell? ⟨gp, 3, none⟩ = some (.int .i64 0) := P.out.cell 3
          have f0 := fun i => P.out.frozen i
          have P9 : Blk ((W8.setCell ⟨gp, 2, none⟩ (.string A)).setCell ⟨gp, 3, none⟩ (.int .i64 (n : Int))) gp 27 #[.int .i64 f, .int .u64 (rd : Int), .string A, .int .i64 (n : Int)] := by
            have := (P.out.set_ 2 (.string A)).set_ 3 (.int .i64 (n : Int))
            simpa using this
          have F9 := (F.out.setCell (p := ⟨gp, 2, none⟩) hgpl.out (.string A)).setCell (p := ⟨gp, 3, none⟩) hgpl.out (.int .i64 (n : Int))
          generalize hW9 : ((W8.setCell ⟨gp, 2, none⟩ (.string A)).setCell ⟨gp, 3, none⟩ (.int .i64 (n : Int))) = W9 at P9 F9
          clear P
          have P := hide P9
          clear P9 F
          have F := hide F9
          clear F9
          have z0 : W9.cell? ⟨gp, 0, none⟩ = some (.int .i64 f) := P.out.cell 0
          have z1 : W9.cell? ⟨gp, 1, none⟩ = some (.int .u64 (rd : Int)) := P.out.cell 1
          have z2 : W9.cell? ⟨gp, 2, none⟩ = some (.string A) := P.out.cell 2
          have z3 : W9.cell? ⟨gp, 3, none⟩ = some (.int .i64 (n : Int)) := P.out.cell 3
          have g0f := fun i => P.out.frozen i
          have RW := R.out.ext F.out
          have x0 : W9.cell? ⟨g0, 0, none⟩ = some (.int .i64 0) := RW.cell 0
          have x1 : W9.cell? ⟨g0, 1, none⟩ = some (.int .u64 0) := RW.cell 1
          have x2 : W9.cell? ⟨g0, 2, none⟩ = some (.string ⟨#[]⟩) := RW.cell 2
          have x3 : W9.cell? ⟨g0, 3, none⟩ = some (.int .i64 0) := RW.cell 3
          have rf := fun i => RW.frozen i
          replace RW := hide RW
          go_wp2
          have hZ := RW.out.set4 (.int .i64 0) (.int .u64 0) (.string ⟨#[]⟩) (.int .i64 0)
          have hEZ := (E.out.trans F.out).set4 hg0l.out (.int .i64 0) (.int .u64 0) (.string ⟨#[]⟩) (.int .i64 0)
          generalize (((W9.setCell ⟨g0, 0, none⟩ (.int .i64 0)).setCell ⟨g0, 1, none⟩ (.int .u64 0)).setCell ⟨g0, 2, none⟩ (.string ⟨#[]⟩)).setCell ⟨g0, 3, none⟩ (.int .i64 0) = V at hZ hEZ ⊢
          have v0 : V.cell? ⟨g0, 0, none⟩ = some (.int .i64 0) := hZ.cell 0
          have v1 : V.cell? ⟨g0, 1, none⟩ = some (.int .u64 0) := hZ.cell 1
          have v2 : V.cell? ⟨g0, 2, none⟩ = some (.string ⟨#[]⟩) := hZ.cell 2
          have v3 : V.cell? ⟨g0, 3, none⟩ = some (.int .i64 0) := hZ.cell 3
          exact bodyPost_ret (v := .tuple #[.agg #[.int .i64 0, .int .u64 0, .string ⟨#[]⟩, .int .i64 0], .int .i64 4]) (by simp [results, Tryz.results42, go_sem, v0, v1, v2, v3]) rfl (hPs.out _ _ hp.out V hEZ)
        · skip
          rw [hrn] at qn8
          replace hrn := hide hrn
          have hal : (addrC a).1.length ≤ 1048576 := by rcases (addr_text hac).2.1 with h | h <;> omega
          rw [hac] at qad
          replace hac := hide hac
          generalize (addrC a).1 = AL at qad hal hm hp
          have qck := fun W => ACheck_any ⟨f, rd, AL, (n : Int)⟩ W hal
          rw [show errP (MayP ⟨f, rd, AL, (n : Int)⟩) = 2 from if_neg hm] at qck
          simp only [valP] at qck
          replace qck := hide qck
          replace hm := hide hm
          replace qc := hide qc
          replace qn8 := hide qn8
          replace qad := hide qad
          replace hp := hide hp
          go_wp2_with fail
          refine (qc.out _ (hV.out.ext (E.out.trans F.out))).mono ?_
          rintro e W6 ⟨rfl, hd6⟩
          replace P := hide (P.out.ext hd6.ext)
          replace F := hide (F.out.trans hd6.ext)
          clear hd6 ch y0 f0
          go_wp2_with fail
          refine (qn8.out _ (hT.out.ext (E.out.trans F.out)) (hV.out.ext (E.out.trans F.out))).mono ?_
          rintro e W7 ⟨⟨z, rfl, hz⟩, he7⟩
          replace P := hide (P.out.ext he7)
          replace F := hide (F.out.trans he7)
          clear he7
          obtain rfl := hz n rfl
          clear hz
          have hzw : IntKind.i64.wrap (n : Int) = (n : Int) := by rw [IntKind.wrap_i64]; omega
          go_wp2_with fail
          refine (qad.out _ (hT.out.ext (E.out.trans F.out)) (hD.out.ext (E.out.trans F.out)) (hV.out.ext (E.out.trans F.out))).mono ?_
          rintro e W8 ⟨rfl, he8⟩
          replace P := hide (P.out.ext he8)
          replace F := hide (F.out.trans he8)
          clear he8
          have y0 : W8.cell? ⟨gp, 0, none⟩ = some (.int .i64 f) := P.out.cell 0
          have y1 : W8.cell? ⟨gp, 1, none⟩ = some (.int .u64 (rd : Int)) := P.out.cell 1
          have y2 : W8.cell? ⟨gp, 2, none⟩ = some (.string ⟨#[]⟩) := P.out.cell 2
          have y3 : W8.cell? ⟨gp, 3, none⟩ = some (.int .i64 0) := P.out.cell 3
          have f0 := fun i => P.out.frozen i
          have P9 : Blk ((W8.setCell ⟨gp, 2, none⟩ (.string ⟨AL.toArray⟩)).setCell ⟨gp, 3, none⟩ (.int .i64 (n : Int))) gp 27 #[.int .i64 f, .int .u64 (rd : Int), .string ⟨AL.toArray⟩, .int .i64 (n : Int)] := by
            have := (P.out.set_ 2 (.string ⟨AL.toArray⟩)).set_ 3 (.int .i64 (n : Int))
            simpa using this
          have F9 := (F.out.setCell (p := ⟨gp, 2, none⟩) hgpl.out (.string ⟨AL.toArray⟩)).setCell (p := ⟨gp, 3, none⟩) hgpl.out (.int .i64 (n : Int))
          generalize hW9 : ((W8.setCell ⟨gp, 2, none⟩ (.string ⟨AL.toArray⟩)).setCell ⟨gp, 3, none⟩ (.int .i64 (n : Int))) = W9 at P9 F9
          clear P
          have P := hide P9
          clear P9 F
          have F := hide F9
          clear F9
          have z0 : W9.cell? ⟨gp, 0, none⟩ = some (.int .i64 f) := P.out.cell 0
          have z1 : W9.cell? ⟨gp, 1, none⟩ = some (.int .u64 (rd : Int)) := P.out.cell 1
          have z2 : W9.cell? ⟨gp, 2, none⟩ = some (.string ⟨AL.toArray⟩) := P.out.cell 2
          have z3 : W9.cell? ⟨gp, 3, none⟩ = some (.int .i64 (n : Int)) := P.out.cell 3
          have g0f := fun i => P.out.frozen i
          go_wp2_with fail
          clear hW9 y0 y1 y2 y3 f0
          refine (qck.out _).mono ?_
          rintro e W10 ⟨rfl, he10⟩
          clear z0 z1 z2 z3 g0f
          replace P := hide (P.out.ext he10)
          replace F := hide (F.out.trans he10)
          clear he10
          have RW := R.out.ext F.out
          have x0 : W10.cell? ⟨g0, 0, none⟩ = some (.int .i64 0) := RW.cell 0
          have x1 : W10.cell? ⟨g0, 1, none⟩ = some (.int .u64 0) := RW.cell 1
          have x2 : W10.cell? ⟨g0, 2, none⟩ = some (.string ⟨#[]⟩) := RW.cell 2
          have x3 : W10.cell? ⟨g0, 3, none⟩ = some (.int .i64 0) := RW.cell 3
          have rf := fun i => RW.frozen i
          replace RW := hide RW
          go_wp2
          have hZ := RW.out.set4 (.int .i64 0) (.int .u64 0) (.string ⟨#[]⟩) (.int .i64 0)
          have hEZ := (E.out.trans F.out).set4 hg0l.out (.int .i64 0) (.int .u64 0) (.string ⟨#[]⟩) (.int .i64 0)
          generalize (((W10.setCell ⟨g0, 0, none⟩ (.int .i64 0)).setCell ⟨g0, 1, none⟩ (.int .u64 0)).setCell ⟨g0, 2, none⟩ (.string ⟨#[]⟩)).setCell ⟨g0, 3, none⟩ (.int .i64 0) = V at hZ hEZ ⊢
          have v0 : V.cell? ⟨g0, 0, none⟩ = some (.int .i64 0) := hZ.cell 0
          have v1 : V.cell? ⟨g0, 1, none⟩ = some (.int .u64 0) := hZ.cell 1
          have v2 : V.cell? ⟨g0, 2, none⟩ = some (.string ⟨#[]⟩) := hZ.cell 2
          have v3 : V.cell? ⟨g0, 3, none⟩ = some (.int .i64 0) := hZ.cell 3
          exact bodyPost_ret (v := .tuple #[.agg #[.int .i64 0, .int .u64 0, .string ⟨#[]⟩, .int .i64 0], .int .i64 4]) (by simp [results, Tryz.results42, go_sem, v0, v1, v2, v3]) rfl (hPs.out _ _ hp.out V hEZ)
        · skip
          rw [hrn] at qn8
          replace hrn := hide hrn
          have hal : (addrC a).1.length ≤ 1048576 := by rcases (addr_text hac).2.1 with h | h <;> omega
          rw [hac] at qad
          replace hac := hide hac
          generalize (addrC a).1 = AL at qad hal hm hp
          have qck := fun W => ACheck_any ⟨f, rd, AL, (n : Int)⟩ W hal
          rw [show errP (MayP ⟨f, rd, AL, (n : Int)⟩) = 0 from if_pos hm] at qck
          simp only [valP] at qck
          replace qck := hide qck
          replace hm := hide hm
          replace qc := hide qc
          replace qn8 := hide qn8
          replace qad := hide qad
          replace hp := hide hp
          go_wp2_with fail
          refine (qc.out _ (hV.out.ext (E.out.trans F.out))).mono ?_
          rintro e W6 ⟨rfl, hd6⟩
          replace P := hide (P.out.ext hd6.ext)
          replace F := hide (F.out.trans hd6.ext)
          clear hd6 ch y0 f0
          go_wp2_with fail
          refine (qn8.out _ (hT.out.ext (E.out.trans F.out)) (hV.out.ext (E.out.trans F.out))).mono ?_
          rintro e W7 ⟨⟨z, rfl, hz⟩, he7⟩
          replace P := hide (P.out.ext he7)
          replace F := hide (F.out.trans he7)
          clear he7
          obtain rfl := hz n rfl
          clear hz
          have hzw : IntKind.i64.wrap (n : Int) = (n : Int) := by rw [IntKind.wrap_i64]; omega
          go_wp2_with fail
          refine (qad.out _ (hT.out.ext (E.out.trans F.out)) (hD.out.ext (E.out.trans F.out)) (hV.out.ext (E.out.trans F.out))).mono ?_
          rintro e W8 ⟨rfl, he8⟩
          replace P := hide (P.out.ext he8)
          replace F := hide (F.out.trans he8)
          clear he8
          have y0 : W8.cell? ⟨gp, 0, none⟩ = some (.int .i64 f) := P.out.cell 0
          have y1 : W8.cell? ⟨gp, 1, none⟩ = some (.int .u64 (rd : Int)) := P.out.cell 1
          have y2 : W8.cell? ⟨gp, 2, none⟩ = some (.string ⟨#[]⟩) := P.out.cell 2
          have y3 : W8.cell? ⟨gp, 3, none⟩ = some (.int .i64 0) := P.out.cell 3
          have f0 := fun i => P.out.frozen i
          have P9 : Blk ((W8.setCell ⟨gp, 2, none⟩ (.string ⟨AL.toArray⟩)).setCell ⟨gp, 3, none⟩ (.int .i64 (n : Int))) gp 27 #[.int .i64 f, .int .u64 (rd : Int), .string ⟨AL.toArray⟩, .int .i64 (n : Int)] := by
            have := (P.out.set_ 2 (.string ⟨AL.toArray⟩)).set_ 3 (.int .i64 (n : Int))
            simpa using this
          have F9 := (F.out.setCell (p := ⟨gp, 2, none⟩) hgpl.out (.string ⟨AL.toArray⟩)).setCell (p := ⟨gp, 3, none⟩) hgpl.out (.int .i64 (n : Int))
          generalize hW9 : ((W8.setCell ⟨gp, 2, none⟩ (.string ⟨AL.toArray⟩)).setCell ⟨gp, 3, none⟩ (.int .i64 (n : Int))) = W9 at P9 F9
          clear P
          have P := hide P9
          clear P9 F
          have F := hide F9
          clear F9
          have z0 : W9.cell? ⟨gp, 0, none⟩ = some (.int .i64 f) := P.out.cell 0
          have z1 : W9.cell? ⟨gp, 1, none⟩ = some (.int .u64 (rd : Int)) := P.out.cell 1
          have z2 : W9.cell? ⟨gp, 2, none⟩ = some (.string ⟨AL.toArray⟩) := P.out.cell 2
          have z3 : W9.cell? ⟨gp, 3, none⟩ = some (.int .i64 (n : Int)) := P.out.cell 3
          have g0f := fun i => P.out.frozen i
          go_wp2_with fail
          clear hW9 y0 y1 y2 y3 f0
          refine (qck.out _).mono ?_
          rintro e W10 ⟨rfl, he10⟩
          clear z0 z1 z2 z3 g0f
          replace P := hide (P.out.ext he10)
          replace F := hide (F.out.trans he10)
          clear he10
          have z0 : W10.cell? ⟨gp, 0, none⟩ = some (.int .i64 f) := P.out.cell 0
          have z1 : W10.cell? ⟨gp, 1, none⟩ = some (.int .u64 (rd : Int)) := P.out.cell 1
          have z2 : W10.cell? ⟨gp, 2, none⟩ = some (.string ⟨AL.toArray⟩) := P.out.cell 2
          have z3 : W10.cell? ⟨gp, 3, none⟩ = some (.int .i64 (n : Int)) := P.out.cell 3
          have RW := R.out.ext F.out
          have x0 : W10.cell? ⟨g0, 0, none⟩ = some (.int .i64 0) := RW.cell 0
          have x1 : W10.cell? ⟨g0, 1, none⟩ = some (.int .u64 0) := RW.cell 1
          have x2 : W10.cell? ⟨g0, 2, none⟩ = some (.string ⟨#[]⟩) := RW.cell 2
          have x3 : W10.cell? ⟨g0, 3, none⟩ = some (.int .i64 0) := RW.cell 3
          have rf := fun i => RW.frozen i
          replace RW := hide RW
          go_wp2
          have hZ := RW.out.set4 (.int .i64 f) (.int .u64 (rd : Int)) (.string ⟨AL.toArray⟩) (.int .i64 (n : Int))
          have hEZ := (E.out.trans F.out).set4 hg0l.out (.int .i64 f) (.int .u64 (rd : Int)) (.string ⟨AL.toArray⟩) (.int .i64 (n : Int))
          generalize (((W10.setCell ⟨g0, 0, none⟩ (.int .i64 f)).setCell ⟨g0, 1, none⟩ (.int .u64 (rd : Int))).setCell ⟨g0, 2, none⟩ (.string ⟨AL.toArray⟩)).setCell ⟨g0, 3, none⟩ (.int .i64 (n : Int)) = V at hZ hEZ ⊢
          have v0 : V.cell? ⟨g0, 0, none⟩ = some (.int .i64 f) := hZ.cell 0
          have v1 : V.cell? ⟨g0, 1, none⟩ = some (.int .u64 (rd : Int)) := hZ.cell 1
          have v2 : V.cell? ⟨g0, 2, none⟩ = some (.string ⟨AL.toArray⟩) := hZ.cell 2
          have v3 : V.cell? ⟨g0, 3, none⟩ = some (.int .i64 (n : Int)) := hZ.cell 3
          exact bodyPost_ret (v := .tuple #[.agg #[.int .i64 f, .int .u64 (rd : Int), .string ⟨AL.toArray⟩, .int .i64 (n : Int)], .int .i64 0]) (by simp [results, Tryz.results42, go_sem, v0, v1, v2, v3]) rfl (hPs.out _ _ hp.out V hEZ)
      · have qap := fun W => Aapart_any f W
        rw [ha] at qap
        replace qap := hide qap
        generalize (if tl.length = 0 then 0 else 0 + 1) = oo at hsl
        replace ha := hide ha
        have bl : decide ((1 : Int) < (tl.length : Int)) = false := decide_eq_false (by omega)
        have bl2 : ¬ 1 < tl.length := by omega
        replace hl := hide hl
        replace hp := hide hp
        have y0 : wr.cell? ⟨gp, 0, none⟩ = some (.int .i64 f) := P.out.cell 0
        have RW := R.out.ext F.out
        have x0 : wr.cell? ⟨g0, 0, none⟩ = some (.int .i64 0) := RW.cell 0
        have x1 : wr.cell? ⟨g0, 1, none⟩ = some (.int .u64 0) := RW.cell 1
        have x2 : wr.cell? ⟨g0, 2, none⟩ = some (.string ⟨#[]⟩) := RW.cell 2
        have x3 : wr.cell? ⟨g0, 3, none⟩ = some (.int .i64 0) := RW.cell 3
        have rf := fun i => RW.frozen i
        replace RW := hide RW
        go_wp2_with fail
        refine (qap.out _).mono ?_
        rintro e w_ ⟨rfl, rfl⟩
        go_wp2_with fail
        refine (qap.out _).mono ?_
        rintro e w_ ⟨rfl, rfl⟩
        go_wp2
        have hZ := RW.out.set4 (.int .i64 0) (.int .u64 0) (.string ⟨#[]⟩) (.int .i64 0)
        have hEZ := (E.out.trans F.out).set4 hg0l.out (.int .i64 0) (.int .u64 0) (.string ⟨#[]⟩) (.int .i64 0)
        generalize (((wr.setCell ⟨g0, 0, none⟩ (.int .i64 0)).setCell ⟨g0, 1, none⟩ (.int .u64 0)).setCell ⟨g0, 2, none⟩ (.string ⟨#[]⟩)).setCell ⟨g0, 3, none⟩ (.int .i64 0) = V at hZ hEZ ⊢
        have v0 : V.cell? ⟨g0, 0, none⟩ = some (.int .i64 0) := hZ.cell 0
        have v1 : V.cell? ⟨g0, 1, none⟩ = some (.int .u64 0) := hZ.cell 1
        have v2 : V.cell? ⟨g0, 2, none⟩ = some (.string ⟨#[]⟩) := hZ.cell 2
        have v3 : V.cell? ⟨g0, 3, none⟩ = some (.int .i64 0) := hZ.cell 3
        exact bodyPost_ret (v := .tuple #[.agg #[.int .i64 0, .int .u64 0, .string ⟨#[]⟩, .int .i64 0], .int .i64 4]) (by simp [results, Tryz.results42, go_sem, v0, v1, v2, v3]) rfl (hPs.out _ _ hp.out V hEZ)
      · have qap := fun W => Aapart_any f W
        rw [ha] at qap
        replace qap := hide qap
        generalize (if tl.length = 0 then 0 else 0 + 1) = oo at hsl
        replace ha := hide ha
        subst h0
        replace hp := hide hp
        have y0 : wr.cell? ⟨gp, 0, none⟩ = some (.int .i64 0) := P.out.cell 0
        have RW := R.out.ext F.out
        have x0 : wr.cell? ⟨g0, 0, none⟩ = some (.int .i64 0) := RW.cell 0
        have x1 : wr.cell? ⟨g0, 1, none⟩ = some (.int .u64 0) := RW.cell 1
        have x2 : wr.cell? ⟨g0, 2, none⟩ = some (.string ⟨#[]⟩) := RW.cell 2
        have x3 : wr.cell? ⟨g0, 3, none⟩ = some (.int .i64 0) := RW.cell 3
        have rf := fun i => RW.frozen i
        replace RW := hide RW
        go_wp2_with fail
        refine (qap.out _).mono ?_
        rintro e w_ ⟨rfl, rfl⟩
        go_wp2_with fail
        refine (qap.out _).mono ?_
        rintro e w_ ⟨rfl, rfl⟩
        go_wp2
        have hZ := RW.out.set4 (.int .i64 0) (.int .u64 0) (.string ⟨#[]⟩) (.int .i64 0)
        have hEZ := (E.out.trans F.out).set4 hg0l.out (.int .i64 0) (.int .u64 0) (.string ⟨#[]⟩) (.int .i64 0)
        generalize (((wr.setCell ⟨g0, 0, none⟩ (.int .i64 0)).setCell ⟨g0, 1, none⟩ (.int .u64 0)).setCell ⟨g0, 2, none⟩ (.string ⟨#[]⟩)).setCell ⟨g0, 3, none⟩ (.int .i64 0) = V at hZ hEZ ⊢
        have v0 : V.cell? ⟨g0, 0, none⟩ = some (.int .i64 0) := hZ.cell 0
        have v1 : V.cell? ⟨g0, 1, none⟩ = some (.int .u64 0) := hZ.cell 1
        have v2 : V.cell? ⟨g0, 2, none⟩ = some (.string ⟨#[]⟩) := hZ.cell 2
        have v3 : V.cell? ⟨g0, 3, none⟩ = some (.int .i64 0) := hZ.cell 3
        exact bodyPost_ret (v := .tuple #[.agg #[.int .i64 0, .int .u64 0, .string ⟨#[]⟩, .int .i64 0], .int .i64 4]) (by simp [results, Tryz.results42, go_sem, v0, v1, v2, v3]) rfl (hPs.out _ _ hp.out V hEZ)
      · have qap := fun W => Aapart_any f W
        rw [ha] at qap
        replace qap := hide qap
        generalize (if tl.length = 0 then 0 else 0 + 1) = oo at hsl
        replace ha := hide ha
        have bf : ((f : Int) == 0) = false := by rw [beq_eq_false_iff_ne]; exact h0
        have bl : (((tl.length : Nat) : Int) != 1) = true := by rw [bne_iff_ne]; omega
        have bl2 : ¬ ((tl.length : Nat) : Int) = 1 := by omega
        replace hp := hide hp
        have y0 : wr.cell? ⟨gp, 0, none⟩ = some (.int .i64 f) := P.out.cell 0
        have RW := R.out.ext F.out
        have x0 : wr.cell? ⟨g0, 0, none⟩ = some (.int .i64 0) := RW.cell 0
        have x1 : wr.cell? ⟨g0, 1, none⟩ = some (.int .u64 0) := RW.cell 1
        have x2 : wr.cell? ⟨g0, 2, none⟩ = some (.string ⟨#[]⟩) := RW.cell 2
        have x3 : wr.cell? ⟨g0, 3, none⟩ = some (.int .i64 0) := RW.cell 3
        have rf := fun i => RW.frozen i
        replace RW := hide RW
        go_wp2_with fail
        refine (qap.out _).mono ?_
        rintro e w_ ⟨rfl, rfl⟩
        go_wp2_with fail
        refine (qap.out _).mono ?_
        rintro e w_ ⟨rfl, rfl⟩
        go_wp2
        have hZ := RW.out.set4 (.int .i64 0) (.int .u64 0) (.string ⟨#[]⟩) (.int .i64 0)
        have hEZ := (E.out.trans F.out).set4 hg0l.out (.int .i64 0) (.int .u64 0) (.string ⟨#[]⟩) (.int .i64 0)
        generalize (((wr.setCell ⟨g0, 0, none⟩ (.int .i64 0)).setCell ⟨g0, 1, none⟩ (.int .u64 0)).setCell ⟨g0, 2, none⟩ (.string ⟨#[]⟩)).setCell ⟨g0, 3, none⟩ (.int .i64 0) = V at hZ hEZ ⊢
        have v0 : V.cell? ⟨g0, 0, none⟩ = some (.int .i64 0) := hZ.cell 0
        have v1 : V.cell? ⟨g0, 1, none⟩ = some (.int .u64 0) := hZ.cell 1
        have v2 : V.cell? ⟨g0, 2, none⟩ = some (.string ⟨#[]⟩) := hZ.cell 2
        have v3 : V.cell? ⟨g0, 3, none⟩ = some (.int .i64 0) := hZ.cell 3
        exact bodyPost_ret (v := .tuple #[.agg #[.int .i64 0, .int .u64 0, .string ⟨#[]⟩, .int .i64 0], .int .i64 4]) (by simp [results, Tryz.results42, go_sem, v0, v1, v2, v3]) rfl (hPs.out _ _ hp.out V hEZ)
      · have qap := fun W => Aapart_any f W
        rw [ha] at qap
        replace qap := hide qap
        replace ha := hide ha
        have bf : ((f : Int) == 0) = false := by rw [beq_eq_false_iff_ne]; exact h0
        replace hp := hide hp
        simp only [List.length_cons, List.length_nil] at hsl ⊢
        have y0 : wr.cell? ⟨gp, 0, none⟩ = some (.int .i64 f) := P.out.cell 0
        have f0 := fun i => P.out.frozen i
        go_wp2_with fail
        refine (qap.out _).mono ?_
        rintro e w_ ⟨rfl, rfl⟩
        go_wp2_with fail
        refine (qap.out _).mono ?_
        rintro e w_ ⟨rfl, rfl⟩
        have hlh : h.length ≤ 1048576 := hwl.out h (by simp)
        have hcl := cut_len h 47
        have htc := tail_cases f (0 : Nat) h
        rw [← hp.out] at htc
        clear hp
        have ch : wr.cell? ⟨g1, 1, none⟩ = some (.string ⟨h.toArray⟩) := F.out.cell (hc.out 1 (by simp))
        have qc := fun W hV => Cut_any h 47 W hV hlh
        have qn8 := fun W hT hV => number10_8 (Lib.cut h [47]).2.1 W hT hV (by omega)
        have qad := fun W hT hD hV => AAddr_any (Lib.cut h [47]).1 (by omega) W hT hD hV
        unfold NumP at qn8
        unfold AdP at qad
        clear hcl hlh
        generalize (Lib.cut h [47]).1 = a at *
        generalize (Lib.cut h [47]).2.1 = l at *
        generalize (Lib.cut h [47]).2.2 = is at *
        rcases htc with ⟨rfl, hp⟩ | ⟨rfl, hrn, hp⟩ | ⟨rfl, n, hrn, hn255, ⟨hac, hp⟩ | ⟨hac, hm, hp⟩ | ⟨hac, hm, hp⟩⟩
        · skip
          generalize (⟨(addrC a).1.toArray⟩ : ByteArray) = A at qad
          generalize (addrC a).2 = ea at qad
          replace qc := hide qc
          replace qn8 := hide qn8
          replace qad := hide qad
          replace hp := hide hp
          go_wp2_with fail
          refine (qc.out _ (hV.out.ext (E.out.trans F.out))).mono ?_
          rintro e W6 ⟨rfl, hd6⟩
          replace P := hide (P.out.ext hd6.ext)
          replace F := hide (F.out.trans hd6.ext)
          clear hd6 ch y0 f0
          go_wp2_with fail
          refine (qn8.out _ (hT.out.ext (E.out.trans F.out)) (hV.out.ext (E.out.trans F.out))).mono ?_
          rintro e W7 ⟨⟨z, rfl, hz⟩, he7⟩
          replace P := hide (P.out.ext he7)
          replace F := hide (F.out.trans he7)
          clear he7
          clear hz
          obtain ⟨zw, hzw⟩ : ∃ zw, IntKind.i64.wrap z = zw := ⟨_, rfl⟩
          go_wp2_with fail
          refine (qad.out _ (hT.out.ext (E.out.trans F.out)) (hD.out.ext (E.out.trans F.out)) (hV.out.ext (E.out.trans F.out))).mono ?_
          rintro e W8 ⟨rfl, he8⟩
          replace P := hide (P.out.ext he8)
          replace F := hide (F.out.trans he8)
          clear he8
          have y0 : W8.cell? ⟨gp, 0, none⟩ = some (.int .i64 f) := P.out.cell 0
          have y1 : W8.cell? ⟨gp, 1, none⟩ = some (.int .u64 ((0 : Nat) : Int)) := P.out.cell 1
          have y2 : W8.cell? ⟨gp, 2, none⟩ = some (.string ⟨#[]⟩) := P.out.cell 2
          have y3 : W8.cell? ⟨gp, 3, none⟩ = some (.int .i64 0) := P.out.cell 3
          have f0 := fun i => P.out.frozen i
          have P9 : Blk ((W8.setCell ⟨gp, 2, none⟩ (.string A)).setCell ⟨gp, 3, none⟩ (.int .i64 zw)) gp 27 #[.int .i64 f, .int .u64 ((0 : Nat) : Int), .string A, .int .i64 zw] := by
            have := (P.out.set_ 2 (.string A)).set_ 3 (.int .i64 zw)
            simpa using this
          have F9 := (F.out.setCell (p := ⟨gp, 2, none⟩) hgpl.out (.string A)).setCell (p := ⟨gp, 3, none⟩) hgpl.out (.int .i64 zw)
          generalize hW9 : ((W8.setCell ⟨gp, 2, none⟩ (.string A)).setCell ⟨gp, 3, none⟩ (.int .i64 zw)) = W9 at P9 F9
          clear P
          have P := hide P9
          clear P9 F
          have F := hide F9
          clear F9
          have z0 : W9.cell? ⟨gp, 0, none⟩ = some (.int .i64 f) := P.out.cell 0
          have z1 : W9.cell? ⟨gp, 1, none⟩ = some (.int .u64 ((0 : Nat) : Int)) := P.out.cell 1
          have z2 : W9.cell? ⟨gp, 2, none⟩ = some (.string A) := P.out.cell 2
          have z3 : W9.cell? ⟨gp, 3, none⟩ = some (.int .i64 zw) := P.out.cell 3
          have g0f := fun i => P.out.frozen i
          have RW := R.out.ext F.out
          have x0 : W9.cell? ⟨g0, 0, none⟩ = some (.int .i64 0) := RW.cell 0
          have x1 : W9.cell? ⟨g0, 1, none⟩ = some (.int .u64 0) := RW.cell 1
          have x2 : W9.cell? ⟨g0, 2, none⟩ = some (.string ⟨#[]⟩) := RW.cell 2
          have x3 : W9.cell? ⟨g0, 3, none⟩ = some (.int .i64 0) := RW.cell 3
          have rf := fun i => RW.frozen i
          replace RW := hide RW
          go_wp2
          have hZ := RW.out.set4 (.int .i64 0) (.int .u64 0) (.string ⟨#[]⟩) (.int .i64 0)
          have hEZ := (E.out.trans F.out).set4 hg0l.out (.int .i64 0) (.int .u64 0) (.string ⟨#[]⟩) (.int .i64 0)
          generalize (((W9.setCell ⟨g0, 0, none⟩ (.int .i64 0)).setCell ⟨g0, 1, none⟩ (.int .u64 0)).setCell ⟨g0, 2, none⟩ (.string ⟨#[]⟩)).setCell ⟨g0, 3, none⟩ (.int .i64 0) = V at hZ hEZ ⊢
          have v0 : V.cell? ⟨g0, 0, none⟩ = some (.int .i64 0) := hZ.cell 0
          have v1 : V.cell? ⟨g0, 1, none⟩ = some (.int .u64 0) := hZ.cell 1
          have v2 : V.cell? ⟨g0, 2, none⟩ = some (.string ⟨#[]⟩) := hZ.cell 2
          have v3 : V.cell? ⟨g0, 3, none⟩ = some (.int .i64 0) := hZ.cell 3
          exact bodyPost_ret (v := .tuple #[.agg #[.int .i64 0, .int .u64 0, .string ⟨#[]⟩, .int .i64 0], .int .i64 4]) (by simp [results, Tryz.results42, go_sem, v0, v1, v2, v3]) rfl (hPs.out _ _ hp.out V hEZ)
        · skip
          rw [hrn] at qn8
          replace hrn := hide hrn
          generalize (⟨(addrC a).1.toArray⟩ : ByteArray) = A at qad
          generalize (addrC a).2 = ea at qad
          replace qc := hide qc
          replace qn8 := hide qn8
          replace qad := hide qad
          replace hp := hide hp
          go_wp2_with fail
          refine (qc.out _ (hV.out.ext (E.out.trans F.out))).mono ?_
          rintro e W6 ⟨rfl, hd6⟩
          replace P := hide (P.out.ext hd6.ext)
          replace F := hide (F.out.trans hd6.ext)
          clear hd6 ch y0 f0
          go_wp2_with fail
          refine (qn8.out _ (hT.out.ext (E.out.trans F.out)) (hV.out.ext (E.out.trans F.out))).mono ?_
          rintro e W7 ⟨⟨z, rfl, hz⟩, he7⟩
          replace P := hide (P.out.ext he7)
          replace F := hide (F.out.trans he7)
          clear he7
          clear hz
          obtain ⟨zw, hzw⟩ : ∃ zw, IntKind.i64.wrap z = zw := ⟨_, rfl⟩
          go_wp2_with fail
          refine (qad.out _ (hT.out.ext (E.out.trans F.out)) (hD.out.ext (E.out.trans F.out)) (hV.out.ext (E.out.trans F.out))).mono ?_
          rintro e W8 ⟨rfl, he8⟩
          replace P := hide (P.out.ext he8)
          replace F := hide (F.out.trans he8)
          clear he8
          have y0 : W8.cell? ⟨gp, 0, none⟩ = some (.int .i64 f) := P.out.cell 0
          have y1 : W8.cell? ⟨gp, 1, none⟩ = some (.int .u64 ((0 : Nat) : Int)) := P.out.cell 1
          have y2 : W8.cell? ⟨gp, 2, none⟩ = some (.string ⟨#[]⟩) := P.out.cell 2
          have y3 : W8.cell? ⟨gp, 3, none⟩ = some (.int .i64 0) := P.out.cell 3
          have f0 := fun i => P.out.frozen i
          have P9 : Blk ((W8.setCell ⟨gp, 2, none⟩ (.string A)).setCell ⟨gp, 3, none⟩ (.int .i64 zw)) gp 27 #[.int .i64 f, .int .u64 ((0 : Nat) : Int), .string A, .int .i64 zw] := by
            have := (P.out.set_ 2 (.string A)).set_ 3 (.int .i64 zw)
            simpa using this
          have F9 := (F.out.setCell (p := ⟨gp, 2, none⟩) hgpl.out (.string A)).setCell (p := ⟨gp, 3, none⟩) hgpl.out (.int .i64 zw)
          generalize hW9 : ((W8.setCell ⟨gp, 2, none⟩ (.string A)).setCell ⟨gp, 3, none⟩ (.int .i64 zw)) = W9 at P9 F9
          clear P
          have P := hide P9
          clear P9 F
          have F := hide F9
          clear F9
          have z0 : W9.cell? ⟨gp, 0, none⟩ = some (.int .i64 f) := P.out.cell 0
          have z1 : W9.cell? ⟨gp, 1, none⟩ = some (.int .u64 ((0 : Nat) : Int)) := P.out.cell 1
          have z2 : W9.cell? ⟨gp, 2, none⟩ = some (.string A) := P.out.cell 2
          have z3 : W9.cell? ⟨gp, 3, none⟩ = some (.int .i64 zw) := P.out.cell 3
          have g0f := fun i => P.out.frozen i
          have RW := R.out.ext F.out
          have x0 : W9.cell? ⟨g0, 0, none⟩ = some (.int .i64 0) := RW.cell 0
          have x1 : W9.cell? ⟨g0, 1, none⟩ = some (.int .u64 0) := RW.cell 1
          have x2 : W9.cell? ⟨g0, 2, none⟩ = some (.string ⟨#[]⟩) := RW.cell 2
          have x3 : W9.cell? ⟨g0, 3, none⟩ = some (.int .i64 0) := RW.cell 3
          have rf := fun i => RW.frozen i
          replace RW := hide RW
          go_wp2
          have hZ := RW.out.set4 (.int .i64 0) (.int .u64 0) (.string ⟨#[]⟩) (.int .i64 0)
          have hEZ := (E.out.trans F.out).set4 hg0l.out (.int .i64 0) (.int .u64 0) (.string ⟨#[]⟩) (.int .i64 0)
          generalize (((W9.setCell ⟨g0, 0, none⟩ (.int .i64 0)).setCell ⟨g0, 1, none⟩ (.int .u64 0)).setCell ⟨g0, 2, none⟩ (.string ⟨#[]⟩)).setCell ⟨g0, 3, none⟩ (.int .i64 0) = V at hZ hEZ ⊢
          have v0 : V.cell? ⟨g0, 0, none⟩ = some (.int .i64 0) := hZ.cell 0
          have v1 : V.cell? ⟨g0, 1, none⟩ = some (.int .u64 0) := hZ.cell 1
          have v2 : V.cell? ⟨g0, 2, none⟩ = some (.string ⟨#[]⟩) := hZ.cell 2
          have v3 : V.cell? ⟨g0, 3, none⟩ = some (.int .i64 0) := hZ.cell 3
          exact bodyPost_ret (v := .tuple #[.agg #[.int .i64 0, .int .u64 0, .string ⟨#[]⟩, .int .i64 0], .int .i64 4]) (by simp [results, Tryz.results42, go_sem, v0, v1, v2, v3]) rfl (hPs.out _ _ hp.out V hEZ)
        · skip
          rw [hrn] at qn8
          replace hrn := hide hrn
          rw [hac] at qad
          replace hac := hide hac
          have hA : (⟨([] : List UInt8).toArray⟩ : ByteArray) = ⟨#[]⟩ := rfl
          simp only [] at qad
          generalize (⟨([] : List UInt8).toArray⟩ : ByteArray) = A at qad
          clear hA
          replace qc := hide qc
          replace qn8 := hide qn8
          replace qad := hide qad
          replace hp := hide hp
          go_wp2_with fail
          refine (qc.out _ (hV.out.ext (E.out.trans F.out))).mono ?_
          rintro e W6 ⟨rfl, hd6⟩
          replace P := hide (P.out.ext hd6.ext)
          replace F := hide (F.out.trans hd6.ext)
          clear hd6 ch y0 f0
          go_wp2_with fail
          refine (qn8.out _ (hT.out.ext (E.out.trans F.out)) (hV.out.ext (E.out.trans F.out))).mono ?_
          rintro e W7 ⟨⟨z, rfl, hz⟩, he7⟩
          replace P := hide (P.out.ext he7)
          replace F := hide (F.out.trans he7)
          clear he7
          obtain rfl := hz n rfl
          clear hz
          have hzw : IntKind.i64.wrap (n : Int) = (n : Int) := by rw [IntKind.wrap_i64]; omega
          go_wp2_with fail
          refine (qad.out _ (hT.out.ext (E.out.trans F.out)) (hD.out.ext (E.out.trans F.out)) (hV.out.ext (E.out.trans F.out))).mono ?_
          rintro e W8 ⟨rfl, he8⟩
          replace P := hide (P.out.ext he8)
          replace F := hide (F.out.trans he8)
          clear he8
          have y0 : W8.cell? ⟨gp, 0, none⟩ = some (.int .i64 f) := P.out.cell 0
          have y1 : W8.cell? ⟨gp, 1, none⟩ = some (.int .u64 ((0 : Nat) : Int)) := P.out.cell 1
          have y2 : W8.cell? ⟨gp, 2, none⟩ = some (.string ⟨#[]⟩) := P.out.cell 2
          have y3 : W8.cell? ⟨gp, 3, none⟩ = some (.int .i64 0) := P.out.cell 3
          have f0 := fun i => P.out.frozen i
          have P9 : Blk ((W8.setCell ⟨gp, 2, none⟩ (.string A)).setCell ⟨gp, 3, none⟩ (.int .i64 (n : Int))) gp 27 #[.int .i64 f, .int .u64 ((0 : Nat) : Int), .string A, .int .i64 (n : Int)] := by
            have := (P.out.set_ 2 (.string A)).set_ 3 (.int .i64 (n : Int))
            simpa using this
          have F9 := (F.out.setCell (p := ⟨gp, 2, none⟩) hgpl.out (.string A)).setCell (p := ⟨gp, 3, none⟩) hgpl.out (.int .i64 (n : Int))
          generalize hW9 : ((W8.setCell ⟨gp, 2, none⟩ (.string A)).setCell ⟨gp, 3, none⟩ (.int .i64 (n : Int))) = W9 at P9 F9
          clear P
          have P := hide P9
          clear P9 F
          have F := hide F9
          clear F9
          have z0 : W9.cell? ⟨gp, 0, none⟩ = some (.int .i64 f) := P.out.cell 0
          have z1 : W9.cell? ⟨gp, 1, none⟩ = some (.int .u64 ((0 : Nat) : Int)) := P.out.cell 1
          have z2 : W9.cell? ⟨gp, 2, none⟩ = some (.string A) := P.out.cell 2
          have z3 : W9.cell? ⟨gp, 3, none⟩ = some (.int .i64 (n : Int)) := P.out.cell 3
          have g0f := fun i => P.out.frozen i
          have RW := R.out.ext F.out
          have x0 : W9.cell? ⟨g0, 0, none⟩ = some (.int .i64 0) := RW.cell 0
          have x1 : W9.cell? ⟨g0, 1, none⟩ = some (.int .u64 0) := RW.cell 1
          have x2 : W9.cell? ⟨g0, 2, none⟩ = some (.string ⟨#[]⟩) := RW.cell 2
          have x3 : W9.cell? ⟨g0, 3, none⟩ = some (.int .i64 0) := RW.cell 3
          have rf := fun i => RW.frozen i
          replace RW := hide RW
          go_wp2
          have hZ := RW.out.set4 (.int .i64 0) (.int .u64 0) (.string ⟨#[]⟩) (.int .i64 0)
          have hEZ := (E.out.trans F.out).set4 hg0l.out (.int .i64 0) (.int .u64 0) (.string ⟨#[]⟩) (.int .i64 0)
          generalize (((W9.setCell ⟨g0, 0, none⟩ (.int .i64 0)).setCell ⟨g0, 1, none⟩ (.int .u64 0)).setCell ⟨g0, 2, none⟩ (.string ⟨#[]⟩)).setCell ⟨g0, 3, none⟩ (.int .i64 0) = V at hZ hEZ ⊢
          have v0 : V.cell? ⟨g0, 0, none⟩ = some (.int .i64 0) := hZ.cell 0
          have v1 : V.cell? ⟨g0, 1, none⟩ = some (.int .u64 0) := hZ.cell 1
          have v2 : V.cell? ⟨g0, 2, none⟩ = some (.string ⟨#[]⟩) := hZ.cell 2
          have v3 : V.cell? ⟨g0, 3, none⟩ = some (.int .i64 0) := hZ.cell 3
          exact bodyPost_ret (v := .tuple #[.agg #[.int .i64 0, .int .u64 0, .string ⟨#[]⟩, .int .i64 0], .int .i64 4]) (by simp [results, Tryz.results42, go_sem, v0, v1, v2, v3]) rfl (hPs.out _ _ hp.out V hEZ)
        · skip
          rw [hrn] at qn8
          replace hrn := hide hrn
          have hal : (addrC a).1.length ≤ 1048576 := by rcases (addr_text hac).2.1 with h | h <;> omega
          rw [hac] at qad
          replace hac := hide hac
          generalize (addrC a).1 = AL at qad hal hm hp
          have qck := fun W => ACheck_any ⟨f, (0 : Nat), AL, (n : Int)⟩ W hal
          rw [show errP (MayP ⟨f, (0 : Nat), AL, (n : Int)⟩) = 2 from if_neg hm] at qck
          simp only [valP] at qck
          replace qck := hide qck
          replace hm := hide hm
          replace qc := hide qc
          replace qn8 := hide qn8
          replace qad := hide qad
          replace hp := hide hp
          go_wp2_with fail
          refine (qc.out _ (hV.out.ext (E.out.trans F.out))).mono ?_
          rintro e W6 ⟨rfl, hd6⟩
          replace P := hide (P.out.ext hd6.ext)
          replace F := hide (F.out.trans hd6.ext)
          clear hd6 ch y0 f0
          go_wp2_with fail
          refine (qn8.out _ (hT.out.ext (E.out.trans F.out)) (hV.out.ext (E.out.trans F.out))).mono ?_
          rintro e W7 ⟨⟨z, rfl, hz⟩, he7⟩
          replace P := hide (P.out.ext he7)
          replace F := hide (F.out.trans he7)
          clear he7
          obtain rfl := hz n rfl
          clear hz
          have hzw : IntKind.i64.wrap (n : Int) = (n : Int) := by rw [IntKind.wrap_i64]; omega
          go_wp2_with fail
          refine (qad.out _ (hT.out.ext (E.out.trans F.out)) (hD.out.ext (E.out.trans F.out)) (hV.out.ext (E.out.trans F.out))).mono ?_
          rintro e W8 ⟨rfl, he8⟩
          replace P := hide (P.out.ext he8)
          replace F := hide (F.out.trans he8)
          clear he8
          have y0 : W8.cell? ⟨gp, 0, none⟩ = some (.int .i64 f) := P.out.cell 0
          have y1 : W8.cell? ⟨gp, 1, none⟩ = some (.int .u64 ((0 : Nat) : Int)) := P.out.cell 1
          have y2 : W8.cell? ⟨gp, 2, none⟩ = some (.string ⟨#[]⟩) := P.out.cell 2
          have y3 : W8.cell? ⟨gp, 3, none⟩ = some (.int .i64 0) := P.out.cell 3
          have f0 := fun i => P.out.frozen i
          have P9 : Blk ((W8.setCell ⟨gp, 2, none⟩ (.string ⟨AL.toArray⟩)).setCell ⟨gp, 3, none⟩ (.int .i64 (n : Int))) gp 27 #[.int .i64 f, .int .u64 ((0 : Nat) : Int), .string ⟨AL.toArray⟩, .int .i64 (n : Int)] := by
            have := (P.out.set_ 2 (.string ⟨AL.toArray⟩)).set_ 3 (.int .i64 (n : Int))
            simpa using this
          have F9 := (F.out.setCell (p := ⟨gp, 2, none⟩) hgpl.out (.string ⟨AL.toArray⟩)).setCell (p := ⟨gp, 3, none⟩) hgpl.out (.int .i64 (n : Int))
          generalize hW9 : ((W8.setCell ⟨gp, 2, none⟩ (.string ⟨AL.toArray⟩)).setCell ⟨gp, 3, none⟩ (.int .i64 (n : Int))) = W9 at P9 F9
          clear P
          have P := hide P9
          clear P9 F
          have F := hide F9
          clear F9
          have z0 : W9.cell? ⟨gp, 0, none⟩ = some (.int .i64 f) := P.out.cell 0
          have z1 : W9.cell? ⟨gp, 1, none⟩ = some (.int .u64 ((0 : Nat) : Int)) := P.out.cell 1
          have z2 : W9.cell? ⟨gp, 2, none⟩ = some (.string ⟨AL.toArray⟩) := P.out.cell 2
          have z3 : W9.cell? ⟨gp, 3, none⟩ = some (.int .i64 (n : Int)) := P.out.cell 3
          have g0f := fun i => P.out.frozen i
          go_wp2_with fail
          clear hW9 y0 y1 y2 y3 f0
          refine (qck.out _).mono ?_
          rintro e W10 ⟨rfl, he10⟩
          clear z0 z1 z2 z3 g0f
          replace P := hide (P.out.ext he10)
          replace F := hide (F.out.trans he10)
          clear he10
          have RW := R.out.ext F.out
          have x0 : W10.cell? ⟨g0, 0, none⟩ = some (.int .i64 0) := RW.cell 0
          have x1 : W10.cell? ⟨g0, 1, none⟩ = some (.int .u64 0) := RW.cell 1
          have x2 : W10.cell? ⟨g0, 2, none⟩ = some (.string ⟨#[]⟩) := RW.cell 2
          have x3 : W10.cell? ⟨g0, 3, none⟩ = some (.int .i64 0) := RW.cell 3
          have rf := fun i => RW.frozen i
          replace RW := hide RW
          go_wp2
          have hZ := RW.out.set4 (.int .i64 0) (.int .u64 0) (.string ⟨#[]⟩) (.int .i64 0)
          have hEZ := (E.out.trans F.out).set4 hg0l.out (.int .i64 0) (.int .u64 0) (.string ⟨#[]⟩) (.int .i64 0)
          generalize (((W10.setCell ⟨g0, 0, none⟩ (.int .i64 0)).setCell ⟨g0, 1, none⟩ (.int .u64 0)).setCell ⟨g0, 2, none⟩ (.string ⟨#[]⟩)).setCell ⟨g0, 3, none⟩ (.int .i64 0) = V at hZ hEZ ⊢
          have v0 : V.cell? ⟨g0, 0, none⟩ = some (.int .i64 0) := hZ.cell 0
          have v1 : V.cell? ⟨g0, 1, none⟩ = some (.int .u64 0) := hZ.cell 1
          have v2 : V.cell? ⟨g0, 2, none⟩ = some (.string ⟨#[]⟩) := hZ.cell 2
          have v3 : V.cell? ⟨g0, 3, none⟩ = some (.int .i64 0) := hZ.cell 3
          exact bodyPost_ret (v := .tuple #[.agg #[.int .i64 0, .int .u64 0, .string ⟨#[]⟩, .int .i64 0], .int .i64 4]) (by simp [results, Tryz.results42, go_sem, v0, v1, v2, v3]) rfl (hPs.out _ _ hp.out V hEZ)
        · skip
          rw [hrn] at qn8
          replace hrn := hide hrn
          have hal : (addrC a).1.length ≤ 1048576 := by rcases (addr_text hac).2.1 with h | h <;> omega
          rw [hac] at qad
          replace hac := hide hac
          generalize (addrC a).1 = AL at qad hal hm hp
          have qck := fun W => ACheck_any ⟨f, (0 : Nat), AL, (n : Int)⟩ W hal
          rw [show errP (MayP ⟨f, (0 : Nat), AL, (n : Int)⟩) = 0 from if_pos hm] at qck
          simp only [valP] at qck
          replace qck := hide qck
          replace hm := hide hm
          replace qc := hide qc
          replace qn8 := hide qn8
          replace qad := hide qad
          replace hp := hide hp
          go_wp2_with fail
          refine (qc.out _ (hV.out.ext (E.out.trans F.out))).mono ?_
          rintro e W6 ⟨rfl, hd6⟩
          replace P := hide (P.out.ext hd6.ext)
          replace F := hide (F.out.trans hd6.ext)
          clear hd6 ch y0 f0
          go_wp2_with fail
          refine (qn8.out _ (hT.out.ext (E.out.trans F.out)) (hV.out.ext (E.out.trans F.out))).mono ?_
          rintro e W7 ⟨⟨z, rfl, hz⟩, he7⟩
          replace P := hide (P.out.ext he7)
          replace F := hide (F.out.trans he7)
          clear he7
          obtain rfl := hz n rfl
          clear hz
          have hzw : IntKind.i64.wrap (n : Int) = (n : Int) := by rw [IntKind.wrap_i64]; omega
          go_wp2_with fail
          refine (qad.out _ (hT.out.ext (E.out.trans F.out)) (hD.out.ext (E.out.trans F.out)) (hV.out.ext (E.out.trans F.out))).mono ?_
          rintro e W8 ⟨rfl, he8⟩
          replace P := hide (P.out.ext he8)
          replace F := hide (F.out.trans he8)
          clear he8
          have y0 : W8.cell? ⟨gp, 0, none⟩ = some (.int .i64 f) := P.out.cell 0
          have y1 : W8.cell? ⟨gp, 1, none⟩ = some (.int .u64 ((0 : Nat) : Int)) := P.out.cell 1
          have y2 : W8.cell? ⟨gp, 2, none⟩ = some (.string ⟨#[]⟩) := P.out.cell 2
          have y3 : W8.cell? ⟨gp, 3, none⟩ = some (.int .i64 0) := P.out.cell 3
          have f0 := fun i => P.out.frozen i
          have P9 : Blk ((W8.setCell ⟨gp, 2, none⟩ (.string ⟨AL.toArray⟩)).setCell ⟨gp, 3, none⟩ (.int .i64 (n : Int))) gp 27 #[.int .i64 f, .int .u64 ((0 : Nat) : Int), .string ⟨AL.toArray⟩, .int .i64 (n : Int)] := by
            have := (P.out.set_ 2 (.string ⟨AL.toArray⟩)).set_ 3 (.int .i64 (n : Int))
            simpa using this
          have F9 := (F.out.setCell (p := ⟨gp, 2, none⟩) hgpl.out (.string ⟨AL.toArray⟩)).setCell (p := ⟨gp, 3, none⟩) hgpl.out (.int .i64 (n : Int))
          generalize hW9 : ((W8.setCell ⟨gp, 2, none⟩ (.string ⟨AL.toArray⟩)).setCell ⟨gp, 3, none⟩ (.int .i64 (n : Int))) = W9 at P9 F9
          clear P
          have P := hide P9
          clear P9 F
          have F := hide F9
          clear F9
          have z0 : W9.cell? ⟨gp, 0, none⟩ = some (.int .i64 f) := P.out.cell 0
          have z1 : W9.cell? ⟨gp, 1, none⟩ = some (.int .u64 ((0 : Nat) : Int)) := P.out.cell 1
          have z2 : W9.cell? ⟨gp, 2, none⟩ = some (.string ⟨AL.toArray⟩) := P.out.cell 2
          have z3 : W9.cell? ⟨gp, 3, none⟩ = some (.int .i64 (n : Int)) := P.out.cell 3
          have g0f := fun i => P.out.frozen i
          go_wp2_with fail
          clear hW9 y0 y1 y2 y3 f0
          refine (qck.out _).mono ?_
          rintro e W10 ⟨rfl, he10⟩
          clear z0 z1 z2 z3 g0f
          replace P := hide (P.out.ext he10)
          replace F := hide (F.out.trans he10)
          clear he10
          have z0 : W10.cell? ⟨gp, 0, none⟩ = some (.int .i64 f) := P.out.cell 0
          have z1 : W10.cell? ⟨gp, 1, none⟩ = some (.int .u64 ((0 : Nat) : Int)) := P.out.cell 1
          have z2 : W10.cell? ⟨gp, 2, none⟩ = some (.string ⟨AL.toArray⟩) := P.out.cell 2
          have z3 : W10.cell? ⟨gp, 3, none⟩ = some (.int .i64 (n : Int)) := P.out.cell 3
          have RW := R.out.ext F.out
          have x0 : W10.cell? ⟨g0, 0, none⟩ = some (.int .i64 0) := RW.cell 0
          have x1 : W10.cell? ⟨g0, 1, none⟩ = some (.int .u64 0) := RW.cell 1
          have x2 : W10.cell? ⟨g0, 2, none⟩ = some (.string ⟨#[]⟩) := RW.cell 2
          have x3 : W10.cell? ⟨g0, 3, none⟩ = some (.int .i64 0) := RW.cell 3
          have rf := fun i => RW.frozen i
          replace RW := hide RW
          go_wp2
          have hZ := RW.out.set4 (.int .i64 f) (.int .u64 ((0 : Nat) : Int)) (.string ⟨AL.toArray⟩) (.int .i64 (n : Int))
          have hEZ := (E.out.trans F.out).set4 hg0l.out (.int .i64 f) (.int .u64 ((0 : Nat) : Int)) (.string ⟨AL.toArray⟩) (.int .i64 (n : Int))
          generalize (((W10.setCell ⟨g0, 0, none⟩ (.int .i64 f)).setCell ⟨g0, 1, none⟩ (.int .u64 ((0 : Nat) : Int))).setCell ⟨g0, 2, none⟩ (.string ⟨AL.toArray⟩)).setCell ⟨g0, 3, none⟩ (.int .i64 (n : Int)) = V at hZ hEZ ⊢
          have v0 : V.cell? ⟨g0, 0, none⟩ = some (.int .i64 f) := hZ.cell 0
          have v1 : V.cell? ⟨g0, 1, none⟩ = some (.int .u64 ((0 : Nat) : Int)) := hZ.cell 1
          have v2 : V.cell? ⟨g0, 2, none⟩ = some (.string ⟨AL.toArray⟩) := hZ.cell 2
          have v3 : V.cell? ⟨g0, 3, none⟩ = some (.int .i64 (n : Int)) := hZ.cell 3
          exact bodyPost_ret (v := .tuple #[.agg #[.int .i64 f, .int .u64 ((0 : Nat) : Int), .string ⟨AL.toArray⟩, .int .i64 (n : Int)], .int .i64 0]) (by simp [results, Tryz.results42, go_sem, v0, v1, v2, v3]) rfl (hPs.out _ _ hp.out V hEZ)
end Go.Proofs.YtmhmcdpadmimlaaGreatDoor
