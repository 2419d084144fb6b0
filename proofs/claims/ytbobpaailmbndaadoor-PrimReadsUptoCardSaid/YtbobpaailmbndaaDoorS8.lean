/- Walks: a prefix read of any text, by the document. -/
import Derived.Test.YtbobpaailmbndaaDoorS7
import Derived.Test.YtbobpaailmbndaaDoorS5
import Derived.Test.YtbobpaailmbndaaDoorP12
import Derived.Test.YtbobpaailmbndaaDoorP13
namespace Go.Proofs.YtbobpaailmbndaaDoor
open Go.RowKit Go.Sort
set_option linter.unusedVariables false

theorem rtail_cases (f : Int) (rd : Nat) (h : List UInt8) : ((spl 47 h).length ≠ 2 ∧ tailC f rd h = errC) ∨ ∃ a l, spl 47 h = [a, l] ∧ ((addrC a = ([], 4) ∧ tailC f rd h = errC) ∨ ((addrC a).2 = 0 ∧ rdN 10 128 l = none ∧ tailC f rd h = errC) ∨
    (∃ n, (addrC a).2 = 0 ∧ rdN 10 128 l = some n ∧ n ≤ 128 ∧ ¬ MayP ⟨f, rd, (addrC a).1, n⟩ ∧ tailC f rd h = errC) ∨
    (∃ n, (addrC a).2 = 0 ∧ rdN 10 128 l = some n ∧ n ≤ 128 ∧ MayP ⟨f, rd, (addrC a).1, n⟩ ∧ tailC f rd h = (⟨f, rd, (addrC a).1, n⟩, 0))) := by
  by_cases hm : (47 : UInt8) ∈ h
  · obtain ⟨a, b, rfl, ha⟩ := first_at hm
    rw [spl_at ha]
    unfold tailC
    rw [cut_hit ha]
    simp only [if_true]
    by_cases hb : (47 : UInt8) ∈ b
    · left
      obtain ⟨c, d, rfl, hc⟩ := first_at hb
      rw [spl_at hc]
      have hd : (spl 47 d).length ≠ 0 := fun h0 => spl_ne 47 d (List.eq_nil_of_length_eq_zero h0)
      have hr : rdN 10 128 (c ++ 47 :: d) = none := (rdN_none (by decide) (by decide)).2 fun u _ he => by
        have : (47 : UInt8) ∉ digS 10 u := digS_no (by decide) (by decide) _ _ (by decide)
        rw [he] at this
        exact this hb
      rw [hr]
      exact ⟨by simp only [List.length_cons]; omega, rfl⟩
    · right
      rw [spl_no hb]
      refine ⟨a, b, rfl, ?_⟩
      rcases addrC_err a with h0 | h0
      · cases hr : rdN 10 128 b with
        | none => exact .inr (.inl ⟨h0, rfl, rfl⟩)
        | some n =>
          have hn := ((rdN_iff (b := 10) (by decide) (by decide)).1 hr).1
          by_cases hc : MayP ⟨f, rd, (addrC a).1, n⟩
          · exact .inr (.inr (.inr ⟨n, h0, rfl, hn, hc, if_pos ⟨h0, hc⟩⟩))
          · exact .inr (.inr (.inl ⟨n, h0, rfl, hn, hc, if_neg fun h => hc h.2⟩))
      · left
        refine ⟨h0, ?_⟩
        cases rdN 10 128 b with
        | none => rfl
        | some n => exact if_neg fun h => by rw [h0] at h; exact absurd h.1 (by decide)
  · left
    rw [spl_no hm]
    unfold tailC
    rw [cut_miss hm]
    exact ⟨by simp, rfl⟩
theorem rparse_cases (f : Int) (tl : List (List UInt8)) : (f = 0 ∧ parseW f tl = errC) ∨ (apartS f = true ∧ f ≠ 0 ∧ tl.length ≠ 2 ∧ parseW f tl = errC) ∨ (apartS f = false ∧ f ≠ 0 ∧ tl.length ≠ 1 ∧ parseW f tl = errC) ∨
    (apartS f = true ∧ f ≠ 0 ∧ ∃ r h, tl = [r, h] ∧ rdN 10 18446744073709551615 r = none ∧ parseW f tl = errC) ∨
    (apartS f = true ∧ f ≠ 0 ∧ ∃ r h rd, tl = [r, h] ∧ rdN 10 18446744073709551615 r = some rd ∧ parseW f tl = tailC f rd h) ∨
    (apartS f = false ∧ f ≠ 0 ∧ ∃ h, tl = [h] ∧ parseW f tl = tailC f 0 h) := by
  unfold parseW
  cases ha : apartS f with
  | true =>
    have h0 : f ≠ 0 := fun h0 => by rw [h0] at ha; exact absurd ha (by decide)
    simp only [if_true]
    match tl with
    | [] => exact .inr (.inl ⟨trivial, h0, by simp, rfl⟩)
    | [_] => exact .inr (.inl ⟨trivial, h0, by simp, rfl⟩)
    | _ :: _ :: _ :: _ => exact .inr (.inl ⟨trivial, h0, by simp, rfl⟩)
    | [r, h] =>
      cases hr : rdN 10 18446744073709551615 r with
      | none => exact .inr (.inr (.inr (.inl ⟨trivial, h0, r, h, rfl, hr, by simp only [hr]⟩)))
      | some rd => exact .inr (.inr (.inr (.inr (.inl ⟨trivial, h0, r, h, rd, rfl, hr, by simp only [hr]⟩))))
  | false =>
    rw [if_neg (by decide)]
    by_cases h0 : f = 0
    · exact .inl ⟨h0, if_pos h0⟩
    · rw [if_neg h0]
      match tl with
      | [] => exact .inr (.inr (.inl ⟨rfl, h0, by simp, rfl⟩))
      | _ :: _ :: _ => exact .inr (.inr (.inl ⟨rfl, h0, by simp, rfl⟩))
      | [h] => exact .inr (.inr (.inr (.inr (.inr ⟨rfl, h0, h, rfl, rfl⟩))))
set_option maxRecDepth 20000 in
set_option maxHeartbeats 2000000 in
theorem RParseL_any (s : List UInt8) (hs : 80 < s.length) (w : World) :
    Calls Tryd.prog 16 #[.string ⟨s.toArray⟩] w (PsP s w) := by
  have hz : (ByteArray.mk s.toArray).size = s.length := ba_size s
  have b1 : decide ((80 : Int) < (s.length : Int)) = true := decide_eq_true (by omega)
  have hp := hide (parse_len hs)
  have hPs := fun p c (h : parseC s = (p, c)) => PsP.of (w := w) h
  generalize PsP s w = Post at hPs ⊢
  replace hPs := hide hPs
  go_enter Tryd.func16, Tryd.ntmps16
  have R := Blk.new w 24 #[.int .i64 0, .int .u64 0, .string ⟨#[]⟩, .int .i64 0]
  have E := (Ext.refl w).alloc (Obj.cells #[.int .i64 0, .int .u64 0, .string ⟨#[]⟩, .int .i64 0] 24)
  generalize hW0 : w.alloc (Obj.cells #[.int .i64 0, .int .u64 0, .string ⟨#[]⟩, .int .i64 0] 24) = W0 at R E
  generalize hg0 : w.heap.size = g0 at R
  have hg0l : w.heap.size ≤ g0 := Nat.le_of_eq hg0
  replace R := hide R
  replace E := hide E
  replace hg0l := hide hg0l
  have rf := fun i => R.out.frozen i
  have x0 : W0.cell? ⟨g0, 0, none⟩ = some (.int .i64 0) := R.out.cell 0
  have x1 : W0.cell? ⟨g0, 1, none⟩ = some (.int .u64 0) := R.out.cell 1
  have x2 : W0.cell? ⟨g0, 2, none⟩ = some (.string ⟨#[]⟩) := R.out.cell 2
  have x3 : W0.cell? ⟨g0, 3, none⟩ = some (.int .i64 0) := R.out.cell 3
  go_wp2
  have hZ := R.out.set4 (.int .i64 0) (.int .u64 0) (.string ⟨#[]⟩) (.int .i64 0)
  have hEZ := E.out.set4 hg0l.out (.int .i64 0) (.int .u64 0) (.string ⟨#[]⟩) (.int .i64 0)
  generalize (((W0.setCell ⟨g0, 0, none⟩ (.int .i64 0)).setCell ⟨g0, 1, none⟩ (.int .u64 0)).setCell ⟨g0, 2, none⟩ (.string ⟨#[]⟩)).setCell ⟨g0, 3, none⟩ (.int .i64 0) = V at hZ hEZ ⊢
  have v0 : V.cell? ⟨g0, 0, none⟩ = some (.int .i64 0) := hZ.cell 0
  have v1 : V.cell? ⟨g0, 1, none⟩ = some (.int .u64 0) := hZ.cell 1
  have v2 : V.cell? ⟨g0, 2, none⟩ = some (.string ⟨#[]⟩) := hZ.cell 2
  have v3 : V.cell? ⟨g0, 3, none⟩ = some (.int .i64 0) := hZ.cell 3
  exact bodyPost_ret (v := .tuple #[.agg #[.int .i64 0, .int .u64 0, .string ⟨#[]⟩, .int .i64 0], .int .i64 4]) (by simp [results, Tryd.results16, go_sem, v0, v1, v2, v3]) rfl (hPs.out _ _ hp.out V hEZ)
set_option maxRecDepth 20000 in
set_option maxHeartbeats 8000000 in
theorem RParseS_any (s : List UInt8) (hs : s.length ≤ 80) (w : World) :
    Calls Tryd.prog 16 #[.string ⟨s.toArray⟩] w (PsP s w) := by
  have hz : (ByteArray.mk s.toArray).size = s.length := ba_size s
  have b1 : decide ((80 : Int) < (s.length : Int)) = false := decide_eq_false (by omega)
  have hS := fun W => RSplit32 s (by omega) W
  have hwl : ∀ x ∈ spl 32 s, x.length ≤ 80 := fun x hx => Nat.le_trans (spl_len 32 s x hx) hs
  have hpc : ∀ hd tl, spl 32 s = hd :: tl → parseC s = parseW (famN hd) tl := fun hd tl h => by unfold parseC; rw [h]; rfl
  obtain ⟨hd, tl, hP⟩ : ∃ hd tl, spl 32 s = hd :: tl := by
    cases h : spl 32 s with
    | nil => exact absurd h (spl_ne 32 s)
    | cons x r => exact ⟨x, r, rfl⟩
  replace hpc := hpc hd tl hP
  generalize spl 32 s = Q at hS hwl hP
  subst hP
  have qfam := fun W => RFam_any hd W
  have hpcs := rparse_cases (famN hd) tl
  rw [← hpc] at hpcs
  clear hpc
  have hlen1 : (hd :: tl).length = tl.length + 1 := rfl
  have hPs := fun p c (h : parseC s = (p, c)) => PsP.of (w := w) h
  generalize PsP s w = Post at hPs ⊢
  generalize parseC s = R0 at hpcs hPs
  generalize famN hd = f at hpcs qfam
  have qap := fun W => RApart_any f W
  replace hS := hide hS
  replace hwl := hide hwl
  replace qfam := hide qfam
  replace hPs := hide hPs
  replace hpcs := hide hpcs
  replace qap := hide qap
  go_enter Tryd.func16, Tryd.ntmps16
  have R := Blk.new w 24 #[.int .i64 0, .int .u64 0, .string ⟨#[]⟩, .int .i64 0]
  have E := (Ext.refl w).alloc (Obj.cells #[.int .i64 0, .int .u64 0, .string ⟨#[]⟩, .int .i64 0] 24)
  generalize hW0 : w.alloc (Obj.cells #[.int .i64 0, .int .u64 0, .string ⟨#[]⟩, .int .i64 0] 24) = W0 at R E
  generalize hg0 : w.heap.size = g0 at R
  have hg0l : w.heap.size ≤ g0 := Nat.le_of_eq hg0
  replace R := hide R
  replace E := hide E
  replace hg0l := hide hg0l
  go_wp2_with fail
  refine (hS.out _).mono ?_
  rintro e W1 ⟨he, g1, o1, d1, rfl, hd1, hc⟩
  rw [hlen1] at hd1 ⊢
  replace R := hide (R.out.ext he)
  replace E := hide (E.out.trans he)
  clear hW0 hg0 hS he
  have c0 : W1.cell? ⟨g1, o1, none⟩ = some (.string ⟨hd.toArray⟩) := hc 0 (by simp)
  replace hc := hide hc
  go_wp2_with fail
  refine (qfam.out _).mono ?_
  rintro e w_ ⟨rfl, rfl⟩
  go_upto_region 5 with fail
  have hgp0 : w.heap.size ≤ W1.heap.size := E.out.size
  have hne : g0 ≠ W1.heap.size := Nat.ne_of_lt R.out.lt
  have P := Blk.new W1 24 #[.int .i64 f, .int .u64 0, .string ⟨#[]⟩, .int .i64 0]
  replace E := E.out.alloc (Obj.cells #[.int .i64 f, .int .u64 0, .string ⟨#[]⟩, .int .i64 0] 24)
  replace R := R.out.alloc (Obj.cells #[.int .i64 f, .int .u64 0, .string ⟨#[]⟩, .int .i64 0] 24)
  have F := (Ext.refl W1).alloc (Obj.cells #[.int .i64 f, .int .u64 0, .string ⟨#[]⟩, .int .i64 0] 24)
  generalize hW2 : W1.alloc (Obj.cells #[.int .i64 f, .int .u64 0, .string ⟨#[]⟩, .int .i64 0] 24) = W2 at P E R F ⊢
  generalize hgp : W1.heap.size = gp at P hgp0 hne ⊢
  clear hW2
  have hgpf : W1.heap.size ≤ gp := Nat.le_of_eq hgp
  replace P := hide P
  replace E := hide E
  replace R := hide R
  replace F := hide F
  replace hne := hide hne
  replace hgpf := hide hgpf
  have hgpl := hide hgp0
  clear hgp0
  have y0 : W2.cell? ⟨gp, 0, none⟩ = some (.int .i64 f) := P.out.cell 0
  generalize hn0 : tl.length = n0 at hd1 ⊢
  replace hpcs := hpcs.out
  rcases hpcs with ⟨h0, hp⟩ | ⟨ha, h0, hl, hp⟩ | ⟨ha, h0, hl, hp⟩ | ⟨ha, h0, r, h, rfl, hr, hp⟩ | ⟨ha, h0, r, h, rd, rfl, hr, hp⟩ | ⟨ha, h0, h, rfl, hp⟩
  · subst h0
    replace hp := hide hp
    clear hn0
    have rf := fun i => R.out.frozen i
    have x0 : W2.cell? ⟨g0, 0, none⟩ = some (.int .i64 0) := R.out.cell 0
    have x1 : W2.cell? ⟨g0, 1, none⟩ = some (.int .u64 0) := R.out.cell 1
    have x2 : W2.cell? ⟨g0, 2, none⟩ = some (.string ⟨#[]⟩) := R.out.cell 2
    have x3 : W2.cell? ⟨g0, 3, none⟩ = some (.int .i64 0) := R.out.cell 3
    go_wp2
    have hZ := R.out.set4 (.int .i64 0) (.int .u64 0) (.string ⟨#[]⟩) (.int .i64 0)
    have hEZ := E.out.set4 hg0l.out (.int .i64 0) (.int .u64 0) (.string ⟨#[]⟩) (.int .i64 0)
    generalize (((W2.setCell ⟨g0, 0, none⟩ (.int .i64 0)).setCell ⟨g0, 1, none⟩ (.int .u64 0)).setCell ⟨g0, 2, none⟩ (.string ⟨#[]⟩)).setCell ⟨g0, 3, none⟩ (.int .i64 0) = V at hZ hEZ ⊢
    have v0 : V.cell? ⟨g0, 0, none⟩ = some (.int .i64 0) := hZ.cell 0
    have v1 : V.cell? ⟨g0, 1, none⟩ = some (.int .u64 0) := hZ.cell 1
    have v2 : V.cell? ⟨g0, 2, none⟩ = some (.string ⟨#[]⟩) := hZ.cell 2
    have v3 : V.cell? ⟨g0, 3, none⟩ = some (.int .i64 0) := hZ.cell 3
    exact bodyPost_ret (v := .tuple #[.agg #[.int .i64 0, .int .u64 0, .string ⟨#[]⟩, .int .i64 0], .int .i64 4]) (by simp [results, Tryd.results16, go_sem, v0, v1, v2, v3]) rfl (hPs.out _ _ hp.out V hEZ)
  · rw [hn0] at hl
    have bf : ((f : Int) == 0) = false := by rw [beq_eq_false_iff_ne]; exact h0
    rw [ha] at qap
    replace ha := hide ha
    replace hp := hide hp
    replace hn0 := hide hn0
    by_cases h1 : n0 = 1
    · subst h1
      go_wp2_with fail
      refine (qap.out _).mono ?_
      rintro e w_ ⟨rfl, rfl⟩
      have rf := fun i => R.out.frozen i
      have x0 : W2.cell? ⟨g0, 0, none⟩ = some (.int .i64 0) := R.out.cell 0
      have x1 : W2.cell? ⟨g0, 1, none⟩ = some (.int .u64 0) := R.out.cell 1
      have x2 : W2.cell? ⟨g0, 2, none⟩ = some (.string ⟨#[]⟩) := R.out.cell 2
      have x3 : W2.cell? ⟨g0, 3, none⟩ = some (.int .i64 0) := R.out.cell 3
      go_wp2
      have hZ := R.out.set4 (.int .i64 0) (.int .u64 0) (.string ⟨#[]⟩) (.int .i64 0)
      have hEZ := E.out.set4 hg0l.out (.int .i64 0) (.int .u64 0) (.string ⟨#[]⟩) (.int .i64 0)
      generalize (((W2.setCell ⟨g0, 0, none⟩ (.int .i64 0)).setCell ⟨g0, 1, none⟩ (.int .u64 0)).setCell ⟨g0, 2, none⟩ (.string ⟨#[]⟩)).setCell ⟨g0, 3, none⟩ (.int .i64 0) = V at hZ hEZ ⊢
      have v0 : V.cell? ⟨g0, 0, none⟩ = some (.int .i64 0) := hZ.cell 0
      have v1 : V.cell? ⟨g0, 1, none⟩ = some (.int .u64 0) := hZ.cell 1
      have v2 : V.cell? ⟨g0, 2, none⟩ = some (.string ⟨#[]⟩) := hZ.cell 2
      have v3 : V.cell? ⟨g0, 3, none⟩ = some (.int .i64 0) := hZ.cell 3
      exact bodyPost_ret (v := .tuple #[.agg #[.int .i64 0, .int .u64 0, .string ⟨#[]⟩, .int .i64 0], .int .i64 4]) (by simp [results, Tryd.results16, go_sem, v0, v1, v2, v3]) rfl (hPs.out _ _ hp.out V hEZ)
    · have b2 : (((n0 + 1 : Nat) : Int) != 2) = true := by rw [bne_iff_ne]; omega
      have b3 : (((n0 + 1 : Nat) : Int) != 3) = true := by rw [bne_iff_ne]; omega
      have i2 : ¬ ((n0 + 1 : Nat) : Int) = 2 := by omega
      have i3 : ¬ ((n0 + 1 : Nat) : Int) = 3 := by omega
      go_wp2_with fail
      refine (qap.out _).mono ?_
      rintro e w_ ⟨rfl, rfl⟩
      go_wp2_with fail
      refine (qap.out _).mono ?_
      rintro e w_ ⟨rfl, rfl⟩
      have rf := fun i => R.out.frozen i
      have x0 : W2.cell? ⟨g0, 0, none⟩ = some (.int .i64 0) := R.out.cell 0
      have x1 : W2.cell? ⟨g0, 1, none⟩ = some (.int .u64 0) := R.out.cell 1
      have x2 : W2.cell? ⟨g0, 2, none⟩ = some (.string ⟨#[]⟩) := R.out.cell 2
      have x3 : W2.cell? ⟨g0, 3, none⟩ = some (.int .i64 0) := R.out.cell 3
      go_wp2
      have hZ := R.out.set4 (.int .i64 0) (.int .u64 0) (.string ⟨#[]⟩) (.int .i64 0)
      have hEZ := E.out.set4 hg0l.out (.int .i64 0) (.int .u64 0) (.string ⟨#[]⟩) (.int .i64 0)
      generalize (((W2.setCell ⟨g0, 0, none⟩ (.int .i64 0)).setCell ⟨g0, 1, none⟩ (.int .u64 0)).setCell ⟨g0, 2, none⟩ (.string ⟨#[]⟩)).setCell ⟨g0, 3, none⟩ (.int .i64 0) = V at hZ hEZ ⊢
      have v0 : V.cell? ⟨g0, 0, none⟩ = some (.int .i64 0) := hZ.cell 0
      have v1 : V.cell? ⟨g0, 1, none⟩ = some (.int .u64 0) := hZ.cell 1
      have v2 : V.cell? ⟨g0, 2, none⟩ = some (.string ⟨#[]⟩) := hZ.cell 2
      have v3 : V.cell? ⟨g0, 3, none⟩ = some (.int .i64 0) := hZ.cell 3
      exact bodyPost_ret (v := .tuple #[.agg #[.int .i64 0, .int .u64 0, .string ⟨#[]⟩, .int .i64 0], .int .i64 4]) (by simp [results, Tryd.results16, go_sem, v0, v1, v2, v3]) rfl (hPs.out _ _ hp.out V hEZ)
  · rw [hn0] at hl
    have bf : ((f : Int) == 0) = false := by rw [beq_eq_false_iff_ne]; exact h0
    rw [ha] at qap
    have b2 : (((n0 + 1 : Nat) : Int) != 2) = true := by rw [bne_iff_ne]; omega
    have i2 : ¬ ((n0 + 1 : Nat) : Int) = 2 := by omega
    replace ha := hide ha
    replace hp := hide hp
    replace hn0 := hide hn0
    go_wp2_with fail
    refine (qap.out _).mono ?_
    rintro e w_ ⟨rfl, rfl⟩
    have rf := fun i => R.out.frozen i
    have x0 : W2.cell? ⟨g0, 0, none⟩ = some (.int .i64 0) := R.out.cell 0
    have x1 : W2.cell? ⟨g0, 1, none⟩ = some (.int .u64 0) := R.out.cell 1
    have x2 : W2.cell? ⟨g0, 2, none⟩ = some (.string ⟨#[]⟩) := R.out.cell 2
    have x3 : W2.cell? ⟨g0, 3, none⟩ = some (.int .i64 0) := R.out.cell 3
    go_wp2
    have hZ := R.out.set4 (.int .i64 0) (.int .u64 0) (.string ⟨#[]⟩) (.int .i64 0)
    have hEZ := E.out.set4 hg0l.out (.int .i64 0) (.int .u64 0) (.string ⟨#[]⟩) (.int .i64 0)
    generalize (((W2.setCell ⟨g0, 0, none⟩ (.int .i64 0)).setCell ⟨g0, 1, none⟩ (.int .u64 0)).setCell ⟨g0, 2, none⟩ (.string ⟨#[]⟩)).setCell ⟨g0, 3, none⟩ (.int .i64 0) = V at hZ hEZ ⊢
    have v0 : V.cell? ⟨g0, 0, none⟩ = some (.int .i64 0) := hZ.cell 0
    have v1 : V.cell? ⟨g0, 1, none⟩ = some (.int .u64 0) := hZ.cell 1
    have v2 : V.cell? ⟨g0, 2, none⟩ = some (.string ⟨#[]⟩) := hZ.cell 2
    have v3 : V.cell? ⟨g0, 3, none⟩ = some (.int .i64 0) := hZ.cell 3
    exact bodyPost_ret (v := .tuple #[.agg #[.int .i64 0, .int .u64 0, .string ⟨#[]⟩, .int .i64 0], .int .i64 4]) (by simp [results, Tryd.results16, go_sem, v0, v1, v2, v3]) rfl (hPs.out _ _ hp.out V hEZ)
  · skip
    obtain rfl : 2 = n0 := hn0
    have bf : ((f : Int) == 0) = false := by rw [beq_eq_false_iff_ne]; exact h0
    rw [ha] at qap
    have hlr : r.length ≤ 80 := hwl.out r (by simp)
    have hlh : h.length ≤ 80 := hwl.out h (by simp)
    have qr := fun W => RRead64 r (by omega) W
    unfold RdP at qr
    rw [hr] at qr
    replace ha := hide ha
    replace qr := hide qr
    replace hr := hide hr
    go_wp2_with fail
    refine (qap.out _).mono ?_
    rintro e w_ ⟨rfl, rfl⟩
    clear hgp
    go_wp2_with fail
    refine (qap.out _).mono ?_
    rintro e w_ ⟨rfl, rfl⟩
    have c1 : W2.cell? ⟨g1, o1 + 1, none⟩ = some (.string ⟨r.toArray⟩) := F.out.cell (hc.out 1 (by simp))
    replace hp := hide hp
    go_wp2_with fail
    refine (qr.out _).mono ?_
    rintro e W3 ⟨⟨z, _, rfl, _⟩, he⟩
    replace R := hide (R.out.ext he)
    replace P := hide (P.out.ext he)
    replace E := hide (E.out.trans he)
    replace F := hide (F.out.trans he)
    clear he c1 y0
    have rf := fun i => R.out.frozen i
    have x0 : W3.cell? ⟨g0, 0, none⟩ = some (.int .i64 0) := R.out.cell 0
    have x1 : W3.cell? ⟨g0, 1, none⟩ = some (.int .u64 0) := R.out.cell 1
    have x2 : W3.cell? ⟨g0, 2, none⟩ = some (.string ⟨#[]⟩) := R.out.cell 2
    have x3 : W3.cell? ⟨g0, 3, none⟩ = some (.int .i64 0) := R.out.cell 3
    go_wp2
    have hZ := R.out.set4 (.int .i64 0) (.int .u64 0) (.string ⟨#[]⟩) (.int .i64 0)
    have hEZ := E.out.set4 hg0l.out (.int .i64 0) (.int .u64 0) (.string ⟨#[]⟩) (.int .i64 0)
    generalize (((W3.setCell ⟨g0, 0, none⟩ (.int .i64 0)).setCell ⟨g0, 1, none⟩ (.int .u64 0)).setCell ⟨g0, 2, none⟩ (.string ⟨#[]⟩)).setCell ⟨g0, 3, none⟩ (.int .i64 0) = V at hZ hEZ ⊢
    have v0 : V.cell? ⟨g0, 0, none⟩ = some (.int .i64 0) := hZ.cell 0
    have v1 : V.cell? ⟨g0, 1, none⟩ = some (.int .u64 0) := hZ.cell 1
    have v2 : V.cell? ⟨g0, 2, none⟩ = some (.string ⟨#[]⟩) := hZ.cell 2
    have v3 : V.cell? ⟨g0, 3, none⟩ = some (.int .i64 0) := hZ.cell 3
    exact bodyPost_ret (v := .tuple #[.agg #[.int .i64 0, .int .u64 0, .string ⟨#[]⟩, .int .i64 0], .int .i64 4]) (by simp [results, Tryd.results16, go_sem, v0, v1, v2, v3]) rfl (hPs.out _ _ hp.out V hEZ)
  · skip
    obtain rfl : 2 = n0 := hn0
    have bf : ((f : Int) == 0) = false := by rw [beq_eq_false_iff_ne]; exact h0
    rw [ha] at qap
    have hlr : r.length ≤ 80 := hwl.out r (by simp)
    have hlh : h.length ≤ 80 := hwl.out h (by simp)
    have qr := fun W => RRead64 r (by omega) W
    unfold RdP at qr
    rw [hr] at qr
    replace ha := hide ha
    replace qr := hide qr
    replace hr := hide hr
    go_wp2_with fail
    refine (qap.out _).mono ?_
    rintro e w_ ⟨rfl, rfl⟩
    clear hgp
    go_wp2_with fail
    refine (qap.out _).mono ?_
    rintro e w_ ⟨rfl, rfl⟩
    have c1 : W2.cell? ⟨g1, o1 + 1, none⟩ = some (.string ⟨r.toArray⟩) := F.out.cell (hc.out 1 (by simp))
    go_wp2_with fail
    refine (qr.out _).mono ?_
    rintro e W3 ⟨⟨z, _, rfl, hz⟩, he⟩
    replace R := hide (R.out.ext he)
    replace P := hide (P.out.ext he)
    replace E := hide (E.out.trans he)
    replace F := hide (F.out.trans he)
    obtain rfl := hz rd rfl
    clear hz
    clear he c1 y0
    have y1 : W3.cell? ⟨gp, 1, none⟩ = some (.int .u64 0) := P.out.cell 1
    have f0 := fun i => P.out.frozen i
    have P5 : Blk (W3.setCell ⟨gp, 1, none⟩ (.int .u64 (rd : Int))) gp 24 #[.int .i64 f, .int .u64 (rd : Int), .string ⟨#[]⟩, .int .i64 0] := by
      have := P.out.set_ 1 (.int .u64 (rd : Int))
      simpa using this
    have E5 := E.out.setCell (p := ⟨gp, 1, none⟩) hgpl.out (.int .u64 (rd : Int))
    have R5 := R.out.far hne.out (p := ⟨gp, 1, none⟩) (.int .u64 (rd : Int))
    have F5 := F.out.setCell (p := ⟨gp, 1, none⟩) hgpf.out (.int .u64 (rd : Int))
    generalize hW4 : W3.setCell ⟨gp, 1, none⟩ (.int .u64 (rd : Int)) = W4 at P5 E5 R5 F5
    clear P E R F
    have F := hide F5
    have P := hide P5
    have E := hide E5
    have R := hide R5
    clear P5 E5 R5 F5
    have ch : W4.cell? ⟨g1, o1 + 2, none⟩ = some (.string ⟨h.toArray⟩) := F.out.cell (hc.out 2 (by simp))
    have hS := fun W => RSplit47 h (by omega) W
    have hrc := rtail_cases f rd h
    have hhl := spl_len 47 h
    rw [← hp] at hrc
    clear hp
    generalize spl 47 h = H at hS hrc hhl
    replace hS := hide hS
    replace hrc := hide hrc
    replace hhl := hide hhl
    go_wp2_with fail
    refine (hS.out _).mono ?_
    rintro e W5 ⟨he, g2, o2, d2, rfl, hd2, hc2⟩
    replace R := hide (R.out.ext he)
    replace P := hide (P.out.ext he)
    replace E := hide (E.out.trans he)
    replace F := hide (F.out.trans he)
    clear he ch hS
    rcases hrc.out with ⟨hl, hp⟩ | ⟨a, l, rfl, hq⟩
    · have b4 : ((H.length : Int) != 2) = true := by rw [bne_iff_ne]; omega
      have i4 : ¬ (H.length : Int) = 2 := by omega
      generalize H.length = n2 at hl hd2 b4 i4 ⊢
      clear hc2
      replace hp := hide hp
      have rf := fun i => R.out.frozen i
      have x0 : W5.cell? ⟨g0, 0, none⟩ = some (.int .i64 0) := R.out.cell 0
      have x1 : W5.cell? ⟨g0, 1, none⟩ = some (.int .u64 0) := R.out.cell 1
      have x2 : W5.cell? ⟨g0, 2, none⟩ = some (.string ⟨#[]⟩) := R.out.cell 2
      have x3 : W5.cell? ⟨g0, 3, none⟩ = some (.int .i64 0) := R.out.cell 3
      go_wp2
      have hZ := R.out.set4 (.int .i64 0) (.int .u64 0) (.string ⟨#[]⟩) (.int .i64 0)
      have hEZ := E.out.set4 hg0l.out (.int .i64 0) (.int .u64 0) (.string ⟨#[]⟩) (.int .i64 0)
      generalize (((W5.setCell ⟨g0, 0, none⟩ (.int .i64 0)).setCell ⟨g0, 1, none⟩ (.int .u64 0)).setCell ⟨g0, 2, none⟩ (.string ⟨#[]⟩)).setCell ⟨g0, 3, none⟩ (.int .i64 0) = V at hZ hEZ ⊢
      have v0 : V.cell? ⟨g0, 0, none⟩ = some (.int .i64 0) := hZ.cell 0
      have v1 : V.cell? ⟨g0, 1, none⟩ = some (.int .u64 0) := hZ.cell 1
      have v2 : V.cell? ⟨g0, 2, none⟩ = some (.string ⟨#[]⟩) := hZ.cell 2
      have v3 : V.cell? ⟨g0, 3, none⟩ = some (.int .i64 0) := hZ.cell 3
      exact bodyPost_ret (v := .tuple #[.agg #[.int .i64 0, .int .u64 0, .string ⟨#[]⟩, .int .i64 0], .int .i64 4]) (by simp [results, Tryd.results16, go_sem, v0, v1, v2, v3]) rfl (hPs.out _ _ hp.out V hEZ)
    · have ca : W5.cell? ⟨g2, o2, none⟩ = some (.string ⟨a.toArray⟩) := hc2 0 (by simp)
      have cl : W5.cell? ⟨g2, o2 + 1, none⟩ = some (.string ⟨l.toArray⟩) := hc2 1 (by simp)
      have hal : l.length ≤ 80 := Nat.le_trans (hhl.out l (by simp)) hlh
      have qa := fun W => RAddr_any a W
      unfold AdP at qa
      have qr := fun W => RRead7 l (by omega) W
      unfold RdP at qr
      clear hc2
      simp only [List.length_cons, List.length_nil] at hd2 ⊢
      rcases hq with ⟨hac, hp⟩ | ⟨hac, hrn, hp⟩ | ⟨n, hac, hrn, hn, hm, hp⟩ | ⟨n, hac, hrn, hn, hm, hp⟩
      · skip
        rw [hac] at qa
        replace hac := hide hac
        generalize (rdN 10 128 l).isSome = is at qr
        have hA : (⟨([] : List UInt8).toArray⟩ : ByteArray) = ⟨#[]⟩ := rfl
        replace qa := hide qa
        replace qr := hide qr
        replace hp := hide hp
        go_wp2_with fail
        refine (qa.out _).mono ?_
        rintro e W6 ⟨rfl, he⟩
        replace R := hide (R.out.ext he)
        replace P := hide (P.out.ext he)
        replace E := hide (E.out.trans he)
        replace F := hide (F.out.trans he)
        replace cl := he.cell cl
        clear he ca
        go_wp2_with fail
        refine (qr.out _).mono ?_
        rintro e W7 ⟨⟨z, _, rfl, hz⟩, he⟩
        replace R := hide (R.out.ext he)
        replace P := hide (P.out.ext he)
        replace E := hide (E.out.trans he)
        replace F := hide (F.out.trans he)
        clear he cl
        clear hz
        obtain ⟨zw, hzw⟩ : ∃ zw, IntKind.i64.wrap (z : Int) = zw := ⟨_, rfl⟩
        have y0 : W7.cell? ⟨gp, 0, none⟩ = some (.int .i64 f) := P.out.cell 0
        have y1 : W7.cell? ⟨gp, 1, none⟩ = some (.int .u64 (rd : Int)) := P.out.cell 1
        have y2 : W7.cell? ⟨gp, 2, none⟩ = some (.string ⟨#[]⟩) := P.out.cell 2
        have y3 : W7.cell? ⟨gp, 3, none⟩ = some (.int .i64 0) := P.out.cell 3
        have f0 := fun i => P.out.frozen i
        have P9 : Blk ((W7.setCell ⟨gp, 2, none⟩ (.string ⟨#[]⟩)).setCell ⟨gp, 3, none⟩ (.int .i64 zw)) gp 24 #[.int .i64 f, .int .u64 (rd : Int), .string ⟨#[]⟩, .int .i64 zw] := by
          have := (P.out.set_ 2 (.string ⟨#[]⟩)).set_ 3 (.int .i64 zw)
          simpa using this
        have R9 := (R.out.far hne.out (p := ⟨gp, 2, none⟩) (.string ⟨#[]⟩)).far hne.out (p := ⟨gp, 3, none⟩) (.int .i64 zw)
        have E9 := (E.out.setCell (p := ⟨gp, 2, none⟩) hgpl.out (.string ⟨#[]⟩)).setCell (p := ⟨gp, 3, none⟩) hgpl.out (.int .i64 zw)
        generalize hW9 : ((W7.setCell ⟨gp, 2, none⟩ (.string ⟨#[]⟩)).setCell ⟨gp, 3, none⟩ (.int .i64 zw)) = W9 at P9 R9 E9
        clear P R E
        have P := hide P9
        have R := hide R9
        have E := hide E9
        clear P9 R9 E9
        have z0 : W9.cell? ⟨gp, 0, none⟩ = some (.int .i64 f) := P.out.cell 0
        have z1 : W9.cell? ⟨gp, 1, none⟩ = some (.int .u64 (rd : Int)) := P.out.cell 1
        have z2 : W9.cell? ⟨gp, 2, none⟩ = some (.string ⟨#[]⟩) := P.out.cell 2
        have z3 : W9.cell? ⟨gp, 3, none⟩ = some (.int .i64 zw) := P.out.cell 3
        have g0f := fun i => P.out.frozen i
        have rf := fun i => R.out.frozen i
        have x0 : W9.cell? ⟨g0, 0, none⟩ = some (.int .i64 0) := R.out.cell 0
        have x1 : W9.cell? ⟨g0, 1, none⟩ = some (.int .u64 0) := R.out.cell 1
        have x2 : W9.cell? ⟨g0, 2, none⟩ = some (.string ⟨#[]⟩) := R.out.cell 2
        have x3 : W9.cell? ⟨g0, 3, none⟩ = some (.int .i64 0) := R.out.cell 3
        go_wp2
        have hZ := R.out.set4 (.int .i64 0) (.int .u64 0) (.string ⟨#[]⟩) (.int .i64 0)
        have hEZ := E.out.set4 hg0l.out (.int .i64 0) (.int .u64 0) (.string ⟨#[]⟩) (.int .i64 0)
        generalize (((W9.setCell ⟨g0, 0, none⟩ (.int .i64 0)).setCell ⟨g0, 1, none⟩ (.int .u64 0)).setCell ⟨g0, 2, none⟩ (.string ⟨#[]⟩)).setCell ⟨g0, 3, none⟩ (.int .i64 0) = V at hZ hEZ ⊢
        have v0 : V.cell? ⟨g0, 0, none⟩ = some (.int .i64 0) := hZ.cell 0
        have v1 : V.cell? ⟨g0, 1, none⟩ = some (.int .u64 0) := hZ.cell 1
        have v2 : V.cell? ⟨g0, 2, none⟩ = some (.string ⟨#[]⟩) := hZ.cell 2
        have v3 : V.cell? ⟨g0, 3, none⟩ = some (.int .i64 0) := hZ.cell 3
        exact bodyPost_ret (v := .tuple #[.agg #[.int .i64 0, .int .u64 0, .string ⟨#[]⟩, .int .i64 0], .int .i64 4]) (by simp [results, Tryd.results16, go_sem, v0, v1, v2, v3]) rfl (hPs.out _ _ hp.out V hEZ)
      · skip
        rw [hac] at qa
        replace hac := hide hac
        rw [hrn] at qr
        replace hrn := hide hrn
        generalize (⟨(addrC a).1.toArray⟩ : ByteArray) = A at qa
        replace qa := hide qa
        replace qr := hide qr
        replace hp := hide hp
        go_wp2_with fail
        refine (qa.out _).mono ?_
        rintro e W6 ⟨rfl, he⟩
        replace R := hide (R.out.ext he)
        replace P := hide (P.out.ext he)
        replace E := hide (E.out.trans he)
        replace F := hide (F.out.trans he)
        replace cl := he.cell cl
        clear he ca
        go_wp2_with fail
        refine (qr.out _).mono ?_
        rintro e W7 ⟨⟨z, _, rfl, hz⟩, he⟩
        replace R := hide (R.out.ext he)
        replace P := hide (P.out.ext he)
        replace E := hide (E.out.trans he)
        replace F := hide (F.out.trans he)
        clear he cl
        clear hz
        obtain ⟨zw, hzw⟩ : ∃ zw, IntKind.i64.wrap (z : Int) = zw := ⟨_, rfl⟩
        have y0 : W7.cell? ⟨gp, 0, none⟩ = some (.int .i64 f) := P.out.cell 0
        have y1 : W7.cell? ⟨gp, 1, none⟩ = some (.int .u64 (rd : Int)) := P.out.cell 1
        have y2 : W7.cell? ⟨gp, 2, none⟩ = some (.string ⟨#[]⟩) := P.out.cell 2
        have y3 : W7.cell? ⟨gp, 3, none⟩ = some (.int .i64 0) := P.out.cell 3
        have f0 := fun i => P.out.frozen i
        have P9 : Blk ((W7.setCell ⟨gp, 2, none⟩ (.string A)).setCell ⟨gp, 3, none⟩ (.int .i64 zw)) gp 24 #[.int .i64 f, .int .u64 (rd : Int), .string A, .int .i64 zw] := by
          have := (P.out.set_ 2 (.string A)).set_ 3 (.int .i64 zw)
          simpa using this
        have R9 := (R.out.far hne.out (p := ⟨gp, 2, none⟩) (.string A)).far hne.out (p := ⟨gp, 3, none⟩) (.int .i64 zw)
        have E9 := (E.out.setCell (p := ⟨gp, 2, none⟩) hgpl.out (.string A)).setCell (p := ⟨gp, 3, none⟩) hgpl.out (.int .i64 zw)
        generalize hW9 : ((W7.setCell ⟨gp, 2, none⟩ (.string A)).setCell ⟨gp, 3, none⟩ (.int .i64 zw)) = W9 at P9 R9 E9
        clear P R E
        have P := hide P9
        have R := hide R9
        have E := hide E9
        clear P9 R9 E9
        have z0 : W9.cell? ⟨gp, 0, none⟩ = some (.int .i64 f) := P.out.cell 0
        have z1 : W9.cell? ⟨gp, 1, none⟩ = some (.int .u64 (rd : Int)) := P.out.cell 1
        have z2 : W9.cell? ⟨gp, 2, none⟩ = some (.string A) := P.out.cell 2
        have z3 : W9.cell? ⟨gp, 3, none⟩ = some (.int .i64 zw) := P.out.cell 3
        have g0f := fun i => P.out.frozen i
        have rf := fun i => R.out.frozen i
        have x0 : W9.cell? ⟨g0, 0, none⟩ = some (.int .i64 0) := R.out.cell 0
        have x1 : W9.cell? ⟨g0, 1, none⟩ = some (.int .u64 0) := R.out.cell 1
        have x2 : W9.cell? ⟨g0, 2, none⟩ = some (.string ⟨#[]⟩) := R.out.cell 2
        have x3 : W9.cell? ⟨g0, 3, none⟩ = some (.int .i64 0) := R.out.cell 3
        go_wp2
        have hZ := R.out.set4 (.int .i64 0) (.int .u64 0) (.string ⟨#[]⟩) (.int .i64 0)
        have hEZ := E.out.set4 hg0l.out (.int .i64 0) (.int .u64 0) (.string ⟨#[]⟩) (.int .i64 0)
        generalize (((W9.setCell ⟨g0, 0, none⟩ (.int .i64 0)).setCell ⟨g0, 1, none⟩ (.int .u64 0)).setCell ⟨g0, 2, none⟩ (.string ⟨#[]⟩)).setCell ⟨g0, 3, none⟩ (.int .i64 0) = V at hZ hEZ ⊢
        have v0 : V.cell? ⟨g0, 0, none⟩ = some (.int .i64 0) := hZ.cell 0
        have v1 : V.cell? ⟨g0, 1, none⟩ = some (.int .u64 0) := hZ.cell 1
        have v2 : V.cell? ⟨g0, 2, none⟩ = some (.string ⟨#[]⟩) := hZ.cell 2
        have v3 : V.cell? ⟨g0, 3, none⟩ = some (.int .i64 0) := hZ.cell 3
        exact bodyPost_ret (v := .tuple #[.agg #[.int .i64 0, .int .u64 0, .string ⟨#[]⟩, .int .i64 0], .int .i64 4]) (by simp [results, Tryd.results16, go_sem, v0, v1, v2, v3]) rfl (hPs.out _ _ hp.out V hEZ)
      · skip
        have hal2 : (addrC a).1.length ≤ 1048576 := by rcases (addr_text hac).2.1 with h | h <;> omega
        rw [hac] at qa
        replace hac := hide hac
        rw [hrn] at qr
        replace hrn := hide hrn
        generalize (addrC a).1 = AL at qa hal2 hm hp
        have qm := fun W => RMay_any ⟨f, rd, AL, (n : Int)⟩ W hal2
        rw [show mayB ⟨f, rd, AL, (n : Int)⟩ = false from decide_eq_false hm] at qm
        simp only [valP] at qm
        have hwn : IntKind.i64.wrap (n : Int) = (n : Int) := by rw [IntKind.wrap_i64]; omega
        replace qm := hide qm
        replace hm := hide hm
        replace qa := hide qa
        replace qr := hide qr
        replace hp := hide hp
        go_wp2_with fail
        refine (qa.out _).mono ?_
        rintro e W6 ⟨rfl, he⟩
        replace R := hide (R.out.ext he)
        replace P := hide (P.out.ext he)
        replace E := hide (E.out.trans he)
        replace F := hide (F.out.trans he)
        replace cl := he.cell cl
        clear he ca
        go_wp2_with fail
        refine (qr.out _).mono ?_
        rintro e W7 ⟨⟨z, _, rfl, hz⟩, he⟩
        replace R := hide (R.out.ext he)
        replace P := hide (P.out.ext he)
        replace E := hide (E.out.trans he)
        replace F := hide (F.out.trans he)
        clear he cl
        obtain rfl := hz n rfl
        clear hz
        have y0 : W7.cell? ⟨gp, 0, none⟩ = some (.int .i64 f) := P.out.cell 0
        have y1 : W7.cell? ⟨gp, 1, none⟩ = some (.int .u64 (rd : Int)) := P.out.cell 1
        have y2 : W7.cell? ⟨gp, 2, none⟩ = some (.string ⟨#[]⟩) := P.out.cell 2
        have y3 : W7.cell? ⟨gp, 3, none⟩ = some (.int .i64 0) := P.out.cell 3
        have f0 := fun i => P.out.frozen i
        have P9 : Blk ((W7.setCell ⟨gp, 2, none⟩ (.string ⟨AL.toArray⟩)).setCell ⟨gp, 3, none⟩ (.int .i64 (n : Int))) gp 24 #[.int .i64 f, .int .u64 (rd : Int), .string ⟨AL.toArray⟩, .int .i64 (n : Int)] := by
          have := (P.out.set_ 2 (.string ⟨AL.toArray⟩)).set_ 3 (.int .i64 (n : Int))
          simpa using this
        have R9 := (R.out.far hne.out (p := ⟨gp, 2, none⟩) (.string ⟨AL.toArray⟩)).far hne.out (p := ⟨gp, 3, none⟩) (.int .i64 (n : Int))
        have E9 := (E.out.setCell (p := ⟨gp, 2, none⟩) hgpl.out (.string ⟨AL.toArray⟩)).setCell (p := ⟨gp, 3, none⟩) hgpl.out (.int .i64 (n : Int))
        generalize hW9 : ((W7.setCell ⟨gp, 2, none⟩ (.string ⟨AL.toArray⟩)).setCell ⟨gp, 3, none⟩ (.int .i64 (n : Int))) = W9 at P9 R9 E9
        clear P R E
        have P := hide P9
        have R := hide R9
        have E := hide E9
        clear P9 R9 E9
        have z0 : W9.cell? ⟨gp, 0, none⟩ = some (.int .i64 f) := P.out.cell 0
        have z1 : W9.cell? ⟨gp, 1, none⟩ = some (.int .u64 (rd : Int)) := P.out.cell 1
        have z2 : W9.cell? ⟨gp, 2, none⟩ = some (.string ⟨AL.toArray⟩) := P.out.cell 2
        have z3 : W9.cell? ⟨gp, 3, none⟩ = some (.int .i64 (n : Int)) := P.out.cell 3
        have g0f := fun i => P.out.frozen i
        go_wp2_with fail
        refine (qm.out _).mono ?_
        rintro e W10 ⟨rfl, he⟩
        replace R := hide (R.out.ext he)
        replace P := hide (P.out.ext he)
        replace E := hide (E.out.trans he)
        clear he hW9 y0 y1 y2 y3 f0 z0 z1 z2 z3 g0f
        have rf := fun i => R.out.frozen i
        have x0 : W10.cell? ⟨g0, 0, none⟩ = some (.int .i64 0) := R.out.cell 0
        have x1 : W10.cell? ⟨g0, 1, none⟩ = some (.int .u64 0) := R.out.cell 1
        have x2 : W10.cell? ⟨g0, 2, none⟩ = some (.string ⟨#[]⟩) := R.out.cell 2
        have x3 : W10.cell? ⟨g0, 3, none⟩ = some (.int .i64 0) := R.out.cell 3
        go_wp2
        have hZ := R.out.set4 (.int .i64 0) (.int .u64 0) (.string ⟨#[]⟩) (.int .i64 0)
        have hEZ := E.out.set4 hg0l.out (.int .i64 0) (.int .u64 0) (.string ⟨#[]⟩) (.int .i64 0)
        generalize (((W10.setCell ⟨g0, 0, none⟩ (.int .i64 0)).setCell ⟨g0, 1, none⟩ (.int .u64 0)).setCell ⟨g0, 2, none⟩ (.string ⟨#[]⟩)).setCell ⟨g0, 3, none⟩ (.int .i64 0) = V at hZ hEZ ⊢
        have v0 : V.cell? ⟨g0, 0, none⟩ = some (.int .i64 0) := hZ.cell 0
        have v1 : V.cell? ⟨g0, 1, none⟩ = some (.int .u64 0) := hZ.cell 1
        have v2 : V.cell? ⟨g0, 2, none⟩ = some (.string ⟨#[]⟩) := hZ.cell 2
        have v3 : V.cell? ⟨g0, 3, none⟩ = some (.int .i64 0) := hZ.cell 3
        exact bodyPost_ret (v := .tuple #[.agg #[.int .i64 0, .int .u64 0, .string ⟨#[]⟩, .int .i64 0], .int .i64 4]) (by simp [results, Tryd.results16, go_sem, v0, v1, v2, v3]) rfl (hPs.out _ _ hp.out V hEZ)
      · skip
        have hal2 : (addrC a).1.length ≤ 1048576 := by rcases (addr_text hac).2.1 with h | h <;> omega
        rw [hac] at qa
        replace hac := hide hac
        rw [hrn] at qr
        replace hrn := hide hrn
        generalize (addrC a).1 = AL at qa hal2 hm hp
        have qm := fun W => RMay_any ⟨f, rd, AL, (n : Int)⟩ W hal2
        rw [show mayB ⟨f, rd, AL, (n : Int)⟩ = true from decide_eq_true hm] at qm
        simp only [valP] at qm
        have hwn : IntKind.i64.wrap (n : Int) = (n : Int) := by rw [IntKind.wrap_i64]; omega
        replace qm := hide qm
        replace hm := hide hm
        replace qa := hide qa
        replace qr := hide qr
        replace hp := hide hp
        go_wp2_with fail
        refine (qa.out _).mono ?_
        rintro e W6 ⟨rfl, he⟩
        replace R := hide (R.out.ext he)
        replace P := hide (P.out.ext he)
        replace E := hide (E.out.trans he)
        replace F := hide (F.out.trans he)
        replace cl := he.cell cl
        clear he ca
        go_wp2_with fail
        refine (qr.out _).mono ?_
        rintro e W7 ⟨⟨z, _, rfl, hz⟩, he⟩
        replace R := hide (R.out.ext he)
        replace P := hide (P.out.ext he)
        replace E := hide (E.out.trans he)
        replace F := hide (F.out.trans he)
        clear he cl
        obtain rfl := hz n rfl
        clear hz
        have y0 : W7.cell? ⟨gp, 0, none⟩ = some (.int .i64 f) := P.out.cell 0
        have y1 : W7.cell? ⟨gp, 1, none⟩ = some (.int .u64 (rd : Int)) := P.out.cell 1
        have y2 : W7.cell? ⟨gp, 2, none⟩ = some (.string ⟨#[]⟩) := P.out.cell 2
        have y3 : W7.cell? ⟨gp, 3, none⟩ = some (.int .i64 0) := P.out.cell 3
        have f0 := fun i => P.out.frozen i
        have P9 : Blk ((W7.setCell ⟨gp, 2, none⟩ (.string ⟨AL.toArray⟩)).setCell ⟨gp, 3, none⟩ (.int .i64 (n : Int))) gp 24 #[.int .i64 f, .int .u64 (rd : Int), .string ⟨AL.toArray⟩, .int .i64 (n : Int)] := by
          have := (P.out.set_ 2 (.string ⟨AL.toArray⟩)).set_ 3 (.int .i64 (n : Int))
          simpa using this
        have R9 := (R.out.far hne.out (p := ⟨gp, 2, none⟩) (.string ⟨AL.toArray⟩)).far hne.out (p := ⟨gp, 3, none⟩) (.int .i64 (n : Int))
        have E9 := (E.out.setCell (p := ⟨gp, 2, none⟩) hgpl.out (.string ⟨AL.toArray⟩)).setCell (p := ⟨gp, 3, none⟩) hgpl.out (.int .i64 (n : Int))
        generalize hW9 : ((W7.setCell ⟨gp, 2, none⟩ (.string ⟨AL.toArray⟩)).setCell ⟨gp, 3, none⟩ (.int .i64 (n : Int))) = W9 at P9 R9 E9
        clear P R E
        have P := hide P9
        have R := hide R9
        have E := hide E9
        clear P9 R9 E9
        have z0 : W9.cell? ⟨gp, 0, none⟩ = some (.int .i64 f) := P.out.cell 0
        have z1 : W9.cell? ⟨gp, 1, none⟩ = some (.int .u64 (rd : Int)) := P.out.cell 1
        have z2 : W9.cell? ⟨gp, 2, none⟩ = some (.string ⟨AL.toArray⟩) := P.out.cell 2
        have z3 : W9.cell? ⟨gp, 3, none⟩ = some (.int .i64 (n : Int)) := P.out.cell 3
        have g0f := fun i => P.out.frozen i
        go_wp2_with fail
        refine (qm.out _).mono ?_
        rintro e W10 ⟨rfl, he⟩
        replace R := hide (R.out.ext he)
        replace P := hide (P.out.ext he)
        replace E := hide (E.out.trans he)
        clear he hW9 y0 y1 y2 y3 f0 z0 z1 z2 z3 g0f
        have z0 : W10.cell? ⟨gp, 0, none⟩ = some (.int .i64 f) := P.out.cell 0
        have z1 : W10.cell? ⟨gp, 1, none⟩ = some (.int .u64 (rd : Int)) := P.out.cell 1
        have z2 : W10.cell? ⟨gp, 2, none⟩ = some (.string ⟨AL.toArray⟩) := P.out.cell 2
        have z3 : W10.cell? ⟨gp, 3, none⟩ = some (.int .i64 (n : Int)) := P.out.cell 3
        have g0f := fun i => P.out.frozen i
        have rf := fun i => R.out.frozen i
        have x0 : W10.cell? ⟨g0, 0, none⟩ = some (.int .i64 0) := R.out.cell 0
        have x1 : W10.cell? ⟨g0, 1, none⟩ = some (.int .u64 0) := R.out.cell 1
        have x2 : W10.cell? ⟨g0, 2, none⟩ = some (.string ⟨#[]⟩) := R.out.cell 2
        have x3 : W10.cell? ⟨g0, 3, none⟩ = some (.int .i64 0) := R.out.cell 3
        go_wp2
        have hZ := R.out.set4 (.int .i64 f) (.int .u64 (rd : Int)) (.string ⟨AL.toArray⟩) (.int .i64 (n : Int))
        have hEZ := E.out.set4 hg0l.out (.int .i64 f) (.int .u64 (rd : Int)) (.string ⟨AL.toArray⟩) (.int .i64 (n : Int))
        generalize (((W10.setCell ⟨g0, 0, none⟩ (.int .i64 f)).setCell ⟨g0, 1, none⟩ (.int .u64 (rd : Int))).setCell ⟨g0, 2, none⟩ (.string ⟨AL.toArray⟩)).setCell ⟨g0, 3, none⟩ (.int .i64 (n : Int)) = V at hZ hEZ ⊢
        have v0 : V.cell? ⟨g0, 0, none⟩ = some (.int .i64 f) := hZ.cell 0
        have v1 : V.cell? ⟨g0, 1, none⟩ = some (.int .u64 (rd : Int)) := hZ.cell 1
        have v2 : V.cell? ⟨g0, 2, none⟩ = some (.string ⟨AL.toArray⟩) := hZ.cell 2
        have v3 : V.cell? ⟨g0, 3, none⟩ = some (.int .i64 (n : Int)) := hZ.cell 3
        exact bodyPost_ret (v := .tuple #[.agg #[.int .i64 f, .int .u64 (rd : Int), .string ⟨AL.toArray⟩, .int .i64 (n : Int)], .int .i64 0]) (by simp [results, Tryd.results16, go_sem, v0, v1, v2, v3]) rfl (hPs.out _ _ hp.out V hEZ)
  · obtain rfl : 1 = n0 := hn0
    have bf : ((f : Int) == 0) = false := by rw [beq_eq_false_iff_ne]; exact h0
    rw [ha] at qap
    have hlh : h.length ≤ 80 := hwl.out h (by simp)
    replace ha := hide ha
    go_wp2_with fail
    refine (qap.out _).mono ?_
    rintro e w_ ⟨rfl, rfl⟩
    clear hgp
    go_wp2_with fail
    refine (qap.out _).mono ?_
    rintro e w_ ⟨rfl, rfl⟩
    clear y0
    have ch : W2.cell? ⟨g1, o1 + 1, none⟩ = some (.string ⟨h.toArray⟩) := F.out.cell (hc.out 1 (by simp))
    have hS := fun W => RSplit47 h (by omega) W
    have hrc := rtail_cases f 0 h
    have hhl := spl_len 47 h
    rw [← hp] at hrc
    clear hp
    generalize spl 47 h = H at hS hrc hhl
    replace hS := hide hS
    replace hrc := hide hrc
    replace hhl := hide hhl
    go_wp2_with fail
    refine (hS.out _).mono ?_
    rintro e W5 ⟨he, g2, o2, d2, rfl, hd2, hc2⟩
    replace R := hide (R.out.ext he)
    replace P := hide (P.out.ext he)
    replace E := hide (E.out.trans he)
    replace F := hide (F.out.trans he)
    clear he ch hS
    rcases hrc.out with ⟨hl, hp⟩ | ⟨a, l, rfl, hq⟩
    · have b4 : ((H.length : Int) != 2) = true := by rw [bne_iff_ne]; omega
      have i4 : ¬ (H.length : Int) = 2 := by omega
      generalize H.length = n2 at hl hd2 b4 i4 ⊢
      clear hc2
      replace hp := hide hp
      have rf := fun i => R.out.frozen i
      have x0 : W5.cell? ⟨g0, 0, none⟩ = some (.int .i64 0) := R.out.cell 0
      have x1 : W5.cell? ⟨g0, 1, none⟩ = some (.int .u64 0) := R.out.cell 1
      have x2 : W5.cell? ⟨g0, 2, none⟩ = some (.string ⟨#[]⟩) := R.out.cell 2
      have x3 : W5.cell? ⟨g0, 3, none⟩ = some (.int .i64 0) := R.out.cell 3
      go_wp2
      have hZ := R.out.set4 (.int .i64 0) (.int .u64 0) (.string ⟨#[]⟩) (.int .i64 0)
      have hEZ := E.out.set4 hg0l.out (.int .i64 0) (.int .u64 0) (.string ⟨#[]⟩) (.int .i64 0)
      generalize (((W5.setCell ⟨g0, 0, none⟩ (.int .i64 0)).setCell ⟨g0, 1, none⟩ (.int .u64 0)).setCell ⟨g0, 2, none⟩ (.string ⟨#[]⟩)).setCell ⟨g0, 3, none⟩ (.int .i64 0) = V at hZ hEZ ⊢
      have v0 : V.cell? ⟨g0, 0, none⟩ = some (.int .i64 0) := hZ.cell 0
      have v1 : V.cell? ⟨g0, 1, none⟩ = some (.int .u64 0) := hZ.cell 1
      have v2 : V.cell? ⟨g0, 2, none⟩ = some (.string ⟨#[]⟩) := hZ.cell 2
      have v3 : V.cell? ⟨g0, 3, none⟩ = some (.int .i64 0) := hZ.cell 3
      exact bodyPost_ret (v := .tuple #[.agg #[.int .i64 0, .int .u64 0, .string ⟨#[]⟩, .int .i64 0], .int .i64 4]) (by simp [results, Tryd.results16, go_sem, v0, v1, v2, v3]) rfl (hPs.out _ _ hp.out V hEZ)
    · have ca : W5.cell? ⟨g2, o2, none⟩ = some (.string ⟨a.toArray⟩) := hc2 0 (by simp)
      have cl : W5.cell? ⟨g2, o2 + 1, none⟩ = some (.string ⟨l.toArray⟩) := hc2 1 (by simp)
      have hal : l.length ≤ 80 := Nat.le_trans (hhl.out l (by simp)) hlh
      have qa := fun W => RAddr_any a W
      unfold AdP at qa
      have qr := fun W => RRead7 l (by omega) W
      unfold RdP at qr
      clear hc2
      simp only [List.length_cons, List.length_nil] at hd2 ⊢
      rcases hq with ⟨hac, hp⟩ | ⟨hac, hrn, hp⟩ | ⟨n, hac, hrn, hn, hm, hp⟩ | ⟨n, hac, hrn, hn, hm, hp⟩
      · skip
        rw [hac] at qa
        replace hac := hide hac
        generalize (rdN 10 128 l).isSome = is at qr
        have hA : (⟨([] : List UInt8).toArray⟩ : ByteArray) = ⟨#[]⟩ := rfl
        replace qa := hide qa
        replace qr := hide qr
        replace hp := hide hp
        go_wp2_with fail
        refine (qa.out _).mono ?_
        rintro e W6 ⟨rfl, he⟩
        replace R := hide (R.out.ext he)
        replace P := hide (P.out.ext he)
        replace E := hide (E.out.trans he)
        replace F := hide (F.out.trans he)
        replace cl := he.cell cl
        clear he ca
        go_wp2_with fail
        refine (qr.out _).mono ?_
        rintro e W7 ⟨⟨z, _, rfl, hz⟩, he⟩
        replace R := hide (R.out.ext he)
        replace P := hide (P.out.ext he)
        replace E := hide (E.out.trans he)
        replace F := hide (F.out.trans he)
        clear he cl
        clear hz
        obtain ⟨zw, hzw⟩ : ∃ zw, IntKind.i64.wrap (z : Int) = zw := ⟨_, rfl⟩
        have y0 : W7.cell? ⟨gp, 0, none⟩ = some (.int .i64 f) := P.out.cell 0
        have y1 : W7.cell? ⟨gp, 1, none⟩ = some (.int .u64 (0 : Int)) := P.out.cell 1
        have y2 : W7.cell? ⟨gp, 2, none⟩ = some (.string ⟨#[]⟩) := P.out.cell 2
        have y3 : W7.cell? ⟨gp, 3, none⟩ = some (.int .i64 0) := P.out.cell 3
        have f0 := fun i => P.out.frozen i
        have P9 : Blk ((W7.setCell ⟨gp, 2, none⟩ (.string ⟨#[]⟩)).setCell ⟨gp, 3, none⟩ (.int .i64 zw)) gp 24 #[.int .i64 f, .int .u64 (0 : Int), .string ⟨#[]⟩, .int .i64 zw] := by
          have := (P.out.set_ 2 (.string ⟨#[]⟩)).set_ 3 (.int .i64 zw)
          simpa using this
        have R9 := (R.out.far hne.out (p := ⟨gp, 2, none⟩) (.string ⟨#[]⟩)).far hne.out (p := ⟨gp, 3, none⟩) (.int .i64 zw)
        have E9 := (E.out.setCell (p := ⟨gp, 2, none⟩) hgpl.out (.string ⟨#[]⟩)).setCell (p := ⟨gp, 3, none⟩) hgpl.out (.int .i64 zw)
        generalize hW9 : ((W7.setCell ⟨gp, 2, none⟩ (.string ⟨#[]⟩)).setCell ⟨gp, 3, none⟩ (.int .i64 zw)) = W9 at P9 R9 E9
        clear P R E
        have P := hide P9
        have R := hide R9
        have E := hide E9
        clear P9 R9 E9
        have z0 : W9.cell? ⟨gp, 0, none⟩ = some (.int .i64 f) := P.out.cell 0
        have z1 : W9.cell? ⟨gp, 1, none⟩ = some (.int .u64 (0 : Int)) := P.out.cell 1
        have z2 : W9.cell? ⟨gp, 2, none⟩ = some (.string ⟨#[]⟩) := P.out.cell 2
        have z3 : W9.cell? ⟨gp, 3, none⟩ = some (.int .i64 zw) := P.out.cell 3
        have g0f := fun i => P.out.frozen i
        have rf := fun i => R.out.frozen i
        have x0 : W9.cell? ⟨g0, 0, none⟩ = some (.int .i64 0) := R.out.cell 0
        have x1 : W9.cell? ⟨g0, 1, none⟩ = some (.int .u64 0) := R.out.cell 1
        have x2 : W9.cell? ⟨g0, 2, none⟩ = some (.string ⟨#[]⟩) := R.out.cell 2
        have x3 : W9.cell? ⟨g0, 3, none⟩ = some (.int .i64 0) := R.out.cell 3
        go_wp2
        have hZ := R.out.set4 (.int .i64 0) (.int .u64 0) (.string ⟨#[]⟩) (.int .i64 0)
        have hEZ := E.out.set4 hg0l.out (.int .i64 0) (.int .u64 0) (.string ⟨#[]⟩) (.int .i64 0)
        generalize (((W9.setCell ⟨g0, 0, none⟩ (.int .i64 0)).setCell ⟨g0, 1, none⟩ (.int .u64 0)).setCell ⟨g0, 2, none⟩ (.string ⟨#[]⟩)).setCell ⟨g0, 3, none⟩ (.int .i64 0) = V at hZ hEZ ⊢
        have v0 : V.cell? ⟨g0, 0, none⟩ = some (.int .i64 0) := hZ.cell 0
        have v1 : V.cell? ⟨g0, 1, none⟩ = some (.int .u64 0) := hZ.cell 1
        have v2 : V.cell? ⟨g0, 2, none⟩ = some (.string ⟨#[]⟩) := hZ.cell 2
        have v3 : V.cell? ⟨g0, 3, none⟩ = some (.int .i64 0) := hZ.cell 3
        exact bodyPost_ret (v := .tuple #[.agg #[.int .i64 0, .int .u64 0, .string ⟨#[]⟩, .int .i64 0], .int .i64 4]) (by simp [results, Tryd.results16, go_sem, v0, v1, v2, v3]) rfl (hPs.out _ _ hp.out V hEZ)
      · skip
        rw [hac] at qa
        replace hac := hide hac
        rw [hrn] at qr
        replace hrn := hide hrn
        generalize (⟨(addrC a).1.toArray⟩ : ByteArray) = A at qa
        replace qa := hide qa
        replace qr := hide qr
        replace hp := hide hp
        go_wp2_with fail
        refine (qa.out _).mono ?_
        rintro e W6 ⟨rfl, he⟩
        replace R := hide (R.out.ext he)
        replace P := hide (P.out.ext he)
        replace E := hide (E.out.trans he)
        replace F := hide (F.out.trans he)
        replace cl := he.cell cl
        clear he ca
        go_wp2_with fail
        refine (qr.out _).mono ?_
        rintro e W7 ⟨⟨z, _, rfl, hz⟩, he⟩
        replace R := hide (R.out.ext he)
        replace P := hide (P.out.ext he)
        replace E := hide (E.out.trans he)
        replace F := hide (F.out.trans he)
        clear he cl
        clear hz
        obtain ⟨zw, hzw⟩ : ∃ zw, IntKind.i64.wrap (z : Int) = zw := ⟨_, rfl⟩
        have y0 : W7.cell? ⟨gp, 0, none⟩ = some (.int .i64 f) := P.out.cell 0
        have y1 : W7.cell? ⟨gp, 1, none⟩ = some (.int .u64 (0 : Int)) := P.out.cell 1
        have y2 : W7.cell? ⟨gp, 2, none⟩ = some (.string ⟨#[]⟩) := P.out.cell 2
        have y3 : W7.cell? ⟨gp, 3, none⟩ = some (.int .i64 0) := P.out.cell 3
        have f0 := fun i => P.out.frozen i
        have P9 : Blk ((W7.setCell ⟨gp, 2, none⟩ (.string A)).setCell ⟨gp, 3, none⟩ (.int .i64 zw)) gp 24 #[.int .i64 f, .int .u64 (0 : Int), .string A, .int .i64 zw] := by
          have := (P.out.set_ 2 (.string A)).set_ 3 (.int .i64 zw)
          simpa using this
        have R9 := (R.out.far hne.out (p := ⟨gp, 2, none⟩) (.string A)).far hne.out (p := ⟨gp, 3, none⟩) (.int .i64 zw)
        have E9 := (E.out.setCell (p := ⟨gp, 2, none⟩) hgpl.out (.string A)).setCell (p := ⟨gp, 3, none⟩) hgpl.out (.int .i64 zw)
        generalize hW9 : ((W7.setCell ⟨gp, 2, none⟩ (.string A)).setCell ⟨gp, 3, none⟩ (.int .i64 zw)) = W9 at P9 R9 E9
        clear P R E
        have P := hide P9
        have R := hide R9
        have E := hide E9
        clear P9 R9 E9
        have z0 : W9.cell? ⟨gp, 0, none⟩ = some (.int .i64 f) := P.out.cell 0
        have z1 : W9.cell? ⟨gp, 1, none⟩ = some (.int .u64 (0 : Int)) := P.out.cell 1
        have z2 : W9.cell? ⟨gp, 2, none⟩ = some (.string A) := P.out.cell 2
        have z3 : W9.cell? ⟨gp, 3, none⟩ = some (.int .i64 zw) := P.out.cell 3
        have g0f := fun i => P.out.frozen i
        have rf := fun i => R.out.frozen i
        have x0 : W9.cell? ⟨g0, 0, none⟩ = some (.int .i64 0) := R.out.cell 0
        have x1 : W9.cell? ⟨g0, 1, none⟩ = some (.int .u64 0) := R.out.cell 1
        have x2 : W9.cell? ⟨g0, 2, none⟩ = some (.string ⟨#[]⟩) := R.out.cell 2
        have x3 : W9.cell? ⟨g0, 3, none⟩ = some (.int .i64 0) := R.out.cell 3
        go_wp2
        have hZ := R.out.set4 (.int .i64 0) (.int .u64 0) (.string ⟨#[]⟩) (.int .i64 0)
        have hEZ := E.out.set4 hg0l.out (.int .i64 0) (.int .u64 0) (.string ⟨#[]⟩) (.int .i64 0)
        generalize (((W9.setCell ⟨g0, 0, none⟩ (.int .i64 0)).setCell ⟨g0, 1, none⟩ (.int .u64 0)).setCell ⟨g0, 2, none⟩ (.string ⟨#[]⟩)).setCell ⟨g0, 3, none⟩ (.int .i64 0) = V at hZ hEZ ⊢
        have v0 : V.cell? ⟨g0, 0, none⟩ = some (.int .i64 0) := hZ.cell 0
        have v1 : V.cell? ⟨g0, 1, none⟩ = some (.int .u64 0) := hZ.cell 1
        have v2 : V.cell? ⟨g0, 2, none⟩ = some (.string ⟨#[]⟩) := hZ.cell 2
        have v3 : V.cell? ⟨g0, 3, none⟩ = some (.int .i64 0) := hZ.cell 3
        exact bodyPost_ret (v := .tuple #[.agg #[.int .i64 0, .int .u64 0, .string ⟨#[]⟩, .int .i64 0], .int .i64 4]) (by simp [results, Tryd.results16, go_sem, v0, v1, v2, v3]) rfl (hPs.out _ _ hp.out V hEZ)
      · skip
        have hal2 : (addrC a).1.length ≤ 1048576 := by rcases (addr_text hac).2.1 with h | h <;> omega
        rw [hac] at qa
        replace hac := hide hac
        rw [hrn] at qr
        replace hrn := hide hrn
        generalize (addrC a).1 = AL at qa hal2 hm hp
        have qm := fun W => RMay_any ⟨f, 0, AL, (n : Int)⟩ W hal2
        rw [show mayB ⟨f, 0, AL, (n : Int)⟩ = false from decide_eq_false hm] at qm
        simp only [valP] at qm
        have hwn : IntKind.i64.wrap (n : Int) = (n : Int) := by rw [IntKind.wrap_i64]; omega
        replace qm := hide qm
        replace hm := hide hm
        replace qa := hide qa
        replace qr := hide qr
        replace hp := hide hp
        go_wp2_with fail
        refine (qa.out _).mono ?_
        rintro e W6 ⟨rfl, he⟩
        replace R := hide (R.out.ext he)
        replace P := hide (P.out.ext he)
        replace E := hide (E.out.trans he)
        replace F := hide (F.out.trans he)
        replace cl := he.cell cl
        clear he ca
        go_wp2_with fail
        refine (qr.out _).mono ?_
        rintro e W7 ⟨⟨z, _, rfl, hz⟩, he⟩
        replace R := hide (R.out.ext he)
        replace P := hide (P.out.ext he)
        replace E := hide (E.out.trans he)
        replace F := hide (F.out.trans he)
        clear he cl
        obtain rfl := hz n rfl
        clear hz
        have y0 : W7.cell? ⟨gp, 0, none⟩ = some (.int .i64 f) := P.out.cell 0
        have y1 : W7.cell? ⟨gp, 1, none⟩ = some (.int .u64 (0 : Int)) := P.out.cell 1
        have y2 : W7.cell? ⟨gp, 2, none⟩ = some (.string ⟨#[]⟩) := P.out.cell 2
        have y3 : W7.cell? ⟨gp, 3, none⟩ = some (.int .i64 0) := P.out.cell 3
        have f0 := fun i => P.out.frozen i
        have P9 : Blk ((W7.setCell ⟨gp, 2, none⟩ (.string ⟨AL.toArray⟩)).setCell ⟨gp, 3, none⟩ (.int .i64 (n : Int))) gp 24 #[.int .i64 f, .int .u64 (0 : Int), .string ⟨AL.toArray⟩, .int .i64 (n : Int)] := by
          have := (P.out.set_ 2 (.string ⟨AL.toArray⟩)).set_ 3 (.int .i64 (n : Int))
          simpa using this
        have R9 := (R.out.far hne.out (p := ⟨gp, 2, none⟩) (.string ⟨AL.toArray⟩)).far hne.out (p := ⟨gp, 3, none⟩) (.int .i64 (n : Int))
        have E9 := (E.out.setCell (p := ⟨gp, 2, none⟩) hgpl.out (.string ⟨AL.toArray⟩)).setCell (p := ⟨gp, 3, none⟩) hgpl.out (.int .i64 (n : Int))
        generalize hW9 : ((W7.setCell ⟨gp, 2, none⟩ (.string ⟨AL.toArray⟩)).setCell ⟨gp, 3, none⟩ (.int .i64 (n : Int))) = W9 at P9 R9 E9
        clear P R E
        have P := hide P9
        have R := hide R9
        have E := hide E9
        clear P9 R9 E9
        have z0 : W9.cell? ⟨gp, 0, none⟩ = some (.int .i64 f) := P.out.cell 0
        have z1 : W9.cell? ⟨gp, 1, none⟩ = some (.int .u64 (0 : Int)) := P.out.cell 1
        have z2 : W9.cell? ⟨gp, 2, none⟩ = some (.string ⟨AL.toArray⟩) := P.out.cell 2
        have z3 : W9.cell? ⟨gp, 3, none⟩ = some (.int .i64 (n : Int)) := P.out.cell 3
        have g0f := fun i => P.out.frozen i
        go_wp2_with fail
        refine (qm.out _).mono ?_
        rintro e W10 ⟨rfl, he⟩
        replace R := hide (R.out.ext he)
        replace P := hide (P.out.ext he)
        replace E := hide (E.out.trans he)
        clear he hW9 y0 y1 y2 y3 f0 z0 z1 z2 z3 g0f
        have rf := fun i => R.out.frozen i
        have x0 : W10.cell? ⟨g0, 0, none⟩ = some (.int .i64 0) := R.out.cell 0
        have x1 : W10.cell? ⟨g0, 1, none⟩ = some (.int .u64 0) := R.out.cell 1
        have x2 : W10.cell? ⟨g0, 2, none⟩ = some (.string ⟨#[]⟩) := R.out.cell 2
        have x3 : W10.cell? ⟨g0, 3, none⟩ = some (.int .i64 0) := R.out.cell 3
        go_wp2
        have hZ := R.out.set4 (.int .i64 0) (.int .u64 0) (.string ⟨#[]⟩) (.int .i64 0)
        have hEZ := E.out.set4 hg0l.out (.int .i64 0) (.int .u64 0) (.string ⟨#[]⟩) (.int .i64 0)
        generalize (((W10.setCell ⟨g0, 0, none⟩ (.int .i64 0)).setCell ⟨g0, 1, none⟩ (.int .u64 0)).setCell ⟨g0, 2, none⟩ (.string ⟨#[]⟩)).setCell ⟨g0, 3, none⟩ (.int .i64 0) = V at hZ hEZ ⊢
        have v0 : V.cell? ⟨g0, 0, none⟩ = some (.int .i64 0) := hZ.cell 0
        have v1 : V.cell? ⟨g0, 1, none⟩ = some (.int .u64 0) := hZ.cell 1
        have v2 : V.cell? ⟨g0, 2, none⟩ = some (.string ⟨#[]⟩) := hZ.cell 2
        have v3 : V.cell? ⟨g0, 3, none⟩ = some (.int .i64 0) := hZ.cell 3
        exact bodyPost_ret (v := .tuple #[.agg #[.int .i64 0, .int .u64 0, .string ⟨#[]⟩, .int .i64 0], .int .i64 4]) (by simp [results, Tryd.results16, go_sem, v0, v1, v2, v3]) rfl (hPs.out _ _ hp.out V hEZ)
      · skip
        have hal2 : (addrC a).1.length ≤ 1048576 := by rcases (addr_text hac).2.1 with h | h <;> omega
        rw [hac] at qa
        replace hac := hide hac
        rw [hrn] at qr
        replace hrn := hide hrn
        generalize (addrC a).1 = AL at qa hal2 hm hp
        have qm := fun W => RMay_any ⟨f, 0, AL, (n : Int)⟩ W hal2
        rw [show mayB ⟨f, 0, AL, (n : Int)⟩ = true from decide_eq_true hm] at qm
        simp only [valP] at qm
        have hwn : IntKind.i64.wrap (n : Int) = (n : Int) := by rw [IntKind.wrap_i64]; omega
        replace qm := hide qm
        replace hm := hide hm
        replace qa := hide qa
        replace qr := hide qr
        replace hp := hide hp
        go_wp2_with fail
        refine (qa.out _).mono ?_
        rintro e W6 ⟨rfl, he⟩
        replace R := hide (R.out.ext he)
        replace P := hide (P.out.ext he)
        replace E := hide (E.out.trans he)
        replace F := hide (F.out.trans he)
        replace cl := he.cell cl
        clear he ca
        go_wp2_with fail
        refine (qr.out _).mono ?_
        rintro e W7 ⟨⟨z, _, rfl, hz⟩, he⟩
        replace R := hide (R.out.ext he)
        replace P := hide (P.out.ext he)
        replace E := hide (E.out.trans he)
        replace F := hide (F.out.trans he)
        clear he cl
        obtain rfl := hz n rfl
        clear hz
        have y0 : W7.cell? ⟨gp, 0, none⟩ = some (.int .i64 f) := P.out.cell 0
        have y1 : W7.cell? ⟨gp, 1, none⟩ = some (.int .u64 (0 : Int)) := P.out.cell 1
        have y2 : W7.cell? ⟨gp, 2, none⟩ = some (.string ⟨#[]⟩) := P.out.cell 2
        have y3 : W7.cell? ⟨gp, 3, none⟩ = some (.int .i64 0) := P.out.cell 3
        have f0 := fun i => P.out.frozen i
        have P9 : Blk ((W7.setCell ⟨gp, 2, none⟩ (.string ⟨AL.toArray⟩)).setCell ⟨gp, 3, none⟩ (.int .i64 (n : Int))) gp 24 #[.int .i64 f, .int .u64 (0 : Int), .string ⟨AL.toArray⟩, .int .i64 (n : Int)] := by
          have := (P.out.set_ 2 (.string ⟨AL.toArray⟩)).set_ 3 (.int .i64 (n : Int))
          simpa using this
        have R9 := (R.out.far hne.out (p := ⟨gp, 2, none⟩) (.string ⟨AL.toArray⟩)).far hne.out (p := ⟨gp, 3, none⟩) (.int .i64 (n : Int))
        have E9 := (E.out.setCell (p := ⟨gp, 2, none⟩) hgpl.out (.string ⟨AL.toArray⟩)).setCell (p := ⟨gp, 3, none⟩) hgpl.out (.int .i64 (n : Int))
        generalize hW9 : ((W7.setCell ⟨gp, 2, none⟩ (.string ⟨AL.toArray⟩)).setCell ⟨gp, 3, none⟩ (.int .i64 (n : Int))) = W9 at P9 R9 E9
        clear P R E
        have P := hide P9
        have R := hide R9
        have E := hide E9
        clear P9 R9 E9
        have z0 : W9.cell? ⟨gp, 0, none⟩ = some (.int .i64 f) := P.out.cell 0
        have z1 : W9.cell? ⟨gp, 1, none⟩ = some (.int .u64 (0 : Int)) := P.out.cell 1
        have z2 : W9.cell? ⟨gp, 2, none⟩ = some (.string ⟨AL.toArray⟩) := P.out.cell 2
        have z3 : W9.cell? ⟨gp, 3, none⟩ = some (.int .i64 (n : Int)) := P.out.cell 3
        have g0f := fun i => P.out.frozen i
        go_wp2_with fail
        refine (qm.out _).mono ?_
        rintro e W10 ⟨rfl, he⟩
        replace R := hide (R.out.ext he)
        replace P := hide (P.out.ext he)
        replace E := hide (E.out.trans he)
        clear he hW9 y0 y1 y2 y3 f0 z0 z1 z2 z3 g0f
        have z0 : W10.cell? ⟨gp, 0, none⟩ = some (.int .i64 f) := P.out.cell 0
        have z1 : W10.cell? ⟨gp, 1, none⟩ = some (.int .u64 (0 : Int)) := P.out.cell 1
        have z2 : W10.cell? ⟨gp, 2, none⟩ = some (.string ⟨AL.toArray⟩) := P.out.cell 2
        have z3 : W10.cell? ⟨gp, 3, none⟩ = some (.int .i64 (n : Int)) := P.out.cell 3
        have g0f := fun i => P.out.frozen i
        have rf := fun i => R.out.frozen i
        have x0 : W10.cell? ⟨g0, 0, none⟩ = some (.int .i64 0) := R.out.cell 0
        have x1 : W10.cell? ⟨g0, 1, none⟩ = some (.int .u64 0) := R.out.cell 1
        have x2 : W10.cell? ⟨g0, 2, none⟩ = some (.string ⟨#[]⟩) := R.out.cell 2
        have x3 : W10.cell? ⟨g0, 3, none⟩ = some (.int .i64 0) := R.out.cell 3
        go_wp2
        have hZ := R.out.set4 (.int .i64 f) (.int .u64 (0 : Int)) (.string ⟨AL.toArray⟩) (.int .i64 (n : Int))
        have hEZ := E.out.set4 hg0l.out (.int .i64 f) (.int .u64 (0 : Int)) (.string ⟨AL.toArray⟩) (.int .i64 (n : Int))
        generalize (((W10.setCell ⟨g0, 0, none⟩ (.int .i64 f)).setCell ⟨g0, 1, none⟩ (.int .u64 (0 : Int))).setCell ⟨g0, 2, none⟩ (.string ⟨AL.toArray⟩)).setCell ⟨g0, 3, none⟩ (.int .i64 (n : Int)) = V at hZ hEZ ⊢
        have v0 : V.cell? ⟨g0, 0, none⟩ = some (.int .i64 f) := hZ.cell 0
        have v1 : V.cell? ⟨g0, 1, none⟩ = some (.int .u64 (0 : Int)) := hZ.cell 1
        have v2 : V.cell? ⟨g0, 2, none⟩ = some (.string ⟨AL.toArray⟩) := hZ.cell 2
        have v3 : V.cell? ⟨g0, 3, none⟩ = some (.int .i64 (n : Int)) := hZ.cell 3
        exact bodyPost_ret (v := .tuple #[.agg #[.int .i64 f, .int .u64 (0 : Int), .string ⟨AL.toArray⟩, .int .i64 (n : Int)], .int .i64 0]) (by simp [results, Tryd.results16, go_sem, v0, v1, v2, v3]) rfl (hPs.out _ _ hp.out V hEZ)
theorem RParse_any (s : List UInt8) (w : World) :
    Calls Tryd.prog 16 #[.string ⟨s.toArray⟩] w (PsP s w) := by
  by_cases hs : s.length ≤ 80
  · exact RParseS_any s hs w
  · exact RParseL_any s (by omega) w
end Go.Proofs.YtbobpaailmbndaaDoor