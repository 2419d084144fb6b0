/- Walks: may a set be, by the document (heraldref15.May, Check). Walks: two sets that are alike are told so (heraldref15.Same). -/
import Derived.Test.YtoghdmoldcjedaaGreatDoorVP
import Derived.Laws.StructEq
namespace Go.Proofs.YtoghdmoldcjedaaGreatDoor
open Go.RowKit Go.Sort
set_option linter.unusedVariables false

theorem itm_split (x : Itm) : ∃ ok : Bool, decide (itmOk x) = ok ∧ ((mayB x.p = false ∧ ok = false) ∨ (mayB x.p = true ∧ decide (x.low < x.p.len) = true ∧ ok = false) ∨ (mayB x.p = true ∧ decide (x.low < x.p.len) = false ∧ decide (x.high < x.low) = true ∧ ok = false) ∨ (mayB x.p = true ∧ decide (x.low < x.p.len) = false ∧ decide (x.high < x.low) = false ∧ decide (8 * sizeS x.p.fam < x.high) = !ok)) := by
  refine ⟨_, rfl, ?_⟩
  by_cases h : MayP x.p
  · have hm : mayB x.p = true := decide_eq_true h
    by_cases h1 : x.low < x.p.len
    · exact .inr (.inl ⟨hm, decide_eq_true h1, decide_eq_false fun h3 => by have := h3.2.1; omega⟩)
    · by_cases h2 : x.high < x.low
      · exact .inr (.inr (.inl ⟨hm, decide_eq_false h1, decide_eq_true h2, decide_eq_false fun h3 => by have := h3.2.2.1; omega⟩))
      · refine .inr (.inr (.inr ⟨hm, decide_eq_false h1, decide_eq_false h2, ?_⟩))
        by_cases h4 : x.high ≤ 8 * sizeS x.p.fam
        · rw [decide_eq_false (by omega), decide_eq_true (show itmOk x from ⟨h, by omega, by omega, h4⟩)]; rfl
        · rw [decide_eq_true (by omega), decide_eq_false (show ¬ itmOk x from fun h3 => h4 h3.2.2.2)]; rfl
  · exact .inl ⟨decide_eq_false h, decide_eq_false fun h3 => h h3.1⟩
theorem allI_succ {α : Type} (f : α → Bool) (l : List α) (k : Nat) (hk : k < l.length) : (l.take (k + 1)).all f = ((l.take k).all f && f l[k]) := by
  rw [List.take_succ_eq_append_getElem hk, List.all_append, List.all_cons, List.all_nil, Bool.and_true]
theorem allI_bad {α : Type} {f : α → Bool} {l : List α} {k : Nat} (hk : k < l.length) (h : f l[k] = false) : l.all f = false := by
  rw [List.all_eq_false]
  exact ⟨l[k], List.getElem_mem hk, by rw [h]; decide⟩
theorem beq0 (n : Nat) : ((n : Int) == 0) = !decide (0 < n) := by
  rcases Nat.eq_zero_or_pos n with rfl | h
  · rfl
  · rw [decide_eq_true h, beq_eq_false_iff_ne.2 (by omega)]; rfl

set_option maxRecDepth 20000 in
set_option maxHeartbeats 8000000 in
theorem RMay15_any (s : StS) (a1 : Option Addr) (c1 : Nat) (a2 : Option Addr) (c2 : Nat) (a3 : Option Addr) (c3 : Nat) (w : World) (hs : SetIn w (· < w.heap.size) s a1 a2 a3) :
    Calls Tryz.prog 51 #[.agg #[.string ⟨s.name.toArray⟩, .int .i64 s.kind, .slice a1 s.items.length c1, .slice a2 s.comms.length c2, .slice a3 s.paths.length c3]] w fun e w' => e = .returned (.bool (setOk s)) ∧ Ext w w' := by
  have mixed : Tryz.prog.follows Departure.mixedOrders = true := by kernel_rfl
  obtain ⟨nm, b1, b2, b3, d1, d3, bi, bp, co, r, e0, e1, e2, e3, f1, f3, ei, ep, ec, er, hcs⟩ := setOk_cases s
  have qn := fun W => RName_any s.name W
  rw [e0] at qn
  have qc := fun W (h : Ext w W) => RMayC_any a2 c2 s.comms W hs.nComms (hs.comms.ext h)
  rw [ec] at qc
  rw [er]
  rw [all_not] at ei ep
  have hit : ∀ W, Ext w W → Sl EItm W (· < W.heap.size) a1 s.items := fun W h => hs.items.ext h
  have hpt : ∀ W, Ext w W → Sl EAtm.slice W (· < W.heap.size) a3 s.paths := fun W h => hs.paths.ext h
  have hni := hs.nItems
  have hnp := hs.nPaths
  have z1 := beq0 s.items.length
  have z2 := beq0 s.comms.length
  have z3 := beq0 s.paths.length
  rw [e1] at z1
  rw [e2] at z2
  rw [e3] at z3
  clear hs e0 ec er e1 e2 e3
  obtain ⟨nm0, kd, items, comms, paths⟩ := s
  dsimp only at *
  generalize comms.length = n2 at *
  replace qn := hide qn
  replace qc := hide qc
  replace hcs := hide hcs
  replace hit := hide hit
  replace hpt := hide hpt
  replace ei := hide ei
  replace ep := hide ep
  go_enter Tryz.func51, Tryz.ntmps51
  have S := Blk.new w 27 #[.string ⟨nm0.toArray⟩, .int .i64 kd, .slice a1 items.length c1, .slice a2 n2 c2, .slice a3 paths.length c3]
  have E := (Ext.refl w).alloc (Obj.cells #[.string ⟨nm0.toArray⟩, .int .i64 kd, .slice a1 items.length c1, .slice a2 n2 c2, .slice a3 paths.length c3] 27)
  generalize hW0 : w.alloc (Obj.cells #[.string ⟨nm0.toArray⟩, .int .i64 kd, .slice a1 items.length c1, .slice a2 n2 c2, .slice a3 paths.length c3] 27) = W0 at S E
  generalize hg0 : w.heap.size = g0 at S
  replace S := hide S
  replace E := hide E
  have S_0 : W0.cell? ⟨g0, 0, none⟩ = some (.string ⟨nm0.toArray⟩) := S.out.cell 0
  have S_1 : W0.cell? ⟨g0, 1, none⟩ = some (.int .i64 kd) := S.out.cell 1
  have S_2 : W0.cell? ⟨g0, 2, none⟩ = some (.slice a1 items.length c1) := S.out.cell 2
  have S_3 : W0.cell? ⟨g0, 3, none⟩ = some (.slice a2 n2 c2) := S.out.cell 3
  have S_4 : W0.cell? ⟨g0, 4, none⟩ = some (.slice a3 paths.length c3) := S.out.cell 4
  go_wp2_with fail
  refine (qn.out _).mono ?_
  rintro e W1 ⟨rfl, rfl⟩
  clear hW0 hg0
  cases nm with
  | false =>
    have hr : false = r := by
      rcases hcs.out with ⟨_, h⟩ | ⟨_, h⟩ | ⟨_, h⟩ | ⟨_, _, _, h⟩ <;> exact h
    subst hr
    go_wp2
    go_ret
    exact ⟨rfl, E.out⟩
  | true =>
    rcases hcs.out with ⟨rfl, hr⟩ | ⟨rfl, hr⟩ | ⟨rfl, hr⟩ | ⟨k1, k2, k3, hr⟩
    · clear hcs qc hpt ep f3
      rw [Bool.true_and] at hr
      go_wp2_with fail
      go_loopw [3] (fun i wr => ∃ k : Nat, k ≤ items.length ∧ i = .int .i64 k ∧ Ext W0 wr ∧ (items.take k).all (fun x => decide (itmOk x)) = true) (fun i _ => items.length - (intOf i).toNat)
      case atStart => exact ⟨0, Nat.zero_le _, rfl, Ext.refl _, rfl⟩
      case round =>
        clear S_0 S_1 S_2 S_3 S_4
        obtain ⟨k, hk, rfl, hE, ha⟩ := hrel
        have S : Blk wr (g0) 27 #[.string ⟨nm0.toArray⟩, .int .i64 1, .slice a1 items.length c1, .slice a2 n2 c2, .slice a3 paths.length c3] := S.out.ext hE
        replace S := hide S
        have E1 := hide (E.out.trans hE)
        have S_0 : wr.cell? ⟨g0, 0, none⟩ = some (.string ⟨nm0.toArray⟩) := S.out.cell 0
        have S_1 : wr.cell? ⟨g0, 1, none⟩ = some (.int .i64 1) := S.out.cell 1
        have S_2 : wr.cell? ⟨g0, 2, none⟩ = some (.slice a1 items.length c1) := S.out.cell 2
        have S_3 : wr.cell? ⟨g0, 3, none⟩ = some (.slice a2 n2 c2) := S.out.cell 3
        have S_4 : wr.cell? ⟨g0, 4, none⟩ = some (.slice a3 paths.length c3) := S.out.cell 4
        by_cases hlt : k < items.length
        · obtain ⟨b, off, rfl, _, hin, hc⟩ := EItm.at (hit.out wr E1.out) k hlt
          have x0 : wr.cell? ⟨b, off + k * 6, none⟩ = some (.int .i64 items[k].p.fam) := hc 0 _ rfl
          have x1 : wr.cell? ⟨b, off + k * 6 + 1, none⟩ = some (.int .u64 (items[k].p.rd : Int)) := hc 1 _ rfl
          have x2 : wr.cell? ⟨b, off + k * 6 + 2, none⟩ = some (.string ⟨items[k].p.addr.toArray⟩) := hc 2 _ rfl
          have x3 : wr.cell? ⟨b, off + k * 6 + 3, none⟩ = some (.int .i64 items[k].p.len) := hc 3 _ rfl
          have x4 : wr.cell? ⟨b, off + k * 6 + 4, none⟩ = some (.int .i64 items[k].low) := hc 4 _ rfl
          have x5 : wr.cell? ⟨b, off + k * 6 + 5, none⟩ = some (.int .i64 items[k].high) := hc 5 _ rfl
          have hnx := allI_succ (fun x => decide (itmOk x)) items k hlt
          rw [ha, Bool.true_and] at hnx
          have hbad := fun h => allI_bad (f := fun x => decide (itmOk x)) hlt h
          have qck := fun W => RMay_any items[k].p W hin.p.addr
          have qsz := fun W => RSize_any items[k].p.fam W
          have hz : 0 ≤ sizeS items[k].p.fam ∧ sizeS items[k].p.fam ≤ 16 := by rcases sizeS_cases items[k].p.fam with h | h | h <;> omega
          obtain ⟨ok, hok, hsp⟩ := itm_split items[k]
          rw [hok] at hnx
          try dsimp only at hbad
          rw [hok] at hbad
          clear hc hin hok ha
          generalize items[k] = x at *
          obtain ⟨⟨f, rd, ad, ln⟩, lo, hi⟩ := x
          simp only [valP] at qck
          dsimp only at *
          generalize mayB ⟨f, rd, ad, ln⟩ = mb at qck hsp
          generalize sizeS f = sz at qsz hsp hz
          obtain ⟨hz1, hz2⟩ := hz
          have X := Blk.new wr 36 #[.int .i64 f, .int .u64 (rd : Int), .string ⟨ad.toArray⟩, .int .i64 ln, .int .i64 lo, .int .i64 hi]
          have hE4 := hE.alloc (Obj.cells #[.int .i64 f, .int .u64 (rd : Int), .string ⟨ad.toArray⟩, .int .i64 ln, .int .i64 lo, .int .i64 hi] 36)
          have S4 := S.out.alloc (Obj.cells #[.int .i64 f, .int .u64 (rd : Int), .string ⟨ad.toArray⟩, .int .i64 ln, .int .i64 lo, .int .i64 hi] 36)
          generalize hW4 : wr.alloc (Obj.cells #[.int .i64 f, .int .u64 (rd : Int), .string ⟨ad.toArray⟩, .int .i64 ln, .int .i64 lo, .int .i64 hi] 36) = W4 at X hE4 S4
          generalize hg4 : wr.heap.size = g4 at X
          have E4 := hE4
          replace qck := hide qck
          replace qsz := hide qsz
          replace hnx := hide hnx
          replace hbad := hide hbad
          replace X := hide X
          replace E4 := hide E4
          clear hE4 hE S4
          go_wp2_with fail
          clear S_0 S_1 S_2 S_3 S_4
          clear hW4 hg4 x0 x1 x2 x3 x4 x5
          rcases hsp with ⟨rfl, rfl⟩ | ⟨rfl, e2, rfl⟩ | ⟨rfl, e2, e3, rfl⟩ | ⟨rfl, e2, e3, e4⟩
          ·
            have X_0 : ∀ d os, (grow (redrawn W4 d) os).cell? ⟨g4, 0, none⟩ = some (.int .i64 f) := cell_regrown (X.out.cell 0)
            have X_1 : ∀ d os, (grow (redrawn W4 d) os).cell? ⟨g4, 1, none⟩ = some (.int .u64 (rd : Int)) := cell_regrown (X.out.cell 1)
            have X_2 : ∀ d os, (grow (redrawn W4 d) os).cell? ⟨g4, 2, none⟩ = some (.string ⟨ad.toArray⟩) := cell_regrown (X.out.cell 2)
            have X_3 : ∀ d os, (grow (redrawn W4 d) os).cell? ⟨g4, 3, none⟩ = some (.int .i64 ln) := cell_regrown (X.out.cell 3)
            have X_4 : ∀ d os, (grow (redrawn W4 d) os).cell? ⟨g4, 4, none⟩ = some (.int .i64 lo) := cell_regrown (X.out.cell 4)
            have X_5 : ∀ d os, (grow (redrawn W4 d) os).cell? ⟨g4, 5, none⟩ = some (.int .i64 hi) := cell_regrown (X.out.cell 5)
            have cq0 := Calls.regr qck.out W4
            have cq1 := Calls.regrS qsz.out W4
            refine wp_region_quiet_below (by assumption) (by kernel_rfl) ?_
            repeat (go_big_quiet_step (first | (with_reducible exact cq0 _ _) | (with_reducible exact cq1 _ _)))
            refine wpQuiet_nil ?_
            intro _ hw_
            obtain ⟨⟨dq_, osq_⟩, hw_'⟩ := hw_
            subst hw_'
            replace E4 := hide (E4.out.trans (below_regrown _ dq_ osq_))
            replace X := hide (X.out.ext (below_regrown _ dq_ osq_))
            clear X_0 X_1 X_2 X_3 X_4 X_5
            clear cq0 cq1
            generalize grow (redrawn W4 dq_) osq_ = W5 at E4 X ⊢
            have X_0 : W5.cell? ⟨g4, 0, none⟩ = some (.int .i64 f) := X.out.cell 0
            have X_1 : W5.cell? ⟨g4, 1, none⟩ = some (.int .u64 (rd : Int)) := X.out.cell 1
            have X_2 : W5.cell? ⟨g4, 2, none⟩ = some (.string ⟨ad.toArray⟩) := X.out.cell 2
            have X_3 : W5.cell? ⟨g4, 3, none⟩ = some (.int .i64 ln) := X.out.cell 3
            have X_4 : W5.cell? ⟨g4, 4, none⟩ = some (.int .i64 lo) := X.out.cell 4
            have X_5 : W5.cell? ⟨g4, 5, none⟩ = some (.int .i64 hi) := X.out.cell 5
            have hb := hide (hbad.out rfl)
            clear hbad
            go_wp2
            go_ret
            exact ⟨ret_bool (by rw [← hr, ← ei.out, hb.out]; cases b2 <;> cases b3 <;> cases d1 <;> rfl), E.out.trans E4.out⟩
          ·
            have X_0 : ∀ d os, (grow (redrawn W4 d) os).cell? ⟨g4, 0, none⟩ = some (.int .i64 f) := cell_regrown (X.out.cell 0)
            have X_1 : ∀ d os, (grow (redrawn W4 d) os).cell? ⟨g4, 1, none⟩ = some (.int .u64 (rd : Int)) := cell_regrown (X.out.cell 1)
            have X_2 : ∀ d os, (grow (redrawn W4 d) os).cell? ⟨g4, 2, none⟩ = some (.string ⟨ad.toArray⟩) := cell_regrown (X.out.cell 2)
            have X_3 : ∀ d os, (grow (redrawn W4 d) os).cell? ⟨g4, 3, none⟩ = some (.int .i64 ln) := cell_regrown (X.out.cell 3)
            have X_4 : ∀ d os, (grow (redrawn W4 d) os).cell? ⟨g4, 4, none⟩ = some (.int .i64 lo) := cell_regrown (X.out.cell 4)
            have X_5 : ∀ d os, (grow (redrawn W4 d) os).cell? ⟨g4, 5, none⟩ = some (.int .i64 hi) := cell_regrown (X.out.cell 5)
            have cq0 := Calls.regr qck.out W4
            have cq1 := Calls.regrS qsz.out W4
            refine wp_region_quiet_below (by assumption) (by kernel_rfl) ?_
            repeat (go_big_quiet_step (first | (with_reducible exact cq0 _ _) | (with_reducible exact cq1 _ _)))
            refine wpQuiet_nil ?_
            intro _ hw_
            obtain ⟨⟨dq_, osq_⟩, hw_'⟩ := hw_
            subst hw_'
            replace E4 := hide (E4.out.trans (below_regrown _ dq_ osq_))
            replace X := hide (X.out.ext (below_regrown _ dq_ osq_))
            clear X_0 X_1 X_2 X_3 X_4 X_5
            clear cq0 cq1
            generalize grow (redrawn W4 dq_) osq_ = W5 at E4 X ⊢
            have X_0 : W5.cell? ⟨g4, 0, none⟩ = some (.int .i64 f) := X.out.cell 0
            have X_1 : W5.cell? ⟨g4, 1, none⟩ = some (.int .u64 (rd : Int)) := X.out.cell 1
            have X_2 : W5.cell? ⟨g4, 2, none⟩ = some (.string ⟨ad.toArray⟩) := X.out.cell 2
            have X_3 : W5.cell? ⟨g4, 3, none⟩ = some (.int .i64 ln) := X.out.cell 3
            have X_4 : W5.cell? ⟨g4, 4, none⟩ = some (.int .i64 lo) := X.out.cell 4
            have X_5 : W5.cell? ⟨g4, 5, none⟩ = some (.int .i64 hi) := X.out.cell 5
            have hb := hide (hbad.out rfl)
            clear hbad
            go_wp2
            go_ret
            exact ⟨ret_bool (by rw [← hr, ← ei.out, hb.out]; cases b2 <;> cases b3 <;> cases d1 <;> rfl), E.out.trans E4.out⟩
          ·
            have X_0 : ∀ d os, (grow (redrawn W4 d) os).cell? ⟨g4, 0, none⟩ = some (.int .i64 f) := cell_regrown (X.out.cell 0)
            have X_1 : ∀ d os, (grow (redrawn W4 d) os).cell? ⟨g4, 1, none⟩ = some (.int .u64 (rd : Int)) := cell_regrown (X.out.cell 1)
            have X_2 : ∀ d os, (grow (redrawn W4 d) os).cell? ⟨g4, 2, none⟩ = some (.string ⟨ad.toArray⟩) := cell_regrown (X.out.cell 2)
            have X_3 : ∀ d os, (grow (redrawn W4 d) os).cell? ⟨g4, 3, none⟩ = some (.int .i64 ln) := cell_regrown (X.out.cell 3)
            have X_4 : ∀ d os, (grow (redrawn W4 d) os).cell? ⟨g4, 4, none⟩ = some (.int .i64 lo) := cell_regrown (X.out.cell 4)
            have X_5 : ∀ d os, (grow (redrawn W4 d) os).cell? ⟨g4, 5, none⟩ = some (.int .i64 hi) := cell_regrown (X.out.cell 5)
            have cq0 := Calls.regr qck.out W4
            have cq1 := Calls.regrS qsz.out W4
            refine wp_region_quiet_below (by assumption) (by kernel_rfl) ?_
            repeat (go_big_quiet_step (first | (with_reducible exact cq0 _ _) | (with_reducible exact cq1 _ _)))
            refine wpQuiet_nil ?_
            intro _ hw_
            obtain ⟨⟨dq_, osq_⟩, hw_'⟩ := hw_
            subst hw_'
            replace E4 := hide (E4.out.trans (below_regrown _ dq_ osq_))
            replace X := hide (X.out.ext (below_regrown _ dq_ osq_))
            clear X_0 X_1 X_2 X_3 X_4 X_5
            clear cq0 cq1
            generalize grow (redrawn W4 dq_) osq_ = W5 at E4 X ⊢
            have X_0 : W5.cell? ⟨g4, 0, none⟩ = some (.int .i64 f) := X.out.cell 0
            have X_1 : W5.cell? ⟨g4, 1, none⟩ = some (.int .u64 (rd : Int)) := X.out.cell 1
            have X_2 : W5.cell? ⟨g4, 2, none⟩ = some (.string ⟨ad.toArray⟩) := X.out.cell 2
            have X_3 : W5.cell? ⟨g4, 3, none⟩ = some (.int .i64 ln) := X.out.cell 3
            have X_4 : W5.cell? ⟨g4, 4, none⟩ = some (.int .i64 lo) := X.out.cell 4
            have X_5 : W5.cell? ⟨g4, 5, none⟩ = some (.int .i64 hi) := X.out.cell 5
            have hb := hide (hbad.out rfl)
            clear hbad
            go_wp2
            go_ret
            exact ⟨ret_bool (by rw [← hr, ← ei.out, hb.out]; cases b2 <;> cases b3 <;> cases d1 <;> rfl), E.out.trans E4.out⟩
          · cases ok with
            | true =>
              rw [Bool.not_true] at e4
              have X_0 : ∀ d os, (grow (redrawn W4 d) os).cell? ⟨g4, 0, none⟩ = some (.int .i64 f) := cell_regrown (X.out.cell 0)
              have X_1 : ∀ d os, (grow (redrawn W4 d) os).cell? ⟨g4, 1, none⟩ = some (.int .u64 (rd : Int)) := cell_regrown (X.out.cell 1)
              have X_2 : ∀ d os, (grow (redrawn W4 d) os).cell? ⟨g4, 2, none⟩ = some (.string ⟨ad.toArray⟩) := cell_regrown (X.out.cell 2)
              have X_3 : ∀ d os, (grow (redrawn W4 d) os).cell? ⟨g4, 3, none⟩ = some (.int .i64 ln) := cell_regrown (X.out.cell 3)
              have X_4 : ∀ d os, (grow (redrawn W4 d) os).cell? ⟨g4, 4, none⟩ = some (.int .i64 lo) := cell_regrown (X.out.cell 4)
              have X_5 : ∀ d os, (grow (redrawn W4 d) os).cell? ⟨g4, 5, none⟩ = some (.int .i64 hi) := cell_regrown (X.out.cell 5)
              have cq0 := Calls.regr qck.out W4
              have cq1 := Calls.regrS qsz.out W4
              refine wp_region_quiet_below (by assumption) (by kernel_rfl) ?_
              repeat (go_big_quiet_step (first | (with_reducible exact cq0 _ _) | (with_reducible exact cq1 _ _)))
              refine wpQuiet_nil ?_
              intro _ hw_
              obtain ⟨⟨dq_, osq_⟩, hw_'⟩ := hw_
              subst hw_'
              replace E4 := hide (E4.out.trans (below_regrown _ dq_ osq_))
              replace X := hide (X.out.ext (below_regrown _ dq_ osq_))
              clear X_0 X_1 X_2 X_3 X_4 X_5
              clear cq0 cq1
              generalize grow (redrawn W4 dq_) osq_ = W5 at E4 X ⊢
              have X_0 : W5.cell? ⟨g4, 0, none⟩ = some (.int .i64 f) := X.out.cell 0
              have X_1 : W5.cell? ⟨g4, 1, none⟩ = some (.int .u64 (rd : Int)) := X.out.cell 1
              have X_2 : W5.cell? ⟨g4, 2, none⟩ = some (.string ⟨ad.toArray⟩) := X.out.cell 2
              have X_3 : W5.cell? ⟨g4, 3, none⟩ = some (.int .i64 ln) := X.out.cell 3
              have X_4 : W5.cell? ⟨g4, 4, none⟩ = some (.int .i64 lo) := X.out.cell 4
              have X_5 : W5.cell? ⟨g4, 5, none⟩ = some (.int .i64 hi) := X.out.cell 5
              clear hbad
              go_wp2
              go_roundw
              case rel => exact ⟨k + 1, by omega, by go_num, E4.out, hnx.out⟩
              case measure => simp [intOf]; omega
            | false =>
              rw [Bool.not_false] at e4
              have X_0 : ∀ d os, (grow (redrawn W4 d) os).cell? ⟨g4, 0, none⟩ = some (.int .i64 f) := cell_regrown (X.out.cell 0)
              have X_1 : ∀ d os, (grow (redrawn W4 d) os).cell? ⟨g4, 1, none⟩ = some (.int .u64 (rd : Int)) := cell_regrown (X.out.cell 1)
              have X_2 : ∀ d os, (grow (redrawn W4 d) os).cell? ⟨g4, 2, none⟩ = some (.string ⟨ad.toArray⟩) := cell_regrown (X.out.cell 2)
              have X_3 : ∀ d os, (grow (redrawn W4 d) os).cell? ⟨g4, 3, none⟩ = some (.int .i64 ln) := cell_regrown (X.out.cell 3)
              have X_4 : ∀ d os, (grow (redrawn W4 d) os).cell? ⟨g4, 4, none⟩ = some (.int .i64 lo) := cell_regrown (X.out.cell 4)
              have X_5 : ∀ d os, (grow (redrawn W4 d) os).cell? ⟨g4, 5, none⟩ = some (.int .i64 hi) := cell_regrown (X.out.cell 5)
              have cq0 := Calls.regr qck.out W4
              have cq1 := Calls.regrS qsz.out W4
              refine wp_region_quiet_below (by assumption) (by kernel_rfl) ?_
              repeat (go_big_quiet_step (first | (with_reducible exact cq0 _ _) | (with_reducible exact cq1 _ _)))
              refine wpQuiet_nil ?_
              intro _ hw_
              obtain ⟨⟨dq_, osq_⟩, hw_'⟩ := hw_
              subst hw_'
              replace E4 := hide (E4.out.trans (below_regrown _ dq_ osq_))
              replace X := hide (X.out.ext (below_regrown _ dq_ osq_))
              clear X_0 X_1 X_2 X_3 X_4 X_5
              clear cq0 cq1
              generalize grow (redrawn W4 dq_) osq_ = W5 at E4 X ⊢
              have X_0 : W5.cell? ⟨g4, 0, none⟩ = some (.int .i64 f) := X.out.cell 0
              have X_1 : W5.cell? ⟨g4, 1, none⟩ = some (.int .u64 (rd : Int)) := X.out.cell 1
              have X_2 : W5.cell? ⟨g4, 2, none⟩ = some (.string ⟨ad.toArray⟩) := X.out.cell 2
              have X_3 : W5.cell? ⟨g4, 3, none⟩ = some (.int .i64 ln) := X.out.cell 3
              have X_4 : W5.cell? ⟨g4, 4, none⟩ = some (.int .i64 lo) := X.out.cell 4
              have X_5 : W5.cell? ⟨g4, 5, none⟩ = some (.int .i64 hi) := X.out.cell 5
              have hb := hide (hbad.out rfl)
              clear hbad
              go_wp2
              go_ret
              exact ⟨ret_bool (by rw [← hr, ← ei.out, hb.out]; cases b2 <;> cases b3 <;> cases d1 <;> rfl), E.out.trans E4.out⟩
        · obtain rfl : k = items.length := by omega
          rw [List.take_length] at ha
          have hbi : bi = false := by rw [← ei.out, ha]; rfl
          subst hbi
          clear ha ei hit
          replace hE := hide hE
          cases d1 <;> cases b2 <;> cases b3 <;> subst hr <;> (
            simp only [Bool.not_true, Bool.not_false] at z2 z3
            go_wp2
            go_ret
            exact ⟨rfl, E1.out⟩)
    · clear hcs hit hpt ei ep f1 f3
      rw [Bool.true_and] at hr
      cases co <;> cases b1 <;> cases b3 <;> subst hr <;> (
        simp only [Bool.not_true, Bool.not_false] at z1 z3
        go_wp2_with fail
        refine (qc.out _ E.out).mono ?_
        rintro e W2 ⟨rfl, he⟩
        replace E := hide (E.out.trans he)
        have S : Blk W2 (g0) 27 #[.string ⟨nm0.toArray⟩, .int .i64 2, .slice a1 items.length c1, .slice a2 n2 c2, .slice a3 paths.length c3] := S.out.ext he
        replace S := hide S
        clear he
        clear S_0 S_1 S_2 S_3 S_4
        have S_0 : W2.cell? ⟨g0, 0, none⟩ = some (.string ⟨nm0.toArray⟩) := S.out.cell 0
        have S_1 : W2.cell? ⟨g0, 1, none⟩ = some (.int .i64 2) := S.out.cell 1
        have S_2 : W2.cell? ⟨g0, 2, none⟩ = some (.slice a1 items.length c1) := S.out.cell 2
        have S_3 : W2.cell? ⟨g0, 3, none⟩ = some (.slice a2 n2 c2) := S.out.cell 3
        have S_4 : W2.cell? ⟨g0, 4, none⟩ = some (.slice a3 paths.length c3) := S.out.cell 4
        go_wp2
        go_ret
        exact ⟨rfl, E.out⟩
        )
    · clear hcs qc hit ei f1
      rw [Bool.true_and] at hr
      go_wp2_with fail
      go_loopw [5] (fun i wr => ∃ k : Nat, k ≤ paths.length ∧ i = .int .i64 k ∧ Ext W0 wr ∧ (paths.take k).all atmsOk = true) (fun i _ => paths.length - (intOf i).toNat)
      case atStart => exact ⟨0, Nat.zero_le _, rfl, Ext.refl _, rfl⟩
      case round =>
        clear S_0 S_1 S_2 S_3 S_4
        obtain ⟨k, hk, rfl, hE, ha⟩ := hrel
        have S : Blk wr (g0) 27 #[.string ⟨nm0.toArray⟩, .int .i64 3, .slice a1 items.length c1, .slice a2 n2 c2, .slice a3 paths.length c3] := S.out.ext hE
        replace S := hide S
        have E1 := hide (E.out.trans hE)
        have S_0 : wr.cell? ⟨g0, 0, none⟩ = some (.string ⟨nm0.toArray⟩) := S.out.cell 0
        have S_1 : wr.cell? ⟨g0, 1, none⟩ = some (.int .i64 3) := S.out.cell 1
        have S_2 : wr.cell? ⟨g0, 2, none⟩ = some (.slice a1 items.length c1) := S.out.cell 2
        have S_3 : wr.cell? ⟨g0, 3, none⟩ = some (.slice a2 n2 c2) := S.out.cell 3
        have S_4 : wr.cell? ⟨g0, 4, none⟩ = some (.slice a3 paths.length c3) := S.out.cell 4
        by_cases hlt : k < paths.length
        · obtain ⟨b, off, ak, ck, rfl, _, x0, hm, hsk⟩ := EPat.at (hpt.out wr E1.out) k hlt
          have qa := RMayAtoms_any ak ck paths[k] wr hm hsk
          have hnx := allI_succ atmsOk paths k hlt
          rw [ha, Bool.true_and] at hnx
          have hbad := fun h => allI_bad (f := atmsOk) hlt h
          clear ha hsk hm
          generalize atmsOk paths[k] = ok at *
          generalize paths[k].length = nk at *
          replace qa := hide qa
          replace hnx := hide hnx
          replace hbad := hide hbad
          replace hE := hide hE
          go_wp2_with fail
          refine qa.out.mono ?_
          rintro e W2 ⟨rfl, he⟩
          replace hE := hide (hE.out.trans he)
          clear he qa x0
          clear S_0 S_1 S_2 S_3 S_4
          cases ok with
          | true =>
            clear hbad
            go_wp2_with fail
            go_roundw
            case rel => exact ⟨k + 1, by omega, by go_num, hE.out, hnx.out⟩
            case measure => simp [intOf]; omega
          | false =>
            have hb := hide (hbad.out rfl)
            clear hbad
            go_wp2
            go_ret
            exact ⟨ret_bool (by rw [← hr, ← ep.out, hb.out]; cases b1 <;> cases b2 <;> cases d3 <;> rfl), E.out.trans hE.out⟩
        · obtain rfl : k = paths.length := by omega
          rw [List.take_length] at ha
          have hbi : bp = false := by rw [← ep.out, ha]; rfl
          subst hbi
          clear ha ep hpt
          replace hE := hide hE
          have S_0 : wr.cell? ⟨g0, 0, none⟩ = some (.string ⟨nm0.toArray⟩) := S.out.cell 0
          have S_1 : wr.cell? ⟨g0, 1, none⟩ = some (.int .i64 3) := S.out.cell 1
          have S_2 : wr.cell? ⟨g0, 2, none⟩ = some (.slice a1 items.length c1) := S.out.cell 2
          have S_3 : wr.cell? ⟨g0, 3, none⟩ = some (.slice a2 n2 c2) := S.out.cell 3
          have S_4 : wr.cell? ⟨g0, 4, none⟩ = some (.slice a3 paths.length c3) := S.out.cell 4
          cases d3 <;> cases b1 <;> cases b2 <;> subst hr <;> (
            simp only [Bool.not_true, Bool.not_false] at z1 z2
            go_wp2
            go_ret
            exact ⟨rfl, E1.out⟩)
    · subst hr
      clear hcs qc hit hpt ei ep
      go_wp2
      go_ret
      exact ⟨rfl, E.out⟩
set_option maxRecDepth 20000 in
theorem RSCheck15_any (s : StS) (a1 : Option Addr) (c1 : Nat) (a2 : Option Addr) (c2 : Nat) (a3 : Option Addr) (c3 : Nat) (w : World) (hs : SetIn w (· < w.heap.size) s a1 a2 a3) :
    Calls Tryz.prog 16 #[.agg #[.string ⟨s.name.toArray⟩, .int .i64 s.kind, .slice a1 s.items.length c1, .slice a2 s.comms.length c2, .slice a3 s.paths.length c3]] w fun e w' => e = .returned (.int .i64 (errOf (setOk s))) ∧ Ext w w' := by
  have q := fun W (h : Ext w W) => RMay15_any s a1 c1 a2 c2 a3 c3 W (hs.ext h)
  generalize setOk s = ok at *
  obtain ⟨nm0, kd, items, comms, paths⟩ := s
  dsimp only at *
  generalize items.length = n1 at *
  generalize comms.length = n2 at *
  generalize paths.length = n3 at *
  clear hs
  replace q := hide q
  go_enter Tryz.func16, Tryz.ntmps16
  have S := Blk.new w 27 #[.string ⟨nm0.toArray⟩, .int .i64 kd, .slice a1 n1 c1, .slice a2 n2 c2, .slice a3 n3 c3]
  have E := (Ext.refl w).alloc (Obj.cells #[.string ⟨nm0.toArray⟩, .int .i64 kd, .slice a1 n1 c1, .slice a2 n2 c2, .slice a3 n3 c3] 27)
  generalize hW0 : w.alloc (Obj.cells #[.string ⟨nm0.toArray⟩, .int .i64 kd, .slice a1 n1 c1, .slice a2 n2 c2, .slice a3 n3 c3] 27) = W0 at S E
  generalize hg0 : w.heap.size = g0 at S
  replace S := hide S
  replace E := hide E
  have S_0 : W0.cell? ⟨g0, 0, none⟩ = some (.string ⟨nm0.toArray⟩) := S.out.cell 0
  have S_1 : W0.cell? ⟨g0, 1, none⟩ = some (.int .i64 kd) := S.out.cell 1
  have S_2 : W0.cell? ⟨g0, 2, none⟩ = some (.slice a1 n1 c1) := S.out.cell 2
  have S_3 : W0.cell? ⟨g0, 3, none⟩ = some (.slice a2 n2 c2) := S.out.cell 3
  have S_4 : W0.cell? ⟨g0, 4, none⟩ = some (.slice a3 n3 c3) := S.out.cell 4
  go_wp2_with fail
  refine (q.out _ E.out).mono ?_
  rintro e W1 ⟨rfl, he_⟩
  clear S_0 S_1 S_2 S_3 S_4
  replace E := hide (E.out.trans he_)
  replace S := hide (S.out.ext he_)
  clear he_
  have S_0 : W1.cell? ⟨g0, 0, none⟩ = some (.string ⟨nm0.toArray⟩) := S.out.cell 0
  have S_1 : W1.cell? ⟨g0, 1, none⟩ = some (.int .i64 kd) := S.out.cell 1
  have S_2 : W1.cell? ⟨g0, 2, none⟩ = some (.slice a1 n1 c1) := S.out.cell 2
  have S_3 : W1.cell? ⟨g0, 3, none⟩ = some (.slice a2 n2 c2) := S.out.cell 3
  have S_4 : W1.cell? ⟨g0, 4, none⟩ = some (.slice a3 n3 c3) := S.out.cell 4
  clear hW0 hg0
  cases ok <;> (
    go_wp2
    go_ret
    exact ⟨rfl, E.out⟩)
open Go.RowKit Go.Sort

set_option maxRecDepth 20000 in
theorem run_eqI (W : World) (f : Int) (r : Int) (x : List UInt8) (l lo hi : Int) :
    (binOp .eql 36 (.agg #[.int .i64 f, .int .u64 r, .string ⟨x.toArray⟩, .int .i64 l, .int .i64 lo, .int .i64 hi]) (.agg #[.int .i64 f, .int .u64 r, .string ⟨x.toArray⟩, .int .i64 l, .int .i64 lo, .int .i64 hi])).run Tryz.prog W = .ok (.bool true) W := by
  have hS : Tryz.prog.underlying 36 = some (.struct (Tryz.prog.fieldsOf 36)) := by kernel_rfl
  have hP : Tryz.prog.underlying 34 = some (.struct (Tryz.prog.fieldsOf 34)) := by kernel_rfl
  rw [run_eql_struct, run_equalIn_agg W 9999 _ _ _ hS Tryz.stoodInHeld36]
  have eP : ∀ w : World, (Op.equalIn 9999 34 (.agg #[.int .i64 f, .int .u64 r, .string ⟨x.toArray⟩, .int .i64 l]) (.agg #[.int .i64 f, .int .u64 r, .string ⟨x.toArray⟩, .int .i64 l])).run Tryz.prog w = .ok true w := fun w => by
    rw [run_equalIn_agg w 9998 _ _ _ hP Tryz.stoodInHeld34]
    simp only [Program.fieldsOf, Tryz.underlying34]
    have e1 : ∀ (a b : Int) (w : World), (Op.equalIn 9998 3 (.int .i64 a) (.int .i64 b)).run Tryz.prog w = .ok (a == b) w := fun a b w => run_equalIn_int w 9997 _ .i64 .i64 a b Tryz.underlying3
    have e2 : ∀ (a b : Int) (w : World), (Op.equalIn 9998 32 (.int .u64 a) (.int .u64 b)).run Tryz.prog w = .ok (a == b) w := fun a b w => run_equalIn_int w 9997 _ .u64 .u64 a b Tryz.underlying32
    have e3 : ∀ (a b : List UInt8) (w : World), (Op.equalIn 9998 9 (.string ⟨a.toArray⟩) (.string ⟨b.toArray⟩)).run Tryz.prog w = .ok (a == b) w := fun a b w => by
      rw [run_equalIn_string w 9997 _ _ _ Tryz.underlying9, ByteArray.toList_eq, ByteArray.toList_eq]
    simp [Op.eqFields, part, e1, e2, e3]
  simp only [Program.fieldsOf, Tryz.underlying36]
  have e1 : ∀ (a b : Int) (w : World), (Op.equalIn 9999 3 (.int .i64 a) (.int .i64 b)).run Tryz.prog w = .ok (a == b) w := fun a b w => run_equalIn_int w 9998 _ .i64 .i64 a b Tryz.underlying3
  simp [Op.eqFields, part, e1, eP]

theorem run_neqI (W : World) (f : Int) (r : Int) (x : List UInt8) (l lo hi : Int) :
    (binOp .neq 36 (.agg #[.int .i64 f, .int .u64 r, .string ⟨x.toArray⟩, .int .i64 l, .int .i64 lo, .int .i64 hi]) (.agg #[.int .i64 f, .int .u64 r, .string ⟨x.toArray⟩, .int .i64 l, .int .i64 lo, .int .i64 hi])).run Tryz.prog W = .ok (.bool false) W := by
  have h1 := run_eqI W f r x l lo hi
  rw [run_eql_struct] at h1
  rw [run_neq_struct]
  generalize (Op.equalIn 10000 36 (.agg #[.int .i64 f, .int .u64 r, .string ⟨x.toArray⟩, .int .i64 l, .int .i64 lo, .int .i64 hi]) (.agg #[.int .i64 f, .int .u64 r, .string ⟨x.toArray⟩, .int .i64 l, .int .i64 lo, .int .i64 hi])).run Tryz.prog W = q at h1 ⊢
  cases q with
  | ok b w' =>
    simp only [Result.andThen] at h1 ⊢
    injection h1 with e1 e2
    injection e1 with e1
    subst e1
    subst e2
    rfl
  | halt x w' => simp only [Result.andThen] at h1; cases h1
set_option maxRecDepth 20000 in
set_option maxHeartbeats 2000000 in
theorem RSameU_eq (a : Option Addr) (c : Nat) (b : Option Addr) (d : Nat) (p : List UInt32) (w : World) (hp : p.length ≤ 16777216) (hs : Sl EU32 w (· < w.heap.size) a p) (hs2 : Sl EU32 w (· < w.heap.size) b p) :
    Calls Tryz.prog 41 #[.slice a p.length c, .slice b p.length d] w fun e w' => e = .returned (.bool true) ∧ Ext w w' := by
  replace hs := hide hs
  replace hs2 := hide hs2
  go_enter Tryz.func41, Tryz.ntmps41
  go_wp2
  go_loopw [5] (fun i wr => ∃ k : Nat, k ≤ p.length ∧ i = .int .i64 k ∧ Ext w wr) (fun i _ => p.length - (intOf i).toNat)
  case atStart => exact ⟨0, Nat.zero_le _, rfl, Ext.refl _⟩
  case round =>
    obtain ⟨k, hk, rfl, E⟩ := hrel
    by_cases hlt : k < p.length
    · obtain ⟨b1, o1, rfl, _, x0⟩ := EU32.at (hs.out.ext E) k hlt
      obtain ⟨b2, o2, rfl, _, y0⟩ := EU32.at (hs2.out.ext E) k hlt
      generalize p[k].toNat = y at *
      replace E := hide E
      go_wp2_with fail
      go_region
      go_wp2
      go_roundw
      case rel => exact ⟨k + 1, by omega, by go_num, E.out.drew⟩
      case measure => simp [intOf]; omega
    · obtain rfl : k = p.length := by omega
      replace E := hide E
      go_wp2
      go_ret
      exact ⟨rfl, E.out⟩

set_option maxRecDepth 20000 in
set_option maxHeartbeats 4000000 in
theorem RSame15_eq (s : StS) (a1 : Option Addr) (c1 : Nat) (a2 : Option Addr) (c2 : Nat) (a3 : Option Addr) (c3 : Nat) (b1 : Option Addr) (d1 : Nat) (b2 : Option Addr) (d2 : Nat) (b3 : Option Addr) (d3 : Nat) (w : World) (hs : SetIn w (· < w.heap.size) s a1 a2 a3) (ht : SetIn w (· < w.heap.size) s b1 b2 b3) :
    Calls Tryz.prog 11 #[.agg #[.string ⟨s.name.toArray⟩, .int .i64 s.kind, .slice a1 s.items.length c1, .slice a2 s.comms.length c2, .slice a3 s.paths.length c3], .agg #[.string ⟨s.name.toArray⟩, .int .i64 s.kind, .slice b1 s.items.length d1, .slice b2 s.comms.length d2, .slice b3 s.paths.length d3]] w fun e w' => e = .returned (.bool true) ∧ Ext w w' := by
  have mixed : Tryz.prog.follows Departure.mixedOrders = true := by kernel_rfl
  have qc := fun W (h : Ext w W) => RSameU_eq a2 c2 b2 d2 s.comms W hs.nComms (hs.comms.ext h) (ht.comms.ext h)
  have hi1 : ∀ W, Ext w W → Sl EItm W (· < W.heap.size) a1 s.items := fun W h => hs.items.ext h
  have hi2 : ∀ W, Ext w W → Sl EItm W (· < W.heap.size) b1 s.items := fun W h => ht.items.ext h
  have hp1 : ∀ W, Ext w W → Sl EAtm.slice W (· < W.heap.size) a3 s.paths := fun W h => hs.paths.ext h
  have hp2 : ∀ W, Ext w W → Sl EAtm.slice W (· < W.heap.size) b3 s.paths := fun W h => ht.paths.ext h
  have hni := hs.nItems
  have hnp := hs.nPaths
  clear hs ht
  obtain ⟨nm0, kd, items, comms, paths⟩ := s
  dsimp only at *
  replace qc := hide qc
  replace hi1 := hide hi1
  replace hi2 := hide hi2
  replace hp1 := hide hp1
  replace hp2 := hide hp2
  go_enter Tryz.func11, Tryz.ntmps11
  have S := (Blk.new w 27 #[.string ⟨nm0.toArray⟩, .int .i64 kd, .slice a1 items.length c1, .slice a2 comms.length c2, .slice a3 paths.length c3]).alloc (Obj.cells #[.string ⟨nm0.toArray⟩, .int .i64 kd, .slice b1 items.length d1, .slice b2 comms.length d2, .slice b3 paths.length d3] 27)
  have E := ((Ext.refl w).alloc (Obj.cells #[.string ⟨nm0.toArray⟩, .int .i64 kd, .slice a1 items.length c1, .slice a2 comms.length c2, .slice a3 paths.length c3] 27)).alloc (Obj.cells #[.string ⟨nm0.toArray⟩, .int .i64 kd, .slice b1 items.length d1, .slice b2 comms.length d2, .slice b3 paths.length d3] 27)
  have T := Blk.new (w.alloc (Obj.cells #[.string ⟨nm0.toArray⟩, .int .i64 kd, .slice a1 items.length c1, .slice a2 comms.length c2, .slice a3 paths.length c3] 27)) 27 #[.string ⟨nm0.toArray⟩, .int .i64 kd, .slice b1 items.length d1, .slice b2 comms.length d2, .slice b3 paths.length d3]
  rw [show (w.alloc (Obj.cells #[.string ⟨nm0.toArray⟩, .int .i64 kd, .slice a1 items.length c1, .slice a2 comms.length c2, .slice a3 paths.length c3] 27)).heap.size = w.heap.size + 1 by simp] at T
  generalize hW0 : (w.alloc (Obj.cells #[.string ⟨nm0.toArray⟩, .int .i64 kd, .slice a1 items.length c1, .slice a2 comms.length c2, .slice a3 paths.length c3] 27)).alloc (Obj.cells #[.string ⟨nm0.toArray⟩, .int .i64 kd, .slice b1 items.length d1, .slice b2 comms.length d2, .slice b3 paths.length d3] 27) = W0 at S E T
  generalize hg0 : w.heap.size = g0 at S T
  replace S := hide S
  replace E := hide E
  replace T := hide T
  have S_0 : W0.cell? ⟨g0, 0, none⟩ = some (.string ⟨nm0.toArray⟩) := S.out.cell 0
  have S_1 : W0.cell? ⟨g0, 1, none⟩ = some (.int .i64 kd) := S.out.cell 1
  have S_2 : W0.cell? ⟨g0, 2, none⟩ = some (.slice a1 items.length c1) := S.out.cell 2
  have S_3 : W0.cell? ⟨g0, 3, none⟩ = some (.slice a2 comms.length c2) := S.out.cell 3
  have S_4 : W0.cell? ⟨g0, 4, none⟩ = some (.slice a3 paths.length c3) := S.out.cell 4
  have T_0 : W0.cell? ⟨g0 + 1, 0, none⟩ = some (.string ⟨nm0.toArray⟩) := T.out.cell 0
  have T_1 : W0.cell? ⟨g0 + 1, 1, none⟩ = some (.int .i64 kd) := T.out.cell 1
  have T_2 : W0.cell? ⟨g0 + 1, 2, none⟩ = some (.slice b1 items.length d1) := T.out.cell 2
  have T_3 : W0.cell? ⟨g0 + 1, 3, none⟩ = some (.slice b2 comms.length d2) := T.out.cell 3
  have T_4 : W0.cell? ⟨g0 + 1, 4, none⟩ = some (.slice b3 paths.length d3) := T.out.cell 4
  go_wp2_with fail
  refine (qc.out _ E.out).mono ?_
  rintro e W1 ⟨rfl, he⟩
  clear hW0 hg0
  have S : Blk W1 (g0) 27 #[.string ⟨nm0.toArray⟩, .int .i64 kd, .slice a1 items.length c1, .slice a2 comms.length c2, .slice a3 paths.length c3] := S.out.ext he
  replace S := hide S
  have T : Blk W1 (g0 + 1) 27 #[.string ⟨nm0.toArray⟩, .int .i64 kd, .slice b1 items.length d1, .slice b2 comms.length d2, .slice b3 paths.length d3] := T.out.ext he
  replace T := hide T
  replace E := hide (E.out.trans he)
  clear he
  clear S_0 S_1 S_2 S_3 S_4 T_0 T_1 T_2 T_3 T_4
  have S_0 : W1.cell? ⟨g0, 0, none⟩ = some (.string ⟨nm0.toArray⟩) := S.out.cell 0
  have S_1 : W1.cell? ⟨g0, 1, none⟩ = some (.int .i64 kd) := S.out.cell 1
  have S_2 : W1.cell? ⟨g0, 2, none⟩ = some (.slice a1 items.length c1) := S.out.cell 2
  have S_3 : W1.cell? ⟨g0, 3, none⟩ = some (.slice a2 comms.length c2) := S.out.cell 3
  have S_4 : W1.cell? ⟨g0, 4, none⟩ = some (.slice a3 paths.length c3) := S.out.cell 4
  have T_0 : W1.cell? ⟨g0 + 1, 0, none⟩ = some (.string ⟨nm0.toArray⟩) := T.out.cell 0
  have T_1 : W1.cell? ⟨g0 + 1, 1, none⟩ = some (.int .i64 kd) := T.out.cell 1
  have T_2 : W1.cell? ⟨g0 + 1, 2, none⟩ = some (.slice b1 items.length d1) := T.out.cell 2
  have T_3 : W1.cell? ⟨g0 + 1, 3, none⟩ = some (.slice b2 comms.length d2) := T.out.cell 3
  have T_4 : W1.cell? ⟨g0 + 1, 4, none⟩ = some (.slice b3 paths.length d3) := T.out.cell 4
  go_wp2_with fail
  go_loopw [5] (fun i wr => ∃ k : Nat, k ≤ items.length ∧ i = .int .i64 k ∧ Ext W1 wr) (fun i _ => items.length - (intOf i).toNat)
  case atStart => exact ⟨0, Nat.zero_le _, rfl, Ext.refl _⟩
  case round =>
    clear S_0 S_1 S_2 S_3 S_4 T_0 T_1 T_2 T_3 T_4
    obtain ⟨k, hk, rfl, hE⟩ := hrel
    have S : Blk wr (g0) 27 #[.string ⟨nm0.toArray⟩, .int .i64 kd, .slice a1 items.length c1, .slice a2 comms.length c2, .slice a3 paths.length c3] := S.out.ext hE
    replace S := hide S
    have T : Blk wr (g0 + 1) 27 #[.string ⟨nm0.toArray⟩, .int .i64 kd, .slice b1 items.length d1, .slice b2 comms.length d2, .slice b3 paths.length d3] := T.out.ext hE
    replace T := hide T
    have E1 := hide (E.out.trans hE)
    have S_0 : wr.cell? ⟨g0, 0, none⟩ = some (.string ⟨nm0.toArray⟩) := S.out.cell 0
    have S_1 : wr.cell? ⟨g0, 1, none⟩ = some (.int .i64 kd) := S.out.cell 1
    have S_2 : wr.cell? ⟨g0, 2, none⟩ = some (.slice a1 items.length c1) := S.out.cell 2
    have S_3 : wr.cell? ⟨g0, 3, none⟩ = some (.slice a2 comms.length c2) := S.out.cell 3
    have S_4 : wr.cell? ⟨g0, 4, none⟩ = some (.slice a3 paths.length c3) := S.out.cell 4
    have T_0 : wr.cell? ⟨g0 + 1, 0, none⟩ = some (.string ⟨nm0.toArray⟩) := T.out.cell 0
    have T_1 : wr.cell? ⟨g0 + 1, 1, none⟩ = some (.int .i64 kd) := T.out.cell 1
    have T_2 : wr.cell? ⟨g0 + 1, 2, none⟩ = some (.slice b1 items.length d1) := T.out.cell 2
    have T_3 : wr.cell? ⟨g0 + 1, 3, none⟩ = some (.slice b2 comms.length d2) := T.out.cell 3
    have T_4 : wr.cell? ⟨g0 + 1, 4, none⟩ = some (.slice b3 paths.length d3) := T.out.cell 4
    by_cases hlt : k < items.length
    · obtain ⟨b, off, rfl, _, hin, hc⟩ := EItm.at (hi1.out wr E1.out) k hlt
      obtain ⟨b', off', rfl, _, _, hc'⟩ := EItm.at (hi2.out wr E1.out) k hlt
      have x0 : wr.cell? ⟨b, off + k * 6, none⟩ = some (.int .i64 items[k].p.fam) := hc 0 _ rfl
      have x1 : wr.cell? ⟨b, off + k * 6 + 1, none⟩ = some (.int .u64 (items[k].p.rd : Int)) := hc 1 _ rfl
      have x2 : wr.cell? ⟨b, off + k * 6 + 2, none⟩ = some (.string ⟨items[k].p.addr.toArray⟩) := hc 2 _ rfl
      have x3 : wr.cell? ⟨b, off + k * 6 + 3, none⟩ = some (.int .i64 items[k].p.len) := hc 3 _ rfl
      have x4 : wr.cell? ⟨b, off + k * 6 + 4, none⟩ = some (.int .i64 items[k].low) := hc 4 _ rfl
      have x5 : wr.cell? ⟨b, off + k * 6 + 5, none⟩ = some (.int .i64 items[k].high) := hc 5 _ rfl
      have y0 : wr.cell? ⟨b', off' + k * 6, none⟩ = some (.int .i64 items[k].p.fam) := hc' 0 _ rfl
      have y1 : wr.cell? ⟨b', off' + k * 6 + 1, none⟩ = some (.int .u64 (items[k].p.rd : Int)) := hc' 1 _ rfl
      have y2 : wr.cell? ⟨b', off' + k * 6 + 2, none⟩ = some (.string ⟨items[k].p.addr.toArray⟩) := hc' 2 _ rfl
      have y3 : wr.cell? ⟨b', off' + k * 6 + 3, none⟩ = some (.int .i64 items[k].p.len) := hc' 3 _ rfl
      have y4 : wr.cell? ⟨b', off' + k * 6 + 4, none⟩ = some (.int .i64 items[k].low) := hc' 4 _ rfl
      have y5 : wr.cell? ⟨b', off' + k * 6 + 5, none⟩ = some (.int .i64 items[k].high) := hc' 5 _ rfl
      have heq := fun W => run_neqI W items[k].p.fam (items[k].p.rd : Int) items[k].p.addr items[k].p.len items[k].low items[k].high
      have heg : ∀ x y xs ys W, (eqGuard .neq 36 x y (.agg xs) (.agg ys)).run Tryz.prog W = .ok () W := fun x y xs ys W => run_eqGuard_agg W .neq _ x y xs ys Tryz.eqGuardType36
      clear hc hc' hin
      generalize items[k] = x at *
      replace hE := hide hE
      go_wp2_with fail
      go_region
      go_wp2
      go_roundw
      case rel => exact ⟨k + 1, by omega, by go_num, hE.out.drew⟩
      case measure => simp [intOf]; omega
    · obtain rfl : k = items.length := by omega
      clear hi1 hi2 hlt hk
      replace hE := hide hE
      go_wp2_with fail
      go_loopw [6] (fun i wq => ∃ k : Nat, k ≤ paths.length ∧ i = .int .i64 k ∧ Ext wr wq) (fun i _ => paths.length - (intOf i).toNat)
      case atStart => exact ⟨0, Nat.zero_le _, rfl, Ext.refl _⟩
      case round =>
        clear S_0 S_1 S_2 S_3 S_4 T_0 T_1 T_2 T_3 T_4
        obtain ⟨k, hk, rfl, hF⟩ := hrel
        have S : Blk wr (g0) 27 #[.string ⟨nm0.toArray⟩, .int .i64 kd, .slice a1 items.length c1, .slice a2 comms.length c2, .slice a3 paths.length c3] := S.out.ext hF
        replace S := hide S
        have T : Blk wr (g0 + 1) 27 #[.string ⟨nm0.toArray⟩, .int .i64 kd, .slice b1 items.length d1, .slice b2 comms.length d2, .slice b3 paths.length d3] := T.out.ext hF
        replace T := hide T
        have E2 := hide (E1.out.trans hF)
        have S_0 : wr.cell? ⟨g0, 0, none⟩ = some (.string ⟨nm0.toArray⟩) := S.out.cell 0
        have S_1 : wr.cell? ⟨g0, 1, none⟩ = some (.int .i64 kd) := S.out.cell 1
        have S_2 : wr.cell? ⟨g0, 2, none⟩ = some (.slice a1 items.length c1) := S.out.cell 2
        have S_3 : wr.cell? ⟨g0, 3, none⟩ = some (.slice a2 comms.length c2) := S.out.cell 3
        have S_4 : wr.cell? ⟨g0, 4, none⟩ = some (.slice a3 paths.length c3) := S.out.cell 4
        have T_0 : wr.cell? ⟨g0 + 1, 0, none⟩ = some (.string ⟨nm0.toArray⟩) := T.out.cell 0
        have T_1 : wr.cell? ⟨g0 + 1, 1, none⟩ = some (.int .i64 kd) := T.out.cell 1
        have T_2 : wr.cell? ⟨g0 + 1, 2, none⟩ = some (.slice b1 items.length d1) := T.out.cell 2
        have T_3 : wr.cell? ⟨g0 + 1, 3, none⟩ = some (.slice b2 comms.length d2) := T.out.cell 3
        have T_4 : wr.cell? ⟨g0 + 1, 4, none⟩ = some (.slice b3 paths.length d3) := T.out.cell 4
        by_cases hlt : k < paths.length
        · obtain ⟨b, off, ak, ck, rfl, _, x0, hm, hsk⟩ := EPat.at (hp1.out wr E2.out) k hlt
          obtain ⟨b', off', ak', ck', rfl, _, y0, _, hsk'⟩ := EPat.at (hp2.out wr E2.out) k hlt
          have qk := fun W (h : Ext wr W) => RSameAtoms_any ak ck paths[k] ak' ck' paths[k] W hm hm (hsk.ext h) (hsk'.ext h)
          simp only [decide_true] at qk
          generalize paths[k].length = nk at *
          have hF' := hide hF
          have E0 := hide (Ext.refl wr)
          clear hF hm hsk hsk'
          replace qk := hide qk
          go_wp2_with fail
          clear S_0 S_1 S_2 S_3 S_4 T_0 T_1 T_2 T_3 T_4
          replace x0 := fun d os => cell_regrown x0 d os
          replace y0 := fun d os => cell_regrown y0 d os
          have S_0 : ∀ d os, (grow (redrawn wr d) os).cell? ⟨g0, 0, none⟩ = some (.string ⟨nm0.toArray⟩) := cell_regrown (S.out.cell 0)
          have S_1 : ∀ d os, (grow (redrawn wr d) os).cell? ⟨g0, 1, none⟩ = some (.int .i64 kd) := cell_regrown (S.out.cell 1)
          have S_2 : ∀ d os, (grow (redrawn wr d) os).cell? ⟨g0, 2, none⟩ = some (.slice a1 items.length c1) := cell_regrown (S.out.cell 2)
          have S_3 : ∀ d os, (grow (redrawn wr d) os).cell? ⟨g0, 3, none⟩ = some (.slice a2 comms.length c2) := cell_regrown (S.out.cell 3)
          have S_4 : ∀ d os, (grow (redrawn wr d) os).cell? ⟨g0, 4, none⟩ = some (.slice (some ⟨b, off, none⟩) paths.length c3) := cell_regrown (S.out.cell 4)
          have T_0 : ∀ d os, (grow (redrawn wr d) os).cell? ⟨g0 + 1, 0, none⟩ = some (.string ⟨nm0.toArray⟩) := cell_regrown (T.out.cell 0)
          have T_1 : ∀ d os, (grow (redrawn wr d) os).cell? ⟨g0 + 1, 1, none⟩ = some (.int .i64 kd) := cell_regrown (T.out.cell 1)
          have T_2 : ∀ d os, (grow (redrawn wr d) os).cell? ⟨g0 + 1, 2, none⟩ = some (.slice b1 items.length d1) := cell_regrown (T.out.cell 2)
          have T_3 : ∀ d os, (grow (redrawn wr d) os).cell? ⟨g0 + 1, 3, none⟩ = some (.slice b2 comms.length d2) := cell_regrown (T.out.cell 3)
          have T_4 : ∀ d os, (grow (redrawn wr d) os).cell? ⟨g0 + 1, 4, none⟩ = some (.slice (some ⟨b', off', none⟩) paths.length d3) := cell_regrown (T.out.cell 4)
          have cq0 := Calls.regrE qk.out E0.out
          refine wp_region_quiet_below (by assumption) (by kernel_rfl) ?_
          repeat (go_big_quiet_step (first | (with_reducible exact cq0 _ _)))
          refine wpQuiet_nil ?_
          intro _ hw_
          obtain ⟨⟨dq_, osq_⟩, hw_'⟩ := hw_
          subst hw_'
          replace hF' := hide (hF'.out.trans (below_regrown _ dq_ osq_))
          replace S := hide (S.out.ext (below_regrown _ dq_ osq_))
          replace T := hide (T.out.ext (below_regrown _ dq_ osq_))
          clear S_0 S_1 S_2 S_3 S_4 T_0 T_1 T_2 T_3 T_4
          clear cq0
          generalize grow (redrawn wr dq_) osq_ = W5 at hF' S T ⊢
          have S_0 : W5.cell? ⟨g0, 0, none⟩ = some (.string ⟨nm0.toArray⟩) := S.out.cell 0
          have S_1 : W5.cell? ⟨g0, 1, none⟩ = some (.int .i64 kd) := S.out.cell 1
          have S_2 : W5.cell? ⟨g0, 2, none⟩ = some (.slice a1 items.length c1) := S.out.cell 2
          have S_3 : W5.cell? ⟨g0, 3, none⟩ = some (.slice a2 comms.length c2) := S.out.cell 3
          have S_4 : W5.cell? ⟨g0, 4, none⟩ = some (.slice (some ⟨b, off, none⟩) paths.length c3) := S.out.cell 4
          have T_0 : W5.cell? ⟨g0 + 1, 0, none⟩ = some (.string ⟨nm0.toArray⟩) := T.out.cell 0
          have T_1 : W5.cell? ⟨g0 + 1, 1, none⟩ = some (.int .i64 kd) := T.out.cell 1
          have T_2 : W5.cell? ⟨g0 + 1, 2, none⟩ = some (.slice b1 items.length d1) := T.out.cell 2
          have T_3 : W5.cell? ⟨g0 + 1, 3, none⟩ = some (.slice b2 comms.length d2) := T.out.cell 3
          have T_4 : W5.cell? ⟨g0 + 1, 4, none⟩ = some (.slice (some ⟨b', off', none⟩) paths.length d3) := T.out.cell 4
          clear x0 y0
          go_wp2
          go_roundw
          case rel => exact ⟨k + 1, by omega, by go_num, hF'.out⟩
          case measure => simp [intOf]; omega
        · obtain rfl : k = paths.length := by omega
          replace hF := hide hF
          go_wp2
          go_ret
          exact ⟨rfl, E2.out⟩
end Go.Proofs.YtoghdmoldcjedaaGreatDoor
