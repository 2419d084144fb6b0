/- Walks: may a set be (sets.Check). -/
import Derived.Test.YtljibkfbldjgdaaGreatDoorVC
namespace Go.Proofs.YtljibkfbldjgdaaGreatDoor
open Go.RowKit Go.Sort
set_option linter.unusedVariables false

theorem all_not {α : Type} (l : List α) (f : α → Bool) : (l.any fun x => !f x) = !l.all f := by
  induction l with
  | nil => rfl
  | cons x r ih => rw [List.any_cons, List.all_cons, ih]; cases f x <;> rfl
theorem empty_dec {α : Type} (l : List α) : l.isEmpty = !decide (0 < l.length) := by cases l <;> rfl
theorem setOk_cases (s : StS) : ∃ nm b1 b2 b3 c1 c3 bi bp co r : Bool, nameOk s.name = nm ∧ decide (0 < s.items.length) = b1 ∧ decide (0 < s.comms.length) = b2 ∧ decide (0 < s.paths.length) = b3 ∧ decide ((s.items.length : Int) ≤ 64) = c1 ∧ decide ((s.paths.length : Int) ≤ 64) = c3 ∧
    (s.items.any fun x => !decide (itmOk x)) = bi ∧ (s.paths.any fun x => !atmsOk x) = bp ∧ commsOk s.comms = co ∧ setOk s = r ∧
    ((s.kind = 1 ∧ (nm && ((!b2 && !b3) && (c1 && !bi))) = r) ∨ (s.kind = 2 ∧ (nm && ((!b1 && !b3) && co)) = r) ∨ (s.kind = 3 ∧ (nm && ((!b1 && !b2) && (c3 && !bp))) = r) ∨ ((s.kind == 1) = false ∧ (s.kind == 2) = false ∧ (s.kind == 3) = false ∧ false = r)) := by
  refine ⟨_, _, _, _, _, _, _, _, _, _, rfl, rfl, rfl, rfl, rfl, rfl, rfl, rfl, rfl, rfl, ?_⟩
  unfold setOk itmsOk pathsOk
  rw [all_not, all_not, empty_dec, empty_dec, empty_dec, Bool.not_not, Bool.not_not]
  rw [show decide ((s.items.length : Int) ≤ 64) = decide (s.items.length ≤ 64) from decide_eq_decide.2 (by omega), show decide ((s.paths.length : Int) ≤ 64) = decide (s.paths.length ≤ 64) from decide_eq_decide.2 (by omega)]
  by_cases h1 : s.kind = 1
  · refine .inl ⟨h1, ?_⟩
    rw [if_pos h1]
    generalize nameOk s.name = a
    generalize decide (0 < s.comms.length) = b
    generalize decide (0 < s.paths.length) = c
    generalize decide (s.items.length ≤ 64) = d
    generalize (s.items.all fun x => decide (itmOk x)) = e
    revert a b c d e
    decide
  · rw [if_neg h1]
    by_cases h2 : s.kind = 2
    · refine .inr (.inl ⟨h2, ?_⟩)
      rw [if_pos h2]
      generalize nameOk s.name = a
      generalize decide (0 < s.items.length) = b
      generalize decide (0 < s.paths.length) = c
      generalize commsOk s.comms = d
      revert a b c d
      decide
    · rw [if_neg h2]
      by_cases h3 : s.kind = 3
      · refine .inr (.inr (.inl ⟨h3, ?_⟩))
        rw [if_pos h3]
        generalize nameOk s.name = a
        generalize decide (0 < s.items.length) = b
        generalize decide (0 < s.comms.length) = c
        generalize decide (s.paths.length ≤ 64) = d
        generalize (s.paths.all fun x => atmsOk x) = e
        revert a b c d e
        decide
      · rw [if_neg h3, Bool.and_false]
        exact .inr (.inr (.inr ⟨beq_eq_false_iff_ne.2 h1, beq_eq_false_iff_ne.2 h2, beq_eq_false_iff_ne.2 h3, rfl⟩))
set_option maxRecDepth 20000 in
set_option maxHeartbeats 8000000 in
theorem SCheck_any (s : StS) (a1 : Option Addr) (c1 : Nat) (a2 : Option Addr) (c2 : Nat) (a3 : Option Addr) (c3 : Nat) (w : World) (hs : SetIn w (· < w.heap.size) s a1 a2 a3) :
    Calls Tryz.prog 68 #[.agg #[.string ⟨s.name.toArray⟩, .int .i64 s.kind, .slice a1 s.items.length c1, .slice a2 s.comms.length c2, .slice a3 s.paths.length c3]] w fun e w' => e = .returned (.int .i64 (errOf (setOk s))) ∧ Ext w w' := by
  have mixed : Tryz.prog.follows Departure.mixedOrders = true := by kernel_rfl
  obtain ⟨nm, b1, b2, b3, d1, d3, bi, bp, co, r, e0, e1, e2, e3, f1, f3, ei, ep, ec, er, hcs⟩ := setOk_cases s
  have qn := fun W => Named_any s.name W
  rw [e0] at qn
  have qi := fun W (h : Ext w W) => HasItm_any 115 #[] (fun _ _ => rfl) (fun x => !decide (itmOk x)) a1 c1 s.items W hs.nItems (hs.items.ext h) (fun x _ hx W _ => Check1_any x hx.p.addr W)
  rw [ei] at qi
  have qp := fun W (h : Ext w W) => HasPat_any 119 #[] (fun _ _ => rfl) (fun x => !atmsOk x) a3 c3 s.paths W hs.nPaths (hs.paths.ext h) (fun x _ W b d _ hl hx => Check2_any b d x W hl hx)
  rw [ep] at qp
  have qc := fun W (h : Ext w W) => Encode_any a2 c2 s.comms W hs.nComms (hs.comms.ext h)
  rw [ec] at qc
  rw [er]
  clear hs e0 ei ep ec er
  obtain ⟨nm0, kd, items, comms, paths⟩ := s
  dsimp only at *
  generalize items.length = n1 at *
  generalize comms.length = n2 at *
  generalize paths.length = n3 at *
  replace qn := hide qn
  replace qi := hide qi
  replace qp := hide qp
  replace qc := hide qc
  replace hcs := hide hcs
  go_enter Tryz.func68, Tryz.ntmps68
  have S := Blk.new w 67 #[.string ⟨nm0.toArray⟩, .int .i64 kd, .slice a1 n1 c1, .slice a2 n2 c2, .slice a3 n3 c3]
  have E := (Ext.refl w).alloc (Obj.cells #[.string ⟨nm0.toArray⟩, .int .i64 kd, .slice a1 n1 c1, .slice a2 n2 c2, .slice a3 n3 c3] 67)
  generalize hW0 : w.alloc (Obj.cells #[.string ⟨nm0.toArray⟩, .int .i64 kd, .slice a1 n1 c1, .slice a2 n2 c2, .slice a3 n3 c3] 67) = W0 at S E
  generalize hg0 : w.heap.size = g0 at S
  replace S := hide S
  replace E := hide E
  have S_0 : W0.cell? ⟨g0, 0, none⟩ = some (.string ⟨nm0.toArray⟩) := S.out.cell 0
  have S_1 : W0.cell? ⟨g0, 1, none⟩ = some (.int .i64 kd) := S.out.cell 1
  have S_2 : W0.cell? ⟨g0, 2, none⟩ = some (.slice a1 n1 c1) := S.out.cell 2
  have S_3 : W0.cell? ⟨g0, 3, none⟩ = some (.slice a2 n2 c2) := S.out.cell 3
  have S_4 : W0.cell? ⟨g0, 4, none⟩ = some (.slice a3 n3 c3) := S.out.cell 4
  cases b1 <;> cases b2 <;> cases b3 <;> (
    go_wp2_with fail
    refine (qn.out _).mono ?_
    rintro e W1 ⟨rfl, he_⟩
    clear S_0 S_1 S_2 S_3 S_4
    replace E := hide (E.out.trans he_)
    replace S := hide (S.out.ext he_)
    clear he_
    have S_0 : W1.cell? ⟨g0, 0, none⟩ = some (.string ⟨nm0.toArray⟩) := S.out.cell 0
    have S_1 : W1.cell? ⟨g0, 1, none⟩ = some (.int .i64 kd) := S.out.cell 1
    have S_2 : W1.cell? ⟨g0, 2, none⟩ = some (.slice a1 n1 c1) := S.out.cell 2
    have S_3 : W1.cell? ⟨g0, 3, none⟩ = some (.slice a2 n2 c2) := S.out.cell 3
    have S_4 : W1.cell? ⟨g0, 4, none⟩ = some (.slice a3 n3 c3) := S.out.cell 4
    clear hW0 hg0
    rcases hcs.out with ⟨rfl, hr⟩ | ⟨rfl, hr⟩ | ⟨rfl, hr⟩ | ⟨k1, k2, k3, hr⟩
    · subst hr
      clear hcs qp qc
      cases nm <;> first
        | (go_wp2; go_ret; exact ⟨rfl, E.out⟩)
        | (cases d1 <;> first
          | (go_wp2; go_ret; exact ⟨rfl, E.out⟩)
          | (cases bi <;> (go_wp2_with (go_at_call 114; refine (qi.out _ E.out).mono ?_; rintro e W2 ⟨rfl, he2⟩; replace E := hide (E.out.trans he2)); go_ret; exact ⟨rfl, E.out⟩)))
    · subst hr
      clear hcs qp qi
      cases co <;> (
        have qc' := qc.out
        simp only [show errOf true = 0 from rfl, show errOf false = 2 from rfl] at qc'
        clear qc
        replace qc' := hide qc'
        cases nm <;> (go_wp2_with (go_at_call 117; refine (qc'.out _ E.out).mono ?_; rintro e W2 ⟨⟨t, rfl⟩, he2⟩; replace E := hide (E.out.trans he2)); go_ret; exact ⟨rfl, E.out⟩))
    · subst hr
      clear hcs qi qc
      cases nm <;> first
        | (go_wp2; go_ret; exact ⟨rfl, E.out⟩)
        | (cases d3 <;> first
          | (go_wp2; go_ret; exact ⟨rfl, E.out⟩)
          | (cases bp <;> (go_wp2_with (go_at_call 118; refine (qp.out _ E.out).mono ?_; rintro e W2 ⟨rfl, he2⟩; replace E := hide (E.out.trans he2)); go_ret; exact ⟨rfl, E.out⟩)))
    · subst hr
      clear hcs qi qc qp
      go_wp2
      go_ret
      exact ⟨rfl, E.out⟩)
end Go.Proofs.YtljibkfbldjgdaaGreatDoor
