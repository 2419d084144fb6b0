/- Chapter 16, walks: the document's Same and Own of policies. Arguments of chapter 16, opened: policies, with what their slices' capacities are. -/
import Derived.Test.YtljibkfbldjgdaaGreatDoorFO
import Derived.Test.YtljibkfbldjgdaaGreatDoorFH
import Derived.Test.YtljibkfbldjgdaaGreatDoorFL
import Derived.Test.YtljibkfbldjgdaaGreatDoorVZ
namespace Go.Proofs.YtljibkfbldjgdaaGreatDoor
section
open Go.RowKit Go.Sort
set_option linter.unusedVariables false

theorem ETermC.at {w : World} {S : Nat → Prop} {a : Option Addr} {l : List TermS} (h : Sl ETermC w S a l) (k : Nat) (hk : k < l.length) :
    ∃ b off a1 c1 a2 c2, a = some ⟨b, off, none⟩ ∧ S b ∧ w.cell? ⟨b, off + k * 2, none⟩ = some (.slice a1 l[k].conds.length c1) ∧ w.cell? ⟨b, off + k * 2 + 1, none⟩ = some (.slice a2 l[k].acts.length c2) ∧
      l[k].conds.length ≤ 16777216 ∧ Sl ECond w S a1 l[k].conds ∧ l[k].acts.length ≤ 16777216 ∧ Sl EAct w S a2 l[k].acts ∧ l[k].conds.length ≤ c1 ∧ l[k].acts.length ≤ c2 := by
  obtain ⟨b, off, cs, rfl, hb, ⟨c, d, rfl, ⟨a1, c1, rfl, n1, u1, _, s1⟩, ⟨a2, c2, rfl, n2, u2, _, s2⟩⟩, hc⟩ := h.at k hk
  exact ⟨b, off, a1, c1, a2, c2, rfl, hb, hc 0 _ rfl, hc 1 _ rfl, n1, s1, n2, s2, u1, u2⟩
theorem ETermC.weak {w : World} {S : Nat → Prop} {x : TermS} {cs : List Value} (h : ETermC.R w S x cs) : ETerm.R w S x cs := by
  obtain ⟨c, d, rfl, h1, h2⟩ := h
  exact ⟨c, d, rfl, sliceC_weak h1, sliceC_weak h2⟩
theorem Sl.weakT {w : World} {S : Nat → Prop} {a : Option Addr} {l : List TermS} (h : Sl ETermC w S a l) : Sl ETerm w S a l := Sl.of (E := ETermC) (F := ETerm) rfl (fun h => ETermC.weak h) h
theorem okTermC : ElemOk Tryz.prog 33 25 ETermC.sz 48 := elemOk (z := .agg #[.slice none 0 0, .slice none 0 0]) Tryz.underlying33 (by kernel_rfl) rfl

set_option maxRecDepth 20000 in
set_option maxHeartbeats 4000000 in
theorem DSame16_any (p : PolS) (a : Option Addr) (ca : Nat) (q : PolS) (b : Option Addr) (cb : Nat) (w : World) (hl : p.terms.length ≤ 16777216) (hm : q.terms.length ≤ 16777216)
    (s1 : Sl ETerm w (· < w.heap.size) a p.terms) (s2 : Sl ETerm w (· < w.heap.size) b q.terms) :
    Calls Tryz.prog 17 #[.agg #[.string ⟨p.name.toArray⟩, .slice a p.terms.length ca, .bool p.els], .agg #[.string ⟨q.name.toArray⟩, .slice b q.terms.length cb, .bool q.els]] w fun e w' => e = .returned (.bool (samePol p q)) ∧ Ext w w' := by
  have mixed : Tryz.prog.follows Departure.mixedOrders = true := by kernel_rfl
  unfold samePol
  obtain ⟨n1, l, e1⟩ := p
  obtain ⟨n2, m, e2⟩ := q
  dsimp only at *
  have S := (Blk.new w 35 #[.string ⟨n1.toArray⟩, .slice a l.length ca, .bool e1]).alloc (Obj.cells #[.string ⟨n2.toArray⟩, .slice b m.length cb, .bool e2] 35)
  have T := Blk.new (w.alloc (Obj.cells #[.string ⟨n1.toArray⟩, .slice a l.length ca, .bool e1] 35)) 35 #[.string ⟨n2.toArray⟩, .slice b m.length cb, .bool e2]
  have E := ((Ext.refl w).alloc (Obj.cells #[.string ⟨n1.toArray⟩, .slice a l.length ca, .bool e1] 35)).alloc (Obj.cells #[.string ⟨n2.toArray⟩, .slice b m.length cb, .bool e2] 35)
  rw [show (w.alloc (Obj.cells #[.string ⟨n1.toArray⟩, .slice a l.length ca, .bool e1] 35)).heap.size = w.heap.size + 1 by simp] at T
  by_cases hn : n1 = n2
  case neg =>
    have hnb : (n1 == n2) = false := by rw [beq_eq_false_iff_ne]; exact hn
    rw [decide_eq_false hn, Bool.false_and]
    clear s1 s2 S T
    replace E := hide E
    go_enter Tryz.func17, Tryz.ntmps17
    go_wp2_with fail
    go_ret
    exact ⟨rfl, E.out⟩
  subst hn
  by_cases he : e1 = e2
  case neg =>
    have heb : (e1 == e2) = false := by rw [beq_eq_false_iff_ne]; exact he
    rw [decide_eq_false he, Bool.false_and, Bool.and_false]
    clear s1 s2 S T
    replace E := hide E
    go_enter Tryz.func17, Tryz.ntmps17
    go_wp2_with fail
    go_ret
    exact ⟨rfl, E.out⟩
  subst he
  rw [decide_eq_true rfl, decide_eq_true rfl, Bool.true_and, Bool.true_and]
  by_cases hn : l.length = m.length
  case neg =>
    rw [decide_eq_false fun e => hn (by rw [e])]
    have g1 : ((l.length : Int) == (m.length : Int)) = false := by rw [beq_eq_false_iff_ne]; omega
    clear s1 s2 S T
    replace E := hide E
    go_enter Tryz.func17, Tryz.ntmps17
    go_wp2_with fail
    go_ret
    exact ⟨rfl, E.out⟩
  clear hm
  rw [← hn] at S T E ⊢
  generalize hW0 : ((w.alloc (Obj.cells #[.string ⟨n1.toArray⟩, .slice a l.length ca, .bool e1] 35))).alloc (Obj.cells #[.string ⟨n1.toArray⟩, .slice b l.length cb, .bool e1] 35) = W0 at S T E
  have s1' := s1.ext E
  have s2' := s2.ext E
  clear s1 s2
  generalize hg0 : w.heap.size = g0 at S T
  replace S := hide S
  replace T := hide T
  replace E := hide E
  replace s1' := hide s1'
  replace s2' := hide s2'
  replace hn := hide hn
  go_enter Tryz.func17, Tryz.ntmps17
  have S_0 : W0.cell? ⟨g0, 0, none⟩ = some (.string ⟨n1.toArray⟩) := S.out.cell 0
  have S_1 : W0.cell? ⟨g0, 1, none⟩ = some (.slice a l.length ca) := S.out.cell 1
  have S_2 : W0.cell? ⟨g0, 2, none⟩ = some (.bool e1) := S.out.cell 2
  have T_0 : W0.cell? ⟨g0 + 1, 0, none⟩ = some (.string ⟨n1.toArray⟩) := T.out.cell 0
  have T_1 : W0.cell? ⟨g0 + 1, 1, none⟩ = some (.slice b l.length cb) := T.out.cell 1
  have T_2 : W0.cell? ⟨g0 + 1, 2, none⟩ = some (.bool e1) := T.out.cell 2
  go_wp2_with fail
  clear S_0 S_1 S_2 T_0 T_1 T_2
  clear hW0 hg0
  go_loopw [5] (fun i wr => ∃ k : Nat, k ≤ l.length ∧ i = .int .i64 k ∧ Ext W0 wr ∧ l.take k = m.take k) (fun i _ => l.length - (intOf i).toNat)
  case atStart => exact ⟨0, Nat.zero_le _, rfl, Ext.refl _, rfl⟩
  case round =>
    obtain ⟨k, hk, rfl, hE, htk⟩ := hrel
    have S1 := S.out.ext hE
    have T1 := T.out.ext hE
    have g1 : wr.cell? ⟨g0, 1, none⟩ = some (.slice a l.length ca) := S1.cell 1
    by_cases hlt : k < l.length
    · obtain ⟨b1, o1, x1, p1, x2, p2, rfl, _, i1, i2, n3, r1, n4, r2⟩ := ETerm.at (s1'.out.ext hE) k hlt
      obtain ⟨b2, o2, y1, q1, y2, q2, rfl, _, f1, f2, n5, r3, n6, r4⟩ := ETerm.at (s2'.out.ext hE) k (hn.out ▸ hlt)
      have hst := take_step htk hlt (hn.out ▸ hlt)
      have hne : ¬ l[k] = m[k]'(hn.out ▸ hlt) → ¬ l = m := fun h e => h (by subst e; rfl)
      generalize l[k] = x at *
      generalize m[k]'(hn.out ▸ hlt) = y at *
      have qs := fun W (h : Ext wr W) => DSameTerm_any x1 p1 x2 p2 x y1 q1 y2 q2 y W n3 n4 n5 n6 (r1.ext h) (r2.ext h) (r3.ext h) (r4.ext h)
      have hb : (decide (x = y) = true → x = y) ∧ (decide (x = y) = false → ¬ x = y) := ⟨of_decide_eq_true, of_decide_eq_false⟩
      generalize decide (x = y) = bb at *
      clear n3 n4 n5 n6 r1 r2 r3 r4
      have E2 := hE
      have er := Ext.refl wr
      have hk10 : k < l.length := hlt
      replace hE := hide hE
      replace hst := hide hst
      replace hne := hide hne
      replace htk := hide htk
      replace qs := hide qs
      replace hb := hide hb
      replace E2 := hide E2
      replace er := hide er
      replace S1 := hide S1
      replace T1 := hide T1
      go_wp2_with fail
      clear g1
      have i1r := cell_regrown i1
      have i2r := cell_regrown i2
      have f1r := cell_regrown f1
      have f2r := cell_regrown f2
      clear i1 i2 f1 f2
      have S1_0 : ∀ d os, (grow (redrawn wr d) os).cell? ⟨g0, 0, none⟩ = some (.string ⟨n1.toArray⟩) := cell_regrown (S1.out.cell 0)
      have S1_1 : ∀ d os, (grow (redrawn wr d) os).cell? ⟨g0, 1, none⟩ = some (.slice (some ⟨b1, o1, none⟩) l.length ca) := cell_regrown (S1.out.cell 1)
      have S1_2 : ∀ d os, (grow (redrawn wr d) os).cell? ⟨g0, 2, none⟩ = some (.bool e1) := cell_regrown (S1.out.cell 2)
      have T1_0 : ∀ d os, (grow (redrawn wr d) os).cell? ⟨g0 + 1, 0, none⟩ = some (.string ⟨n1.toArray⟩) := cell_regrown (T1.out.cell 0)
      have T1_1 : ∀ d os, (grow (redrawn wr d) os).cell? ⟨g0 + 1, 1, none⟩ = some (.slice (some ⟨b2, o2, none⟩) l.length cb) := cell_regrown (T1.out.cell 1)
      have T1_2 : ∀ d os, (grow (redrawn wr d) os).cell? ⟨g0 + 1, 2, none⟩ = some (.bool e1) := cell_regrown (T1.out.cell 2)
      have cq0 := Calls.regrE qs.out er.out
      refine wp_region_quiet_below (by assumption) (by kernel_rfl) ?_
      repeat (go_big_quiet_step (first | (with_reducible exact cq0 _ _)))
      refine wpQuiet_nil ?_
      intro _ hw_
      obtain ⟨⟨dq_, osq_⟩, hw_'⟩ := hw_
      subst hw_'
      replace E2 := hide (E2.out.trans (below_regrown _ dq_ osq_))
      replace S1 := hide (S1.out.ext (below_regrown _ dq_ osq_))
      replace T1 := hide (T1.out.ext (below_regrown _ dq_ osq_))
      clear S1_0 S1_1 S1_2 T1_0 T1_1 T1_2
      clear cq0
      generalize grow (redrawn wr dq_) osq_ = W6 at E2 S1 T1 ⊢
      have S1_0 : W6.cell? ⟨g0, 0, none⟩ = some (.string ⟨n1.toArray⟩) := S1.out.cell 0
      have S1_1 : W6.cell? ⟨g0, 1, none⟩ = some (.slice (some ⟨b1, o1, none⟩) l.length ca) := S1.out.cell 1
      have S1_2 : W6.cell? ⟨g0, 2, none⟩ = some (.bool e1) := S1.out.cell 2
      have T1_0 : W6.cell? ⟨g0 + 1, 0, none⟩ = some (.string ⟨n1.toArray⟩) := T1.out.cell 0
      have T1_1 : W6.cell? ⟨g0 + 1, 1, none⟩ = some (.slice (some ⟨b2, o2, none⟩) l.length cb) := T1.out.cell 1
      have T1_2 : W6.cell? ⟨g0 + 1, 2, none⟩ = some (.bool e1) := T1.out.cell 2
      clear qs er i1r i2r f1r f2r
      cases bb with
      | false =>
        have hr := hide (hne.out (hb.out.2 rfl))
        clear hst hne hb
        go_wp2_with fail
        go_ret
        exact ⟨by rw [decide_eq_false hr.out]; rfl, E.out.trans E2.out⟩
      | true =>
        have hs := hide (hst.out (hb.out.1 rfl))
        clear hst hne hb
        go_wp2_with fail
        go_roundw
        case rel => exact ⟨k + 1, by omega, by go_num, E2.out, hs.out⟩
        case measure => simp [intOf]; omega
    · obtain rfl : k = l.length := by omega
      have hall : l = m := by
        have h2 : l.take l.length = m.take m.length := by rw [htk, hn.out]
        rwa [List.take_length, List.take_length] at h2
      have hEE := E.out.trans hE
      clear hlt hk htk S1 T1
      replace hE := hide hE
      replace hall := hide hall
      replace hEE := hide hEE
      go_wp2_with fail
      go_ret
      exact ⟨by rw [decide_eq_true hall.out]; rfl, hEE.out⟩

set_option maxRecDepth 20000 in
set_option maxHeartbeats 4000000 in
theorem DOwn16_any (p : PolS) (a : Option Addr) (ca : Nat) (w : World) (hl : p.terms.length ≤ 16777216) (s1 : Sl ETerm w (· < w.heap.size) a p.terms) :
    Calls Tryz.prog 18 #[.agg #[.string ⟨p.name.toArray⟩, .slice a p.terms.length ca, .bool p.els]] w fun e w' => ∃ v, e = .returned (.agg #[.string ⟨p.name.toArray⟩, v, .bool p.els]) ∧ Ext w w' ∧ Own ETermC 25 w' w.heap.size v p.terms := by
  have S := (Blk.new w 35 #[.string ⟨p.name.toArray⟩, .slice a p.terms.length ca, .bool p.els]).alloc (Obj.cells #[.string ⟨#[]⟩, .slice none 0 0, .bool false] 35)
  have R := Blk.new (w.alloc (Obj.cells #[.string ⟨p.name.toArray⟩, .slice a p.terms.length ca, .bool p.els] 35)) 35 #[.string ⟨#[]⟩, .slice none 0 0, .bool false]
  have E := ((Ext.refl w).alloc (Obj.cells #[.string ⟨p.name.toArray⟩, .slice a p.terms.length ca, .bool p.els] 35)).alloc (Obj.cells #[.string ⟨#[]⟩, .slice none 0 0, .bool false] 35)
  have hz : (w.alloc (Obj.cells #[.string ⟨p.name.toArray⟩, .slice a p.terms.length ca, .bool p.els] 35)).heap.size = w.heap.size + 1 := by simp
  rw [hz] at R
  have hzz : ((w.alloc (Obj.cells #[.string ⟨p.name.toArray⟩, .slice a p.terms.length ca, .bool p.els] 35)).alloc (Obj.cells #[.string ⟨#[]⟩, .slice none 0 0, .bool false] 35)).heap.size = w.heap.size + 2 := by simp
  generalize hW0 : (w.alloc (Obj.cells #[.string ⟨p.name.toArray⟩, .slice a p.terms.length ca, .bool p.els] 35)).alloc (Obj.cells #[.string ⟨#[]⟩, .slice none 0 0, .bool false] 35) = W0 at S R E hzz
  replace s1 := s1.ext E
  generalize hg0 : w.heap.size = g0 at S R hzz ⊢
  have hgw : w.heap.size ≤ g0 := Nat.le_of_eq hg0
  have hgw1 : w.heap.size ≤ g0 + 1 := by omega
  replace s1 := hide s1
  replace S := hide S
  replace R := hide R
  replace E := hide E
  replace hgw := hide hgw
  replace hgw1 := hide hgw1
  go_enter Tryz.func18, Tryz.ntmps18
  go_wp2_with fail
  clear hW0 hg0 hz
  go_loopw [3, 4] (fun v i wr => ∃ k : Nat, k ≤ p.terms.length ∧ i = .int .i64 k ∧ Own ETermC 25 wr W0.heap.size v (p.terms.take k) ∧ Ext W0 wr) (fun _ i _ => p.terms.length - (intOf i).toNat)
  case atStart => exact ⟨0, Nat.zero_le _, rfl, Own.nil, Ext.refl _⟩
  case round =>
    obtain ⟨k, hk, rfl, hown, hE⟩ := hrel
    have hsz := hE.size
    have S1 := S.out.ext hE
    have s3 : wr.cell? ⟨g0, 1, none⟩ = some (.slice a p.terms.length ca) := S1.cell 1
    by_cases hlt : k < p.terms.length
    · obtain ⟨b1, o1, x1, p1, x2, p2, rfl, _, i1, i2, n3, r1, n4, r2⟩ := ETerm.at (s1.out.ext hE) k hlt
      have hsn := take_snoc' _ _ hlt
      have hlk : (p.terms.take k).length = k := by simp; omega
      generalize p.terms[k] = pk at *
      generalize p.terms.length = n3' at *
      generalize p.terms.take k = L at *
      have qo := fun W (h : Ext wr W) => DOwnTerm_any x1 p1 x2 p2 pk W n3 n4 (r1.ext h) (r2.ext h)
      clear r1 r2 R S S1
      replace hE := hide hE
      replace hown := hide hown
      replace hsn := hide hsn
      replace hlk := hide hlk
      replace qo := hide qo
      go_wp2_with fail
      (with_reducible refine (qo.out _ (Ext.refl _)).mono ?_)
      rintro e w1 ⟨v1, v2, rfl, oc, oa, he1⟩
      have hs1 := he1.size
      obtain ⟨z1, d1, rfl, _, _, hC1⟩ := oc.asC n3
      obtain ⟨z2, d2, rfl, _, _, hC2⟩ := oa.asC n4
      clear oc oa qo
      replace he1 := hide he1
      replace hC1 := hide hC1
      replace hC2 := hide hC2
      go_wp2_with (
        at_builtin
        have hox := (hown.out.ext he1.out).alloc (Obj.cells #[.slice z1 pk.conds.length d1, .slice z2 pk.acts.length d2] 25)
        have hsp : ETermC.R (w1.alloc (.cells #[.slice z1 pk.conds.length d1, .slice z2 pk.acts.length d2] 25)) (fun b => W0.heap.size ≤ b ∧ b < (w1.alloc (.cells #[.slice z1 pk.conds.length d1, .slice z2 pk.acts.length d2] 25)).heap.size ∧ some b ≠ u3.ownBlock) pk [.slice z1 pk.conds.length d1, .slice z2 pk.acts.length d2] :=
          ⟨[_], [_], rfl, ECond.sliceC.mono (fun b hb => ⟨by omega, by simp; omega, fun he => by have := (hown.out.lt b he.symm).2; omega⟩) (ECond.sliceC.frame (fun b hb => Below.heap_alloc _ _ _ hb.2) hC1.out),
            EAct.sliceC.mono (fun b hb => ⟨by omega, by simp; omega, fun he => by have := (hown.out.lt b he.symm).2; omega⟩) (EAct.sliceC.frame (fun b hb => Below.heap_alloc _ _ _ hb.2) hC2.out)⟩
        go_must (refine wpList_push (E := ETermC) (l := L) rfl _ _ _ rfl okTermC (by decide) (by decide) rfl hox (by rw [hlk.out]; omega) (by simp; omega) rfl hsp (cells_new w1 #[.slice z1 pk.conds.length d1, .slice z2 pk.acts.length d2] _) ?_)
        intro v' w2 hown' hg hat)
      go_roundw
      case rel => exact ⟨k + 1, by omega, by go_num, by rw [hsn.out]; exact hown', ((hE.out.trans he1.out).alloc _).push (fun j hj => (hown.out.lt j hj).1) hg⟩
      case measure => simp [intOf]; omega
    · obtain rfl : k = p.terms.length := by omega
      rw [List.take_length] at hown
      have R1 := R.out.ext hE
      have hEw := E.out.trans hE
      have hog := hown.lt
      obtain ⟨b3, d3, rfl⟩ := hown.form
      have m0 : wr.cell? ⟨g0, 0, none⟩ = some (.string ⟨p.name.toArray⟩) := S1.cell 0
      have m2 : wr.cell? ⟨g0, 2, none⟩ = some (.bool p.els) := S1.cell 2
      have mf := fun i => S1.frozen i
      have nf := fun i => R1.frozen i
      have n0 : wr.cell? ⟨g0 + 1, 0, none⟩ = some (.string ⟨#[]⟩) := R1.cell 0
      have n1 : wr.cell? ⟨g0 + 1, 1, none⟩ = some (.slice none 0 0) := R1.cell 1
      have n2 : wr.cell? ⟨g0 + 1, 2, none⟩ = some (.bool false) := R1.cell 2
      have l0 : g0 < W0.heap.size := by omega
      have l1 : g0 + 1 < W0.heap.size := by omega
      have O := (((hown.asideS (p := ⟨g0, 1, none⟩) l0 (.slice b3 p.terms.length d3)).asideS (p := ⟨g0 + 1, 0, none⟩) l1 (.string ⟨p.name.toArray⟩)).asideS (p := ⟨g0 + 1, 1, none⟩) l1 (.slice b3 p.terms.length d3)).asideS (p := ⟨g0 + 1, 2, none⟩) l1 (.bool p.els)
      have EE := (((hEw.setCell (p := ⟨g0, 1, none⟩) hgw.out (.slice b3 p.terms.length d3)).setCell (p := ⟨g0 + 1, 0, none⟩) hgw1.out (.string ⟨p.name.toArray⟩)).setCell (p := ⟨g0 + 1, 1, none⟩) hgw1.out (.slice b3 p.terms.length d3)).setCell (p := ⟨g0 + 1, 2, none⟩) hgw1.out (.bool p.els)
      have Z := (((R1.far (p := ⟨g0, 1, none⟩) (show g0 + 1 ≠ g0 by omega) (.slice b3 p.terms.length d3)).set_ 0 (.string ⟨p.name.toArray⟩)).set_ 1 (.slice b3 p.terms.length d3)).set_ 2 (.bool p.els)
      replace O := O.low (show g0 ≤ W0.heap.size by omega)
      clear hown R S R1 S1 hog
      generalize hWf : (((wr.setCell ⟨g0, 1, none⟩ (.slice b3 p.terms.length d3)).setCell ⟨g0 + 1, 0, none⟩ (.string ⟨p.name.toArray⟩)).setCell ⟨g0 + 1, 1, none⟩ (.slice b3 p.terms.length d3)).setCell ⟨g0 + 1, 2, none⟩ (.bool p.els) = Wf at O EE Z
      have z0 : Wf.cell? ⟨g0 + 1, 0, none⟩ = some (.string ⟨p.name.toArray⟩) := Z.cell 0
      have z1 : Wf.cell? ⟨g0 + 1, 1, none⟩ = some (.slice b3 p.terms.length d3) := Z.cell 1
      have z2 : Wf.cell? ⟨g0 + 1, 2, none⟩ = some (.bool p.els) := Z.cell 2
      replace hE := hide hE
      replace hEw := hide hEw
      replace O := hide O
      replace EE := hide EE
      replace Z := hide Z
      replace hWf := hide hWf
      go_wp2_with fail
      rw [hWf.out]
      exact bodyPost_ret (v := .agg #[.string ⟨p.name.toArray⟩, .slice b3 p.terms.length d3, .bool p.els]) (by simp [results, Tryz.results18, go_sem, z0, z1, z2]) rfl ⟨_, rfl, EE.out, O.out⟩
end
section
open Go.RowKit Go.ChangeShapes Go.WideShapes Go.Deep
set_option linter.unusedVariables false

def EPolC : Enc PolS := (EByt.pair (ETermC.sliceC.pair EBool)).map fun p => (p.name, p.terms, p.els)
set_option maxRecDepth 100000 in
theorem opens_EPolC : Opens Tryz.prog 35 EPolC :=
  opens_map (opens_struct Tryz.underlying35 (by kernel_rfl) (opensF_cons rfl rfl opens_text (opensF_cons rfl rfl (opens_sliceC Tryz.underlying33 (by kernel_rfl) opens_ETermC (by decide)) (opensF_last rfl rfl (opens_bool16 Tryz.underlying4 (by kernel_rfl)) rfl)))) (fun p : PolS => (p.name, p.terms, p.els)) (fun p => ⟨p.1, p.2.1, p.2.2⟩) (fun _ => rfl)
structure PolIn (W : World) (p : PolS) (a : Option Addr) (c : Nat) : Prop where
  nm : p.name.length ≤ 1048576
  n : p.terms.length ≤ 16777216
  u : p.terms.length ≤ c
  m : c ≤ maxLen
  s : Sl ETermC W (fun b => b < W.heap.size) a p.terms
set_option maxRecDepth 100000 in
theorem open_polC {H : Type} {enc : TypeId × Value → H} {W : World} {r : Reach} {b0 : Nat} {v : Value} {d : DataW H} {p : List MemPlace} (hv : Value.okWide Tryz.prog W r b0 35 v) (h : DataW.Trod enc Tryz.prog W 0 (fun _ => true) true 35 v d p) (hb : Rows.uptoBulk d ≤ 1048576) :
    ∃ (p : PolS) (a : Option Addr) (c : Nat), v = .agg #[.string ⟨p.name.toArray⟩, .slice a p.terms.length c, .bool p.els] ∧ PolIn W p a c := by
  obtain ⟨t, cs, rfl, hr⟩ := open_struct_val opens_EPolC Tryz.underlying35 hv h hb
  obtain ⟨c, d, rfl, ⟨rfl, h1⟩, c, d, rfl, ⟨a1, c1, rfl, n1, u1, m1, s1⟩, ⟨rfl, _⟩⟩ := hr
  exact ⟨t, a1, c1, rfl, h1, n1, u1, m1, s1⟩
end
end Go.Proofs.YtljibkfbldjgdaaGreatDoor
