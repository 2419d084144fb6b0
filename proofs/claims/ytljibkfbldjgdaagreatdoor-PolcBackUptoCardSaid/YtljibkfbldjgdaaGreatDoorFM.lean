/- Chapter 16, plain: no word of a term's text is empty; a text with a space ahead or behind is no term's. The law PolcBack, walked. -/
import Derived.Test.YtljibkfbldjgdaaGreatDoorEA
import Derived.Test.YtljibkfbldjgdaaGreatDoorFL
import Derived.Test.YtljibkfbldjgdaaGreatDoorFH
namespace Go.Proofs.YtljibkfbldjgdaaGreatDoor
section
open Go.RowKit
set_option linter.unusedVariables false

theorem join_ne {x : List UInt8} {l : List (List UInt8)} {s : List UInt8} (h : x ≠ []) : Lib.join (x :: l) s ≠ [] := by
  cases l with
  | nil => simpa [Lib.join] using h
  | cons y r => simp [Lib.join, h]
theorem name_ne {s : List UInt8} (h : nameOk s = true) : s ≠ [] := by
  intro e
  subst e
  exact absurd h (by decide)
theorem comm_ne (c : UInt32) : commT c ≠ [] := by
  unfold commT
  split
  · decide
  · split
    · decide
    · split
      · decide
      · simp
theorem fam_ne {n : Int} (h : 1 ≤ n ∧ n ≤ 5) : nameS n ≠ [] := by
  rcases (show n = 1 ∨ n = 2 ∨ n = 3 ∨ n = 4 ∨ n = 5 by omega) with rfl | rfl | rfl | rfl | rfl <;> decide
theorem origin_ne (n : Int) : originT n ≠ [] := by
  unfold originT
  split
  · decide
  · split <;> decide
theorem addrT_ne {a : List UInt8} (h : a.length = 4 ∨ a.length = 16) : (addrT a).1 ≠ [] := by
  unfold addrT
  obtain ⟨x, r, rfl⟩ : ∃ x r, a = x :: r := List.exists_cons_of_ne_nil (by intro e; rw [e] at h; simp at h)
  by_cases h4 : (x :: r).length = 4
  · rw [if_pos h4]
    exact join_ne (digS_ne _ _)
  · rw [if_neg h4]
    have h16 : (x :: r).length = 16 := by omega
    rw [if_pos h16]
    obtain ⟨y, r, rfl⟩ : ∃ y q, r = y :: q := List.exists_cons_of_ne_nil (by intro e; rw [e] at h16; simp at h16)
    exact join_ne (digS_ne _ _)
theorem condWs_nes {c : CondS} (h : condOk c = true) : ∀ w ∈ condWs c, w ≠ [] := by
  intro w hw
  have hk : c.kind = 1 ∨ c.kind = 2 ∨ c.kind = 3 ∨ c.kind = 4 ∨ c.kind = 5 ∨ c.kind = 6 ∨ c.kind = 7 := by
    unfold condOk at h
    by_cases h1 : c.kind = 1 ∨ c.kind = 2 ∨ c.kind = 3 ∨ c.kind = 4
    · omega
    rw [if_neg h1] at h
    by_cases h5 : c.kind = 5
    · omega
    rw [if_neg h5] at h
    by_cases h6 : c.kind = 6
    · omega
    rw [if_neg h6] at h
    by_cases h7 : c.kind = 7
    · omega
    rw [if_neg h7] at h
    cases h
  unfold condWs at hw
  rcases List.mem_append.1 hw with hw | hw
  · cases hn : c.neg with
    | false => rw [hn] at hw; simp at hw
    | true =>
      rw [hn] at hw
      simp at hw
      subst hw
      decide
  · rcases List.mem_cons.1 hw with rfl | hw
    · rcases hk with e | e | e | e | e | e | e <;> rw [e] <;> decide
    · rw [List.mem_singleton] at hw
      subst hw
      unfold condA
      unfold condOk at h
      by_cases h5 : c.kind = 5
      · rw [if_pos h5]; exact origin_ne _
      rw [if_neg h5] at h ⊢
      by_cases h6 : c.kind = 6
      · rw [if_pos h6]; exact digS_ne _ _
      rw [if_neg h6] at h ⊢
      by_cases h7 : c.kind = 7
      · rw [if_pos h7] at h ⊢
        rw [if_neg (by omega), Bool.and_eq_true, decide_eq_true_eq] at h
        exact fam_ne h.1
      rw [if_neg h7] at h ⊢
      rw [if_pos (by omega), Bool.and_eq_true] at h
      exact name_ne h.1
theorem actWs_nes {a : ActS} (h : actOk a = true) : ∀ w ∈ actWs a, w ≠ [] := by
  intro w hw
  unfold actWs at hw
  have two : ∀ {u v : List UInt8}, u ≠ [] → v ≠ [] → w ∈ [u, v] → w ≠ [] := fun hu hv hm => by
    rcases List.mem_cons.1 hm with rfl | hm
    · exact hu
    · rw [List.mem_singleton] at hm
      subst hm
      exact hv
  by_cases h1 : a.kind = 1
  · rw [if_pos h1, List.mem_singleton] at hw; subst hw; decide
  rw [if_neg h1] at hw
  by_cases h2 : a.kind = 2
  · rw [if_pos h2, List.mem_singleton] at hw; subst hw; decide
  rw [if_neg h2] at hw
  by_cases h5 : a.kind = 5
  · rw [if_pos h5, List.mem_singleton] at hw; subst hw; decide
  rw [if_neg h5] at hw
  by_cases h3 : a.kind = 3
  · rw [if_pos h3] at hw; exact two (by decide) (digS_ne _ _) hw
  rw [if_neg h3] at hw
  by_cases h4 : a.kind = 4
  · rw [if_pos h4] at hw; exact two (by decide) (digS_ne _ _) hw
  rw [if_neg h4] at hw
  by_cases h6 : a.kind = 6
  · rw [if_pos h6] at hw; exact two (by decide) (comm_ne _) hw
  rw [if_neg h6] at hw
  unfold actOk at h
  rw [if_neg (by omega), if_neg (by omega)] at h
  by_cases h7 : a.kind = 7
  · rw [if_pos h7] at hw h
    rw [Bool.and_eq_true] at h
    exact two (by decide) (name_ne h.1) hw
  rw [if_neg h7] at hw h
  by_cases h8 : a.kind = 8
  · rw [if_pos h8] at hw; exact two (by decide) (digS_ne _ _) hw
  rw [if_neg h8] at hw h
  by_cases h9 : a.kind = 9
  · rw [if_pos h9] at hw h
    rw [Bool.and_eq_true, decide_eq_true_eq] at h
    exact two (by decide) (addrT_ne h.1) hw
  rw [if_neg h9] at hw
  exact two (by decide) (origin_ne _) hw
theorem termWs_nes {t : TermS} (h : termOk t = true) : ∀ w ∈ termWs t, w ≠ [] := by
  unfold termOk at h
  simp only [Bool.and_eq_true] at h
  obtain ⟨_, _, hc, ha, _⟩ := h
  intro w hw
  unfold termWs at hw
  rcases List.mem_append.1 hw with hw | hw
  · by_cases hn : t.conds = []
    · rw [if_pos hn] at hw; cases hw
    · rw [if_neg hn] at hw
      rcases List.mem_cons.1 hw with rfl | hw
      · decide
      · rcases sepW_mem _ _ hw with rfl | ⟨x, hx, hw⟩
        · decide
        · obtain ⟨c, hm, rfl⟩ := List.mem_map.1 hx
          exact condWs_nes (List.all_eq_true.1 hc c hm) w hw
  · rcases List.mem_cons.1 hw with rfl | hw
    · decide
    · rcases sepW_mem _ _ hw with rfl | ⟨x, hx, hw⟩
      · decide
      · obtain ⟨a, hm, rfl⟩ := List.mem_map.1 hx
        exact actWs_nes (List.all_eq_true.1 ha a hm) w hw
theorem spl_behind (c : UInt8) (s : List UInt8) : spl c (s ++ [c]) = spl c s ++ [[]] := by
  refine spl_ind (P := fun s => spl c (s ++ [c]) = spl c s ++ [[]]) c (fun s hs => ?_) (fun a b ha ih => ?_) s.length s (Nat.le_refl _)
  · rw [spl_no hs, spl_at hs, spl_no (by simp)]
    rfl
  · rw [List.append_assoc, List.cons_append, spl_at ha, spl_at ha, ih]
    rfl
theorem termO_gap {s : List UInt8} (h : [] ∈ spl 32 s) : termO s = none := by
  cases ho : termO s with
  | none => rfl
  | some u =>
    have hu := termO_some ho
    have hok : termOk u = true := by
      cases hk : termOk u with
      | true => rfl
      | false =>
        unfold termT at hu
        rw [hk, if_neg (by decide)] at hu
        injection hu with _ h2
        exact absurd h2 (by decide)
    unfold termT at hu
    rw [if_pos hok] at hu
    injection hu with h1 _
    rw [← h1, spl_term hok] at h
    exact absurd rfl (termWs_nes hok [] h)
theorem termO_behind (s : List UInt8) : termO (s ++ [32]) = none := termO_gap (by rw [spl_behind]; simp)
theorem termO_ahead (s : List UInt8) : termO (32 :: s) = none := termO_gap (by
  rw [show (32 : UInt8) :: s = [] ++ 32 :: s from rfl, spl_at (by simp)]
  simp)
end
section
open Go.RowKit
set_option linter.unusedVariables false

theorem sl_term (W : World) (t : TermS) (a1 : Option Addr) (c1 : Nat) (a2 : Option Addr) (c2 : Nat) (g : Nat) (B : Blk W g 25 #[.slice a1 t.conds.length c1, .slice a2 t.acts.length c2]) (h1 : t.conds.length ≤ 16777216) (h2 : t.acts.length ≤ 16777216)
    (s1 : Sl ECond W (· < W.heap.size) a1 t.conds) (s2 : Sl EAct W (· < W.heap.size) a2 t.acts) : Sl ETerm W (· < W.heap.size) (some ⟨g, 0, none⟩) [t] := by
  refine .inr ⟨g, 0, rfl, B.lt, fun k x hx => ?_⟩
  match k, hx with
  | 0, hx =>
    cases hx
    refine ⟨[.slice a1 t.conds.length c1, .slice a2 t.acts.length c2], ⟨[_], [_], rfl, ⟨a1, c1, rfl, h1, s1⟩, ⟨a2, c2, rfl, h2, s2⟩⟩, fun j u hu => ?_⟩
    match j, hu with
    | 0, hu => cases hu; exact B.cell 0
    | 1, hu => cases hu; exact B.cell 1
set_option maxRecDepth 20000 in
set_option maxHeartbeats 4000000 in
theorem LSame16_any (a1 : Option Addr) (c1 : Nat) (a2 : Option Addr) (c2 : Nat) (t : TermS) (b1 : Option Addr) (d1 : Nat) (b2 : Option Addr) (d2 : Nat) (u : TermS) (w : World)
    (ht1 : t.conds.length ≤ 16777216) (ht2 : t.acts.length ≤ 16777216) (hu1 : u.conds.length ≤ 16777216) (hu2 : u.acts.length ≤ 16777216)
    (s1 : Sl ECond w (· < w.heap.size) a1 t.conds) (s2 : Sl EAct w (· < w.heap.size) a2 t.acts) (z1 : Sl ECond w (· < w.heap.size) b1 u.conds) (z2 : Sl EAct w (· < w.heap.size) b2 u.acts) :
    Calls Tryz.prog 20 #[.agg #[.slice a1 t.conds.length c1, .slice a2 t.acts.length c2], .agg #[.slice b1 u.conds.length d1, .slice b2 u.acts.length d2]] w fun e w' => e = .returned (.bool (decide (t = u))) ∧ Ext w w' := by
  have q := fun g1 g2 W (h : Ext w W) (hb1 : Blk W g1 25 #[.slice a1 t.conds.length c1, .slice a2 t.acts.length c2]) (hb2 : Blk W g2 25 #[.slice b1 u.conds.length d1, .slice b2 u.acts.length d2]) => PSame_any ⟨[], [t], false⟩ (some ⟨g1, 0, none⟩) 1 ⟨[], [u], false⟩ (some ⟨g2, 0, none⟩) 1 W (by simp) (by simp) (sl_term W t _ _ _ _ g1 hb1 ht1 ht2 (s1.ext h) (s2.ext h)) (sl_term W u _ _ _ _ g2 hb2 hu1 hu2 (z1.ext h) (z2.ext h))
  have hs : samePol ⟨[], [t], false⟩ ⟨[], [u], false⟩ = decide (t = u) := by simp [samePol]
  rw [hs] at q
  simp only [List.length_singleton] at q
  generalize decide (t = u) = r at *
  clear hs s1 s2 z1 z2 ht1 ht2 hu1 hu2
  replace q := hide q
  have S := (Blk.new w 25 #[.slice a1 t.conds.length c1, .slice a2 t.acts.length c2]).alloc (Obj.cells #[.slice b1 u.conds.length d1, .slice b2 u.acts.length d2] 25)
  have E := ((Ext.refl w).alloc (Obj.cells #[.slice a1 t.conds.length c1, .slice a2 t.acts.length c2] 25)).alloc (Obj.cells #[.slice b1 u.conds.length d1, .slice b2 u.acts.length d2] 25)
  have T := Blk.new (w.alloc (Obj.cells #[.slice a1 t.conds.length c1, .slice a2 t.acts.length c2] 25)) 25 #[.slice b1 u.conds.length d1, .slice b2 u.acts.length d2]
  have hz : ((w.alloc (Obj.cells #[.slice a1 t.conds.length c1, .slice a2 t.acts.length c2] 25)).alloc (Obj.cells #[.slice b1 u.conds.length d1, .slice b2 u.acts.length d2] 25)).heap.size = w.heap.size + 2 := by simp
  rw [show (w.alloc (Obj.cells #[.slice a1 t.conds.length c1, .slice a2 t.acts.length c2] 25)).heap.size = w.heap.size + 1 by simp] at T
  generalize hW0 : (w.alloc (Obj.cells #[.slice a1 t.conds.length c1, .slice a2 t.acts.length c2] 25)).alloc (Obj.cells #[.slice b1 u.conds.length d1, .slice b2 u.acts.length d2] 25) = W0 at S E T hz
  have G1 := (Blk.new W0 25 #[.slice a1 t.conds.length c1, .slice a2 t.acts.length c2]).alloc (Obj.cells #[.slice b1 u.conds.length d1, .slice b2 u.acts.length d2] 25)
  have G2 := Blk.new (W0.alloc (Obj.cells #[.slice a1 t.conds.length c1, .slice a2 t.acts.length c2] 25)) 25 #[.slice b1 u.conds.length d1, .slice b2 u.acts.length d2]
  rw [show (W0.alloc (Obj.cells #[.slice a1 t.conds.length c1, .slice a2 t.acts.length c2] 25)).heap.size = W0.heap.size + 1 by simp] at G2
  have E2 := (E.alloc (Obj.cells #[.slice a1 t.conds.length c1, .slice a2 t.acts.length c2] 25)).alloc (Obj.cells #[.slice b1 u.conds.length d1, .slice b2 u.acts.length d2] 25)
  generalize hg0 : w.heap.size = g0 at S T hz
  have m0 := S.cell 0
  have m1 := S.cell 1
  have k0 := T.cell 0
  have k1 := T.cell 1
  have T1 := T.alloc (Obj.cells #[.slice a1 t.conds.length c1, .slice a2 t.acts.length c2] 25)
  have i0 : (W0.alloc (Obj.cells #[.slice a1 t.conds.length c1, .slice a2 t.acts.length c2] 25)).cell? ⟨g0 + 1, 0, none⟩ = some (.slice b1 u.conds.length d1) := T1.cell 0
  have i1 : (W0.alloc (Obj.cells #[.slice a1 t.conds.length c1, .slice a2 t.acts.length c2] 25)).cell? ⟨g0 + 1, 1, none⟩ = some (.slice b2 u.acts.length d2) := T1.cell 1
  simp at m0 m1 k0 k1
  replace S := hide S
  replace E := hide E
  replace T := hide T
  replace T1 := hide T1
  replace G1 := hide G1
  replace G2 := hide G2
  replace E2 := hide E2
  replace hz := hide hz
  go_enter Tryz.func20, Tryz.ntmps20
  go_wp2_with fail
  (with_reducible refine (q.out W0.heap.size (W0.heap.size + 1) _ E2.out G1.out G2.out).mono ?_)
  rintro e W2 ⟨rfl, he⟩
  have E3 := hide (E2.out.trans he)
  clear he
  go_wp2_with fail
  go_ret
  exact ⟨rfl, E3.out⟩
theorem condsP_len (l : List CondS) (h : ∀ c ∈ l, condOk c = true) : ∀ k, k ≤ l.length → (condsP (l.take k)).length ≤ k * 50
  | 0, _ => by simp [condsP]
  | k + 1, hk => by
    have ih := condsP_len l h k (by omega)
    have hs := condT_len (h _ (List.getElem_mem (show k < l.length by omega)))
    rw [condsP_step l k (by omega)]
    by_cases h0 : k = 0
    · rw [if_pos h0]; simp; omega
    · rw [if_neg h0]; simp; omega
theorem actsP_len (l : List ActS) (h : ∀ a ∈ l, actOk a = true) : ∀ k, k ≤ l.length → (actsP (l.take k)).length ≤ k * 60
  | 0, _ => by simp [actsP]
  | k + 1, hk => by
    have ih := actsP_len l h k (by omega)
    have hs := actT_len (h _ (List.getElem_mem (show k < l.length by omega)))
    rw [actsP_step l k (by omega)]
    by_cases h0 : k = 0
    · rw [if_pos h0]; simp; omega
    · rw [if_neg h0]; simp; omega
theorem termW_len {t : TermS} (h : termOk t = true) : (termW t).length ≤ 8000 := by
  obtain ⟨k1, k2, k3, k4, k5⟩ := ok_of_term h
  have hc := condsP_len t.conds k4 t.conds.length (Nat.le_refl _)
  have ha := actsP_len t.acts k5 t.acts.length (Nat.le_refl _)
  rw [List.take_length] at hc ha
  rw [termW_eq t (by intro e; rw [e] at k2; simp at k2), List.length_append]
  omega
set_option maxRecDepth 20000 in
set_option maxHeartbeats 4000000 in
theorem PolcBack_walk (t : TermS) (a1 : Option Addr) (c1 : Nat) (a2 : Option Addr) (c2 : Nat) (w : World) (h1 : t.conds.length ≤ 16777216) (h2 : t.acts.length ≤ 16777216) (hc2 : t.acts.length ≤ c2) (s1 : Sl ECond w (· < w.heap.size) a1 t.conds) (s2 : Sl EAct w (· < w.heap.size) a2 t.acts) (hT : Tab w) (hD : Deb w) (hV : Vars w) :
    Calls Tryz.prog 5 #[.agg #[.slice a1 t.conds.length c1, .slice a2 t.acts.length c2]] w fun e w' => e = .returned (.bool true) ∧ Ext w w' := by
  have qw := fun W (h : Ext w W) => PWorks_any W (hT.ext h) (hD.ext h) (hV.ext h)
  have qt := fun W (h : Ext w W) => PTermText_any a1 c1 a2 c2 t W h1 h2 hc2 (s1.ext h) (s2.ext h) (hT.ext h) (hD.ext h)
  have B := Blk.new w 25 #[.slice a1 t.conds.length c1, .slice a2 t.acts.length c2]
  have E := (Ext.refl w).alloc (Obj.cells #[.slice a1 t.conds.length c1, .slice a2 t.acts.length c2] 25)
  by_cases hok : termOk t = true
  case neg =>
    have htx : termT t = ([], 2) := if_neg hok
    rw [htx] at qt
    clear s1 s2 hT hD hV h1 h2 hc2 hok htx
    generalize hg0 : w.heap.size = g0 at B
    replace qw := hide qw
    replace qt := hide qt
    replace B := hide B
    replace E := hide E
    go_enter Tryz.func5, Tryz.ntmps5
    go_wp2_with fail
    (with_reducible refine (qw.out _ E.out).mono ?_)
    rintro e w1 ⟨rfl, he⟩
    replace B := hide (B.out.ext he)
    replace E := hide (E.out.trans he)
    clear hg0
    have m0 : w1.cell? ⟨g0, 0, none⟩ = some (.slice a1 t.conds.length c1) := B.out.cell 0
    have m1 : w1.cell? ⟨g0, 1, none⟩ = some (.slice a2 t.acts.length c2) := B.out.cell 1
    go_wp2_with fail
    (with_reducible refine (qt.out _ E.out).mono ?_)
    rintro e w2 ⟨rfl, he2⟩
    replace E := hide (E.out.trans he2)
    go_wp2_with fail
    go_ret
    exact ⟨rfl, E.out⟩
  have htx : termT t = (termW t, 0) := if_pos hok
  rw [htx] at qt
  have hl := termW_len hok
  have qp := fun W (h : Ext w W) => PTerm_any (termW t) (by omega) W (hT.ext h) (hV.ext h) (hD.ext h)
  have qb := fun W (h : Ext w W) => PTerm_any (termW t ++ [32]) (by rw [List.length_append, List.length_singleton]; omega) W (hT.ext h) (hV.ext h) (hD.ext h)
  have qa := fun W (h : Ext w W) => PTerm_any (32 :: termW t) (by rw [List.length_cons]; omega) W (hT.ext h) (hV.ext h) (hD.ext h)
  unfold TeP at qp qb qa
  rw [termO_text hok] at qp
  rw [termO_behind] at qb
  rw [termO_ahead] at qa
  have qs := fun b1 d1 b2 d2 W (h : Ext w W) h5 h6 => LSame16_any b1 d1 b2 d2 t a1 c1 a2 c2 t W h1 h2 h1 h2 h5 h6 (s1.ext h) (s2.ext h)
  simp only [decide_true] at qs
  generalize termW t = s at *
  have z1 := sz_ok ⟨s.toArray⟩ ⟨#[32]⟩ (by simp only [ba_size, List.length_cons, List.length_nil]; omega)
  have z2 := sz_ok ⟨#[32]⟩ ⟨s.toArray⟩ (by simp only [ba_size, List.length_cons, List.length_nil]; omega)
  have hb1 : ByteArray.mk (s ++ [32]).toArray = ByteArray.mk s.toArray ++ ByteArray.mk #[32] := (ba_app1 s 32).symm
  rw [hb1] at qb
  have hb2 : ByteArray.mk (32 :: s).toArray = ByteArray.mk #[32] ++ ByteArray.mk s.toArray := (ba_app [32] s).symm
  rw [hb2] at qa
  clear hb1 hb2
  clear s1 s2 hT hD hV h1 h2 hc2 hok htx hl
  generalize hg0 : w.heap.size = g0 at B
  replace qw := hide qw
  replace qt := hide qt
  replace qp := hide qp
  replace qb := hide qb
  replace qa := hide qa
  replace qs := hide qs
  replace B := hide B
  replace E := hide E
  go_enter Tryz.func5, Tryz.ntmps5
  go_wp2_with fail
  (with_reducible refine (qw.out _ E.out).mono ?_)
  rintro e w1 ⟨rfl, he⟩
  replace B := hide (B.out.ext he)
  replace E := hide (E.out.trans he)
  clear hg0 he
  have m0 : w1.cell? ⟨g0, 0, none⟩ = some (.slice a1 t.conds.length c1) := B.out.cell 0
  have m1 : w1.cell? ⟨g0, 1, none⟩ = some (.slice a2 t.acts.length c2) := B.out.cell 1
  go_wp2_with fail
  (with_reducible refine (qt.out _ E.out).mono ?_)
  rintro e w2 ⟨rfl, he⟩
  replace B := hide (B.out.ext he)
  replace E := hide (E.out.trans he)
  clear he m0 m1
  go_wp2_with fail
  (with_reducible refine (qp.out _ E.out).mono ?_)
  rintro e w3 ⟨⟨v1, v2, rfl, o1, o2⟩, he⟩
  obtain ⟨b1, d1, rfl, n1, y1⟩ := o1.slc
  obtain ⟨b2, d2, rfl, n2, y2⟩ := o2.slc
  replace y1 := y1.mono (S' := (· < w3.heap.size)) fun b hb => hb.2
  replace y2 := y2.mono (S' := (· < w3.heap.size)) fun b hb => hb.2
  have C := Blk.new w3 25 #[.slice b1 t.conds.length d1, .slice b2 t.acts.length d2]
  have F := (Ext.refl w3).alloc (Obj.cells #[.slice b1 t.conds.length d1, .slice b2 t.acts.length d2] 25)
  replace B := hide (B.out.ext (he.trans F))
  replace E := hide (E.out.trans (he.trans F))
  replace y1 := y1.ext F
  replace y2 := y2.ext F
  clear he o1 o2 F qp n1 n2
  replace y1 := hide y1
  replace y2 := hide y2
  replace C := hide C
  go_wp2_with fail
  (with_reducible refine (qb.out _ E.out).mono ?_)
  rintro e w4 ⟨⟨f1, rfl, -, -⟩, he⟩
  generalize w3.heap.size = g1 at *
  have F := he.trans ((Ext.refl w4).alloc (Obj.cells #[.slice none 0 0, .slice none 0 0] 25))
  replace B := hide (B.out.ext F)
  replace C := hide (C.out.ext F)
  replace E := hide (E.out.trans F)
  replace y1 := hide (y1.out.ext F)
  replace y2 := hide (y2.out.ext F)
  clear he F qb
  go_wp2_with fail
  (with_reducible refine (qa.out _ E.out).mono ?_)
  rintro e w5 ⟨⟨f2, rfl, -, -⟩, he⟩
  have F := he.trans ((Ext.refl w5).alloc (Obj.cells #[.slice none 0 0, .slice none 0 0] 25))
  replace B := hide (B.out.ext F)
  replace C := hide (C.out.ext F)
  replace E := hide (E.out.trans F)
  replace y1 := hide (y1.out.ext F)
  replace y2 := hide (y2.out.ext F)
  clear he F qa
  have m0 : (w5.alloc (Obj.cells #[.slice none 0 0, .slice none 0 0] 25)).cell? ⟨g0, 0, none⟩ = some (.slice a1 t.conds.length c1) := B.out.cell 0
  have m1 : (w5.alloc (Obj.cells #[.slice none 0 0, .slice none 0 0] 25)).cell? ⟨g0, 1, none⟩ = some (.slice a2 t.acts.length c2) := B.out.cell 1
  have l0 : (w5.alloc (Obj.cells #[.slice none 0 0, .slice none 0 0] 25)).cell? ⟨g1, 0, none⟩ = some (.slice b1 t.conds.length d1) := C.out.cell 0
  have l1 : (w5.alloc (Obj.cells #[.slice none 0 0, .slice none 0 0] 25)).cell? ⟨g1, 1, none⟩ = some (.slice b2 t.acts.length d2) := C.out.cell 1
  go_wp2_with fail
  (with_reducible refine (qs.out b1 d1 b2 d2 _ E.out y1.out y2.out).mono ?_)
  rintro e w6 ⟨rfl, he⟩
  replace E := hide (E.out.trans he)
  clear he qs m0 m1 l0 l1 B C y1 y2
  go_wp2_with fail
  go_ret
  exact ⟨rfl, E.out⟩
end
end Go.Proofs.YtljibkfbldjgdaaGreatDoor
