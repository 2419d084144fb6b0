/- Chapter 16, walks: a term in memory of its own (heraldref16.OwnTerm). Chapter 16, walks: a condition as a text, by the document. Printed by genff.py. Chapter 16, walks: an action as a text, by the document. Printed by genfg.py. Chapter 16, walks: a term's text, by the document (heraldref16.TermText). The law PolcTells, walked. -/
import Derived.Test.YtljibkfbldjgdaaGreatDoorFB
import Derived.Test.YtljibkfbldjgdaaGreatDoorEO
import Derived.Test.YtljibkfbldjgdaaGreatDoorQ7
import Derived.Test.YtljibkfbldjgdaaGreatDoorQ8
import Derived.Test.YtljibkfbldjgdaaGreatDoorEE
namespace Go.Proofs.YtljibkfbldjgdaaGreatDoor
section
open Go.RowKit
set_option linter.unusedVariables false

/-- A bound whose literal the walk does not see. -/
structure Tiny (n : Nat) : Prop where
  out : n ≤ 16777216
theorem Own.asideS {α : Type} {E : Enc α} {e : TypeId} {w : World} {B : Nat} {v : Value} {l : List α} (h : Own E e w B v l) {p : Addr} (hp : p.block < B) (u : Value) : Own E e (w.setCell p u) B v l :=
  h.kept (Nat.le_of_eq (by simp)) fun b hb _ => Below.heap_setCell w p u b (by omega)
theorem ext_pushNilT {w w' : World} (hg : w.grownBy w' (Value.slice none 0 0).ownBlock) : Ext w w' := (Ext.refl w).grown hg (fun k hk => by cases hk)
theorem ECond_one : ∀ x : CondS, ∀ u ∈ condCs x, u.oneCell' = true := fun x u hu => by
  simp only [condCs, List.mem_cons, List.not_mem_nil, or_false] at hu; rcases hu with rfl | rfl | rfl | rfl <;> rfl
theorem EAct_one : ∀ x : ActS, ∀ u ∈ actCs x, u.oneCell' = true := fun x u hu => by
  simp only [actCs, List.mem_cons, List.not_mem_nil, or_false] at hu; rcases hu with rfl | rfl | rfl | rfl <;> rfl
theorem okCondN : ElemOk Tryz.prog 22 48 4 40 := okCond
theorem okActN : ElemOk Tryz.prog 23 51 4 48 := okAct
theorem ECond_eq : ECond = Enc.cells condCs CondIn 4 (fun _ => rfl) ECond_one := rfl
theorem EAct_eq : EAct = Enc.cells actCs ActIn 4 (fun _ => rfl) EAct_one := rfl
set_option maxHeartbeats 4000000 in
theorem DOwnTerm_any (a1 : Option Addr) (c1 : Nat) (a2 : Option Addr) (c2 : Nat) (t : TermS) (w : World)
    (ht1 : t.conds.length ≤ 16777216) (ht2 : t.acts.length ≤ 16777216)
    (s1 : Sl ECond w (· < w.heap.size) a1 t.conds) (s2 : Sl EAct w (· < w.heap.size) a2 t.acts) :
    Calls Tryz.prog 11 #[.agg #[.slice a1 t.conds.length c1, .slice a2 t.acts.length c2]] w fun e w' => ∃ v1 v2, e = .returned (.agg #[v1, v2]) ∧ Own ECond 48 w' w.heap.size v1 t.conds ∧ Own EAct 51 w' w.heap.size v2 t.acts ∧ Ext w w' := by
  have S := (Blk.new w 25 #[.slice a1 t.conds.length c1, .slice a2 t.acts.length c2]).alloc (Obj.cells #[.slice none 0 0, .slice none 0 0] 25)
  have R := Blk.new (w.alloc (Obj.cells #[.slice a1 t.conds.length c1, .slice a2 t.acts.length c2] 25)) 25 #[.slice none 0 0, .slice none 0 0]
  have E := ((Ext.refl w).alloc (Obj.cells #[.slice a1 t.conds.length c1, .slice a2 t.acts.length c2] 25)).alloc (Obj.cells #[.slice none 0 0, .slice none 0 0] 25)
  have hz : (w.alloc (Obj.cells #[.slice a1 t.conds.length c1, .slice a2 t.acts.length c2] 25)).heap.size = w.heap.size + 1 := by simp
  rw [hz] at R
  have hzz : ((w.alloc (Obj.cells #[.slice a1 t.conds.length c1, .slice a2 t.acts.length c2] 25)).alloc (Obj.cells #[.slice none 0 0, .slice none 0 0] 25)).heap.size = w.heap.size + 2 := by simp
  generalize hW0 : (w.alloc (Obj.cells #[.slice a1 t.conds.length c1, .slice a2 t.acts.length c2] 25)).alloc (Obj.cells #[.slice none 0 0, .slice none 0 0] 25) = W0 at S R E hzz
  have z1 := s1.ext E
  generalize hg0 : w.heap.size = g0 at S R hzz
  have hgw : w.heap.size ≤ g0 := Nat.le_of_eq hg0
  have hgw1 : w.heap.size ≤ g0 + 1 := by omega
  have m0 := S.cell 0
  have m1 := S.cell 1
  have mf := fun i => S.frozen i
  simp at m0 m1
  replace s1 := hide s1
  replace s2 := hide s2
  replace z1 := hide z1
  replace S := hide S
  replace R := hide R
  replace E := hide E
  replace hgw := hide hgw
  replace hgw1 := hide hgw1
  replace hzz := hide hzz
  go_enter Tryz.func11, Tryz.ntmps11
  have z2 : Sl (Enc.cells condCs CondIn 4 (fun _ => rfl) ECond_one) W0 (· < W0.heap.size) a1 t.conds := z1.out
  replace z2 := hide z2
  replace ht1 : Tiny t.conds.length := ⟨ht1⟩
  replace ht2 : Tiny t.acts.length := ⟨ht2⟩
  clear z1
  have tok1 := hide hgw.out
  go_wp2_with (
    first
    | (
       at_builtin
       have tok2 := tok1; clear tok1
       go_must (refine wpList_pushesC (f := condCs) (P := CondIn) (n := 4) (hn := fun _ => rfl) (h1 := ECond_one) (B := W0.heap.size) (v := .slice none 0 0) (l := []) (l2 := t.conds) (a := a1) (c := c1) rfl _ _ _ rfl (by decide) okCondN (by decide) rfl Own.nil (Nat.le_refl _) rfl (by rw [List.length_nil, Nat.zero_add]; have := ht1.out; omega) z2.out ?_)
       intro v1 w1 hown1 hg1 hat1
       have he1 := ext_pushNilT hg1
       have hO1 : Own ECond 48 w1 W0.heap.size v1 t.conds := hown1
       clear hat1 hg1 hown1 z2 m0 m1 mf
       have S1 := S.out.ext he1
       have R1 := R.out.ext he1
       have E1 := E.out.trans he1
       have mf := fun i => S1.frozen i
       have m0 := S1.cell 0
       have m1 := S1.cell 1
       simp at m0 m1
       have hs1 := he1.size
       clear he1
       obtain ⟨x1, d1, rfl⟩ := hO1.form
       replace S1 := hide S1; replace R1 := hide R1; replace E1 := hide E1; replace hO1 := hide hO1; replace hs1 := hide hs1
       clear S R E)
    | (
       at_builtin
       have tok3 := tok2; clear tok2
       have S2 : Blk (w1.setCell ⟨g0, 0, none⟩ (.slice x1 t.conds.length d1)) g0 25 #[(.slice x1 t.conds.length d1), .slice a2 t.acts.length c2] := S1.out.set_ 0 _
       have R2 := R1.out.far (p := ⟨g0, 0, none⟩) (show g0 + 1 ≠ g0 by omega) (.slice x1 t.conds.length d1)
       have E2 := E1.out.setCell (p := ⟨g0, 0, none⟩) hgw.out (.slice x1 t.conds.length d1)
       have O1 := hO1.out.asideS (p := ⟨g0, 0, none⟩) (show g0 < W0.heap.size by have := hzz.out; omega) (.slice x1 t.conds.length d1)
       have y2 : Sl (Enc.cells actCs ActIn 4 (fun _ => rfl) EAct_one) (w1.setCell ⟨g0, 0, none⟩ (.slice x1 t.conds.length d1)) (· < (w1.setCell ⟨g0, 0, none⟩ (.slice x1 t.conds.length d1)).heap.size) a2 t.acts := s2.out.ext E2
       have hs2 : W0.heap.size ≤ (w1.setCell ⟨g0, 0, none⟩ (.slice x1 t.conds.length d1)).heap.size := by have := hs1.out; simpa using this
       go_must (refine wpList_pushesC (f := actCs) (P := ActIn) (n := 4) (hn := fun _ => rfl) (h1 := EAct_one) (B := (w1.setCell ⟨g0, 0, none⟩ (.slice x1 t.conds.length d1)).heap.size) (v := .slice none 0 0) (l := []) (l2 := t.acts) (a := a2) (c := c2) rfl _ _ _ rfl (by decide) okActN (by decide) rfl Own.nil (Nat.le_refl _) rfl (by rw [List.length_nil, Nat.zero_add]; have := ht2.out; omega) y2 ?_)
       intro v2 w2 hown2 hg2 hat2
       have he2 := ext_pushNilT hg2
       have hO2 : Own EAct 51 w2 (w1.setCell ⟨g0, 0, none⟩ (.slice x1 t.conds.length d1)).heap.size v2 t.acts := hown2
       clear hat2 hg2 hown2 y2 m0 m1 mf
       have S3 := S2.ext he2
       have R3 := R2.ext he2
       have E3 := E2.trans he2
       have O3 := O1.ext he2
       have mf := fun i => S3.frozen i
       have nf := fun i => R3.frozen i
       have m0 := S3.cell 0
       have m1 := S3.cell 1
       have n0 := R3.cell 0
       have n1 := R3.cell 1
       simp at m0 m1 n0 n1
       obtain ⟨x2, d2, rfl⟩ := hO2.form
       replace hO2 := hide (hO2.low hs2)
       clear he2 S2 R2 E2 O1 hO1 hs1 hs2 S1 R1 E1
       replace S3 := hide S3; replace R3 := hide R3; replace E3 := hide E3; replace O3 := hide O3))
  have l0 : g0 < W0.heap.size := by have := hzz.out; omega
  have l1 : g0 + 1 < W0.heap.size := by have := hzz.out; omega
  have P1 := ((O3.out.asideS (p := ⟨g0, 1, none⟩) l0 (.slice x2 t.acts.length d2)).asideS (p := ⟨g0 + 1, 0, none⟩) l1 (.slice x1 t.conds.length d1)).asideS (p := ⟨g0 + 1, 1, none⟩) l1 (.slice x2 t.acts.length d2)
  have P2 := ((hO2.out.asideS (p := ⟨g0, 1, none⟩) l0 (.slice x2 t.acts.length d2)).asideS (p := ⟨g0 + 1, 0, none⟩) l1 (.slice x1 t.conds.length d1)).asideS (p := ⟨g0 + 1, 1, none⟩) l1 (.slice x2 t.acts.length d2)
  have PE := ((E3.out.setCell (p := ⟨g0, 1, none⟩) hgw.out (.slice x2 t.acts.length d2)).setCell (p := ⟨g0 + 1, 0, none⟩) hgw1.out (.slice x1 t.conds.length d1)).setCell (p := ⟨g0 + 1, 1, none⟩) hgw1.out (.slice x2 t.acts.length d2)
  have PR : Blk (((w2.setCell ⟨g0, 1, none⟩ (.slice x2 t.acts.length d2)).setCell ⟨g0 + 1, 0, none⟩ (.slice x1 t.conds.length d1)).setCell ⟨g0 + 1, 1, none⟩ (.slice x2 t.acts.length d2)) (g0 + 1) 25 #[.slice x1 t.conds.length d1, .slice x2 t.acts.length d2] :=
    ((R3.out.far (p := ⟨g0, 1, none⟩) (show g0 + 1 ≠ g0 by omega) _).set_ 0 _).set_ 1 _
  clear m0 m1 n0 n1 mf nf S3 R3 E3 O3 hO2
  generalize ((w2.setCell ⟨g0, 1, none⟩ (.slice x2 t.acts.length d2)).setCell ⟨g0 + 1, 0, none⟩ (.slice x1 t.conds.length d1)).setCell ⟨g0 + 1, 1, none⟩ (.slice x2 t.acts.length d2) = W3 at P1 P2 PE PR ⊢
  have z0 : W3.cell? ⟨g0 + 1, 0, none⟩ = some (.slice x1 t.conds.length d1) := PR.cell 0
  have z1 : W3.cell? ⟨g0 + 1, 1, none⟩ = some (.slice x2 t.acts.length d2) := PR.cell 1
  exact bodyPost_ret (v := .agg #[.slice x1 t.conds.length d1, .slice x2 t.acts.length d2]) (by simp [results, Tryz.results11, go_sem, z0, z1]) rfl ⟨_, _, rfl, P1.low (Nat.le_of_lt l0), P2.low (Nat.le_of_lt l0), PE⟩
end
section
open Go.RowKit
set_option linter.unusedVariables false
attribute [local go_sem ↓] Go.wp_at_zero Go.wp_at_succ

set_option maxRecDepth 20000 in
set_option maxHeartbeats 4000000 in
theorem DOrigin_0 (w : World) : Calls Tryz.prog 95 #[.int .i64 0] w fun e w' => e = .returned (.string ⟨#[105, 103, 112]⟩) ∧ Ext w w' := by
  have E := (Ext.refl w).alloc (Obj.cells #[.string ⟨#[105, 103, 112]⟩, .string ⟨#[101, 103, 112]⟩, .string ⟨#[105, 110, 99, 111, 109, 112, 108, 101, 116, 101]⟩] 9)
  replace E := hide E
  go_enter Tryz.func95, Tryz.ntmps95
  go_wp2
  go_ret
  exact ⟨rfl, E.out⟩
set_option maxRecDepth 20000 in
set_option maxHeartbeats 4000000 in
theorem DOrigin_1 (w : World) : Calls Tryz.prog 95 #[.int .i64 1] w fun e w' => e = .returned (.string ⟨#[101, 103, 112]⟩) ∧ Ext w w' := by
  have E := (Ext.refl w).alloc (Obj.cells #[.string ⟨#[105, 103, 112]⟩, .string ⟨#[101, 103, 112]⟩, .string ⟨#[105, 110, 99, 111, 109, 112, 108, 101, 116, 101]⟩] 9)
  replace E := hide E
  go_enter Tryz.func95, Tryz.ntmps95
  go_wp2
  go_ret
  exact ⟨rfl, E.out⟩
set_option maxRecDepth 20000 in
set_option maxHeartbeats 4000000 in
theorem DOrigin_2 (w : World) : Calls Tryz.prog 95 #[.int .i64 2] w fun e w' => e = .returned (.string ⟨#[105, 110, 99, 111, 109, 112, 108, 101, 116, 101]⟩) ∧ Ext w w' := by
  have E := (Ext.refl w).alloc (Obj.cells #[.string ⟨#[105, 103, 112]⟩, .string ⟨#[101, 103, 112]⟩, .string ⟨#[105, 110, 99, 111, 109, 112, 108, 101, 116, 101]⟩] 9)
  replace E := hide E
  go_enter Tryz.func95, Tryz.ntmps95
  go_wp2
  go_ret
  exact ⟨rfl, E.out⟩
theorem DFam_1 (w : World) : Calls Tryz.prog 96 #[.int .i64 1] w fun e w' => e = .returned (.string ⟨#[118, 52]⟩) ∧ Ext w w' := (RFamN_any 1 w).mono fun e w' h => ⟨h.1, h.2 ▸ Ext.refl w⟩
theorem DFam_2 (w : World) : Calls Tryz.prog 96 #[.int .i64 2] w fun e w' => e = .returned (.string ⟨#[118, 54]⟩) ∧ Ext w w' := (RFamN_any 2 w).mono fun e w' h => ⟨h.1, h.2 ▸ Ext.refl w⟩
theorem DFam_3 (w : World) : Calls Tryz.prog 96 #[.int .i64 3] w fun e w' => e = .returned (.string ⟨#[108, 52]⟩) ∧ Ext w w' := (RFamN_any 3 w).mono fun e w' h => ⟨h.1, h.2 ▸ Ext.refl w⟩
theorem DFam_4 (w : World) : Calls Tryz.prog 96 #[.int .i64 4] w fun e w' => e = .returned (.string ⟨#[118, 112, 110, 52]⟩) ∧ Ext w w' := (RFamN_any 4 w).mono fun e w' h => ⟨h.1, h.2 ▸ Ext.refl w⟩
theorem DFam_5 (w : World) : Calls Tryz.prog 96 #[.int .i64 5] w fun e w' => e = .returned (.string ⟨#[118, 112, 110, 54]⟩) ∧ Ext w w' := (RFamN_any 5 w).mono fun e w' h => ⟨h.1, h.2 ▸ Ext.refl w⟩
set_option maxRecDepth 20000 in
set_option maxHeartbeats 4000000 in
theorem DCondT1 (neg : Bool) (name : List UInt8) (n : Int) (hn : name.length ≤ 1048576) (w : World) :
    Calls Tryz.prog 38 #[.agg #[.int .i64 1, .bool neg, .string ⟨name.toArray⟩, .int .i64 n]] w fun e w' => e = .returned (.string ⟨((if neg = true then [110, 111, 116, 32] else []) ++ ([112, 114, 101, 102, 105, 120, 32] ++ name)).toArray⟩) ∧ Ext w w' := by
  have z1 := sz_app [112, 114, 101, 102, 105, 120, 32] name (by simp; omega)
  have z2 := sz_app3 [110, 111, 116, 32] [112, 114, 101, 102, 105, 120, 32] name (by simp; omega)
  have E := (Ext.refl w).alloc (Obj.cells #[.int .i64 1, .bool neg, .string ⟨name.toArray⟩, .int .i64 n] 48)
  replace E := hide E
  go_enter Tryz.func38, Tryz.ntmps38
  cases neg with
  | false =>
    go_wp2_with fail
    go_ret
    exact ⟨by rw [ba_app [112, 114, 101, 102, 105, 120, 32]]; rfl, E.out⟩
  | true =>
    go_wp2_with fail
    go_ret
    exact ⟨by rw [ba_app [112, 114, 101, 102, 105, 120, 32], ba_app [110, 111, 116, 32]]; rfl, E.out⟩
set_option maxRecDepth 20000 in
set_option maxHeartbeats 4000000 in
theorem DCondT2 (neg : Bool) (name : List UInt8) (n : Int) (hn : name.length ≤ 1048576) (w : World) :
    Calls Tryz.prog 38 #[.agg #[.int .i64 2, .bool neg, .string ⟨name.toArray⟩, .int .i64 n]] w fun e w' => e = .returned (.string ⟨((if neg = true then [110, 111, 116, 32] else []) ++ ([99, 111, 109, 109, 32] ++ name)).toArray⟩) ∧ Ext w w' := by
  have z1 := sz_app [99, 111, 109, 109, 32] name (by simp; omega)
  have z2 := sz_app3 [110, 111, 116, 32] [99, 111, 109, 109, 32] name (by simp; omega)
  have E := (Ext.refl w).alloc (Obj.cells #[.int .i64 2, .bool neg, .string ⟨name.toArray⟩, .int .i64 n] 48)
  replace E := hide E
  go_enter Tryz.func38, Tryz.ntmps38
  cases neg with
  | false =>
    go_wp2_with fail
    go_ret
    exact ⟨by rw [ba_app [99, 111, 109, 109, 32]]; rfl, E.out⟩
  | true =>
    go_wp2_with fail
    go_ret
    exact ⟨by rw [ba_app [99, 111, 109, 109, 32], ba_app [110, 111, 116, 32]]; rfl, E.out⟩
set_option maxRecDepth 20000 in
set_option maxHeartbeats 4000000 in
theorem DCondT3 (neg : Bool) (name : List UInt8) (n : Int) (hn : name.length ≤ 1048576) (w : World) :
    Calls Tryz.prog 38 #[.agg #[.int .i64 3, .bool neg, .string ⟨name.toArray⟩, .int .i64 n]] w fun e w' => e = .returned (.string ⟨((if neg = true then [110, 111, 116, 32] else []) ++ ([112, 97, 116, 104, 32] ++ name)).toArray⟩) ∧ Ext w w' := by
  have z1 := sz_app [112, 97, 116, 104, 32] name (by simp; omega)
  have z2 := sz_app3 [110, 111, 116, 32] [112, 97, 116, 104, 32] name (by simp; omega)
  have E := (Ext.refl w).alloc (Obj.cells #[.int .i64 3, .bool neg, .string ⟨name.toArray⟩, .int .i64 n] 48)
  replace E := hide E
  go_enter Tryz.func38, Tryz.ntmps38
  cases neg with
  | false =>
    go_wp2_with fail
    go_ret
    exact ⟨by rw [ba_app [112, 97, 116, 104, 32]]; rfl, E.out⟩
  | true =>
    go_wp2_with fail
    go_ret
    exact ⟨by rw [ba_app [112, 97, 116, 104, 32], ba_app [110, 111, 116, 32]]; rfl, E.out⟩
set_option maxRecDepth 20000 in
set_option maxHeartbeats 4000000 in
theorem DCondT4 (neg : Bool) (name : List UInt8) (n : Int) (hn : name.length ≤ 1048576) (w : World) :
    Calls Tryz.prog 38 #[.agg #[.int .i64 4, .bool neg, .string ⟨name.toArray⟩, .int .i64 n]] w fun e w' => e = .returned (.string ⟨((if neg = true then [110, 111, 116, 32] else []) ++ ([112, 101, 101, 114, 32] ++ name)).toArray⟩) ∧ Ext w w' := by
  have z1 := sz_app [112, 101, 101, 114, 32] name (by simp; omega)
  have z2 := sz_app3 [110, 111, 116, 32] [112, 101, 101, 114, 32] name (by simp; omega)
  have E := (Ext.refl w).alloc (Obj.cells #[.int .i64 4, .bool neg, .string ⟨name.toArray⟩, .int .i64 n] 48)
  replace E := hide E
  go_enter Tryz.func38, Tryz.ntmps38
  cases neg with
  | false =>
    go_wp2_with fail
    go_ret
    exact ⟨by rw [ba_app [112, 101, 101, 114, 32]]; rfl, E.out⟩
  | true =>
    go_wp2_with fail
    go_ret
    exact ⟨by rw [ba_app [112, 101, 101, 114, 32], ba_app [110, 111, 116, 32]]; rfl, E.out⟩
set_option maxRecDepth 20000 in
set_option maxHeartbeats 4000000 in
theorem DCondT5_0 (neg : Bool) (w : World) :
    Calls Tryz.prog 38 #[.agg #[.int .i64 5, .bool neg, .string ⟨#[]⟩, .int .i64 0]] w fun e w' => e = .returned (.string ⟨((if neg = true then [110, 111, 116, 32] else []) ++ ([111, 114, 105, 103, 105, 110, 32] ++ ([105, 103, 112] : List UInt8))).toArray⟩) ∧ Ext w w' := by
  have E := (Ext.refl w).alloc (Obj.cells #[.int .i64 5, .bool neg, .string ⟨#[]⟩, .int .i64 0] 48)
  have R := Blk.new w 48 #[.int .i64 5, .bool neg, .string ⟨#[]⟩, .int .i64 0]
  replace R := hide R
  replace E := hide E
  go_enter Tryz.func38, Tryz.ntmps38
  go_wp2_with fail
  (with_reducible refine (DOrigin_0 _).mono ?_)
  rintro e w1 ⟨rfl, he⟩
  have R1 := R.out.ext he
  replace E := hide (E.out.trans he)
  have r1 : w1.cell? ⟨w.heap.size, 1, none⟩ = some (.bool neg) := R1.cell 1
  cases neg with
  | false =>
    go_wp2_with fail
    go_ret
    exact ⟨by rw [ba_app [111, 114, 105, 103, 105, 110, 32]]; rfl, E.out⟩
  | true =>
    go_wp2_with fail
    go_ret
    exact ⟨by rw [ba_app [111, 114, 105, 103, 105, 110, 32], ba_app [110, 111, 116, 32]]; rfl, E.out⟩
set_option maxRecDepth 20000 in
set_option maxHeartbeats 4000000 in
theorem DCondT5_1 (neg : Bool) (w : World) :
    Calls Tryz.prog 38 #[.agg #[.int .i64 5, .bool neg, .string ⟨#[]⟩, .int .i64 1]] w fun e w' => e = .returned (.string ⟨((if neg = true then [110, 111, 116, 32] else []) ++ ([111, 114, 105, 103, 105, 110, 32] ++ ([101, 103, 112] : List UInt8))).toArray⟩) ∧ Ext w w' := by
  have E := (Ext.refl w).alloc (Obj.cells #[.int .i64 5, .bool neg, .string ⟨#[]⟩, .int .i64 1] 48)
  have R := Blk.new w 48 #[.int .i64 5, .bool neg, .string ⟨#[]⟩, .int .i64 1]
  replace R := hide R
  replace E := hide E
  go_enter Tryz.func38, Tryz.ntmps38
  go_wp2_with fail
  (with_reducible refine (DOrigin_1 _).mono ?_)
  rintro e w1 ⟨rfl, he⟩
  have R1 := R.out.ext he
  replace E := hide (E.out.trans he)
  have r1 : w1.cell? ⟨w.heap.size, 1, none⟩ = some (.bool neg) := R1.cell 1
  cases neg with
  | false =>
    go_wp2_with fail
    go_ret
    exact ⟨by rw [ba_app [111, 114, 105, 103, 105, 110, 32]]; rfl, E.out⟩
  | true =>
    go_wp2_with fail
    go_ret
    exact ⟨by rw [ba_app [111, 114, 105, 103, 105, 110, 32], ba_app [110, 111, 116, 32]]; rfl, E.out⟩
set_option maxRecDepth 20000 in
set_option maxHeartbeats 4000000 in
theorem DCondT5_2 (neg : Bool) (w : World) :
    Calls Tryz.prog 38 #[.agg #[.int .i64 5, .bool neg, .string ⟨#[]⟩, .int .i64 2]] w fun e w' => e = .returned (.string ⟨((if neg = true then [110, 111, 116, 32] else []) ++ ([111, 114, 105, 103, 105, 110, 32] ++ ([105, 110, 99, 111, 109, 112, 108, 101, 116, 101] : List UInt8))).toArray⟩) ∧ Ext w w' := by
  have E := (Ext.refl w).alloc (Obj.cells #[.int .i64 5, .bool neg, .string ⟨#[]⟩, .int .i64 2] 48)
  have R := Blk.new w 48 #[.int .i64 5, .bool neg, .string ⟨#[]⟩, .int .i64 2]
  replace R := hide R
  replace E := hide E
  go_enter Tryz.func38, Tryz.ntmps38
  go_wp2_with fail
  (with_reducible refine (DOrigin_2 _).mono ?_)
  rintro e w1 ⟨rfl, he⟩
  have R1 := R.out.ext he
  replace E := hide (E.out.trans he)
  have r1 : w1.cell? ⟨w.heap.size, 1, none⟩ = some (.bool neg) := R1.cell 1
  cases neg with
  | false =>
    go_wp2_with fail
    go_ret
    exact ⟨by rw [ba_app [111, 114, 105, 103, 105, 110, 32]]; rfl, E.out⟩
  | true =>
    go_wp2_with fail
    go_ret
    exact ⟨by rw [ba_app [111, 114, 105, 103, 105, 110, 32], ba_app [110, 111, 116, 32]]; rfl, E.out⟩
set_option maxRecDepth 20000 in
set_option maxHeartbeats 4000000 in
theorem DCondT6 (neg : Bool) (u : Nat) (hu : u ≤ 65535) (w : World) (hT : Tab w) :
    Calls Tryz.prog 38 #[.agg #[.int .i64 6, .bool neg, .string ⟨#[]⟩, .int .i64 (u : Int)]] w fun e w' => e = .returned (.string ⟨((if neg = true then [110, 111, 116, 32] else []) ++ ([108, 101, 110, 103, 116, 104, 32] ++ digS 10 u)).toArray⟩) ∧ Ext w w' := by
  have hdl : (digS 10 u).length ≤ 5 := digS_len (by decide) 5 _ (by omega) (by decide)
  have q := fun W (h : Ext w W) => (Itoa_any u (by omega) W (hT.ext h)).mono (R' := fun e w' => e = .returned (.string ⟨(digS 10 u).toArray⟩) ∧ Ext W w') fun e w' q => ⟨by rw [q.1]; unfold dec; rw [digS_dec], q.2⟩
  generalize digS 10 u = d at *
  have z1 := sz_app [108, 101, 110, 103, 116, 104, 32] d (by simp; omega)
  have z2 := sz_app3 [110, 111, 116, 32] [108, 101, 110, 103, 116, 104, 32] d (by simp; omega)
  clear hT hu hdl
  replace q := hide q
  have E := (Ext.refl w).alloc (Obj.cells #[.int .i64 6, .bool neg, .string ⟨#[]⟩, .int .i64 (u : Int)] 48)
  have R := Blk.new w 48 #[.int .i64 6, .bool neg, .string ⟨#[]⟩, .int .i64 (u : Int)]
  replace R := hide R
  replace E := hide E
  go_enter Tryz.func38, Tryz.ntmps38
  go_wp2_with fail
  (with_reducible refine (q.out _ E.out).mono ?_)
  rintro e w1 ⟨rfl, he⟩
  have R1 := R.out.ext he
  replace E := hide (E.out.trans he)
  have r1 : w1.cell? ⟨w.heap.size, 1, none⟩ = some (.bool neg) := R1.cell 1
  cases neg with
  | false =>
    go_wp2_with fail
    go_ret
    exact ⟨by rw [ba_app [108, 101, 110, 103, 116, 104, 32]]; rfl, E.out⟩
  | true =>
    go_wp2_with fail
    go_ret
    exact ⟨by rw [ba_app [108, 101, 110, 103, 116, 104, 32], ba_app [110, 111, 116, 32]]; rfl, E.out⟩
set_option maxRecDepth 20000 in
set_option maxHeartbeats 4000000 in
theorem DCondT7_1 (neg : Bool) (w : World) :
    Calls Tryz.prog 38 #[.agg #[.int .i64 7, .bool neg, .string ⟨#[]⟩, .int .i64 1]] w fun e w' => e = .returned (.string ⟨((if neg = true then [110, 111, 116, 32] else []) ++ ([102, 97, 109, 32] ++ ([118, 52] : List UInt8))).toArray⟩) ∧ Ext w w' := by
  have E := (Ext.refl w).alloc (Obj.cells #[.int .i64 7, .bool neg, .string ⟨#[]⟩, .int .i64 1] 48)
  have R := Blk.new w 48 #[.int .i64 7, .bool neg, .string ⟨#[]⟩, .int .i64 1]
  replace R := hide R
  replace E := hide E
  go_enter Tryz.func38, Tryz.ntmps38
  go_wp2_with fail
  (with_reducible refine (DFam_1 _).mono ?_)
  rintro e w1 ⟨rfl, he⟩
  have R1 := R.out.ext he
  replace E := hide (E.out.trans he)
  have r1 : w1.cell? ⟨w.heap.size, 1, none⟩ = some (.bool neg) := R1.cell 1
  cases neg with
  | false =>
    go_wp2_with fail
    go_ret
    exact ⟨by rw [ba_app [102, 97, 109, 32]]; rfl, E.out⟩
  | true =>
    go_wp2_with fail
    go_ret
    exact ⟨by rw [ba_app [102, 97, 109, 32], ba_app [110, 111, 116, 32]]; rfl, E.out⟩
set_option maxRecDepth 20000 in
set_option maxHeartbeats 4000000 in
theorem DCondT7_2 (neg : Bool) (w : World) :
    Calls Tryz.prog 38 #[.agg #[.int .i64 7, .bool neg, .string ⟨#[]⟩, .int .i64 2]] w fun e w' => e = .returned (.string ⟨((if neg = true then [110, 111, 116, 32] else []) ++ ([102, 97, 109, 32] ++ ([118, 54] : List UInt8))).toArray⟩) ∧ Ext w w' := by
  have E := (Ext.refl w).alloc (Obj.cells #[.int .i64 7, .bool neg, .string ⟨#[]⟩, .int .i64 2] 48)
  have R := Blk.new w 48 #[.int .i64 7, .bool neg, .string ⟨#[]⟩, .int .i64 2]
  replace R := hide R
  replace E := hide E
  go_enter Tryz.func38, Tryz.ntmps38
  go_wp2_with fail
  (with_reducible refine (DFam_2 _).mono ?_)
  rintro e w1 ⟨rfl, he⟩
  have R1 := R.out.ext he
  replace E := hide (E.out.trans he)
  have r1 : w1.cell? ⟨w.heap.size, 1, none⟩ = some (.bool neg) := R1.cell 1
  cases neg with
  | false =>
    go_wp2_with fail
    go_ret
    exact ⟨by rw [ba_app [102, 97, 109, 32]]; rfl, E.out⟩
  | true =>
    go_wp2_with fail
    go_ret
    exact ⟨by rw [ba_app [102, 97, 109, 32], ba_app [110, 111, 116, 32]]; rfl, E.out⟩
set_option maxRecDepth 20000 in
set_option maxHeartbeats 4000000 in
theorem DCondT7_3 (neg : Bool) (w : World) :
    Calls Tryz.prog 38 #[.agg #[.int .i64 7, .bool neg, .string ⟨#[]⟩, .int .i64 3]] w fun e w' => e = .returned (.string ⟨((if neg = true then [110, 111, 116, 32] else []) ++ ([102, 97, 109, 32] ++ ([108, 52] : List UInt8))).toArray⟩) ∧ Ext w w' := by
  have E := (Ext.refl w).alloc (Obj.cells #[.int .i64 7, .bool neg, .string ⟨#[]⟩, .int .i64 3] 48)
  have R := Blk.new w 48 #[.int .i64 7, .bool neg, .string ⟨#[]⟩, .int .i64 3]
  replace R := hide R
  replace E := hide E
  go_enter Tryz.func38, Tryz.ntmps38
  go_wp2_with fail
  (with_reducible refine (DFam_3 _).mono ?_)
  rintro e w1 ⟨rfl, he⟩
  have R1 := R.out.ext he
  replace E := hide (E.out.trans he)
  have r1 : w1.cell? ⟨w.heap.size, 1, none⟩ = some (.bool neg) := R1.cell 1
  cases neg with
  | false =>
    go_wp2_with fail
    go_ret
    exact ⟨by rw [ba_app [102, 97, 109, 32]]; rfl, E.out⟩
  | true =>
    go_wp2_with fail
    go_ret
    exact ⟨by rw [ba_app [102, 97, 109, 32], ba_app [110, 111, 116, 32]]; rfl, E.out⟩
set_option maxRecDepth 20000 in
set_option maxHeartbeats 4000000 in
theorem DCondT7_4 (neg : Bool) (w : World) :
    Calls Tryz.prog 38 #[.agg #[.int .i64 7, .bool neg, .string ⟨#[]⟩, .int .i64 4]] w fun e w' => e = .returned (.string ⟨((if neg = true then [110, 111, 116, 32] else []) ++ ([102, 97, 109, 32] ++ ([118, 112, 110, 52] : List UInt8))).toArray⟩) ∧ Ext w w' := by
  have E := (Ext.refl w).alloc (Obj.cells #[.int .i64 7, .bool neg, .string ⟨#[]⟩, .int .i64 4] 48)
  have R := Blk.new w 48 #[.int .i64 7, .bool neg, .string ⟨#[]⟩, .int .i64 4]
  replace R := hide R
  replace E := hide E
  go_enter Tryz.func38, Tryz.ntmps38
  go_wp2_with fail
  (with_reducible refine (DFam_4 _).mono ?_)
  rintro e w1 ⟨rfl, he⟩
  have R1 := R.out.ext he
  replace E := hide (E.out.trans he)
  have r1 : w1.cell? ⟨w.heap.size, 1, none⟩ = some (.bool neg) := R1.cell 1
  cases neg with
  | false =>
    go_wp2_with fail
    go_ret
    exact ⟨by rw [ba_app [102, 97, 109, 32]]; rfl, E.out⟩
  | true =>
    go_wp2_with fail
    go_ret
    exact ⟨by rw [ba_app [102, 97, 109, 32], ba_app [110, 111, 116, 32]]; rfl, E.out⟩
set_option maxRecDepth 20000 in
set_option maxHeartbeats 4000000 in
theorem DCondT7_5 (neg : Bool) (w : World) :
    Calls Tryz.prog 38 #[.agg #[.int .i64 7, .bool neg, .string ⟨#[]⟩, .int .i64 5]] w fun e w' => e = .returned (.string ⟨((if neg = true then [110, 111, 116, 32] else []) ++ ([102, 97, 109, 32] ++ ([118, 112, 110, 54] : List UInt8))).toArray⟩) ∧ Ext w w' := by
  have E := (Ext.refl w).alloc (Obj.cells #[.int .i64 7, .bool neg, .string ⟨#[]⟩, .int .i64 5] 48)
  have R := Blk.new w 48 #[.int .i64 7, .bool neg, .string ⟨#[]⟩, .int .i64 5]
  replace R := hide R
  replace E := hide E
  go_enter Tryz.func38, Tryz.ntmps38
  go_wp2_with fail
  (with_reducible refine (DFam_5 _).mono ?_)
  rintro e w1 ⟨rfl, he⟩
  have R1 := R.out.ext he
  replace E := hide (E.out.trans he)
  have r1 : w1.cell? ⟨w.heap.size, 1, none⟩ = some (.bool neg) := R1.cell 1
  cases neg with
  | false =>
    go_wp2_with fail
    go_ret
    exact ⟨by rw [ba_app [102, 97, 109, 32]]; rfl, E.out⟩
  | true =>
    go_wp2_with fail
    go_ret
    exact ⟨by rw [ba_app [102, 97, 109, 32], ba_app [110, 111, 116, 32]]; rfl, E.out⟩
theorem DCondT_any (c : CondS) (h : condOk c = true) (hn : c.name.length ≤ 1048576) (w : World) (hT : Tab w) :
    Calls Tryz.prog 38 #[.agg (condCs c).toArray] w fun e w' => e = .returned (.string ⟨(condT c).toArray⟩) ∧ Ext w w' := by
  obtain ⟨k, neg, name, n⟩ := c
  unfold condT condW
  unfold condOk at h
  dsimp only at h hn ⊢
  by_cases h1 : k = 1 ∨ k = 2 ∨ k = 3 ∨ k = 4
  · rcases h1 with rfl | rfl | rfl | rfl
    · exact DCondT1 neg name n hn w
    · exact DCondT2 neg name n hn w
    · exact DCondT3 neg name n hn w
    · exact DCondT4 neg name n hn w
  rw [if_neg h1] at h
  rw [if_neg fun e => h1 (.inl e), if_neg fun e => h1 (.inr (.inl e)), if_neg fun e => h1 (.inr (.inr (.inl e))), if_neg fun e => h1 (.inr (.inr (.inr e)))]
  by_cases h5 : k = 5
  · rw [if_pos h5, Bool.and_eq_true, decide_eq_true_eq, decide_eq_true_eq] at h
    obtain ⟨h2, rfl⟩ := h
    subst h5
    rcases (show n = 0 ∨ n = 1 ∨ n = 2 by omega) with rfl | rfl | rfl
    · exact DCondT5_0 neg w
    · exact DCondT5_1 neg w
    · exact DCondT5_2 neg w
  rw [if_neg h5] at h ⊢
  by_cases h6 : k = 6
  · rw [if_pos h6, Bool.and_eq_true, decide_eq_true_eq, decide_eq_true_eq] at h
    obtain ⟨h2, rfl⟩ := h
    subst h6
    obtain ⟨u, rfl⟩ : ∃ u : Nat, n = (u : Int) := ⟨n.toNat, by omega⟩
    exact DCondT6 neg u (by omega) w hT
  rw [if_neg h6] at h ⊢
  by_cases h7 : k = 7
  · rw [if_pos h7, Bool.and_eq_true, decide_eq_true_eq, decide_eq_true_eq] at h
    obtain ⟨h2, rfl⟩ := h
    subst h7
    rcases (show n = 1 ∨ n = 2 ∨ n = 3 ∨ n = 4 ∨ n = 5 by omega) with rfl | rfl | rfl | rfl | rfl
    · exact DCondT7_1 neg w
    · exact DCondT7_2 neg w
    · exact DCondT7_3 neg w
    · exact DCondT7_4 neg w
    · exact DCondT7_5 neg w
  rw [if_neg h7] at h
  cases h
end
section
open Go.RowKit
set_option linter.unusedVariables false
attribute [local go_sem ↓] Go.wp_at_zero Go.wp_at_succ

set_option maxRecDepth 20000 in
set_option maxHeartbeats 4000000 in
theorem DActT1 (name : List UInt8) (n : UInt32) (addr : List UInt8) (w : World) (hT : Tab w) :
    Calls Tryz.prog 39 #[.agg #[.int .i64 1, .string ⟨name.toArray⟩, .int .u32 (n.toNat : Int), .string ⟨addr.toArray⟩]] w fun e w' => e = .returned (.string ⟨(([97, 99, 99, 101, 112, 116] : List UInt8)).toArray⟩) ∧ Ext w w' := by
  have q := fun W (h : Ext w W) => (FormatUint_any (n.toNat) (by have := n.toNat_lt; omega) W (hT.ext h)).mono (R' := fun e w' => e = .returned (.string ⟨(digS 10 (n.toNat)).toArray⟩) ∧ Ext W w') fun e w' q => ⟨by rw [q.1]; unfold dec; rw [digS_dec], q.2⟩
  have hwn : IntKind.u64.wrap (n.toNat : Int) = (n.toNat : Int) := by rw [IntKind.wrap_u64]; have := n.toNat_lt; omega
  have hdl : (digS 10 n.toNat).length ≤ 10 := digS_len (by decide) 10 _ (by have := n.toNat_lt; omega) (by decide)
  generalize digS 10 n.toNat = d at *
  clear hT
  have E := hide ((Ext.refl w).alloc (Obj.cells #[.int .i64 1, .string ⟨name.toArray⟩, .int .u32 (n.toNat : Int), .string ⟨addr.toArray⟩] 51))
  have R := hide (Blk.new w 51 #[.int .i64 1, .string ⟨name.toArray⟩, .int .u32 (n.toNat : Int), .string ⟨addr.toArray⟩])
  clear hdl
  replace q := hide q
  go_enter Tryz.func39, Tryz.ntmps39
  go_wp2_with fail
  (with_reducible refine (q.out _ E.out).mono ?_)
  rintro e w1 ⟨rfl, he⟩
  have R1 := hide (R.out.ext he)
  replace E := hide (E.out.trans he)
  clear R q he
  have r0 : w1.cell? ⟨w.heap.size, 0, none⟩ = some (.int .i64 1) := R1.out.cell 0
  have r1 : w1.cell? ⟨w.heap.size, 1, none⟩ = some (.string ⟨name.toArray⟩) := R1.out.cell 1
  have r2 : w1.cell? ⟨w.heap.size, 2, none⟩ = some (.int .u32 (n.toNat : Int)) := R1.out.cell 2
  have r3 : w1.cell? ⟨w.heap.size, 3, none⟩ = some (.string ⟨addr.toArray⟩) := R1.out.cell 3
  go_wp2_with fail
  go_ret
  exact ⟨rfl, E.out⟩
set_option maxRecDepth 20000 in
set_option maxHeartbeats 4000000 in
theorem DActT2 (name : List UInt8) (n : UInt32) (addr : List UInt8) (w : World) (hT : Tab w) :
    Calls Tryz.prog 39 #[.agg #[.int .i64 2, .string ⟨name.toArray⟩, .int .u32 (n.toNat : Int), .string ⟨addr.toArray⟩]] w fun e w' => e = .returned (.string ⟨(([114, 101, 106, 101, 99, 116] : List UInt8)).toArray⟩) ∧ Ext w w' := by
  have q := fun W (h : Ext w W) => (FormatUint_any (n.toNat) (by have := n.toNat_lt; omega) W (hT.ext h)).mono (R' := fun e w' => e = .returned (.string ⟨(digS 10 (n.toNat)).toArray⟩) ∧ Ext W w') fun e w' q => ⟨by rw [q.1]; unfold dec; rw [digS_dec], q.2⟩
  have hwn : IntKind.u64.wrap (n.toNat : Int) = (n.toNat : Int) := by rw [IntKind.wrap_u64]; have := n.toNat_lt; omega
  have hdl : (digS 10 n.toNat).length ≤ 10 := digS_len (by decide) 10 _ (by have := n.toNat_lt; omega) (by decide)
  generalize digS 10 n.toNat = d at *
  clear hT
  have E := hide ((Ext.refl w).alloc (Obj.cells #[.int .i64 2, .string ⟨name.toArray⟩, .int .u32 (n.toNat : Int), .string ⟨addr.toArray⟩] 51))
  have R := hide (Blk.new w 51 #[.int .i64 2, .string ⟨name.toArray⟩, .int .u32 (n.toNat : Int), .string ⟨addr.toArray⟩])
  clear hdl
  replace q := hide q
  go_enter Tryz.func39, Tryz.ntmps39
  go_wp2_with fail
  (with_reducible refine (q.out _ E.out).mono ?_)
  rintro e w1 ⟨rfl, he⟩
  have R1 := hide (R.out.ext he)
  replace E := hide (E.out.trans he)
  clear R q he
  have r0 : w1.cell? ⟨w.heap.size, 0, none⟩ = some (.int .i64 2) := R1.out.cell 0
  have r1 : w1.cell? ⟨w.heap.size, 1, none⟩ = some (.string ⟨name.toArray⟩) := R1.out.cell 1
  have r2 : w1.cell? ⟨w.heap.size, 2, none⟩ = some (.int .u32 (n.toNat : Int)) := R1.out.cell 2
  have r3 : w1.cell? ⟨w.heap.size, 3, none⟩ = some (.string ⟨addr.toArray⟩) := R1.out.cell 3
  go_wp2_with fail
  go_ret
  exact ⟨rfl, E.out⟩
set_option maxRecDepth 20000 in
set_option maxHeartbeats 4000000 in
theorem DActT5 (name : List UInt8) (n : UInt32) (addr : List UInt8) (w : World) (hT : Tab w) :
    Calls Tryz.prog 39 #[.agg #[.int .i64 5, .string ⟨name.toArray⟩, .int .u32 (n.toNat : Int), .string ⟨addr.toArray⟩]] w fun e w' => e = .returned (.string ⟨(([110, 111, 45, 109, 101, 100] : List UInt8)).toArray⟩) ∧ Ext w w' := by
  have q := fun W (h : Ext w W) => (FormatUint_any (n.toNat) (by have := n.toNat_lt; omega) W (hT.ext h)).mono (R' := fun e w' => e = .returned (.string ⟨(digS 10 (n.toNat)).toArray⟩) ∧ Ext W w') fun e w' q => ⟨by rw [q.1]; unfold dec; rw [digS_dec], q.2⟩
  have hwn : IntKind.u64.wrap (n.toNat : Int) = (n.toNat : Int) := by rw [IntKind.wrap_u64]; have := n.toNat_lt; omega
  have hdl : (digS 10 n.toNat).length ≤ 10 := digS_len (by decide) 10 _ (by have := n.toNat_lt; omega) (by decide)
  generalize digS 10 n.toNat = d at *
  clear hT
  have E := hide ((Ext.refl w).alloc (Obj.cells #[.int .i64 5, .string ⟨name.toArray⟩, .int .u32 (n.toNat : Int), .string ⟨addr.toArray⟩] 51))
  have R := hide (Blk.new w 51 #[.int .i64 5, .string ⟨name.toArray⟩, .int .u32 (n.toNat : Int), .string ⟨addr.toArray⟩])
  clear hdl
  replace q := hide q
  go_enter Tryz.func39, Tryz.ntmps39
  go_wp2_with fail
  (with_reducible refine (q.out _ E.out).mono ?_)
  rintro e w1 ⟨rfl, he⟩
  have R1 := hide (R.out.ext he)
  replace E := hide (E.out.trans he)
  clear R q he
  have r0 : w1.cell? ⟨w.heap.size, 0, none⟩ = some (.int .i64 5) := R1.out.cell 0
  have r1 : w1.cell? ⟨w.heap.size, 1, none⟩ = some (.string ⟨name.toArray⟩) := R1.out.cell 1
  have r2 : w1.cell? ⟨w.heap.size, 2, none⟩ = some (.int .u32 (n.toNat : Int)) := R1.out.cell 2
  have r3 : w1.cell? ⟨w.heap.size, 3, none⟩ = some (.string ⟨addr.toArray⟩) := R1.out.cell 3
  go_wp2_with fail
  go_ret
  exact ⟨rfl, E.out⟩
set_option maxRecDepth 20000 in
set_option maxHeartbeats 4000000 in
theorem DActT3 (name : List UInt8) (n : UInt32) (addr : List UInt8) (w : World) (hT : Tab w) :
    Calls Tryz.prog 39 #[.agg #[.int .i64 3, .string ⟨name.toArray⟩, .int .u32 (n.toNat : Int), .string ⟨addr.toArray⟩]] w fun e w' => e = .returned (.string ⟨([112, 114, 101, 102, 32] ++ digS 10 n.toNat).toArray⟩) ∧ Ext w w' := by
  have q := fun W (h : Ext w W) => (FormatUint_any (n.toNat) (by have := n.toNat_lt; omega) W (hT.ext h)).mono (R' := fun e w' => e = .returned (.string ⟨(digS 10 (n.toNat)).toArray⟩) ∧ Ext W w') fun e w' q => ⟨by rw [q.1]; unfold dec; rw [digS_dec], q.2⟩
  have hwn : IntKind.u64.wrap (n.toNat : Int) = (n.toNat : Int) := by rw [IntKind.wrap_u64]; have := n.toNat_lt; omega
  have hdl : (digS 10 n.toNat).length ≤ 10 := digS_len (by decide) 10 _ (by have := n.toNat_lt; omega) (by decide)
  generalize digS 10 n.toNat = d at *
  have z1 := sz_app [112, 114, 101, 102, 32] d (by simp; omega)
  clear hT
  have E := hide ((Ext.refl w).alloc (Obj.cells #[.int .i64 3, .string ⟨name.toArray⟩, .int .u32 (n.toNat : Int), .string ⟨addr.toArray⟩] 51))
  have R := hide (Blk.new w 51 #[.int .i64 3, .string ⟨name.toArray⟩, .int .u32 (n.toNat : Int), .string ⟨addr.toArray⟩])
  clear hdl
  replace q := hide q
  go_enter Tryz.func39, Tryz.ntmps39
  go_wp2_with fail
  (with_reducible refine (q.out _ E.out).mono ?_)
  rintro e w1 ⟨rfl, he⟩
  have R1 := hide (R.out.ext he)
  replace E := hide (E.out.trans he)
  clear R q he
  have r0 : w1.cell? ⟨w.heap.size, 0, none⟩ = some (.int .i64 3) := R1.out.cell 0
  have r1 : w1.cell? ⟨w.heap.size, 1, none⟩ = some (.string ⟨name.toArray⟩) := R1.out.cell 1
  have r2 : w1.cell? ⟨w.heap.size, 2, none⟩ = some (.int .u32 (n.toNat : Int)) := R1.out.cell 2
  have r3 : w1.cell? ⟨w.heap.size, 3, none⟩ = some (.string ⟨addr.toArray⟩) := R1.out.cell 3
  go_wp2_with fail
  go_ret
  exact ⟨by rw [ba_app [112, 114, 101, 102, 32]]; rfl, E.out⟩
set_option maxRecDepth 20000 in
set_option maxHeartbeats 4000000 in
theorem DActT4 (name : List UInt8) (n : UInt32) (addr : List UInt8) (w : World) (hT : Tab w) :
    Calls Tryz.prog 39 #[.agg #[.int .i64 4, .string ⟨name.toArray⟩, .int .u32 (n.toNat : Int), .string ⟨addr.toArray⟩]] w fun e w' => e = .returned (.string ⟨([109, 101, 100, 32] ++ digS 10 n.toNat).toArray⟩) ∧ Ext w w' := by
  have q := fun W (h : Ext w W) => (FormatUint_any (n.toNat) (by have := n.toNat_lt; omega) W (hT.ext h)).mono (R' := fun e w' => e = .returned (.string ⟨(digS 10 (n.toNat)).toArray⟩) ∧ Ext W w') fun e w' q => ⟨by rw [q.1]; unfold dec; rw [digS_dec], q.2⟩
  have hwn : IntKind.u64.wrap (n.toNat : Int) = (n.toNat : Int) := by rw [IntKind.wrap_u64]; have := n.toNat_lt; omega
  have hdl : (digS 10 n.toNat).length ≤ 10 := digS_len (by decide) 10 _ (by have := n.toNat_lt; omega) (by decide)
  generalize digS 10 n.toNat = d at *
  have z1 := sz_app [109, 101, 100, 32] d (by simp; omega)
  clear hT
  have E := hide ((Ext.refl w).alloc (Obj.cells #[.int .i64 4, .string ⟨name.toArray⟩, .int .u32 (n.toNat : Int), .string ⟨addr.toArray⟩] 51))
  have R := hide (Blk.new w 51 #[.int .i64 4, .string ⟨name.toArray⟩, .int .u32 (n.toNat : Int), .string ⟨addr.toArray⟩])
  clear hdl
  replace q := hide q
  go_enter Tryz.func39, Tryz.ntmps39
  go_wp2_with fail
  (with_reducible refine (q.out _ E.out).mono ?_)
  rintro e w1 ⟨rfl, he⟩
  have R1 := hide (R.out.ext he)
  replace E := hide (E.out.trans he)
  clear R q he
  have r0 : w1.cell? ⟨w.heap.size, 0, none⟩ = some (.int .i64 4) := R1.out.cell 0
  have r1 : w1.cell? ⟨w.heap.size, 1, none⟩ = some (.string ⟨name.toArray⟩) := R1.out.cell 1
  have r2 : w1.cell? ⟨w.heap.size, 2, none⟩ = some (.int .u32 (n.toNat : Int)) := R1.out.cell 2
  have r3 : w1.cell? ⟨w.heap.size, 3, none⟩ = some (.string ⟨addr.toArray⟩) := R1.out.cell 3
  go_wp2_with fail
  go_ret
  exact ⟨by rw [ba_app [109, 101, 100, 32]]; rfl, E.out⟩
set_option maxRecDepth 20000 in
set_option maxHeartbeats 4000000 in
theorem DActT8 (name : List UInt8) (n : UInt32) (addr : List UInt8) (w : World) (hT : Tab w) :
    Calls Tryz.prog 39 #[.agg #[.int .i64 8, .string ⟨name.toArray⟩, .int .u32 (n.toNat : Int), .string ⟨addr.toArray⟩]] w fun e w' => e = .returned (.string ⟨([112, 114, 101, 112, 101, 110, 100, 32] ++ digS 10 n.toNat).toArray⟩) ∧ Ext w w' := by
  have q := fun W (h : Ext w W) => (FormatUint_any (n.toNat) (by have := n.toNat_lt; omega) W (hT.ext h)).mono (R' := fun e w' => e = .returned (.string ⟨(digS 10 (n.toNat)).toArray⟩) ∧ Ext W w') fun e w' q => ⟨by rw [q.1]; unfold dec; rw [digS_dec], q.2⟩
  have hwn : IntKind.u64.wrap (n.toNat : Int) = (n.toNat : Int) := by rw [IntKind.wrap_u64]; have := n.toNat_lt; omega
  have hdl : (digS 10 n.toNat).length ≤ 10 := digS_len (by decide) 10 _ (by have := n.toNat_lt; omega) (by decide)
  generalize digS 10 n.toNat = d at *
  have z1 := sz_app [112, 114, 101, 112, 101, 110, 100, 32] d (by simp; omega)
  clear hT
  have E := hide ((Ext.refl w).alloc (Obj.cells #[.int .i64 8, .string ⟨name.toArray⟩, .int .u32 (n.toNat : Int), .string ⟨addr.toArray⟩] 51))
  have R := hide (Blk.new w 51 #[.int .i64 8, .string ⟨name.toArray⟩, .int .u32 (n.toNat : Int), .string ⟨addr.toArray⟩])
  clear hdl
  replace q := hide q
  go_enter Tryz.func39, Tryz.ntmps39
  go_wp2_with fail
  (with_reducible refine (q.out _ E.out).mono ?_)
  rintro e w1 ⟨rfl, he⟩
  have R1 := hide (R.out.ext he)
  replace E := hide (E.out.trans he)
  clear R q he
  have r0 : w1.cell? ⟨w.heap.size, 0, none⟩ = some (.int .i64 8) := R1.out.cell 0
  have r1 : w1.cell? ⟨w.heap.size, 1, none⟩ = some (.string ⟨name.toArray⟩) := R1.out.cell 1
  have r2 : w1.cell? ⟨w.heap.size, 2, none⟩ = some (.int .u32 (n.toNat : Int)) := R1.out.cell 2
  have r3 : w1.cell? ⟨w.heap.size, 3, none⟩ = some (.string ⟨addr.toArray⟩) := R1.out.cell 3
  go_wp2_with fail
  go_ret
  exact ⟨by rw [ba_app [112, 114, 101, 112, 101, 110, 100, 32]]; rfl, E.out⟩
set_option maxRecDepth 20000 in
set_option maxHeartbeats 4000000 in
theorem DActT7 (name : List UInt8) (n : UInt32) (addr : List UInt8) (hn : name.length ≤ 1048576) (w : World) (hT : Tab w) :
    Calls Tryz.prog 39 #[.agg #[.int .i64 7, .string ⟨name.toArray⟩, .int .u32 (n.toNat : Int), .string ⟨addr.toArray⟩]] w fun e w' => e = .returned (.string ⟨([100, 101, 108, 32] ++ name).toArray⟩) ∧ Ext w w' := by
  have q := fun W (h : Ext w W) => (FormatUint_any (n.toNat) (by have := n.toNat_lt; omega) W (hT.ext h)).mono (R' := fun e w' => e = .returned (.string ⟨(digS 10 (n.toNat)).toArray⟩) ∧ Ext W w') fun e w' q => ⟨by rw [q.1]; unfold dec; rw [digS_dec], q.2⟩
  have hwn : IntKind.u64.wrap (n.toNat : Int) = (n.toNat : Int) := by rw [IntKind.wrap_u64]; have := n.toNat_lt; omega
  have hdl : (digS 10 n.toNat).length ≤ 10 := digS_len (by decide) 10 _ (by have := n.toNat_lt; omega) (by decide)
  generalize digS 10 n.toNat = d at *
  have z1 := sz_app [100, 101, 108, 32] name (by simp; omega)
  clear hn
  clear hT
  have E := hide ((Ext.refl w).alloc (Obj.cells #[.int .i64 7, .string ⟨name.toArray⟩, .int .u32 (n.toNat : Int), .string ⟨addr.toArray⟩] 51))
  have R := hide (Blk.new w 51 #[.int .i64 7, .string ⟨name.toArray⟩, .int .u32 (n.toNat : Int), .string ⟨addr.toArray⟩])
  clear hdl
  replace q := hide q
  go_enter Tryz.func39, Tryz.ntmps39
  go_wp2_with fail
  (with_reducible refine (q.out _ E.out).mono ?_)
  rintro e w1 ⟨rfl, he⟩
  have R1 := hide (R.out.ext he)
  replace E := hide (E.out.trans he)
  clear R q he
  have r0 : w1.cell? ⟨w.heap.size, 0, none⟩ = some (.int .i64 7) := R1.out.cell 0
  have r1 : w1.cell? ⟨w.heap.size, 1, none⟩ = some (.string ⟨name.toArray⟩) := R1.out.cell 1
  have r2 : w1.cell? ⟨w.heap.size, 2, none⟩ = some (.int .u32 (n.toNat : Int)) := R1.out.cell 2
  have r3 : w1.cell? ⟨w.heap.size, 3, none⟩ = some (.string ⟨addr.toArray⟩) := R1.out.cell 3
  go_wp2_with fail
  go_ret
  exact ⟨by rw [ba_app [100, 101, 108, 32]]; rfl, E.out⟩
set_option maxRecDepth 20000 in
set_option maxHeartbeats 4000000 in
theorem DActT6 (name : List UInt8) (n : UInt32) (addr : List UInt8) (w : World) (hT : Tab w) :
    Calls Tryz.prog 39 #[.agg #[.int .i64 6, .string ⟨name.toArray⟩, .int .u32 (n.toNat : Int), .string ⟨addr.toArray⟩]] w fun e w' => e = .returned (.string ⟨([97, 100, 100, 32] ++ commT n).toArray⟩) ∧ Ext w w' := by
  have q := fun W (h : Ext w W) => (FormatUint_any (n.toNat) (by have := n.toNat_lt; omega) W (hT.ext h)).mono (R' := fun e w' => e = .returned (.string ⟨(digS 10 (n.toNat)).toArray⟩) ∧ Ext W w') fun e w' q => ⟨by rw [q.1]; unfold dec; rw [digS_dec], q.2⟩
  have hwn : IntKind.u64.wrap (n.toNat : Int) = (n.toNat : Int) := by rw [IntKind.wrap_u64]; have := n.toNat_lt; omega
  have hdl : (digS 10 n.toNat).length ≤ 10 := digS_len (by decide) 10 _ (by have := n.toNat_lt; omega) (by decide)
  generalize digS 10 n.toNat = d at *
  have qc := fun W (h : Ext w W) => RCText_any n W
  have hcl := commT_len n
  generalize commT n = ct at *
  have z1 := sz_app [97, 100, 100, 32] ct (by simp; omega)
  clear hcl
  replace qc := hide qc
  clear hT
  have E := hide ((Ext.refl w).alloc (Obj.cells #[.int .i64 6, .string ⟨name.toArray⟩, .int .u32 (n.toNat : Int), .string ⟨addr.toArray⟩] 51))
  have R := hide (Blk.new w 51 #[.int .i64 6, .string ⟨name.toArray⟩, .int .u32 (n.toNat : Int), .string ⟨addr.toArray⟩])
  clear hdl
  replace q := hide q
  go_enter Tryz.func39, Tryz.ntmps39
  go_wp2_with fail
  (with_reducible refine (q.out _ E.out).mono ?_)
  rintro e w1 ⟨rfl, he⟩
  have R1 := hide (R.out.ext he)
  replace E := hide (E.out.trans he)
  clear R q he
  have r0 : w1.cell? ⟨w.heap.size, 0, none⟩ = some (.int .i64 6) := R1.out.cell 0
  have r1 : w1.cell? ⟨w.heap.size, 1, none⟩ = some (.string ⟨name.toArray⟩) := R1.out.cell 1
  have r2 : w1.cell? ⟨w.heap.size, 2, none⟩ = some (.int .u32 (n.toNat : Int)) := R1.out.cell 2
  have r3 : w1.cell? ⟨w.heap.size, 3, none⟩ = some (.string ⟨addr.toArray⟩) := R1.out.cell 3
  go_wp2_with fail
  (with_reducible refine (qc.out _ E.out).mono ?_)
  rintro e w2 ⟨rfl, he⟩
  replace E := hide (E.out.trans he)
  clear R1 r0 r1 r2 r3
  go_wp2_with fail
  go_ret
  exact ⟨by rw [ba_app [97, 100, 100, 32]]; rfl, E.out⟩
set_option maxRecDepth 20000 in
set_option maxHeartbeats 4000000 in
theorem DActT9 (name : List UInt8) (n : UInt32) (addr : List UInt8) (ha : addr.length ≤ 1048576) (w : World) (hT : Tab w) (hD : Deb w) :
    Calls Tryz.prog 39 #[.agg #[.int .i64 9, .string ⟨name.toArray⟩, .int .u32 (n.toNat : Int), .string ⟨addr.toArray⟩]] w fun e w' => e = .returned (.string ⟨([110, 101, 120, 116, 32] ++ (addrT addr).1).toArray⟩) ∧ Ext w w' := by
  have q := fun W (h : Ext w W) => (FormatUint_any (n.toNat) (by have := n.toNat_lt; omega) W (hT.ext h)).mono (R' := fun e w' => e = .returned (.string ⟨(digS 10 (n.toNat)).toArray⟩) ∧ Ext W w') fun e w' q => ⟨by rw [q.1]; unfold dec; rw [digS_dec], q.2⟩
  have hwn : IntKind.u64.wrap (n.toNat : Int) = (n.toNat : Int) := by rw [IntKind.wrap_u64]; have := n.toNat_lt; omega
  have hdl : (digS 10 n.toNat).length ≤ 10 := digS_len (by decide) 10 _ (by have := n.toNat_lt; omega) (by decide)
  generalize digS 10 n.toNat = d at *
  have qc := fun W (h : Ext w W) => RAddrText_any addr ha W
  have hcl := addrT_len (a := addr)
  generalize (addrT addr).1 = ct at *
  generalize (addrT addr).2 = er at *
  clear hD
  have z1 := sz_app [110, 101, 120, 116, 32] ct (by simp; omega)
  clear hcl ha
  replace qc := hide qc
  clear hT
  have E := hide ((Ext.refl w).alloc (Obj.cells #[.int .i64 9, .string ⟨name.toArray⟩, .int .u32 (n.toNat : Int), .string ⟨addr.toArray⟩] 51))
  have R := hide (Blk.new w 51 #[.int .i64 9, .string ⟨name.toArray⟩, .int .u32 (n.toNat : Int), .string ⟨addr.toArray⟩])
  clear hdl
  replace q := hide q
  go_enter Tryz.func39, Tryz.ntmps39
  go_wp2_with fail
  (with_reducible refine (q.out _ E.out).mono ?_)
  rintro e w1 ⟨rfl, he⟩
  have R1 := hide (R.out.ext he)
  replace E := hide (E.out.trans he)
  clear R q he
  have r0 : w1.cell? ⟨w.heap.size, 0, none⟩ = some (.int .i64 9) := R1.out.cell 0
  have r1 : w1.cell? ⟨w.heap.size, 1, none⟩ = some (.string ⟨name.toArray⟩) := R1.out.cell 1
  have r2 : w1.cell? ⟨w.heap.size, 2, none⟩ = some (.int .u32 (n.toNat : Int)) := R1.out.cell 2
  have r3 : w1.cell? ⟨w.heap.size, 3, none⟩ = some (.string ⟨addr.toArray⟩) := R1.out.cell 3
  go_wp2_with fail
  (with_reducible refine (qc.out _ E.out).mono ?_)
  rintro e w2 ⟨rfl, he⟩
  replace E := hide (E.out.trans he)
  clear R1 r0 r1 r2 r3
  go_wp2_with fail
  go_ret
  exact ⟨by rw [ba_app [110, 101, 120, 116, 32]]; rfl, E.out⟩
set_option maxRecDepth 20000 in
set_option maxHeartbeats 4000000 in
theorem DActT10_0 (name : List UInt8) (addr : List UInt8) (w : World) (hT : Tab w) :
    Calls Tryz.prog 39 #[.agg #[.int .i64 10, .string ⟨name.toArray⟩, .int .u32 0, .string ⟨addr.toArray⟩]] w fun e w' => e = .returned (.string ⟨([111, 114, 105, 103, 105, 110, 32] ++ ([105, 103, 112] : List UInt8)).toArray⟩) ∧ Ext w w' := by
  have q := fun W (h : Ext w W) => (FormatUint_any (0) (by decide) W (hT.ext h)).mono (R' := fun e w' => e = .returned (.string ⟨(digS 10 (0)).toArray⟩) ∧ Ext W w') fun e w' q => ⟨by rw [q.1]; unfold dec; rw [digS_dec], q.2⟩
  rw [show ((0 : Nat) : Int) = 0 from rfl] at q
  generalize digS 10 (0) = d at *
  clear hT
  have E := hide ((Ext.refl w).alloc (Obj.cells #[.int .i64 10, .string ⟨name.toArray⟩, .int .u32 0, .string ⟨addr.toArray⟩] 51))
  have R := hide (Blk.new w 51 #[.int .i64 10, .string ⟨name.toArray⟩, .int .u32 0, .string ⟨addr.toArray⟩])
  replace q := hide q
  go_enter Tryz.func39, Tryz.ntmps39
  go_wp2_with fail
  (with_reducible refine (q.out _ E.out).mono ?_)
  rintro e w1 ⟨rfl, he⟩
  have R1 := hide (R.out.ext he)
  replace E := hide (E.out.trans he)
  clear R q he
  have r0 : w1.cell? ⟨w.heap.size, 0, none⟩ = some (.int .i64 10) := R1.out.cell 0
  have r1 : w1.cell? ⟨w.heap.size, 1, none⟩ = some (.string ⟨name.toArray⟩) := R1.out.cell 1
  have r2 : w1.cell? ⟨w.heap.size, 2, none⟩ = some (.int .u32 0) := R1.out.cell 2
  have r3 : w1.cell? ⟨w.heap.size, 3, none⟩ = some (.string ⟨addr.toArray⟩) := R1.out.cell 3
  go_wp2_with fail
  (with_reducible refine (DOrigin_0 _).mono ?_)
  rintro e w2 ⟨rfl, he⟩
  replace E := hide (E.out.trans he)
  clear R1 r0 r1 r2 r3
  go_wp2_with fail
  go_ret
  exact ⟨by rw [ba_app [111, 114, 105, 103, 105, 110, 32]]; rfl, E.out⟩
set_option maxRecDepth 20000 in
set_option maxHeartbeats 4000000 in
theorem DActT10_1 (name : List UInt8) (addr : List UInt8) (w : World) (hT : Tab w) :
    Calls Tryz.prog 39 #[.agg #[.int .i64 10, .string ⟨name.toArray⟩, .int .u32 1, .string ⟨addr.toArray⟩]] w fun e w' => e = .returned (.string ⟨([111, 114, 105, 103, 105, 110, 32] ++ ([101, 103, 112] : List UInt8)).toArray⟩) ∧ Ext w w' := by
  have q := fun W (h : Ext w W) => (FormatUint_any (1) (by decide) W (hT.ext h)).mono (R' := fun e w' => e = .returned (.string ⟨(digS 10 (1)).toArray⟩) ∧ Ext W w') fun e w' q => ⟨by rw [q.1]; unfold dec; rw [digS_dec], q.2⟩
  rw [show ((1 : Nat) : Int) = 1 from rfl] at q
  generalize digS 10 (1) = d at *
  clear hT
  have E := hide ((Ext.refl w).alloc (Obj.cells #[.int .i64 10, .string ⟨name.toArray⟩, .int .u32 1, .string ⟨addr.toArray⟩] 51))
  have R := hide (Blk.new w 51 #[.int .i64 10, .string ⟨name.toArray⟩, .int .u32 1, .string ⟨addr.toArray⟩])
  replace q := hide q
  go_enter Tryz.func39, Tryz.ntmps39
  go_wp2_with fail
  (with_reducible refine (q.out _ E.out).mono ?_)
  rintro e w1 ⟨rfl, he⟩
  have R1 := hide (R.out.ext he)
  replace E := hide (E.out.trans he)
  clear R q he
  have r0 : w1.cell? ⟨w.heap.size, 0, none⟩ = some (.int .i64 10) := R1.out.cell 0
  have r1 : w1.cell? ⟨w.heap.size, 1, none⟩ = some (.string ⟨name.toArray⟩) := R1.out.cell 1
  have r2 : w1.cell? ⟨w.heap.size, 2, none⟩ = some (.int .u32 1) := R1.out.cell 2
  have r3 : w1.cell? ⟨w.heap.size, 3, none⟩ = some (.string ⟨addr.toArray⟩) := R1.out.cell 3
  go_wp2_with fail
  (with_reducible refine (DOrigin_1 _).mono ?_)
  rintro e w2 ⟨rfl, he⟩
  replace E := hide (E.out.trans he)
  clear R1 r0 r1 r2 r3
  go_wp2_with fail
  go_ret
  exact ⟨by rw [ba_app [111, 114, 105, 103, 105, 110, 32]]; rfl, E.out⟩
set_option maxRecDepth 20000 in
set_option maxHeartbeats 4000000 in
theorem DActT10_2 (name : List UInt8) (addr : List UInt8) (w : World) (hT : Tab w) :
    Calls Tryz.prog 39 #[.agg #[.int .i64 10, .string ⟨name.toArray⟩, .int .u32 2, .string ⟨addr.toArray⟩]] w fun e w' => e = .returned (.string ⟨([111, 114, 105, 103, 105, 110, 32] ++ ([105, 110, 99, 111, 109, 112, 108, 101, 116, 101] : List UInt8)).toArray⟩) ∧ Ext w w' := by
  have q := fun W (h : Ext w W) => (FormatUint_any (2) (by decide) W (hT.ext h)).mono (R' := fun e w' => e = .returned (.string ⟨(digS 10 (2)).toArray⟩) ∧ Ext W w') fun e w' q => ⟨by rw [q.1]; unfold dec; rw [digS_dec], q.2⟩
  rw [show ((2 : Nat) : Int) = 2 from rfl] at q
  generalize digS 10 (2) = d at *
  clear hT
  have E := hide ((Ext.refl w).alloc (Obj.cells #[.int .i64 10, .string ⟨name.toArray⟩, .int .u32 2, .string ⟨addr.toArray⟩] 51))
  have R := hide (Blk.new w 51 #[.int .i64 10, .string ⟨name.toArray⟩, .int .u32 2, .string ⟨addr.toArray⟩])
  replace q := hide q
  go_enter Tryz.func39, Tryz.ntmps39
  go_wp2_with fail
  (with_reducible refine (q.out _ E.out).mono ?_)
  rintro e w1 ⟨rfl, he⟩
  have R1 := hide (R.out.ext he)
  replace E := hide (E.out.trans he)
  clear R q he
  have r0 : w1.cell? ⟨w.heap.size, 0, none⟩ = some (.int .i64 10) := R1.out.cell 0
  have r1 : w1.cell? ⟨w.heap.size, 1, none⟩ = some (.string ⟨name.toArray⟩) := R1.out.cell 1
  have r2 : w1.cell? ⟨w.heap.size, 2, none⟩ = some (.int .u32 2) := R1.out.cell 2
  have r3 : w1.cell? ⟨w.heap.size, 3, none⟩ = some (.string ⟨addr.toArray⟩) := R1.out.cell 3
  go_wp2_with fail
  (with_reducible refine (DOrigin_2 _).mono ?_)
  rintro e w2 ⟨rfl, he⟩
  replace E := hide (E.out.trans he)
  clear R1 r0 r1 r2 r3
  go_wp2_with fail
  go_ret
  exact ⟨by rw [ba_app [111, 114, 105, 103, 105, 110, 32]]; rfl, E.out⟩
theorem DActT_any (a : ActS) (h : actOk a = true) (hn : a.name.length ≤ 1048576) (ha : a.addr.length ≤ 1048576) (w : World) (hT : Tab w) (hD : Deb w) :
    Calls Tryz.prog 39 #[.agg (actCs a).toArray] w fun e w' => e = .returned (.string ⟨(actT a).toArray⟩) ∧ Ext w w' := by
  obtain ⟨k, name, n, addr⟩ := a
  unfold actT
  unfold actOk at h
  dsimp only at h hn ha ⊢
  by_cases h1 : k = 1
  · subst h1; exact DActT1 name n addr w hT
  rw [if_neg h1]
  by_cases h2 : k = 2
  · subst h2; exact DActT2 name n addr w hT
  rw [if_neg h2]
  by_cases h5 : k = 5
  · subst h5; exact DActT5 name n addr w hT
  rw [if_neg h5]
  by_cases h3 : k = 3
  · subst h3; exact DActT3 name n addr w hT
  rw [if_neg h3]
  by_cases h4 : k = 4
  · subst h4; exact DActT4 name n addr w hT
  rw [if_neg h4]
  by_cases h6 : k = 6
  · subst h6; exact DActT6 name n addr w hT
  rw [if_neg h6]
  by_cases h7 : k = 7
  · subst h7; exact DActT7 name n addr hn w hT
  rw [if_neg h7]
  by_cases h8 : k = 8
  · subst h8; exact DActT8 name n addr w hT
  rw [if_neg h8]
  by_cases h9 : k = 9
  · subst h9; exact DActT9 name n addr ha w hT hD
  rw [if_neg h9]
  rw [if_neg (by omega), if_neg (by omega), if_neg h7, if_neg h8, if_neg h9] at h
  by_cases h10 : k = 10
  · subst h10
    rw [if_pos rfl, Bool.and_eq_true, decide_eq_true_eq] at h
    rcases (show n.toNat = 0 ∨ n.toNat = 1 ∨ n.toNat = 2 by omega) with e | e | e
    · rw [show (n.toNat : Int) = 0 by omega]; have := DActT10_0 name addr w hT; simpa [actCs, e, originT] using this
    · rw [show (n.toNat : Int) = 1 by omega]; have := DActT10_1 name addr w hT; simpa [actCs, e, originT] using this
    · rw [show (n.toNat : Int) = 2 by omega]; have := DActT10_2 name addr w hT; simpa [actCs, e, originT] using this
  rw [if_neg h10] at h
  cases h
end
section
open Go.RowKit
set_option linter.unusedVariables false
set_option linter.unusedSimpArgs false
attribute [local go_sem ↓] Go.wp_at_zero Go.wp_at_succ

theorem sz_ok (a b : ByteArray) (h : a.size + b.size ≤ 100000) : ¬ 9223372036854775807 < a.size + b.size := by omega
theorem condsP_step (l : List CondS) (k : Nat) (h : k < l.length) : condsP (l.take (k + 1)) = (if k = 0 then [105, 102, 32] else condsP (l.take k) ++ [97, 110, 100, 32]) ++ condT l[k] ++ [32] := by
  rw [List.take_succ_eq_append_getElem h]
  by_cases h0 : k = 0
  · subst h0
    rw [if_pos rfl, List.take_zero, List.nil_append, condsP_first]
  · rw [if_neg h0, condsP_snoc _ _ (by intro e; have := congrArg List.length e; rw [List.length_take, List.length_nil] at this; omega)]
theorem actsP_step (l : List ActS) (k : Nat) (h : k < l.length) : actsP (l.take (k + 1)) = (if k = 0 then [116, 104, 101, 110, 32] else actsP (l.take k) ++ [32, 97, 110, 100, 32]) ++ actT l[k] := by
  rw [List.take_succ_eq_append_getElem h]
  by_cases h0 : k = 0
  · subst h0
    rw [if_pos rfl, List.take_zero, List.nil_append, actsP_first]
  · rw [if_neg h0, actsP_snoc _ _ (by intro e; have := congrArg List.length e; rw [List.length_take, List.length_nil] at this; omega)]

set_option maxRecDepth 20000 in
set_option maxHeartbeats 4000000 in
theorem DTermText_any (a1 : Option Addr) (c1 : Nat) (a2 : Option Addr) (c2 : Nat) (t : TermS) (w : World) (h1 : t.conds.length ≤ 16777216) (h2 : t.acts.length ≤ 16777216) (s1 : Sl ECond w (· < w.heap.size) a1 t.conds) (s2 : Sl EAct w (· < w.heap.size) a2 t.acts) (hT : Tab w) (hD : Deb w) :
    Calls Tryz.prog 13 #[.agg #[.slice a1 t.conds.length c1, .slice a2 t.acts.length c2]] w fun e w' => e = .returned (.tuple #[.string ⟨(termT t).1.toArray⟩, .int .i64 (termT t).2]) ∧ Ext w w' := by
  have q1 := fun W (h : Ext w W) => DMayTerm_any a1 c1 a2 c2 t W h1 h2 (s1.ext h) (s2.ext h)
  have B := Blk.new w 25 #[.slice a1 t.conds.length c1, .slice a2 t.acts.length c2]
  have E := (Ext.refl w).alloc (Obj.cells #[.slice a1 t.conds.length c1, .slice a2 t.acts.length c2] 25)
  by_cases hok : termOk t = true
  case neg =>
    have htx : termT t = ([], 2) := if_neg hok
    rw [htx]
    have hf : termOk t = false := by simpa using hok
    rw [hf] at q1
    clear s1 s2 hT hD h1 h2 hok hf htx B
    replace q1 := hide q1
    replace E := hide E
    go_enter Tryz.func13, Tryz.ntmps13
    go_wp2_with fail
    (with_reducible refine (q1.out _ E.out).mono ?_)
    rintro e w1 ⟨rfl, he⟩
    replace E := hide (E.out.trans he)
    go_wp2_with fail
    go_ret2
    exact ⟨rfl, E.out⟩
  have htx : termT t = (termW t, 0) := if_pos hok
  rw [htx]
  rw [hok] at q1
  dsimp only
  obtain ⟨k1, k2, k3, k4, k5⟩ := ok_of_term hok
  rw [termW_eq t (by intro e; rw [e] at k2; simp at k2)]
  generalize hg0 : w.heap.size = g0 at B
  clear htx h1 h2
  replace s1 := hide s1
  replace s2 := hide s2
  replace hT := hide hT
  replace hD := hide hD
  replace k1 := hide k1
  replace k3 := hide k3
  replace k4 := hide k4
  replace k5 := hide k5
  replace q1 := hide q1
  replace B := hide B
  replace E := hide E
  replace hok := hide hok
  go_enter Tryz.func13, Tryz.ntmps13
  go_wp2_with fail
  (with_reducible refine (q1.out _ E.out).mono ?_)
  rintro e w1 ⟨rfl, he⟩
  replace B := hide (B.out.ext he)
  replace E := hide (E.out.trans he)
  clear he q1
  go_wp2
  clear hg0
  go_loopw [4, 5] (fun v q wr => ∃ k : Nat, k ≤ t.conds.length ∧ q = .int .i64 k ∧ v = .string ⟨(condsP (t.conds.take k)).toArray⟩ ∧ Ext w1 wr ∧ (condsP (t.conds.take k)).length ≤ k * 50) (fun _ q _ => t.conds.length - (intOf q).toNat)
  case atStart => exact ⟨0, by omega, rfl, rfl, Ext.refl _, by simp [condsP]⟩
  case round =>
    obtain ⟨k, hk, rfl, rfl, F, hlen⟩ := hrel
    have B1 := B.out.ext F
    have m0 := B1.cell 0
    have m1 := B1.cell 1
    simp at m0 m1
    clear B1
    by_cases hlt : k < t.conds.length
    · obtain ⟨b, off, rfl, _, hin, hcs⟩ := ECond.at (s1.out.ext (E.out.trans F)) k hlt
      have hnx := condsP_step t.conds k hlt
      have hcok := k4.out _ (List.getElem_mem hlt)
      have hcn := hin.name
      have hkb : k ≤ 64 := by have := k1.out; omega
      generalize t.conds[k] = x at hnx hin hcs hcok hcn
      have hsz := condT_len hcok
      have x0 : wr.cell? ⟨b, off + k * 4, none⟩ = some (.int .i64 x.kind) := hcs 0 _ rfl
      have x1 : wr.cell? ⟨b, off + k * 4 + 1, none⟩ = some (.bool x.neg) := hcs 1 _ rfl
      have x2 : wr.cell? ⟨b, off + k * 4 + 2, none⟩ = some (.string ⟨x.name.toArray⟩) := hcs 2 _ rfl
      have x3 : wr.cell? ⟨b, off + k * 4 + 3, none⟩ = some (.int .i64 x.n) := hcs 3 _ rfl
      have q : ∀ W (h : Ext w W), Calls Tryz.prog 38 #[.agg #[.int .i64 x.kind, .bool x.neg, .string ⟨x.name.toArray⟩, .int .i64 x.n]] W fun e w' => e = .returned (.string ⟨(condT x).toArray⟩) ∧ Ext W w' := fun W h => DCondT_any x hcok hcn W (hT.out.ext h)
      clear hcs hin hcok hcn
      generalize condT x = ct at *
      generalize hcp : condsP (t.conds.take k) = cs at *
      generalize hcp2 : condsP (t.conds.take (k + 1)) = cs2 at *
      by_cases hk0 : k = 0
      · have k0 : ((k : Int) == 0) = true := by rw [beq_iff_eq]; omega
        rw [if_pos hk0] at hnx
        have z1 := sz_ok ⟨#[105, 102, 32]⟩ ⟨ct.toArray⟩ (by simp only [ba_sz_app, ba_size, List.length_cons, List.length_nil]; omega)
        have z2 := sz_ok (⟨#[105, 102, 32]⟩ ++ ⟨ct.toArray⟩) ⟨#[32]⟩ (by simp only [ba_sz_app, ba_size, List.length_cons, List.length_nil]; omega)
        have hb : (⟨#[105, 102, 32]⟩ : ByteArray) ++ ⟨ct.toArray⟩ ++ ⟨#[32]⟩ = ⟨cs2.toArray⟩ := by rw [hnx, ba_app [105, 102, 32], ba_app1]
        have hl2 : cs2.length ≤ (k + 1) * 50 := by rw [hnx]; simp; omega
        clear hnx hcp hk0 hsz hlen
        replace F := hide F
        replace q := hide q
        replace hb := hide hb
        replace hl2 := hide hl2
        go_wp2_with fail
        (with_reducible refine (q.out _ (E.out.trans F.out)).mono ?_)
        rintro e w2 ⟨rfl, he⟩
        replace F := hide (F.out.trans he)
        clear he q m0 m1 x0 x1 x2 x3
        go_wp2_with fail
        go_roundw
        case rel => exact ⟨k + 1, by omega, by go_num, by rw [hb.out, hcp2], F.out, by rw [hcp2]; exact hl2.out⟩
        case measure => simp [intOf]; omega
      · have k0 : ((k : Int) == 0) = false := by rw [beq_eq_false_iff_ne]; omega
        rw [if_neg hk0] at hnx
        have z0 := sz_ok ⟨cs.toArray⟩ ⟨#[97, 110, 100, 32]⟩ (by simp only [ba_sz_app, ba_size, List.length_cons, List.length_nil]; omega)
        have z1 := sz_ok (⟨cs.toArray⟩ ++ ⟨#[97, 110, 100, 32]⟩) ⟨ct.toArray⟩ (by simp only [ba_sz_app, ba_size, List.length_cons, List.length_nil]; omega)
        have z2 := sz_ok (⟨cs.toArray⟩ ++ ⟨#[97, 110, 100, 32]⟩ ++ ⟨ct.toArray⟩) ⟨#[32]⟩ (by simp only [ba_sz_app, ba_size, List.length_cons, List.length_nil]; omega)
        have hb : (⟨cs.toArray⟩ : ByteArray) ++ ⟨#[97, 110, 100, 32]⟩ ++ ⟨ct.toArray⟩ ++ ⟨#[32]⟩ = ⟨cs2.toArray⟩ := by rw [hnx, ba_app cs [97, 110, 100, 32], ba_app (cs ++ [97, 110, 100, 32]) ct, ba_app1]
        have hl2 : cs2.length ≤ (k + 1) * 50 := by rw [hnx]; simp; omega
        clear hnx hcp hk0 hsz hlen
        replace F := hide F
        replace q := hide q
        replace hb := hide hb
        replace hl2 := hide hl2
        go_wp2_with fail
        (with_reducible refine (q.out _ (E.out.trans F.out)).mono ?_)
        rintro e w2 ⟨rfl, he⟩
        replace F := hide (F.out.trans he)
        clear he q m0 m1 x0 x1 x2 x3
        go_wp2_with fail
        go_roundw
        case rel => exact ⟨k + 1, by omega, by go_num, by rw [hb.out, hcp2], F.out, by rw [hcp2]; exact hl2.out⟩
        case measure => simp [intOf]; omega
    · obtain rfl : k = t.conds.length := by omega
      rw [List.take_length] at hlen ⊢
      have hkb : t.conds.length ≤ 64 := k1.out
      generalize hcpe : condsP t.conds = cp at hlen ⊢
      replace hcpe := hide hcpe
      generalize hn1 : t.conds.length = n1 at *
      clear hlt hk hn1
      replace hlen := hide hlen
      replace F := hide F
      go_wp2_with fail
      go_loopw [4, 6] (fun v q wq => ∃ k : Nat, k ≤ t.acts.length ∧ q = .int .i64 k ∧ v = .string ⟨(cp ++ actsP (t.acts.take k)).toArray⟩ ∧ Ext wr wq ∧ (actsP (t.acts.take k)).length ≤ k * 60) (fun _ q _ => t.acts.length - (intOf q).toNat)
      case atStart => exact ⟨0, by omega, rfl, by simp [actsP], Ext.refl _, by simp [actsP]⟩
      case round =>
        clear m0 m1
        obtain ⟨k, hk, rfl, rfl, F2, hlen2⟩ := hrel
        have B1 := B.out.ext (F.out.trans F2)
        have m0 := B1.cell 0
        have m1 := B1.cell 1
        simp at m0 m1
        clear B1
        by_cases hlt : k < t.acts.length
        · obtain ⟨b, off, rfl, _, hin, hcs⟩ := EAct.at (s2.out.ext (E.out.trans (F.out.trans F2))) k hlt
          have hnx := actsP_step t.acts k hlt
          have hcok := k5.out _ (List.getElem_mem hlt)
          have hcn := hin.name
          have hca := hin.addr
          have hkb2 : k ≤ 64 := by have := k3.out; omega
          have hcl : cp.length ≤ 3200 := by have := hlen.out; omega
          generalize t.acts[k] = x at hnx hin hcs hcok hcn hca
          have hsz := actT_len hcok
          have x0 : wr.cell? ⟨b, off + k * 4, none⟩ = some (.int .i64 x.kind) := hcs 0 _ rfl
          have x1 : wr.cell? ⟨b, off + k * 4 + 1, none⟩ = some (.string ⟨x.name.toArray⟩) := hcs 1 _ rfl
          have x2 : wr.cell? ⟨b, off + k * 4 + 2, none⟩ = some (.int .u32 (x.n.toNat : Int)) := hcs 2 _ rfl
          have x3 : wr.cell? ⟨b, off + k * 4 + 3, none⟩ = some (.string ⟨x.addr.toArray⟩) := hcs 3 _ rfl
          have q : ∀ W (h : Ext w W), Calls Tryz.prog 39 #[.agg #[.int .i64 x.kind, .string ⟨x.name.toArray⟩, .int .u32 (x.n.toNat : Int), .string ⟨x.addr.toArray⟩]] W fun e w' => e = .returned (.string ⟨(actT x).toArray⟩) ∧ Ext W w' := fun W h => DActT_any x hcok hcn hca W (hT.out.ext h) (hD.out.ext h)
          clear hcs hin hcok hcn hca
          generalize actT x = ct at *
          generalize hcp : actsP (t.acts.take k) = cs at *
          generalize hcp2 : actsP (t.acts.take (k + 1)) = cs2 at *
          by_cases hk0 : k = 0
          · have k0 : ((k : Int) == 0) = true := by rw [beq_iff_eq]; omega
            rw [if_pos hk0] at hnx
            have hcs0 : cs = [] := by rw [← hcp, hk0]; rfl
            subst hcs0
            rw [List.append_nil]
            have z1 := sz_ok ⟨cp.toArray⟩ ⟨#[116, 104, 101, 110, 32]⟩ (by simp only [ba_sz_app, ba_size, List.length_cons, List.length_nil]; omega)
            have z2 := sz_ok (⟨cp.toArray⟩ ++ ⟨#[116, 104, 101, 110, 32]⟩) ⟨ct.toArray⟩ (by simp only [ba_sz_app, ba_size, List.length_cons, List.length_nil]; omega)
            have hb : (⟨cp.toArray⟩ : ByteArray) ++ ⟨#[116, 104, 101, 110, 32]⟩ ++ ⟨ct.toArray⟩ = ⟨(cp ++ cs2).toArray⟩ := by rw [hnx, ba_app cp [116, 104, 101, 110, 32], ba_app (cp ++ [116, 104, 101, 110, 32]) ct, List.append_assoc]
            have hl2 : cs2.length ≤ (k + 1) * 60 := by rw [hnx]; simp; omega
            clear hnx hcp hk0 hsz hlen2
            replace F2 := hide F2
            replace q := hide q
            replace hb := hide hb
            replace hl2 := hide hl2
            go_wp2_with fail
            (with_reducible refine (q.out _ (E.out.trans (F.out.trans F2.out))).mono ?_)
            rintro e w2 ⟨rfl, he⟩
            replace F2 := hide (F2.out.trans he)
            clear he q m0 m1 x0 x1 x2 x3
            go_wp2_with fail
            go_roundw
            case rel => exact ⟨k + 1, by omega, by go_num, by rw [hb.out, hcp2], F2.out, by rw [hcp2]; exact hl2.out⟩
            case measure => simp [intOf]; omega
          · have k0 : ((k : Int) == 0) = false := by rw [beq_eq_false_iff_ne]; omega
            rw [if_neg hk0] at hnx
            have hdl : (cp ++ cs).length ≤ 8000 := by rw [List.length_append]; omega
            have hnx2 : cp ++ cs2 = (cp ++ cs) ++ [32, 97, 110, 100, 32] ++ ct := by rw [hnx]; simp
            have hl2 : cs2.length ≤ (k + 1) * 60 := by rw [hnx]; simp; omega
            clear hnx hcp hlen2
            generalize cp ++ cs = ds at *
            have z0 := sz_ok ⟨ds.toArray⟩ ⟨#[32, 97, 110, 100, 32]⟩ (by simp only [ba_sz_app, ba_size, List.length_cons, List.length_nil]; omega)
            have z1 := sz_ok (⟨ds.toArray⟩ ++ ⟨#[32, 97, 110, 100, 32]⟩) ⟨ct.toArray⟩ (by simp only [ba_sz_app, ba_size, List.length_cons, List.length_nil]; omega)
            have hb : (⟨ds.toArray⟩ : ByteArray) ++ ⟨#[32, 97, 110, 100, 32]⟩ ++ ⟨ct.toArray⟩ = ⟨(cp ++ cs2).toArray⟩ := by rw [hnx2, ba_app ds [32, 97, 110, 100, 32], ba_app (ds ++ [32, 97, 110, 100, 32]) ct]
            clear hnx2 hk0 hsz hdl
            replace F2 := hide F2
            replace q := hide q
            replace hb := hide hb
            replace hl2 := hide hl2
            go_wp2_with fail
            (with_reducible refine (q.out _ (E.out.trans (F.out.trans F2.out))).mono ?_)
            rintro e w2 ⟨rfl, he⟩
            replace F2 := hide (F2.out.trans he)
            clear he q m0 m1 x0 x1 x2 x3
            go_wp2_with fail
            go_roundw
            case rel => exact ⟨k + 1, by omega, by go_num, by rw [hb.out, hcp2], F2.out, by rw [hcp2]; exact hl2.out⟩
            case measure => simp [intOf]; omega
        · obtain rfl : k = t.acts.length := by omega
          rw [List.take_length]
          have E3 := hide (E.out.trans (F.out.trans F2))
          clear hlt hk hlen2 F2
          go_wp2_with fail
          go_ret2
          exact ⟨by rw [hcpe.out]; rfl, E3.out⟩
end
section
open Go.RowKit
set_option linter.unusedVariables false

set_option maxRecDepth 20000 in
set_option maxHeartbeats 4000000 in
theorem PolcTells_walk (t : TermS) (a1 : Option Addr) (c1 : Nat) (a2 : Option Addr) (c2 : Nat) (w : World) (h1 : t.conds.length ≤ 16777216) (h2 : t.acts.length ≤ 16777216) (s1 : Sl ECond w (· < w.heap.size) a1 t.conds) (s2 : Sl EAct w (· < w.heap.size) a2 t.acts) (hT : Tab w) (hD : Deb w) (hV : Vars w) :
    Calls Tryz.prog 3 #[.agg #[.slice a1 t.conds.length c1, .slice a2 t.acts.length c2]] w fun e w' => e = .returned (.bool true) ∧ Ext w w' := by
  have q1 := fun W (h : Ext w W) => DOwnTerm_any a1 c1 a2 c2 t W h1 h2 (s1.ext h) (s2.ext h)
  have q2 := fun b1 d1 b2 d2 W (h : Ext w W) h5 h6 h7 => PTermText_any b1 d1 b2 d2 t W h1 h2 h5 h6 h7 (hT.ext h) (hD.ext h)
  have q3 := fun W (h : Ext w W) => DTermText_any a1 c1 a2 c2 t W h1 h2 (s1.ext h) (s2.ext h) (hT.ext h) (hD.ext h)
  have q4 := fun b1 d1 b2 d2 W (h : Ext w W) h5 h6 => DSameTerm_any b1 d1 b2 d2 t a1 c1 a2 c2 t W h1 h2 h1 h2 h5 h6 (s1.ext h) (s2.ext h)
  simp only [decide_true] at q4
  have q5 := fun W (h : Ext w W) => PWorks_any W (hT.ext h) (hD.ext h) (hV.ext h)
  generalize (termT t).1 = tx at *
  generalize (termT t).2 = te at *
  have B := Blk.new w 25 #[.slice a1 t.conds.length c1, .slice a2 t.acts.length c2]
  have E := (Ext.refl w).alloc (Obj.cells #[.slice a1 t.conds.length c1, .slice a2 t.acts.length c2] 25)
  have m0 := B.cell 0
  have m1 := B.cell 1
  simp at m0 m1
  clear h1 h2 s1 s2 hT hD hV
  generalize hg0 : w.heap.size = g0 at B
  replace q1 := hide q1
  replace q2 := hide q2
  replace q3 := hide q3
  replace q4 := hide q4
  replace q5 := hide q5
  replace B := hide B
  replace E := hide E
  go_enter Tryz.func3, Tryz.ntmps3
  go_wp2_with fail
  (with_reducible refine (q1.out _ E.out).mono ?_)
  rintro e w1 ⟨v1, v2, rfl, o1, o2, he⟩
  obtain ⟨b1, d1, rfl, n1, y1⟩ := o1.slc
  obtain ⟨b2, d2, rfl, n2, y2⟩ := o2.slc
  replace y1 := y1.mono (S' := (· < w1.heap.size)) fun b hb => hb.2
  replace y2 := y2.mono (S' := (· < w1.heap.size)) fun b hb => hb.2
  have C := Blk.new w1 25 #[.slice b1 t.conds.length d1, .slice b2 t.acts.length d2]
  have F := (Ext.refl w1).alloc (Obj.cells #[.slice b1 t.conds.length d1, .slice b2 t.acts.length d2] 25)
  replace B := hide (B.out.ext (he.trans F))
  replace E := hide (E.out.trans (he.trans F))
  replace y1 := y1.ext F
  replace y2 := y2.ext F
  clear he o1 o2 m0 m1 F q1
  replace y1 := hide y1
  replace y2 := hide y2
  replace C := hide C
  go_wp2_with fail
  clear hg0
  (with_reducible refine (q2.out b1 d1 b2 d2 _ E.out n2 y1.out y2.out).mono ?_)
  rintro e w2 ⟨rfl, he⟩
  generalize w1.heap.size = g1 at *
  replace B := hide (B.out.ext he)
  replace C := hide (C.out.ext he)
  replace E := hide (E.out.trans he)
  replace y1 := hide (y1.out.ext he)
  replace y2 := hide (y2.out.ext he)
  clear he q2 n1 n2
  have m0 : w2.cell? ⟨g0, 0, none⟩ = some (.slice a1 t.conds.length c1) := B.out.cell 0
  have m1 : w2.cell? ⟨g0, 1, none⟩ = some (.slice a2 t.acts.length c2) := B.out.cell 1
  go_wp2_with fail
  (with_reducible refine (q3.out _ E.out).mono ?_)
  rintro e w3 ⟨rfl, he⟩
  replace B := hide (B.out.ext he)
  replace C := hide (C.out.ext he)
  replace E := hide (E.out.trans he)
  replace y1 := hide (y1.out.ext he)
  replace y2 := hide (y2.out.ext he)
  clear he q3 m0 m1
  have m0 : w3.cell? ⟨g0, 0, none⟩ = some (.slice a1 t.conds.length c1) := B.out.cell 0
  have m1 : w3.cell? ⟨g0, 1, none⟩ = some (.slice a2 t.acts.length c2) := B.out.cell 1
  have l0 : w3.cell? ⟨g1, 0, none⟩ = some (.slice b1 t.conds.length d1) := C.out.cell 0
  have l1 : w3.cell? ⟨g1, 1, none⟩ = some (.slice b2 t.acts.length d2) := C.out.cell 1
  go_wp2_with fail
  (with_reducible refine (q4.out b1 d1 b2 d2 _ E.out y1.out y2.out).mono ?_)
  rintro e w4 ⟨rfl, he⟩
  replace E := hide (E.out.trans he)
  clear he q4 m0 m1 l0 l1 B C y1 y2
  go_wp2_with fail
  (with_reducible refine (q5.out _ E.out).mono ?_)
  rintro e w5 ⟨rfl, he⟩
  replace E := hide (E.out.trans he)
  go_wp2_with fail
  go_ret
  exact ⟨rfl, E.out⟩
end
end Go.Proofs.YtljibkfbldjgdaaGreatDoor
