/- The walk of AdmitKnown. -/
import Derived.Test.YtmhmcdpadmimlaaGreatDoorDK
import Derived.Test.YtmhmcdpadmimlaaGreatDoorDG
import Derived.Laws.BytesString
namespace Go.Proofs.YtmhmcdpadmimlaaGreatDoor
open Go.RowKit
set_option linter.unusedVariables false

theorem Blk.setAll {g : Nat} {T : TypeId} : ∀ (vs : List Value) (o : Nat) (w : World) (C : Array Value), Blk w g T C → ∃ C', Blk (w.setCells g o vs) g T C'
  | [], _, _, C, h => ⟨C, h⟩
  | v :: r, o, w, C, h => by
    rw [World.setCells]
    exact Blk.setAll r (o + 1) _ _ (h.set_ o v)
/-- A block of which cells are known. -/
structure Nbl (w : World) (g : Nat) (CS : List Value) : Prop where
  blk : ∃ C, Blk w g 31 C
  range : w.rangeAt g 0 CS
theorem Nbl.ext {w w' : World} {g : Nat} {CS : List Value} (h : Nbl w g CS) (he : Ext w w') : Nbl w' g CS := ⟨h.blk.imp fun _ hb => hb.ext he, range_ext h.range he⟩
theorem Nbl.lt {w : World} {g : Nat} {CS : List Value} (h : Nbl w g CS) : g < w.heap.size := by obtain ⟨_, hb⟩ := h.blk; exact hb.lt
theorem Nbl.frozen {w : World} {g : Nat} {CS : List Value} (h : Nbl w g CS) (i : Nat) : w.frozen? ⟨g, i, none⟩ = false := by obtain ⟨_, hb⟩ := h.blk; exact hb.frozen i
theorem Nbl.cell {w : World} {g : Nat} {CS : List Value} (h : Nbl w g CS) {i : Nat} {v : Value} (hi : CS[i]? = some v) : w.cell? ⟨g, i, none⟩ = some v := by have := h.range i v hi; rwa [Nat.zero_add] at this
theorem Nbl.set0 {w : World} {g : Nat} {CS CS' : List Value} (h : Nbl w g CS) {u v : Value} (h0 : CS[0]? = some u) (hc : CS' = CS.set 0 v) : Nbl (w.setCell ⟨g, 0, none⟩ v) g CS' := by
  obtain ⟨C, hb⟩ := h.blk
  refine ⟨⟨_, hb.set_ 0 v⟩, fun j x hj => ?_⟩
  rw [Nat.zero_add, (hb.set_ 0 v).cell j]
  subst hc
  by_cases hz : j = 0
  · subst hz
    have hs : 0 < C.size := by
      have h1 := h.cell h0
      rw [hb.cell] at h1
      exact (Array.getElem?_eq_some_iff.1 h1).1
    rw [List.getElem?_set_self (List.getElem?_eq_some_iff.1 h0).1] at hj
    rw [Array.getElem?_setIfInBounds_self_of_lt hs]
    exact hj
  · rw [List.getElem?_set_ne (fun e => hz e.symm)] at hj
    rw [Array.getElem?_setIfInBounds_ne (fun e => hz e.symm), ← hb.cell]
    exact h.cell hj
theorem nbr_put (w : World) (CS : List Value) (hl : CS.length = 23) : Nbl ((w.alloc (.cells #[.string ⟨#[]⟩, .string ⟨#[]⟩, .int .i64 0, .int .u64 0, .string ⟨#[]⟩, .int .i64 0, .int .u32 0, .int .i64 0, .int .i64 0, .bool false, .bool false, .bool false, .slice none 0 0, .int .i64 0, .bool false, .int .i64 0, .bool false, .int .i64 0, .int .i64 0, .string ⟨#[]⟩, .string ⟨#[]⟩, .string ⟨#[]⟩, .bool false] 31)).setCells w.heap.size 0 CS) w.heap.size CS ∧ Ext w ((w.alloc (.cells #[.string ⟨#[]⟩, .string ⟨#[]⟩, .int .i64 0, .int .u64 0, .string ⟨#[]⟩, .int .i64 0, .int .u32 0, .int .i64 0, .int .i64 0, .bool false, .bool false, .bool false, .slice none 0 0, .int .i64 0, .bool false, .int .i64 0, .bool false, .int .i64 0, .int .i64 0, .string ⟨#[]⟩, .string ⟨#[]⟩, .string ⟨#[]⟩, .bool false] 31)).setCells w.heap.size 0 CS) :=
  ⟨⟨Blk.setAll CS 0 _ _ (Blk.new w 31 #[.string ⟨#[]⟩, .string ⟨#[]⟩, .int .i64 0, .int .u64 0, .string ⟨#[]⟩, .int .i64 0, .int .u32 0, .int .i64 0, .int .i64 0, .bool false, .bool false, .bool false, .slice none 0 0, .int .i64 0, .bool false, .int .i64 0, .bool false, .int .i64 0, .int .i64 0, .string ⟨#[]⟩, .string ⟨#[]⟩, .string ⟨#[]⟩, .bool false]), World.rangeAt_setCells_same _ w.heap.size 0 CS (nbr_there w CS.length (Nat.le_of_eq hl))⟩, Ext.setCells21 (Nat.le_refl _) CS 0 _ ((Ext.refl w).alloc _)⟩
theorem cov_8_b : covB ex8d (hostS [10, 2, 0, 0]) = true := decide_eq_true ⟨may_host _ rfl, by decide, by decide, by decide +kernel⟩
theorem cov_8_d : covB ex8d (hostS [10, 100, 100, 100]) = true := decide_eq_true ⟨may_host _ rfl, by decide, by decide, by decide +kernel⟩
theorem cov_16_b : covB ex16d (hostS [10, 2, 0, 0]) = false := decide_eq_false fun h => absurd h.2.2.2 (by decide +kernel)
theorem cov_8_c : covB ex8d (hostS [11, 0, 0, 0]) = false := decide_eq_false fun h => absurd h.2.2.2 (by decide +kernel)
theorem cov_16_c : covB ex16d (hostS [11, 0, 0, 0]) = false := decide_eq_false fun h => absurd h.2.2.2 (by decide +kernel)
theorem of_n2f (a : List UInt8) (hc : covB ex8d (hostS a) = false) : ofS { zeroN with name := [114], range := ex8d } a = false := by
  unfold ofS
  show (rightA a && (decide (([] : List UInt8) = []) && covB ex8d (hostS a))) = false
  rw [hc, Bool.and_false, Bool.and_false]
theorem of_n3f (a : List UInt8) (hc : covB ex16d (hostS a) = false) : ofS { zeroN with name := [115], range := ex16d } a = false := by
  unfold ofS
  show (rightA a && (decide (([] : List UInt8) = []) && covB ex16d (hostS a))) = false
  rw [hc, Bool.and_false, Bool.and_false]
theorem best_a (a : List UInt8) : bestS exN a 1 = -1 := by
  rw [best_succ exN _ 0 (by decide), show ofS exN[0] a = false from of_n1 _, Bool.false_and, if_neg (by decide)]
  rfl
theorem find_a : findN exN [10, 0, 0, 1] = (0, true) := findN_at rfl rfl
theorem find_b : findN exN [10, 2, 0, 0] = (1, true) := by
  have b2 : bestS exN [10, 2, 0, 0] 2 = 1 := by
    rw [best_succ exN _ 1 (by decide), best_a, show ofS exN[1] [10, 2, 0, 0] = true from of_n2 _ rfl cov_8_b]
    rfl
  have b3 : bestS exN [10, 2, 0, 0] 3 = 1 := by
    rw [best_succ exN _ 2 (by decide), b2, show ofS exN[2] [10, 2, 0, 0] = false from of_n3f _ cov_16_b, Bool.false_and, if_neg (by decide)]
  rw [findN_no rfl rfl, show exN.length = 3 from rfl, b3]
  rfl
theorem find_c : findN exN [11, 0, 0, 0] = (0, false) := by
  have b2 : bestS exN [11, 0, 0, 0] 2 = -1 := by
    rw [best_succ exN _ 1 (by decide), best_a, show ofS exN[1] [11, 0, 0, 0] = false from of_n2f _ cov_8_c, Bool.false_and, if_neg (by decide)]
  have b3 : bestS exN [11, 0, 0, 0] 3 = -1 := by
    rw [best_succ exN _ 2 (by decide), b2, show ofS exN[2] [11, 0, 0, 0] = false from of_n3f _ cov_16_c, Bool.false_and, if_neg (by decide)]
  rw [findN_no rfl rfl, show exN.length = 3 from rfl, b3]
  rfl
theorem find_d : findN exN [97, 98, 99] = (0, false) := findN_bad rfl
def kD : List UInt8 := [114, 45, 49, 48, 45, 49, 48, 48, 45, 49, 48, 48, 45, 49, 48, 48]
theorem dyn_k : dynName { zeroN with name := [114], range := ex8d } [10, 100, 100, 100] = kD := by decide +kernel
theorem dyn_l : 16 < (dynName { zeroN with name := [97, 98, 99, 100, 101, 102], range := ex8d } [10, 100, 100, 100]).length := by decide +kernel
theorem of_n2l (a : List UInt8) (h : a.length = 4) (hc : covB ex8d (hostS a) = true) : ofS { zeroN with name := [97, 98, 99, 100, 101, 102], range := ex8d } a = true := by
  unfold ofS
  rw [show rightA a = true from by unfold rightA; rw [h]; rfl, Bool.true_and]
  show (decide (([] : List UInt8) = []) && covB ex8d (hostS a)) = true
  rw [hc]
  rfl
theorem nbr_in (W : World) (nm ad : List UInt8) (q : Pfx) (h1 : nm.length ≤ 16) (h2 : ad.length ≤ 16) (h3 : PfxIn q) : NbrIn W (· < W.heap.size) { zeroN with name := nm, addr := ad, range := q } none := by
  have z : i64 0 := ⟨by decide, by decide⟩
  exact ⟨Nat.le_trans h1 (by decide), Nat.le_trans h2 (by decide), h3, z, z, Nat.zero_le _, Sl.nil, z, z, z, z, Nat.zero_le _, Nat.zero_le _, Nat.zero_le _⟩
theorem pin8 : PfxIn ex8d := ⟨⟨by decide, by decide⟩, by decide, by decide, ⟨by decide, by decide⟩⟩
theorem Dyn_1 (W : World) (hT : Tab W) (hD : Deb W) : Calls Tryz.prog 10 #[.agg (nbrCs { zeroN with name := [114], range := ex8d } none 0).toArray, .string ⟨#[10, 100, 100, 100]⟩] W fun e w' => ∃ CN : List Value, e = .returned (.tuple #[.agg CN.toArray, .int .i64 0]) ∧ Ext W w' ∧ CN.length = 23 ∧ (∀ u ∈ CN, u.oneCell' = true) ∧ CN[0]? = some (.string ⟨kD.toArray⟩) ∧ CN[2]? = some (.int .i64 0) ∧ CN[3]? = some (.int .u64 0) ∧ CN[4]? = some (.string ⟨#[]⟩) ∧ CN[5]? = some (.int .i64 0) := by
  refine (Dynamic_any21 _ none 0 [10, 100, 100, 100] (by decide) W (show NbrIn W (· < W.heap.size) { zeroN with name := [114], range := ex8d } none from nbr_in W [114] [] ex8d (by decide) (by decide) pin8) hT hD).mono ?_
  rintro e w' ⟨hE', h⟩
  rw [dyn_k] at h
  rcases h with ⟨h1, _⟩ | ⟨_, h2, _⟩ | ⟨_, _, f, c, rfl, _⟩
  · rw [of_n2 _ rfl cov_8_d] at h1
    cases h1
  · exact absurd h2 (by decide)
  · refine ⟨_, rfl, hE', rfl, nbr_one _ _ _, ?_, rfl, rfl, rfl, rfl⟩
    show some (Value.string ⟨(dynName _ _).toArray⟩) = _
    rw [dyn_k]
theorem Dyn_2 (W : World) (hT : Tab W) (hD : Deb W) : Calls Tryz.prog 10 #[.agg (nbrCs { zeroN with name := [97, 98, 99, 100, 101, 102], range := ex8d } none 0).toArray, .string ⟨#[10, 100, 100, 100]⟩] W fun e w' => e = .returned (.tuple #[.agg zeroA.toList.toArray, .int .i64 3]) ∧ Ext W w' := by
  refine (Dynamic_any21 _ none 0 [10, 100, 100, 100] (by decide) W (show NbrIn W (· < W.heap.size) { zeroN with name := [97, 98, 99, 100, 101, 102], range := ex8d } none from nbr_in W [97, 98, 99, 100, 101, 102] [] ex8d (by decide) (by decide) pin8) hT hD).mono ?_
  rintro e w' ⟨hE', h⟩
  rcases h with ⟨h1, _⟩ | ⟨_, h2, h3⟩ | ⟨_, h2, _⟩
  · rw [of_n2l _ rfl cov_8_d] at h1
    cases h1
  · exact ⟨h3, hE'⟩
  · exact absurd dyn_l (Nat.not_lt.2 h2)
theorem Dyn_3 (W : World) (hT : Tab W) (hD : Deb W) : Calls Tryz.prog 10 #[.agg (nbrCs { zeroN with name := [114], range := ex8d } none 0).toArray, .string ⟨#[11, 0, 0, 0]⟩] W fun e w' => e = .returned (.tuple #[.agg zeroA.toList.toArray, .int .i64 2]) ∧ Ext W w' := by
  refine (Dynamic_any21 _ none 0 [11, 0, 0, 0] (by decide) W (show NbrIn W (· < W.heap.size) { zeroN with name := [114], range := ex8d } none from nbr_in W [114] [] ex8d (by decide) (by decide) pin8) hT hD).mono ?_
  rintro e w' ⟨hE', h⟩
  rcases h with ⟨_, h1⟩ | ⟨h1, _, h3⟩ | ⟨h1, h2, _⟩
  · exact ⟨h1, hE'⟩
  · rw [of_n2f _ cov_8_c] at h1
    cases h1
  · rw [of_n2f _ cov_8_c] at h1
    cases h1
theorem Dyn_4 (f : Option Addr) (c : Nat) (W : World) (hi : NbrIn W (· < W.heap.size) { zeroN with name := [97], addr := [10, 0, 0, 1] } f) (hT : Tab W) (hD : Deb W) : Calls Tryz.prog 10 #[.agg (nbrCs { zeroN with name := [97], addr := [10, 0, 0, 1] } f c).toArray, .string ⟨#[10, 0, 0, 1]⟩] W fun e w' => e = .returned (.tuple #[.agg zeroA.toList.toArray, .int .i64 2]) ∧ Ext W w' := by
  refine (Dynamic_any21 _ f c [10, 0, 0, 1] (by decide) W hi hT hD).mono ?_
  rintro e w' ⟨hE', h⟩
  rcases h with ⟨_, h1⟩ | ⟨h1, _, h3⟩ | ⟨h1, h2, _⟩
  · exact ⟨h1, hE'⟩
  · rw [of_n1] at h1
    cases h1
  · rw [of_n1] at h1
    cases h1
end Go.Proofs.YtmhmcdpadmimlaaGreatDoor
