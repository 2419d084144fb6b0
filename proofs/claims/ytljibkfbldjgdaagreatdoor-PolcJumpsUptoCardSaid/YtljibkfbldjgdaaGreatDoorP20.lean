/- Walks: an address of four numbers. -/
import Derived.Test.YtljibkfbldjgdaaGreatDoorPL
namespace Go.Proofs.YtljibkfbldjgdaaGreatDoor
open Go.RowKit
set_option linter.unusedVariables false

theorem okB8 : ElemOk Tryz.prog 148 5 1 1 := elemOk (z := .int .u8 0) Tryz.underlying148 (by kernel_rfl) rfl
theorem okB8z : Tryz.prog.info? 5 = none ∨ ∀ i, Tryz.prog.info? 5 = some i → i.zero = some (.int .u8 0) := by
  right; intro i hi
  have h : (Tryz.prog.info? 5).map (fun i => i.zero) = some (some (.int .u8 0)) := by kernel_rfl
  rw [hi] at h; simpa using h
set_option maxRecDepth 20000 in
set_option maxHeartbeats 1000000 in
theorem AAddr4_ok (s : List UInt8) (us : List UInt8) (w : World) (hs : s.length ≤ 1048576) (h4 : us.length = 4) (hsp : spl 46 s = us.map fun u => Lib.decDigits u.toNat) (hp : ∀ u ∈ us, Lib.parseUintB 8 (Lib.decDigits u.toNat) = .ok u.toNat ∧ (Lib.decDigits u.toNat).length ≤ 1048576) (hT : Tab w) (hV : Vars w) :
    Calls Tryz.prog 103 #[.string ⟨s.toArray⟩] w fun e w' => e = .returned (.tuple #[.string ⟨us.toArray⟩, .int .i64 0]) ∧ Ext w w' := by
  have hnum := fun (k : Nat) (hk : k < us.length) W hT => number_ok (Lib.decDigits us[k].toNat) 8 us[k].toNat W (.inl rfl) (hp _ (List.getElem_mem hk)).2 (hp _ (List.getElem_mem hk)).1 (by have := us[k].toNat_lt; omega) rfl hT
  have hS := Split_any s 46 w hV hs
  have hl4 : (spl 46 s).length = 4 := by rw [hsp, List.length_map, h4]
  replace hl4 := hide hl4
  replace hnum := hide hnum
  replace hS := hide hS
  replace hT := hide hT
  replace hV := hide hV
  replace hp := hide hp
  replace hsp := hide hsp
  go_enter Tryz.func103, Tryz.ntmps103
  go_wp2_with fail
  refine hS.out.mono ?_
  rintro e w1 ⟨d, hd4, rfl, he1, hcell⟩
  rw [hl4.out] at hd4
  rw [hl4.out]
  have hc1 : ∀ k, (h : k < 4) → w1.cell? ⟨w.heap.size, k, none⟩ = some (.string ⟨(Lib.decDigits (us[k]'(by omega)).toNat).toArray⟩) := fun k h => by
    have h9 : k < (spl 46 s).length := by rw [hl4.out]; exact h
    rw [hcell k h9]
    have e9 : (spl 46 s)[k] = Lib.decDigits (us[k]'(by omega)).toNat := by
      have := congrArg (fun l => l[k]?) hsp.out
      simp only [List.getElem?_eq_getElem h9, List.getElem?_map, List.getElem?_eq_getElem (show k < us.length by omega), Option.map_some, Option.some.injEq] at this
      exact this
    rw [e9]
  clear hcell
  replace hc1 := hide hc1
  replace he1 := hide he1
  go_wp2_with fail
  go_loopw [4, 22] (fun v q wr => ∃ k : Nat, k ≤ 4 ∧ q = .int .i64 k ∧ OwnB 5 wr w1.heap.size v (us.take k) ∧ Ext w1 wr) (fun _ q _ => 4 - (intOf q).toNat)
  case atStart => exact ⟨0, by omega, rfl, by rw [List.take_zero]; exact OwnB.nil, Ext.refl _⟩
  case round =>
    obtain ⟨k, hk, rfl, hown, hE⟩ := hrel
    rename World => W0
    have hz0 := hE.size
    obtain ⟨vo, dd, rfl⟩ := hown.form
    have hlk : (us.take k).length = k := by simp; omega
    rw [hlk] at hown ⊢
    replace hlk := hide hlk
    replace hE := hide hE
    replace hown := hide hown
    by_cases hlt : k < 4
    · have x0 : W0.cell? ⟨w.heap.size, k, none⟩ = some (.string ⟨(Lib.decDigits (us[k]'(by omega)).toNat).toArray⟩) := hE.out.cell (hc1.out k hlt)
      have hn := hnum.out k (by omega) W0 (hT.out.ext (he1.out.trans hE.out))
      have hnx : us.take k ++ [us[k]'(by omega)] = us.take (k + 1) := (List.take_succ_eq_append_getElem (by omega)).symm
      generalize us[k]'(by omega) = u at x0 hn hnx
      have hu8 := u.toNat_lt
      have g8 : IntKind.u8.wrap (u.toNat : Int) = (u.toNat : Int) := by rw [IntKind.wrap_u8]; omega
      replace hn := hide hn
      replace hnx := hide hnx
      go_wp2_with fail
      refine hn.out.mono ?_
      rintro e w3 ⟨rfl, he3⟩
      have hown3 := hide (hown.out.ext he3)
      have hE3 := hide (hE.out.trans he3)
      have hz3 := he3.size
      clear he3
      go_wp2_with (at_builtin
                   have hox := hown3.out.alloc (Obj.cells #[.int .u8 (u.toNat : Int)] 5)
                   refine wpList_appendB rfl _ _ _ rfl okB8 okB8z rfl hox (by simp; omega) [u] rfl (by rw [hlk.out]; simp; omega) (byte_new _ _ _) ?_
                   intro v' w5 hown1 hg hat)
      go_roundw
      case rel => exact ⟨k + 1, by omega, by go_num, by rw [← hnx.out]; exact hown1, (hE3.out.alloc _).push (fun j hj => (hown3.out.lt j hj).1) hg⟩
      case measure => simp [intOf]; omega
    · obtain rfl : k = 4 := by omega
      have hall : us.take 4 = us := List.take_of_length_le (by omega)
      rw [hall] at hown
      have kd := run_stringB (P := Tryz.prog) (src := 148) (dst := 9) Tryz.underlying148 Tryz.underlying5 Tryz.underlying9 hown.out
      replace hown := hide hown
      replace hlk := hide hlk
      go_wp2
      go_ret2
      exact ⟨rfl, he1.out.trans hE.out⟩
end Go.Proofs.YtljibkfbldjgdaaGreatDoor
