/- Walks: an address of four bytes as a text; a prefix's text, at one prefix. -/
import Derived.Test.YtljibkfbldjgdaaGreatDoorP21
import Derived.Test.YtljibkfbldjgdaaGreatDoorPG
import Derived.Lib.ItoaMem
import Derived.Lib.ItoaLen
namespace Go.Proofs.YtljibkfbldjgdaaGreatDoor
open Go.RowKit Go.Sort
set_option linter.unusedVariables false

theorem Itoa_any (u : Nat) (hu : u < 9223372036854775808) (w : World) (hT : Tab w) : Calls Tryz.prog 85 #[.int .i64 (u : Int)] w fun e w' => e = .returned (.string (dec u)) ∧ Ext w w' := by
  refine (Tryz.strconv_Itoa (u : Int) (by omega) (by omega) w hT).mono ?_
  rintro e w' ⟨rfl, k, os, rfl⟩
  refine ⟨by rw [Lib.itoa_nonneg]; rfl, ?_⟩
  refine ⟨rfl, rfl, rfl, by simp [grow, World.drewN], fun j hj => ?_⟩
  simp only [grow, World.drewN]
  rw [Array.getElem?_append_left hj]
def decB8 (u : UInt8) : ByteArray := dec u.toNat
theorem decB8_size (u : UInt8) : (decB8 u).size ≤ 21 := by
  have := Lib.itoa_length_le (u.toNat : Int) (by have := u.toNat_lt; omega) (by have := u.toNat_lt; omega)
  rw [Lib.itoa_nonneg] at this
  unfold decB8 dec
  simpa [ByteArray.size] using this

theorem Own.one {w : World} {B g : Nat} {T : TypeId} {x : ByteArray} (h : Blk w g T #[.string x]) (hB : B ≤ g) (hx : x.size ≤ maxLen) : Own EStr T w B (.slice (some ⟨g, 0, none⟩) 1 1) [x] := by
  refine ⟨[.string x], ⟨rfl, .inr ⟨g, 1, #[.string x], rfl, hB, h, Nat.le_refl _, by unfold maxLen; omega, rfl, rfl⟩⟩, fun k y hy => ?_⟩
  cases k with
  | zero =>
    obtain rfl : x = y := by simpa using hy
    refine ⟨[.string x], ⟨rfl, hx⟩, fun j u hu => ?_⟩
    match j, hu with
    | 0, hu => simpa using hu
  | succ k => simp at hy
set_option maxRecDepth 20000 in
set_option maxHeartbeats 2000000 in
theorem AAddrText4_any (bs : List UInt8) (h4 : bs.length = 4) (w : World) (hT : Tab w) (hlen : (Lib.join ((bs.map decB8).map (·.data.toList)) [46]).length ≤ 1048576) :
    Calls Tryz.prog 89 #[.string ⟨bs.toArray⟩] w fun e w' => e = .returned (.tuple #[.string ⟨(Lib.join ((bs.map decB8).map (·.data.toList)) [46]).toArray⟩, .int .i64 0]) ∧ Ext w w' := by
  have hz : (ByteArray.mk bs.toArray).size = 4 := by simp [ByteArray.size, h4]
  replace hT := hide hT
  go_enter Tryz.func89, Tryz.ntmps89
  go_wp2_with fail
  go_loopw [4, 13] (fun v q wr => ∃ k : Nat, k ≤ 4 ∧ q = .int .i64 k ∧ Own EStr 9 wr w.heap.size v ((bs.take k).map decB8) ∧ Ext w wr) (fun _ q _ => 4 - (intOf q).toNat)
  case atStart => exact ⟨0, by omega, rfl, by rw [List.take_zero]; exact Own.nil, Ext.refl _⟩
  case round =>
    obtain ⟨k, hk, rfl, hown, hE⟩ := hrel
    rename World => W0
    have hz0 := hE.size
    obtain ⟨vo, dd, rfl⟩ := hown.form
    have hlk : ((bs.take k).map decB8).length = k := by simp; omega
    rw [hlk] at hown ⊢
    replace hlk := hide hlk
    replace hE := hide hE
    replace hown := hide hown
    by_cases hlt : k < 4
    · have e1 : (ByteArray.mk bs.toArray)[k]'(by omega) = bs[k]'(by omega) := rfl
      have hnx : (bs.take k).map decB8 ++ [decB8 (bs[k]'(by omega))] = (bs.take (k + 1)).map decB8 := by rw [List.take_succ_eq_append_getElem (by omega), List.map_append]; rfl
      generalize bs[k]'(by omega) = u at e1 hnx
      have hu8 := u.toNat_lt
      have hsz := decB8_size u
      have hI := Itoa_any u.toNat (by omega) W0 (hT.out.ext hE.out)
      have w8 : IntKind.i64.wrap (u.toNat : Int) = (u.toNat : Int) := by rw [IntKind.wrap_i64]; omega
      replace hI := hide hI
      replace hnx := hide hnx
      replace hsz := hide hsz
      go_wp2_with fail
      refine hI.out.mono ?_
      rintro e w3 ⟨rfl, he3⟩
      have hown3 := hide (hown.out.ext he3)
      have hE3 := hide (hE.out.trans he3)
      have hz3 := he3.size
      clear he3
      go_wp2_with (at_builtin
                   have hox := hown3.out.alloc (Obj.cells #[.string (dec u.toNat)] 9)
                   refine wpList_push (E := EStr) rfl _ _ _ rfl okStr (by decide) (by decide) rfl hox (by rw [hlk.out]; omega) (by simp; omega) rfl (y := decB8 u) (cs := [.string (dec u.toNat)]) ⟨rfl, by have := hsz.out; unfold maxLen; omega⟩ (str_new' _ _ _) ?_
                   intro v' w5 hown1 hg hat)
      go_roundw
      case rel => exact ⟨k + 1, by omega, by go_num, by rw [← hnx.out]; exact hown1, (hE3.out.alloc _).push (fun j hj => (hown3.out.lt j hj).1) hg⟩
      case measure => simp [intOf]; omega
    · obtain rfl : k = 4 := by omega
      have hall : bs.take 4 = bs := List.take_of_length_le (by omega)
      rw [hall] at hown hlk
      obtain ⟨a9, c9, hv9, hc9, hs9⟩ := hown.out.slc
      injection hv9 with e1 e2 e3
      subst e1 e3
      clear e2
      have hJ := Join_any vo dd (bs.map decB8) 46 W0 _ (fun b hb => hb.2) hs9 (by intro h; have := hlk.out; rw [h] at this; exact absurd this (by simp)) hc9 (by rw [hlk.out]; omega) (by omega)
      rw [hlk.out] at hJ
      replace hJ := hide hJ
      go_wp2_with fail
      refine hJ.out.mono ?_
      rintro e w6 ⟨rfl, he6⟩
      replace he6 := hide he6
      go_wp2
      go_ret2
      exact ⟨by rw [List.map_map]; rfl, hE.out.trans he6.out⟩

theorem wpfx_addr : Lib.join (([10, 1, 0, 0] : List UInt8).map decB8 |>.map (·.data.toList)) [46] = [49, 48, 46, 49, 46, 48, 46, 48] := by decide +kernel
end Go.Proofs.YtljibkfbldjgdaaGreatDoor
