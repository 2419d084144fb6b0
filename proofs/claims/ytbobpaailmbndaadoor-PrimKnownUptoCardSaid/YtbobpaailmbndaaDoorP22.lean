/- Walks: an address of four bytes as a text; a prefix's text, at one prefix. -/
import Derived.Test.YtbobpaailmbndaaDoorP21
import Derived.Lib.ItoaMem
import Derived.Lib.ItoaLen
namespace Go.Proofs.YtbobpaailmbndaaDoor
open Go.RowKit Go.Sort
set_option linter.unusedVariables false

theorem okStr : ElemOk Tryd.prog 48 9 EStr.sz 16 := elemOk (z := .string ⟨#[]⟩) Tryd.underlying48 (by kernel_rfl) rfl
theorem str_new' (w : World) (s : ByteArray) (T : TypeId) : ∀ j u, [Value.string s][j]? = some u → (w.alloc (.cells #[.string s] T)).cell? ((⟨w.heap.size, 0, none⟩ : Addr).add j) = some u := cell_one_new _ _ _
theorem Itoa_any (u : Nat) (hu : u < 9223372036854775808) (w : World) (hT : Tab w) : Calls Tryd.prog 38 #[.int .i64 (u : Int)] w fun e w' => e = .returned (.string (dec u)) ∧ Ext w w' := by
  refine (Tryd.strconv_Itoa (u : Int) (by omega) (by omega) w hT).mono ?_
  rintro e w' ⟨rfl, k, os, rfl⟩
  refine ⟨by rw [Lib.itoa_nonneg]; rfl, ?_⟩
  refine ⟨rfl, rfl, rfl, by simp [grow, World.drewN], fun j hj => ?_⟩
  simp only [grow, World.drewN]
  rw [Array.getElem?_append_left hj]
theorem Join_any (a : Option Addr) (c : Nat) (xs : List ByteArray) (sep : UInt8) (w : World) (S : Nat → Prop) (hS : ∀ b, S b → b < w.heap.size) (hs : Sl EStr w S a xs) (hne : xs ≠ []) (hc : xs.length ≤ c) (hl : xs.length ≤ 16777216) (hlen : (Lib.join (xs.map (·.data.toList)) [sep]).length ≤ 140737488355328) :
    Calls Tryd.prog 37 #[.slice a xs.length c, .string ⟨#[sep]⟩] w fun e w' => e = .returned (.string ⟨(Lib.join (xs.map (·.data.toList)) [sep]).toArray⟩) ∧ Ext w w' := by
  rcases hs with hs | ⟨b, off, rfl, hb, hs⟩
  · exact absurd hs hne
  · refine Tryd.strings_Join b off c xs ⟨#[sep]⟩ w (fun j x hx => ?_) (hS b hb) (by omega) hc hlen
    obtain ⟨cs, ⟨rfl, _⟩, hcell⟩ := hs j x hx
    have := hcell 0 _ rfl
    simpa [EStr, Enc.flat] using this
def decB8 (u : UInt8) : ByteArray := dec u.toNat
theorem decB8_size (u : UInt8) : (decB8 u).size ≤ 21 := by
  have := Lib.itoa_length_le (u.toNat : Int) (by have := u.toNat_lt; omega) (by have := u.toNat_lt; omega)
  rw [Lib.itoa_nonneg] at this
  unfold decB8 dec
  simpa [ByteArray.size] using this

theorem Own.one {w : World} {B g : Nat} {T : TypeId} {x : ByteArray} (h : Blk w g T #[.string x]) (hB : B ≤ g) (hx : x.size ≤ maxLen) : Own EStr T w B (.slice (some ⟨g, 0, none⟩) 1 1) [x] := by
  refine ⟨[.string x], ⟨rfl, .inr ⟨g, 1, #[.string x], rfl, hB, h, Nat.le_refl _, by unfold maxLen; omega, rfl, rfl⟩⟩, fun k y hy => ?_⟩
  cases k with
  | zero =>
    obtain rfl : x = y := by simpa using hy
    refine ⟨[.string x], ⟨rfl, hx⟩, fun j u hu => ?_⟩
    match j, hu with
    | 0, hu => simpa using hu
  | succ k => simp at hy
set_option maxRecDepth 20000 in
set_option maxHeartbeats 2000000 in
theorem AAddrText4_any (bs : List UInt8) (h4 : bs.length = 4) (w : World) (hT : Tab w) (hlen : (Lib.join ((bs.map decB8).map (·.data.toList)) [46]).length ≤ 1048576) :
    Calls Tryd.prog 19 #[.string ⟨bs.toArray⟩] w fun e w' => e = .returned (.tuple #[.string ⟨(Lib.join ((bs.map decB8).map (·.data.toList)) [46]).toArray⟩, .int .i64 0]) ∧ Ext w w' := by
  have hz : (ByteArray.mk bs.toArray).size = 4 := by simp [ByteArray.size, h4]
  replace hT := hide hT
  go_enter Tryd.func19, Tryd.ntmps19
  go_wp2_with fail
  go_loopw [4, 13] (fun v q wr => ∃ k : Nat, k ≤ 4 ∧ q = .int .i64 k ∧ Own EStr 9 wr w.heap.size v ((bs.take k).map decB8) ∧ Ext w wr) (fun _ q _ => 4 - (intOf q).toNat)
  case atStart => exact ⟨0, by omega, rfl, by rw [List.take_zero]; exact Own.nil, Ext.refl _⟩
  case round =>
    obtain ⟨k, hk, rfl, hown, hE⟩ := hrel
    rename World => W0
    have hz0 := hE.size
    obtain ⟨vo, dd, rfl⟩ := hown.form
    have hlk : ((bs.take k).map decB8).length = k := by simp; omega
    rw [hlk] at hown ⊢
    replace hlk := hide hlk
    replace hE := hide hE
    replace hown := hide hown
    by_cases hlt : k < 4
    · have e1 : (ByteArray.mk bs.toArray)[k]'(by omega) = bs[k]'(by omega) := rfl
      have hnx : (bs.take k).map decB8 ++ [decB8 (bs[k]'(by omega))] = (bs.take (k + 1)).map decB8 := by rw [List.take_succ_eq_append_getElem (by omega), List.map_append]; rfl
      generalize bs[k]'(by omega) = u at e1 hnx
      have hu8 := u.toNat_lt
      have hsz := decB8_size u
      have hI := Itoa_any u.toNat (by omega) W0 (hT.out.ext hE.out)
      have w8 : IntKind.i64.wrap (u.toNat : Int) = (u.toNat : Int) := by rw [IntKind.wrap_i64]; omega
      replace hI := hide hI
      replace hnx := hide hnx
      replace hsz := hide hsz
      go_wp2_with fail
      refine hI.out.mono ?_
      rintro e w3 ⟨rfl, he3⟩
      have hown3 := hide (hown.out.ext he3)
      have hE3 := hide (hE.out.trans he3)
      have hz3 := he3.size
      clear he3
      go_wp2_with (at_builtin
                   have hox := hown3.out.alloc (Obj.cells #[.string (dec u.toNat)] 9)
                   refine wpList_push (E := EStr) rfl _ _ _ rfl okStr (by decide) (by decide) rfl hox (by rw [hlk.out]; omega) (by simp; omega) rfl (y := decB8 u) (cs := [.string (dec u.toNat)]) ⟨rfl, by have := hsz.out; unfold maxLen; omega⟩ (str_new' _ _ _) ?_
                   intro v' w5 hown1 hg hat)
      go_roundw
      case rel => exact ⟨k + 1, by omega, by go_num, by rw [← hnx.out]; exact hown1, (hE3.out.alloc _).push (fun j hj => (hown3.out.lt j hj).1) hg⟩
      case measure => simp [intOf]; omega
    · obtain rfl : k = 4 := by omega
      have hall : bs.take 4 = bs := List.take_of_length_le (by omega)
      rw [hall] at hown hlk
      obtain ⟨a9, c9, hv9, hc9, hs9⟩ := hown.out.slc
      injection hv9 with e1 e2 e3
      subst e1 e3
      clear e2
      have hJ := Join_any vo dd (bs.map decB8) 46 W0 _ (fun b hb => hb.2) hs9 (by intro h; have := hlk.out; rw [h] at this; exact absurd this (by simp)) hc9 (by rw [hlk.out]; omega) (by omega)
      rw [hlk.out] at hJ
      replace hJ := hide hJ
      go_wp2_with fail
      refine hJ.out.mono ?_
      rintro e w6 ⟨rfl, he6⟩
      replace he6 := hide he6
      go_wp2
      go_ret2
      exact ⟨by rw [List.map_map]; rfl, hE.out.trans he6.out⟩

theorem wpfx_addr : Lib.join (([10, 1, 0, 0] : List UInt8).map decB8 |>.map (·.data.toList)) [46] = [49, 48, 46, 49, 46, 48, 46, 48] := by decide +kernel
set_option maxRecDepth 20000 in
set_option maxHeartbeats 2000000 in
theorem Text_works (w : World) (hT : Tab w) :
    Calls Tryd.prog 12 #[valP wpfx] w fun e w' => e = .returned (.tuple #[.string ⟨wtext.toArray⟩, .int .i64 0]) ∧ Ext w w' := by
  have mixed : Tryd.prog.follows Departure.mixedOrders = true := by kernel_rfl
  have hck : ∀ W, Calls Tryd.prog 23 #[.agg #[.int .i64 4, .int .u64 7, .string ⟨#[10, 1, 0, 0]⟩, .int .i64 16]] W fun e w' => e = .returned (.int .i64 0) ∧ Ext W w' := fun W => by
    have := ACheck_any wpfx W (by decide)
    rw [show errP (MayP wpfx) = 0 from if_pos wpfx_may] at this
    exact this
  have hat := fun W hT => AAddrText4_any [10, 1, 0, 0] rfl W hT (by rw [wpfx_addr]; decide)
  rw [wpfx_addr] at hat
  show Calls Tryd.prog 12 #[.agg #[.int .i64 4, .int .u64 7, .string ⟨#[10, 1, 0, 0]⟩, .int .i64 16]] w _
  replace hT := hide hT
  replace hck := hide hck
  replace hat := hide hat
  go_enter Tryd.func12, Tryd.ntmps12
  go_wp2_with fail
  refine (hck.out _).mono ?_
  rintro e w1 ⟨rfl, he1⟩
  have hP := (Blk.new w 24 #[.int .i64 4, .int .u64 7, .string ⟨#[10, 1, 0, 0]⟩, .int .i64 16]).ext he1
  have hE1 : Ext w w1 := ((Ext.refl w).alloc _).trans he1
  have x0 : w1.cell? ⟨w.heap.size, 0, none⟩ = some (.int .i64 4) := hP.cell 0
  have x1 : w1.cell? ⟨w.heap.size, 1, none⟩ = some (.int .u64 7) := hP.cell 1
  have x2 : w1.cell? ⟨w.heap.size, 2, none⟩ = some (.string ⟨#[10, 1, 0, 0]⟩) := hP.cell 2
  have x3 : w1.cell? ⟨w.heap.size, 3, none⟩ = some (.int .i64 16) := hP.cell 3
  clear he1
  replace hP := hide hP
  replace hE1 := hide hE1
  go_wp2_with fail
  refine (name_any 4 (by decide) (by decide) _).mono ?_
  rw [show nameS 4 = [118, 112, 110, 52] by decide]
  rintro e w2 ⟨rfl, rfl⟩
  have hE2 : Ext w1 (w1.alloc (Obj.cells #[.string ⟨#[118, 112, 110, 52]⟩] 9)) := (Ext.refl _).alloc _
  have x0' := hE2.cell x0
  have x1' := hE2.cell x1
  have x2' := hE2.cell x2
  have x3' := hE2.cell x3
  replace hE2 := hide hE2
  go_wp2_with fail
  have hBn := Blk.new w1 9 #[.string ⟨#[118, 112, 110, 52]⟩]
  have hE2 := hE2.out
  generalize w1.alloc (Obj.cells #[.string ⟨#[118, 112, 110, 52]⟩] 9) = W2 at hBn hE2 x0' x1' x2' x3' ⊢
  have hO := Own.one (B := w1.heap.size) hBn (Nat.le_refl _) (by decide)
  replace hO := hide hO
  replace hBn := hide hBn
  replace hE2 := hide hE2
  clear x0 x1 x2 x3
  refine (Aapart_any _ _).mono ?_
  rw [show apartS 4 = true by decide]
  rintro e w3 ⟨rfl, rfl⟩
  go_wp2_with fail
  have hF := FormatUint_any 7 (by decide) W2 (hT.out.ext (hE1.out.trans hE2.out))
  rw [show dec 7 = ⟨#[55]⟩ by decide +kernel] at hF
  refine hF.mono ?_
  rintro e w4 ⟨rfl, he4⟩
  have hO4 := hO.out.ext he4
  have hE4 := hE2.out.trans he4
  have y2 := he4.cell x2'
  have y3 := he4.cell x3'
  clear hF he4 x0' x1' x2' x3' hO hBn
  replace hO4 := hide hO4
  replace hE4 := hide hE4
  have hz4 := hE4.out.size
  go_wp2_with (at_builtin
               have hox := hO4.out.alloc (Obj.cells #[.string ⟨#[55]⟩] 9)
               refine wpList_push (E := EStr) rfl _ _ _ rfl okStr (by decide) (by decide) rfl hox (by simp) (by simp; omega) rfl (y := ⟨#[55]⟩) (cs := [.string ⟨#[55]⟩]) ⟨rfl, by decide⟩ (str_new' _ _ _) ?_
               intro v5 w5 hO5 hg5 hat5
               have hE5 := (hE4.out.alloc (Obj.cells #[.string ⟨#[55]⟩] 9)).push (fun j hj => (hO4.out.lt j hj).1) hg5
               have hE45 : Ext w1 w5 := hE5
               obtain ⟨a5, c5, hv5⟩ := hO5.form
               replace hv5 : v5 = .slice a5 2 c5 := hv5
               subst hv5
               have u2 : w5.cell? ⟨w.heap.size, 2, none⟩ = some (.string ⟨#[10, 1, 0, 0]⟩) := (hP.out.ext hE5).cell 2
               have u3 : w5.cell? ⟨w.heap.size, 3, none⟩ = some (.int .i64 16) := (hP.out.ext hE5).cell 3
               replace hO5 := hide hO5
               replace hE5 := hide hE5
               clear hat5 hE45 hg5)
  refine (hat.out _ (hT.out.ext (hE1.out.trans hE5.out))).mono ?_
  rintro e w6 ⟨rfl, he6⟩
  have hO6 := hide (hO5.out.ext he6)
  have hE6 := hide (hE5.out.trans he6)
  have t3 := he6.cell u3
  clear he6 u2 u3 y2 y3
  go_wp2_with fail
  have hI := Itoa_any 16 (by decide) w6 (hT.out.ext (hE1.out.trans hE6.out))
  rw [show dec 16 = ⟨#[49, 54]⟩ by decide +kernel] at hI
  refine hI.mono ?_
  rintro e w7 ⟨rfl, he7⟩
  have hO7 := hide (hO6.out.ext he7)
  have hE7 := hide (hE6.out.trans he7)
  have hz7 := hE7.out.size
  clear he7 hI t3
  go_wp2_with (at_builtin
               have hox := hO7.out.alloc (Obj.cells #[.string ((⟨#[49, 48, 46, 49, 46, 48, 46, 48]⟩ : ByteArray) ++ ⟨#[47]⟩ ++ ⟨#[49, 54]⟩)] 9)
               refine wpList_push (E := EStr) rfl _ _ _ rfl okStr (by decide) (by decide) rfl hox (by simp) (by simp; omega) rfl (y := ((⟨#[49, 48, 46, 49, 46, 48, 46, 48]⟩ : ByteArray) ++ ⟨#[47]⟩ ++ ⟨#[49, 54]⟩)) (cs := [.string ((⟨#[49, 48, 46, 49, 46, 48, 46, 48]⟩ : ByteArray) ++ ⟨#[47]⟩ ++ ⟨#[49, 54]⟩)]) ⟨rfl, by decide⟩ (str_new' _ _ _) ?_
               intro v8 w8 hO8 hg8 hat8
               have hE8 := (hE7.out.alloc (Obj.cells #[.string ((⟨#[49, 48, 46, 49, 46, 48, 46, 48]⟩ : ByteArray) ++ ⟨#[47]⟩ ++ ⟨#[49, 54]⟩)] 9)).push (fun j hj => (hO7.out.lt j hj).1) hg8
               obtain ⟨a8, c8, hv8, hc8, hs8⟩ := hO8.slc
               replace hv8 : v8 = .slice a8 3 c8 := hv8
               subst hv8
               replace hs8 := hide hs8
               replace hE8 := hide hE8
               clear hO8 hg8 hat8)
  have hJ := Join_any a8 c8 _ 32 w8 _ (fun b hb => hb.2) hs8.out (by simp) hc8 (by simp) (by decide +kernel)
  refine hJ.mono ?_
  rintro e w9 ⟨rfl, he9⟩
  have hE9 := hide (hE1.out.trans (hE8.out.trans he9))
  clear hJ he9
  go_wp2
  go_ret2
  exact ⟨by rfl, hE9.out⟩
end Go.Proofs.YtbobpaailmbndaaDoor
