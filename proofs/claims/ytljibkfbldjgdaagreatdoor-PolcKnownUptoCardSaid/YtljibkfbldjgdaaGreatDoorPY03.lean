/- Walks: may a prefix be: prim.Check, any. Walks: may a prefix be: the document's, any. Walks: a prefix cut: prim.Cut. Walks: an address of four bytes as a text; a prefix's text, at one prefix. Walks: an address as a text, by the program. Walks: a prefix read of any text, by the program (printed by genp29.py). Walks: the document's Split and Fam. -/
import Derived.Lib.SplitLaws
import Derived.Lib.ParseIntB
import Derived.Lib.ParseIntBCases
import Derived.Lib.ItoaNum
import Derived.Lib.Join
import Derived.WalkKit
import Derived.Below
import Derived.Outline
import Derived.LoopTactic
import Derived.Laws.OwnMore
import Derived.Deep.AppendLies
import Derived.Deep.Draws
import Derived.Lib.Hide
import Derived.BigQuiet
import Derived.Deep.QuietTactic
import Derived.WalkSpells
import Derived.WalkLawsBesides
import Derived.Deep.RegionHeld3
import Derived.Deep.DrawnRows
import Derived.Deep.RegionLaw
import Derived.Lib.ConvBytes
import Derived.Lib.Bytealg
import Derived.Lib.Small
import Derived.Test.YtljibkfbldjgdaaGreatDoorProg
import Derived.Test.YtljibkfbldjgdaaGreatDoorShelf
import Derived.Test.YtljibkfbldjgdaaGreatDoorShelf2
import Derived.Lib.UnsafeStr
import Derived.Shelf.RegionOpenPlain
import Derived.Laws.StructEq
import Derived.Lib.QuietBelow
import Derived.Lib.ItoaMem
import Derived.Lib.ItoaLen
import Derived.Test.YtljibkfbldjgdaaGreatDoorPY01
import Derived.Test.YtljibkfbldjgdaaGreatDoorPY02
namespace Go.Proofs.YtljibkfbldjgdaaGreatDoor
section
open Go.RowKit Go.Sort
set_option linter.unusedVariables false
set_option maxRecDepth 20000 in
set_option maxHeartbeats 1000000 in
theorem ACheck_0 (f R : Int) (rd : Nat) (a : List UInt8) (l : Int) (w : World) (hal : a.length ≤ 1048576) (hS : sizeS f = 0) :
  Calls Tryz.prog 144 #[.agg #[.int .i64 f, .int .u64 R, .string ⟨a.toArray⟩, .int .i64 l]] w fun e w' => e = .returned (.int .i64 (errP (MayP ⟨f, rd, a, l⟩))) ∧ Ext w w' := by
 have mixed : Tryz.prog.follows Departure.mixedOrders = true := by kernel_rfl
 have hz : (ByteArray.mk a.toArray).size = a.length := by simp [ByteArray.size]
 have he : errP (MayP ⟨f, rd, a, l⟩) = 2 := if_neg (fun h => h.1.1 hS)
 rw [he]
 replace hS := hide hS
 replace he := hide he
 go_enter Tryz.func144, Tryz.ntmps144
 go_wp2_with fail
 refine (ASize_any _ _).mono ?_
 rw [hS.out]
 rintro e w1 ⟨rfl, rfl⟩
 go_wp2
 go_quiet (fail)
 go_wp2
 go_ret
 exact ⟨rfl, ((Ext.refl _).alloc _).drewN _⟩
/-- A prefix as a value. -/
def valP (p : Pfx) : Value := .agg #[.int .i64 p.fam, .int .u64 (p.rd : Int), .string ⟨p.addr.toArray⟩, .int .i64 p.len]
theorem ACheck_any (p : Pfx) (w : World) (hal : p.addr.length ≤ 1048576) :
  Calls Tryz.prog 144 #[valP p] w fun e w' => e = .returned (.int .i64 (errP (MayP p))) ∧ Ext w w' := by
 obtain ⟨f, rd, a, l⟩ := p
 rcases sizeS_cases f with hS | hS | hS
 ·exact ACheck_0 f _ rd a l w hal hS
 ·exact ACheck_4 f _ rd rfl a l w hal hS
 ·exact ACheck_16 f _ rd rfl a l w hal hS
open Go.RowKit Go.Sort
open Go.RowKit Go.Sort
theorem errP_cases (p : Pfx) : (MayP p ∧ errP (MayP p) = 0) ∨ (¬ MayP p ∧ errP (MayP p) = 2) := by
 by_cases h : MayP p
 ·exact .inl ⟨h, if_pos h⟩
 ·exact .inr ⟨h, if_neg h⟩
theorem Blk.set4 {w : World} {g : Nat} {T : TypeId} {a b c d : Value} (h : Blk w g T #[a, b, c, d]) (u0 u1 u2 u3 : Value) :
  Blk ((((w.setCell ⟨g, 0, none⟩ u0).setCell ⟨g, 1, none⟩ u1).setCell ⟨g, 2, none⟩ u2).setCell ⟨g, 3, none⟩ u3) g T #[u0, u1, u2, u3] := by
 simpa using (((h.set_ 0 u0).set_ 1 u1).set_ 2 u2).set_ 3 u3
theorem Ext.set4 {a w : World} (h : Ext a w) {g : Nat} (hg : a.heap.size ≤ g) (u0 u1 u2 u3 : Value) :
  Ext a ((((w.setCell ⟨g, 0, none⟩ u0).setCell ⟨g, 1, none⟩ u1).setCell ⟨g, 2, none⟩ u2).setCell ⟨g, 3, none⟩ u3) :=
 (((h.setCell hg _).setCell hg _).setCell hg _).setCell hg _
/-- What a cut answers. -/
noncomputable instance (p : Pfx) (n : Int) : Decidable (cutOk p n) := Classical.propDecidable _
end
section
open Go.RowKit Go.Sort
set_option linter.unusedVariables false
theorem Itoa_any (u : Nat) (hu : u < 9223372036854775808) (w : World) (hT : Tab w) : Calls Tryz.prog 85 #[.int .i64 (u : Int)] w fun e w' => e = .returned (.string (dec u)) ∧ Ext w w' := by
 refine (Tryz.strconv_Itoa (u : Int) (by omega) (by omega) w hT).mono ?_
 rintro e w' ⟨rfl, k, os, rfl⟩
 refine ⟨by rw [Lib.itoa_nonneg]; rfl, ?_⟩
 refine ⟨rfl, rfl, rfl, by simp [grow, World.drewN], fun j hj => ?_⟩
 simp only [grow, World.drewN]
 rw [Array.getElem?_append_left hj]
def decB8 (u : UInt8) : ByteArray := dec u.toNat
theorem decB8_size (u : UInt8) : (decB8 u).size ≤ 21 := by
 have := Lib.itoa_length_le (u.toNat : Int) (by have := u.toNat_lt; omega) (by have := u.toNat_lt; omega)
 rw [Lib.itoa_nonneg] at this
 unfold decB8 dec
 simpa [ByteArray.size] using this
theorem Own.one {w : World} {B g : Nat} {T : TypeId} {x : ByteArray} (h : Blk w g T #[.string x]) (hB : B ≤ g) (hx : x.size ≤ maxLen) : Own EStr T w B (.slice (some ⟨g, 0, none⟩) 1 1) [x] := by
  refine ⟨[.string x], ⟨rfl, .inr ⟨g, 1, #[.string x], rfl, hB, h, Nat.le_refl _, by unfold maxLen; omega, rfl, rfl⟩⟩, fun k y hy => ?_⟩
  cases k with
  | zero =>
    obtain rfl : x = y := by simpa using hy
    refine ⟨[.string x], ⟨rfl, hx⟩, fun j u hu => ?_⟩
    match j, hu with
    | 0, hu => simpa using hu
  | succ k => simp at hy
set_option maxRecDepth 20000 in
set_option maxHeartbeats 2000000 in
theorem AAddrText4_any (bs : List UInt8) (h4 : bs.length = 4) (w : World) (hT : Tab w) (hlen : (Lib.join ((bs.map decB8).map (·.data.toList)) [46]).length ≤ 1048576) :
    Calls Tryz.prog 89 #[.string ⟨bs.toArray⟩] w fun e w' => e = .returned (.tuple #[.string ⟨(Lib.join ((bs.map decB8).map (·.data.toList)) [46]).toArray⟩, .int .i64 0]) ∧ Ext w w' := by
  have hz : (ByteArray.mk bs.toArray).size = 4 := by simp [ByteArray.size, h4]
  replace hT := hide hT
  go_enter Tryz.func89, Tryz.ntmps89
  go_wp2_with fail
  go_loopw [4, 13] (fun v q wr => ∃ k : Nat, k ≤ 4 ∧ q = .int .i64 k ∧ Own EStr 9 wr w.heap.size v ((bs.take k).map decB8) ∧ Ext w wr) (fun _ q _ => 4 - (intOf q).toNat)
  case atStart => exact ⟨0, by omega, rfl, by rw [List.take_zero]; exact Own.nil, Ext.refl _⟩
  case round =>
    obtain ⟨k, hk, rfl, hown, hE⟩ := hrel
    rename World => W0
    have hz0 := hE.size
    obtain ⟨vo, dd, rfl⟩ := hown.form
    have hlk : ((bs.take k).map decB8).length = k := by simp; omega
    rw [hlk] at hown ⊢
    replace hlk := hide hlk
    replace hE := hide hE
    replace hown := hide hown
    by_cases hlt : k < 4
    · have e1 : (ByteArray.mk bs.toArray)[k]'(by omega) = bs[k]'(by omega) := rfl
      have hnx : (bs.take k).map decB8 ++ [decB8 (bs[k]'(by omega))] = (bs.take (k + 1)).map decB8 := by rw [List.take_succ_eq_append_getElem (by omega), List.map_append]; rfl
      generalize bs[k]'(by omega) = u at e1 hnx
      have hu8 := u.toNat_lt
      have hsz := decB8_size u
      have hI := Itoa_any u.toNat (by omega) W0 (hT.out.ext hE.out)
      have w8 : IntKind.i64.wrap (u.toNat : Int) = (u.toNat : Int) := by rw [IntKind.wrap_i64]; omega
      replace hI := hide hI
      replace hnx := hide hnx
      replace hsz := hide hsz
      go_wp2_with fail
      refine hI.out.mono ?_
      rintro e w3 ⟨rfl, he3⟩
      have hown3 := hide (hown.out.ext he3)
      have hE3 := hide (hE.out.trans he3)
      have hz3 := he3.size
      clear he3
      go_wp2_with (at_builtin
                   have hox := hown3.out.alloc (Obj.cells #[.string (dec u.toNat)] 9)
                   refine wpList_push (E := EStr) rfl _ _ _ rfl okStr (by decide) (by decide) rfl hox (by rw [hlk.out]; omega) (by simp; omega) rfl (y := decB8 u) (cs := [.string (dec u.toNat)]) ⟨rfl, by have := hsz.out; unfold maxLen; omega⟩ (str_new' _ _ _) ?_
                   intro v' w5 hown1 hg hat)
      go_roundw
      case rel => exact ⟨k + 1, by omega, by go_num, by rw [← hnx.out]; exact hown1, (hE3.out.alloc _).push (fun j hj => (hown3.out.lt j hj).1) hg⟩
      case measure => simp [intOf]; omega
    · obtain rfl : k = 4 := by omega
      have hall : bs.take 4 = bs := List.take_of_length_le (by omega)
      rw [hall] at hown hlk
      obtain ⟨a9, c9, hv9, hc9, hs9⟩ := hown.out.slc
      injection hv9 with e1 e2 e3
      subst e1 e3
      clear e2
      have hJ := Join_any vo dd (bs.map decB8) 46 W0 _ (fun b hb => hb.2) hs9 (by intro h; have := hlk.out; rw [h] at this; exact absurd this (by simp)) hc9 (by rw [hlk.out]; omega) (by omega)
      rw [hlk.out] at hJ
      replace hJ := hide hJ
      go_wp2_with fail
      refine hJ.out.mono ?_
      rintro e w6 ⟨rfl, he6⟩
      replace he6 := hide he6
      go_wp2
      go_ret2
      exact ⟨by rw [List.map_map]; rfl, hE.out.trans he6.out⟩
end
section
open Go.RowKit Go.Sort
set_option linter.unusedVariables false
def hexB (n : Nat) : ByteArray := ⟨(digS 16 n).toArray⟩
theorem txt4_dec (bs : List UInt8) : Lib.join ((bs.map decB8).map (·.data.toList)) [46] = txt4 bs := by
 unfold txt4
 congr 1
 rw [List.map_map]
 apply List.map_congr_left
 intro u _
 show (Lib.decDigits u.toNat) = _
 rw [digS_dec]
theorem txt16_hex (bs : List UInt8) : Lib.join (((pairs bs).map hexB).map (·.data.toList)) [58] = txt16 bs := by
 unfold txt16
 congr 1
 rw [List.map_map]
 rfl
theorem addrT_len {a : List UInt8} : (addrT a).1.length ≤ 39 := by
 by_cases h : a.length = 4 ∨ a.length = 16
 ·have := text_addr h
  exact (addr_text (s := (addrT a).1) (by rw [this])).2.2
 ·unfold addrT
  rw [if_neg (by omega), if_neg (by omega)]
  simp
theorem hexB_size (n : Nat) (h : n ≤ 65535) : (hexB n).size ≤ 4 := by
 have := digS_len (b := 16) (by decide) 4 n (by omega) (by decide)
 simpa [hexB, ByteArray.size] using this
theorem or_byte16 (v : Nat) (b : UInt8) (hv : v < 72057594037927936) : bits BinOp.or IntKind.u64 ((v : Int) * 256) (b.toNat : Int) = ((v * 256 + b.toNat : Nat) : Int) := by
 have hb := b.toNat_lt
 rw [show (v : Int) * 256 = ((v * 256 : Nat) : Int) by omega, u64_or_nat _ _ (by omega) (by omega)]
 have h := Nat.shiftLeft_add_eq_or_of_lt (show b.toNat < 2 ^ 8 from hb) v
 rw [Nat.shiftLeft_eq] at h
 rw [← h]
set_option maxRecDepth 20000 in
set_option maxHeartbeats 2000000 in
theorem AAddrText16_any (bs : List UInt8) (h16 : bs.length = 16) (w : World) (hD : Deb w) :
    Calls Tryz.prog 89 #[.string ⟨bs.toArray⟩] w fun e w' => e = .returned (.tuple #[.string ⟨(txt16 bs).toArray⟩, .int .i64 0]) ∧ Ext w w' := by
  have mixed : Tryz.prog.follows Departure.mixedOrders = true := by kernel_rfl
  have hz : (ByteArray.mk bs.toArray).size = 16 := by simp [ByteArray.size, h16]
  have hpl : (pairs bs).length = 8 := by rw [pairs_length, h16]
  have htl : (txt16 bs).length ≤ 39 := by
    have := addrT_len (a := bs)
    unfold addrT at this
    rw [if_neg (by omega), if_pos h16] at this
    exact this
  replace hD := hide hD
  replace htl := hide htl
  go_enter Tryz.func89, Tryz.ntmps89
  go_wp2_with fail
  go_loopw [4, 6] (fun v q wr => ∃ k j : Nat, k ≤ 8 ∧ j = 2 * k ∧ q = .int .i64 (j : Int) ∧ Own EStr 9 wr w.heap.size v (((pairs bs).take k).map hexB) ∧ Ext w wr) (fun _ q _ => 16 - (intOf q).toNat)
  case atStart => exact ⟨0, 0, by omega, rfl, rfl, by rw [List.take_zero]; exact Own.nil, Ext.refl _⟩
  case round =>
    obtain ⟨k, j, hk, hj, rfl, hown, hE⟩ := hrel
    rename World => W0
    have hz0 := hE.size
    obtain ⟨vo, dd, rfl⟩ := hown.form
    have hlk : (((pairs bs).take k).map hexB).length = k := by simp; omega
    rw [hlk] at hown ⊢
    replace hlk := hide hlk
    replace hE := hide hE
    replace hown := hide hown
    by_cases hlt : k < 8
    · have hj1 : j + 1 < 16 := by omega
      have hjb : j + 1 < bs.length := by omega
      have hjz : j + 1 < (ByteArray.mk bs.toArray).size := by omega
      replace hj := hide hj
      have hp : (pairs bs)[k]? = some (256 * (bs[j]'(Nat.lt_of_succ_lt hjb)).toNat + (bs[j + 1]'hjb).toNat) := by
        have hj2 := hj.out
        subst hj2
        exact pairs_at bs k hjb
      have e1 : (ByteArray.mk bs.toArray)[j]'(Nat.lt_of_succ_lt hjz) = bs[j]'(Nat.lt_of_succ_lt hjb) := rfl
      have e2 : (ByteArray.mk bs.toArray)[j + 1]'hjz = bs[j + 1]'hjb := rfl
      generalize bs[j]'(Nat.lt_of_succ_lt hjb) = u1 at e1 hp
      generalize bs[j + 1]'hjb = u2 at e2 hp
      have l1 := u1.toNat_lt
      have l2 := u2.toNat_lt
      have hpk : (pairs bs)[k]'(by omega) = 256 * u1.toNat + u2.toNat := by
        have := List.getElem?_eq_getElem (show k < (pairs bs).length by omega)
        rw [this] at hp
        exact Option.some.inj hp
      have hnx : ((pairs bs).take k).map hexB ++ [hexB (256 * u1.toNat + u2.toNat)] = ((pairs bs).take (k + 1)).map hexB := by rw [List.take_succ_eq_append_getElem (by omega), List.map_append, hpk]; rfl
      have hsz := hexB_size (256 * u1.toNat + u2.toNat) (by omega)
      have hF := fun W h => Format16 (256 * u1.toNat + u2.toNat) (by omega) W h
      have w1 : IntKind.u64.wrap (u1.toNat : Int) = (u1.toNat : Int) := by rw [IntKind.wrap_u64]; omega
      have w2 : IntKind.u64.wrap (u2.toNat : Int) = (u2.toNat : Int) := by rw [IntKind.wrap_u64]; omega
      have w3 : IntKind.i64.wrap ((j : Int) + 1) = (j : Int) + 1 := by rw [IntKind.wrap_i64]; omega
      have w6 : IntKind.i64.wrap ((j : Int) + 2) = (j : Int) + 2 := by rw [IntKind.wrap_i64]; omega
      have w4 : ((j : Int) + 1).toNat = j + 1 := by omega
      have w5 : IntKind.u64.wrap ((u1.toNat : Int) * 256) = (u1.toNat : Int) * 256 := by rw [IntKind.wrap_u64]; omega
      have hor := or_byte16 u1.toNat u2 (by omega)
      rw [Nat.mul_comm u1.toNat 256] at hor
      generalize 256 * u1.toNat + u2.toNat = n at hnx hsz hF hor
      have hnm : (Tryz.f87.name == "runtime.NumGoroutine") = false := by kernel_rfl
      have hbd : Tryz.f87.body.isNone = false := by kernel_rfl
      replace hnm := hide hnm
      replace hbd := hide hbd
      have hb0 : (0 : Int) ≤ (j : Int) + 1 := by omega
      have hb1 : (j : Int) < 16 := by omega
      have hb2 : (j : Int) + 1 < 16 := by omega
      replace hF := hide hF
      replace hnx := hide hnx
      replace hsz := hide hsz
      clear hp hpk
      go_wp2_with fail
      go_region_law_o (first
        | (refine step_callN (fn := Tryz.f87) (by rfl) _ _ _ rfl Tryz.func87 hnm.out hbd.out #[.int .u64 (n : Int), .int .i64 16] (by simp [Act.eval, Act.put]) (hF.out _ (hD.out.ext hE.out.drew)) ?_
           rintro e w3 ⟨rfl, he3⟩
           refine ⟨_, rfl, ?_⟩
           have hown3 := hide (hown.out.drew.ext he3)
           have hE3 := hide (hE.out.drew.trans he3)
           have hz3 : W0.heap.size ≤ w3.heap.size := he3.size
           clear he3)
        | (refine step_push (E := EStr) (B := w.heap.size) (v := .slice vo k dd) (l := ((pairs bs).take k).map hexB) (y := hexB n) (cs := [.string (hexB n)]) rfl _ _ _ (by rfl) okStr (by decide) (by decide) (by rfl) (hown3.out.alloc _) (by rw [hlk.out]; omega) (by simp; omega) (by rfl) ⟨rfl, by have := hsz.out; unfold maxLen; omega⟩ (str_new' _ _ _) ?_
           intro v' w5 hown1 hg hat))
      all_goals
        go_wp2
        exact ⟨⟨k + 1, j + 2, by omega, by have := hj.out; omega, by go_num, by rw [← hnx.out]; exact hown1, (hE3.out.alloc _).push (fun j hj => (hown3.out.lt j hj).1) hg⟩, by simp [intOf]; omega⟩
    · obtain rfl : k = 8 := by omega
      subst hj
      have hall : (pairs bs).take 8 = pairs bs := List.take_of_length_le (by omega)
      rw [hall] at hown hlk
      obtain ⟨a9, c9, hv9, hc9, hs9⟩ := hown.out.slc
      injection hv9 with e1 e2 e3
      subst e1 e3
      clear e2
      have hJ := Join_any vo dd ((pairs bs).map hexB) 58 W0 _ (fun b hb => hb.2) hs9 (by intro h; have := hlk.out; rw [h] at this; exact absurd this (by simp)) hc9 (by rw [hlk.out]; omega) (by rw [txt16_hex]; have := htl.out; omega)
      rw [hlk.out, txt16_hex] at hJ
      replace hJ := hide hJ
      go_wp2_with fail
      refine hJ.out.mono ?_
      rintro e w6 ⟨rfl, he6⟩
      replace he6 := hide he6
      go_wp2
      go_ret2
      exact ⟨rfl, hE.out.trans he6.out⟩
set_option maxRecDepth 20000 in
theorem AAddrText_any (a : List UInt8) (ha : a.length ≤ 1048576) (w : World) (hT : Tab w) (hD : Deb w) :
  Calls Tryz.prog 89 #[.string ⟨a.toArray⟩] w fun e w' => e = .returned (.tuple #[.string ⟨(addrT a).1.toArray⟩, .int .i64 (addrT a).2]) ∧ Ext w w' := by
 by_cases h4 : a.length = 4
 ·have hl := addrT_len (a := a)
  have h := AAddrText4_any a h4 w hT (by rw [txt4_dec]; unfold addrT at hl; rw [if_pos h4] at hl; have hl2 : (txt4 a).length ≤ 39 := hl; omega)
  rw [txt4_dec] at h
  unfold addrT
  rw [if_pos h4]
  exact h
 ·by_cases h16 : a.length = 16
  ·unfold addrT
   rw [if_neg h4, if_pos h16]
   exact AAddrText16_any a h16 w hD
  ·unfold addrT
   rw [if_neg h4, if_neg h16]
   have hz : (ByteArray.mk a.toArray).size = a.length := by simp [ByteArray.size]
   have b1 : ((a.length : Int) == 4) = false := by rw [beq_eq_false_iff_ne]; omega
   have b2 : ((a.length : Int) == 16) = false := by rw [beq_eq_false_iff_ne]; omega
   clear hT hD
   go_enter Tryz.func89, Tryz.ntmps89
   go_wp2
   go_ret2
   exact ⟨rfl, Ext.refl _⟩
end
section
open Go.RowKit Go.Sort
set_option linter.unusedVariables false
theorem cut_len (h : List UInt8) (c : UInt8) : (Lib.cut h [c]).1.length ≤ h.length ∧ (Lib.cut h [c]).2.1.length ≤ h.length := by
 by_cases hm : c ∈ h
 ·obtain ⟨a, b, rfl, ha⟩ := first_at hm
  rw [cut_hit ha]
  simp
  omega
 ·rw [cut_miss hm]
  simp
/-- What reading a prefix answers. -/
def PsP (s : List UInt8) (w : World) (e : Ending) (w' : World) : Prop := e = .returned (.tuple #[valP (parseC s).1, .int .i64 (parseC s).2]) ∧ Ext w w'
theorem PsP.of {s : List UInt8} {p : Pfx} {c : Int} {w : World} (h : parseC s = (p, c)) (W : World) (hE : Ext w W) : PsP s w (.returned (.tuple #[valP p, .int .i64 c])) W := ⟨by rw [h], hE⟩
end
section
open Go.RowKit Go.Sort
set_option linter.unusedVariables false
def lb (l : List UInt8) : ByteArray := ⟨l.toArray⟩
end
end Go.Proofs.YtljibkfbldjgdaaGreatDoor
