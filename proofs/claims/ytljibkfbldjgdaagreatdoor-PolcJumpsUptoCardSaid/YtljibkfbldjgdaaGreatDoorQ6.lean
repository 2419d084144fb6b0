/- Walks: an address as a text, by the program. -/
import Derived.Test.YtljibkfbldjgdaaGreatDoorQ5
import Derived.Test.YtljibkfbldjgdaaGreatDoorPX
import Derived.Test.YtljibkfbldjgdaaGreatDoorP22
namespace Go.Proofs.YtljibkfbldjgdaaGreatDoor
open Go.RowKit Go.Sort
set_option linter.unusedVariables false

def hexB (n : Nat) : ByteArray := ⟨(digS 16 n).toArray⟩
theorem txt4_dec (bs : List UInt8) : Lib.join ((bs.map decB8).map (·.data.toList)) [46] = txt4 bs := by
  unfold txt4
  congr 1
  rw [List.map_map]
  apply List.map_congr_left
  intro u _
  show (Lib.decDigits u.toNat) = _
  rw [digS_dec]
theorem txt16_hex (bs : List UInt8) : Lib.join (((pairs bs).map hexB).map (·.data.toList)) [58] = txt16 bs := by
  unfold txt16
  congr 1
  rw [List.map_map]
  rfl
theorem addrT_len {a : List UInt8} : (addrT a).1.length ≤ 39 := by
  by_cases h : a.length = 4 ∨ a.length = 16
  · have := text_addr h
    exact (addr_text (s := (addrT a).1) (by rw [this])).2.2
  · unfold addrT
    rw [if_neg (by omega), if_neg (by omega)]
    simp
theorem hexB_size (n : Nat) (h : n ≤ 65535) : (hexB n).size ≤ 4 := by
  have := digS_len (b := 16) (by decide) 4 n (by omega) (by decide)
  simpa [hexB, ByteArray.size] using this
theorem or_byte16 (v : Nat) (b : UInt8) (hv : v < 72057594037927936) : bits BinOp.or IntKind.u64 ((v : Int) * 256) (b.toNat : Int) = ((v * 256 + b.toNat : Nat) : Int) := by
  have hb := b.toNat_lt
  rw [show (v : Int) * 256 = ((v * 256 : Nat) : Int) by omega, u64_or_nat _ _ (by omega) (by omega)]
  have h := Nat.shiftLeft_add_eq_or_of_lt (show b.toNat < 2 ^ 8 from hb) v
  rw [Nat.shiftLeft_eq] at h
  rw [← h]
set_option maxRecDepth 20000 in
set_option maxHeartbeats 2000000 in
theorem AAddrText16_any (bs : List UInt8) (h16 : bs.length = 16) (w : World) (hD : Deb w) :
    Calls Tryz.prog 89 #[.string ⟨bs.toArray⟩] w fun e w' => e = .returned (.tuple #[.string ⟨(txt16 bs).toArray⟩, .int .i64 0]) ∧ Ext w w' := by
  have mixed : Tryz.prog.follows Departure.mixedOrders = true := by kernel_rfl
  have hz : (ByteArray.mk bs.toArray).size = 16 := by simp [ByteArray.size, h16]
  have hpl : (pairs bs).length = 8 := by rw [pairs_length, h16]
  have htl : (txt16 bs).length ≤ 39 := by
    have := addrT_len (a := bs)
    unfold addrT at this
    rw [if_neg (by omega), if_pos h16] at this
    exact this
  replace hD := hide hD
  replace htl := hide htl
  go_enter Tryz.func89, Tryz.ntmps89
  go_wp2_with fail
  go_loopw [4, 6] (fun v q wr => ∃ k j : Nat, k ≤ 8 ∧ j = 2 * k ∧ q = .int .i64 (j : Int) ∧ Own EStr 9 wr w.heap.size v (((pairs bs).take k).map hexB) ∧ Ext w wr) (fun _ q _ => 16 - (intOf q).toNat)
  case atStart => exact ⟨0, 0, by omega, rfl, rfl, by rw [List.take_zero]; exact Own.nil, Ext.refl _⟩
  case round =>
    obtain ⟨k, j, hk, hj, rfl, hown, hE⟩ := hrel
    rename World => W0
    have hz0 := hE.size
    obtain ⟨vo, dd, rfl⟩ := hown.form
    have hlk : (((pairs bs).take k).map hexB).length = k := by simp; omega
    rw [hlk] at hown ⊢
    replace hlk := hide hlk
    replace hE := hide hE
    replace hown := hide hown
    by_cases hlt : k < 8
    · have hj1 : j + 1 < 16 := by omega
      have hjb : j + 1 < bs.length := by omega
      have hjz : j + 1 < (ByteArray.mk bs.toArray).size := by omega
      replace hj := hide hj
      have hp : (pairs bs)[k]? = some (256 * (bs[j]'(Nat.lt_of_succ_lt hjb)).toNat + (bs[j + 1]'hjb).toNat) := by
        have hj2 := hj.out
        subst hj2
        exact pairs_at bs k hjb
      have e1 : (ByteArray.mk bs.toArray)[j]'(Nat.lt_of_succ_lt hjz) = bs[j]'(Nat.lt_of_succ_lt hjb) := rfl
      have e2 : (ByteArray.mk bs.toArray)[j + 1]'hjz = bs[j + 1]'hjb := rfl
      generalize bs[j]'(Nat.lt_of_succ_lt hjb) = u1 at e1 hp
      generalize bs[j + 1]'hjb = u2 at e2 hp
      have l1 := u1.toNat_lt
      have l2 := u2.toNat_lt
      have hpk : (pairs bs)[k]'(by omega) = 256 * u1.toNat + u2.toNat := by
        have := List.getElem?_eq_getElem (show k < (pairs bs).length by omega)
        rw [this] at hp
        exact Option.some.inj hp
      have hnx : ((pairs bs).take k).map hexB ++ [hexB (256 * u1.toNat + u2.toNat)] = ((pairs bs).take (k + 1)).map hexB := by rw [List.take_succ_eq_append_getElem (by omega), List.map_append, hpk]; rfl
      have hsz := hexB_size (256 * u1.toNat + u2.toNat) (by omega)
      have hF := fun W h => Format16 (256 * u1.toNat + u2.toNat) (by omega) W h
      have w1 : IntKind.u64.wrap (u1.toNat : Int) = (u1.toNat : Int) := by rw [IntKind.wrap_u64]; omega
      have w2 : IntKind.u64.wrap (u2.toNat : Int) = (u2.toNat : Int) := by rw [IntKind.wrap_u64]; omega
      have w3 : IntKind.i64.wrap ((j : Int) + 1) = (j : Int) + 1 := by rw [IntKind.wrap_i64]; omega
      have w6 : IntKind.i64.wrap ((j : Int) + 2) = (j : Int) + 2 := by rw [IntKind.wrap_i64]; omega
      have w4 : ((j : Int) + 1).toNat = j + 1 := by omega
      have w5 : IntKind.u64.wrap ((u1.toNat : Int) * 256) = (u1.toNat : Int) * 256 := by rw [IntKind.wrap_u64]; omega
      have hor := or_byte16 u1.toNat u2 (by omega)
      rw [Nat.mul_comm u1.toNat 256] at hor
      generalize 256 * u1.toNat + u2.toNat = n at hnx hsz hF hor
      have hnm : (Tryz.f87.name == "runtime.NumGoroutine") = false := by kernel_rfl
      have hbd : Tryz.f87.body.isNone = false := by kernel_rfl
      replace hnm := hide hnm
      replace hbd := hide hbd
      have hb0 : (0 : Int) ≤ (j : Int) + 1 := by omega
      have hb1 : (j : Int) < 16 := by omega
      have hb2 : (j : Int) + 1 < 16 := by omega
      replace hF := hide hF
      replace hnx := hide hnx
      replace hsz := hide hsz
      clear hp hpk
      go_wp2_with fail
      go_region_law_o (first
        | (refine step_callN (fn := Tryz.f87) (by rfl) _ _ _ rfl Tryz.func87 hnm.out hbd.out #[.int .u64 (n : Int), .int .i64 16] (by simp [Act.eval, Act.put]) (hF.out _ (hD.out.ext hE.out.drew)) ?_
           rintro e w3 ⟨rfl, he3⟩
           refine ⟨_, rfl, ?_⟩
           have hown3 := hide (hown.out.drew.ext he3)
           have hE3 := hide (hE.out.drew.trans he3)
           have hz3 : W0.heap.size ≤ w3.heap.size := he3.size
           clear he3)
        | (refine step_push (E := EStr) (B := w.heap.size) (v := .slice vo k dd) (l := ((pairs bs).take k).map hexB) (y := hexB n) (cs := [.string (hexB n)]) rfl _ _ _ (by rfl) okStr (by decide) (by decide) (by rfl) (hown3.out.alloc _) (by rw [hlk.out]; omega) (by simp; omega) (by rfl) ⟨rfl, by have := hsz.out; unfold maxLen; omega⟩ (str_new' _ _ _) ?_
           intro v' w5 hown1 hg hat))
      all_goals
        go_wp2
        exact ⟨⟨k + 1, j + 2, by omega, by have := hj.out; omega, by go_num, by rw [← hnx.out]; exact hown1, (hE3.out.alloc _).push (fun j hj => (hown3.out.lt j hj).1) hg⟩, by simp [intOf]; omega⟩
    · obtain rfl : k = 8 := by omega
      subst hj
      have hall : (pairs bs).take 8 = pairs bs := List.take_of_length_le (by omega)
      rw [hall] at hown hlk
      obtain ⟨a9, c9, hv9, hc9, hs9⟩ := hown.out.slc
      injection hv9 with e1 e2 e3
      subst e1 e3
      clear e2
      have hJ := Join_any vo dd ((pairs bs).map hexB) 58 W0 _ (fun b hb => hb.2) hs9 (by intro h; have := hlk.out; rw [h] at this; exact absurd this (by simp)) hc9 (by rw [hlk.out]; omega) (by rw [txt16_hex]; have := htl.out; omega)
      rw [hlk.out, txt16_hex] at hJ
      replace hJ := hide hJ
      go_wp2_with fail
      refine hJ.out.mono ?_
      rintro e w6 ⟨rfl, he6⟩
      replace he6 := hide he6
      go_wp2
      go_ret2
      exact ⟨rfl, hE.out.trans he6.out⟩
set_option maxRecDepth 20000 in
theorem AAddrText_any (a : List UInt8) (ha : a.length ≤ 1048576) (w : World) (hT : Tab w) (hD : Deb w) :
    Calls Tryz.prog 89 #[.string ⟨a.toArray⟩] w fun e w' => e = .returned (.tuple #[.string ⟨(addrT a).1.toArray⟩, .int .i64 (addrT a).2]) ∧ Ext w w' := by
  by_cases h4 : a.length = 4
  · have hl := addrT_len (a := a)
    have h := AAddrText4_any a h4 w hT (by rw [txt4_dec]; unfold addrT at hl; rw [if_pos h4] at hl; have hl2 : (txt4 a).length ≤ 39 := hl; omega)
    rw [txt4_dec] at h
    unfold addrT
    rw [if_pos h4]
    exact h
  · by_cases h16 : a.length = 16
    · unfold addrT
      rw [if_neg h4, if_pos h16]
      exact AAddrText16_any a h16 w hD
    · unfold addrT
      rw [if_neg h4, if_neg h16]
      have hz : (ByteArray.mk a.toArray).size = a.length := by simp [ByteArray.size]
      have b1 : ((a.length : Int) == 4) = false := by rw [beq_eq_false_iff_ne]; omega
      have b2 : ((a.length : Int) == 16) = false := by rw [beq_eq_false_iff_ne]; omega
      clear hT hD
      go_enter Tryz.func89, Tryz.ntmps89
      go_wp2
      go_ret2
      exact ⟨rfl, Ext.refl _⟩
end Go.Proofs.YtljibkfbldjgdaaGreatDoor
