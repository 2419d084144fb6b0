/- Walks: an address as a text, by the program. Chapter 35, plain: the document's answers are the same ones. Chapter 35, plain: an event's words as they are told; outputs; the document's scripts. Chapter 35, plain: 'run' stands alone in a line of a configuration. Chapter 35, plain: the closed law's texts: what is read of each, what is told of each. Walks: numerals to a base: the document's. Numerals read by the program: strconv.ParseUint to the bases 10 and 16, prim.number. Walks: the library's ParseUint to the base 16 (of 16 bits). Walks: the library's ParseUint to the base 16, public; prim.number to the base 16. Walks: an address read, by the program. Chapter 35, walks: bytes as digits: the document's. Chapter 35, walks: strings.Builder; the program's bytes as digits. Chapter 35, walks: the program's bytes as digits. Walks: the document's Split and Fam. Chapter 35, walks: a name (script.n -/
import Derived.Lib.SplitLaws
import Derived.Lib.ParseIntB
import Derived.Lib.ParseIntBCases
import Derived.Lib.ItoaNum
import Derived.Lib.Join
import Derived.WalkKit
import Derived.Below
import Derived.Outline
import Derived.LoopTactic
import Derived.Laws.OwnMore
import Derived.Deep.AppendLies
import Derived.Deep.Draws
import Derived.Lib.Hide
import Derived.BigQuiet
import Derived.Deep.QuietTactic
import Derived.WalkSpells
import Derived.WalkLawsBesides
import Derived.Deep.RegionHeld3
import Derived.Deep.DrawnRows
import Derived.Deep.RegionLaw
import Derived.Lib.ConvBytes
import Derived.Lib.Bytealg
import Derived.Lib.Small
import Derived.Test.YtkinghadgmbhbaaGreatDoorRows
import Derived.ProofKit
import Derived.Deep.Slices
import Derived.Shelf.GgClosure.StringsRunes
import Derived.Test.YtkinghadgmbhbaaGreatDoorProg
import Derived.Test.YtkinghadgmbhbaaGreatDoorShelf
import Derived.Shelf.RegionOpenPlain
import Derived.Laws.StructEq
import Derived.Lib.QuietBelow
import Derived.Test.YtkinghadgmbhbaaGreatDoorShelf2
import Derived.Lib.UnsafeStr
import Derived.Lib.ItoaMem
import Derived.Lib.ItoaLen
import Derived.Shelf.Strings.Builder1
import Derived.Test.YtkinghadgmbhbaaGreatDoorPF01
namespace Go.Proofs.YtkinghadgmbhbaaGreatDoor
section
open Go.RowKit Go.Sort
set_option linter.unusedVariables false
def hexB (n : Nat) : ByteArray := ⟨(digS 16 n).toArray⟩
theorem txt4_dec (bs : List UInt8) : Lib.join ((bs.map decB8).map (·.data.toList)) [46] = txt4 bs := by
 unfold txt4
 congr 1
 rw [List.map_map]
 apply List.map_congr_left
 intro u _
 show (Lib.decDigits u.toNat) = _
 rw [digS_dec]
theorem txt16_hex (bs : List UInt8) : Lib.join (((pairs bs).map hexB).map (·.data.toList)) [58] = txt16 bs := by
 unfold txt16
 congr 1
 rw [List.map_map]
 rfl
theorem addrT_len {a : List UInt8} : (addrT a).1.length ≤ 39 := by
 by_cases h : a.length = 4 ∨ a.length = 16
 ·have := text_addr h
  exact (addr_text (s := (addrT a).1) (by rw [this])).2.2
 ·unfold addrT
  rw [if_neg (by omega), if_neg (by omega)]
  simp
theorem hexB_size (n : Nat) (h : n ≤ 65535) : (hexB n).size ≤ 4 := by
 have := digS_len (b := 16) (by decide) 4 n (by omega) (by decide)
 simpa [hexB, ByteArray.size] using this
theorem or_byte16 (v : Nat) (b : UInt8) (hv : v < 72057594037927936) : bits BinOp.or IntKind.u64 ((v : Int) * 256) (b.toNat : Int) = ((v * 256 + b.toNat : Nat) : Int) := by
 have hb := b.toNat_lt
 rw [show (v : Int) * 256 = ((v * 256 : Nat) : Int) by omega, u64_or_nat _ _ (by omega) (by omega)]
 have h := Nat.shiftLeft_add_eq_or_of_lt (show b.toNat < 2 ^ 8 from hb) v
 rw [Nat.shiftLeft_eq] at h
 rw [← h]
set_option maxRecDepth 20000 in
set_option maxHeartbeats 2000000 in
theorem AAddrText16_any (bs : List UInt8) (h16 : bs.length = 16) (w : World) (hD : Deb w) :
    Calls Tryz.prog 61 #[.string ⟨bs.toArray⟩] w fun e w' => e = .returned (.tuple #[.string ⟨(txt16 bs).toArray⟩, .int .i64 0]) ∧ Ext w w' := by
  have mixed : Tryz.prog.follows Departure.mixedOrders = true := by kernel_rfl
  have hz : (ByteArray.mk bs.toArray).size = 16 := by simp [ByteArray.size, h16]
  have hpl : (pairs bs).length = 8 := by rw [pairs_length, h16]
  have htl : (txt16 bs).length ≤ 39 := by
    have := addrT_len (a := bs)
    unfold addrT at this
    rw [if_neg (by omega), if_pos h16] at this
    exact this
  replace hD := hide hD
  replace htl := hide htl
  go_enter Tryz.func61, Tryz.ntmps61
  go_wp2_with fail
  go_loopw [4, 6] (fun v q wr => ∃ k j : Nat, k ≤ 8 ∧ j = 2 * k ∧ q = .int .i64 (j : Int) ∧ Own EStr 9 wr w.heap.size v (((pairs bs).take k).map hexB) ∧ Ext w wr) (fun _ q _ => 16 - (intOf q).toNat)
  case atStart => exact ⟨0, 0, by omega, rfl, rfl, by rw [List.take_zero]; exact Own.nil, Ext.refl _⟩
  case round =>
    obtain ⟨k, j, hk, hj, rfl, hown, hE⟩ := hrel
    rename World => W0
    have hz0 := hE.size
    obtain ⟨vo, dd, rfl⟩ := hown.form
    have hlk : (((pairs bs).take k).map hexB).length = k := by simp; omega
    rw [hlk] at hown ⊢
    replace hlk := hide hlk
    replace hE := hide hE
    replace hown := hide hown
    by_cases hlt : k < 8
    · have hj1 : j + 1 < 16 := by omega
      have hjb : j + 1 < bs.length := by omega
      have hjz : j + 1 < (ByteArray.mk bs.toArray).size := by omega
      replace hj := hide hj
      have hp : (pairs bs)[k]? = some (256 * (bs[j]'(Nat.lt_of_succ_lt hjb)).toNat + (bs[j + 1]'hjb).toNat) := by
        have hj2 := hj.out
        subst hj2
        exact pairs_at bs k hjb
      have e1 : (ByteArray.mk bs.toArray)[j]'(Nat.lt_of_succ_lt hjz) = bs[j]'(Nat.lt_of_succ_lt hjb) := rfl
      have e2 : (ByteArray.mk bs.toArray)[j + 1]'hjz = bs[j + 1]'hjb := rfl
      generalize bs[j]'(Nat.lt_of_succ_lt hjb) = u1 at e1 hp
      generalize bs[j + 1]'hjb = u2 at e2 hp
      have l1 := u1.toNat_lt
      have l2 := u2.toNat_lt
      have hpk : (pairs bs)[k]'(by omega) = 256 * u1.toNat + u2.toNat := by
        have := List.getElem?_eq_getElem (show k < (pairs bs).length by omega)
        rw [this] at hp
        exact Option.some.inj hp
      have hnx : ((pairs bs).take k).map hexB ++ [hexB (256 * u1.toNat + u2.toNat)] = ((pairs bs).take (k + 1)).map hexB := by rw [List.take_succ_eq_append_getElem (by omega), List.map_append, hpk]; rfl
      have hsz := hexB_size (256 * u1.toNat + u2.toNat) (by omega)
      have hF := fun W h => Format16 (256 * u1.toNat + u2.toNat) (by omega) W h
      have w1 : IntKind.u64.wrap (u1.toNat : Int) = (u1.toNat : Int) := by rw [IntKind.wrap_u64]; omega
      have w2 : IntKind.u64.wrap (u2.toNat : Int) = (u2.toNat : Int) := by rw [IntKind.wrap_u64]; omega
      have w3 : IntKind.i64.wrap ((j : Int) + 1) = (j : Int) + 1 := by rw [IntKind.wrap_i64]; omega
      have w6 : IntKind.i64.wrap ((j : Int) + 2) = (j : Int) + 2 := by rw [IntKind.wrap_i64]; omega
      have w4 : ((j : Int) + 1).toNat = j + 1 := by omega
      have w5 : IntKind.u64.wrap ((u1.toNat : Int) * 256) = (u1.toNat : Int) * 256 := by rw [IntKind.wrap_u64]; omega
      have hor := or_byte16 u1.toNat u2 (by omega)
      rw [Nat.mul_comm u1.toNat 256] at hor
      generalize 256 * u1.toNat + u2.toNat = n at hnx hsz hF hor
      have hnm : (Tryz.f62.name == "runtime.NumGoroutine") = false := by kernel_rfl
      have hbd : Tryz.f62.body.isNone = false := by kernel_rfl
      replace hnm := hide hnm
      replace hbd := hide hbd
      have hb0 : (0 : Int) ≤ (j : Int) + 1 := by omega
      have hb1 : (j : Int) < 16 := by omega
      have hb2 : (j : Int) + 1 < 16 := by omega
      replace hF := hide hF
      replace hnx := hide hnx
      replace hsz := hide hsz
      clear hp hpk
      go_wp2_with fail
      go_region_law_o (first
        | (refine step_callN (fn := Tryz.f62) (by rfl) _ _ _ rfl Tryz.func62 hnm.out hbd.out #[.int .u64 (n : Int), .int .i64 16] (by simp [Act.eval, Act.put]) (hF.out _ (hD.out.ext hE.out.drew)) ?_
           rintro e w3 ⟨rfl, he3⟩
           refine ⟨_, rfl, ?_⟩
           have hown3 := hide (hown.out.drew.ext he3)
           have hE3 := hide (hE.out.drew.trans he3)
           have hz3 : W0.heap.size ≤ w3.heap.size := he3.size
           clear he3)
        | (refine step_push (E := EStr) (B := w.heap.size) (v := .slice vo k dd) (l := ((pairs bs).take k).map hexB) (y := hexB n) (cs := [.string (hexB n)]) rfl _ _ _ (by rfl) okStr (by decide) (by decide) (by rfl) (hown3.out.alloc _) (by rw [hlk.out]; omega) (by simp; omega) (by rfl) ⟨rfl, by have := hsz.out; unfold maxLen; omega⟩ (str_new' _ _ _) ?_
           intro v' w5 hown1 hg hat))
      all_goals
        go_wp2
        exact ⟨⟨k + 1, j + 2, by omega, by have := hj.out; omega, by go_num, by rw [← hnx.out]; exact hown1, (hE3.out.alloc _).push (fun j hj => (hown3.out.lt j hj).1) hg⟩, by simp [intOf]; omega⟩
    · obtain rfl : k = 8 := by omega
      subst hj
      have hall : (pairs bs).take 8 = pairs bs := List.take_of_length_le (by omega)
      rw [hall] at hown hlk
      obtain ⟨a9, c9, hv9, hc9, hs9⟩ := hown.out.slc
      injection hv9 with e1 e2 e3
      subst e1 e3
      clear e2
      have hJ := Join_any vo dd ((pairs bs).map hexB) 58 W0 _ (fun b hb => hb.2) hs9 (by intro h; have := hlk.out; rw [h] at this; exact absurd this (by simp)) hc9 (by rw [hlk.out]; omega) (by rw [txt16_hex]; have := htl.out; omega)
      rw [hlk.out, txt16_hex] at hJ
      replace hJ := hide hJ
      go_wp2_with fail
      refine hJ.out.mono ?_
      rintro e w6 ⟨rfl, he6⟩
      replace he6 := hide he6
      go_wp2
      go_ret2
      exact ⟨rfl, hE.out.trans he6.out⟩
set_option maxRecDepth 20000 in
theorem AAddrText_any (a : List UInt8) (ha : a.length ≤ 1048576) (w : World) (hT : Tab w) (hD : Deb w) :
  Calls Tryz.prog 61 #[.string ⟨a.toArray⟩] w fun e w' => e = .returned (.tuple #[.string ⟨(addrT a).1.toArray⟩, .int .i64 (addrT a).2]) ∧ Ext w w' := by
 by_cases h4 : a.length = 4
 ·have hl := addrT_len (a := a)
  have h := AAddrText4_any a h4 w hT (by rw [txt4_dec]; unfold addrT at hl; rw [if_pos h4] at hl; have hl2 : (txt4 a).length ≤ 39 := hl; omega)
  rw [txt4_dec] at h
  unfold addrT
  rw [if_pos h4]
  exact h
 ·by_cases h16 : a.length = 16
  ·unfold addrT
   rw [if_neg h4, if_pos h16]
   exact AAddrText16_any a h16 w hD
  ·unfold addrT
   rw [if_neg h4, if_neg h16]
   have hz : (ByteArray.mk a.toArray).size = a.length := by simp [ByteArray.size]
   have b1 : ((a.length : Int) == 4) = false := by rw [beq_eq_false_iff_ne]; omega
   have b2 : ((a.length : Int) == 16) = false := by rw [beq_eq_false_iff_ne]; omega
   clear hT hD
   go_enter Tryz.func61, Tryz.ntmps61
   go_wp2
   go_ret2
   exact ⟨rfl, Ext.refl _⟩
end
section
open Go.RowKit
set_option linter.unusedVariables false
set_option linter.unusedSimpArgs false
theorem wordB_len (b : List UInt8) : (wordB b).length ≤ 2 * b.length + 1 := by
 unfold wordB
 split
 ·simp
 ·rw [hexS_len]; omega
theorem dig10 {n : Nat} (h : n ≤ 4294967295) : (digS 10 n).length ≤ 10 := digS_len (by decide) 10 _ (by omega) (by decide)
theorem evW_len {e : EvS} (h : evOk e = true) : (evW e).length ≤ 131112 := by
 have hx := addrT_len (a := e.addr)
 have hw := wordB_len e.bytes
 have hdw := dig10 (n := e.draw.toNat) (by have := e.draw.toNat_lt; omega)
 have nam : ∀ x : List UInt8, nameOk x = true → x.length ≤ 16 := fun x hx => by
  unfold nameOk at hx
  simp only [Bool.and_eq_true, decide_eq_true_eq] at hx
  exact hx.2.1
 have l3 : ∀ a b c : List UInt8, (Lib.join [a, b, c] [32]).length = a.length + b.length + c.length + 2 := fun a b c => by simp [Lib.join]; omega
 have l2 : ∀ a b : List UInt8, (Lib.join [a, b] [32]).length = a.length + b.length + 1 := fun a b => by simp [Lib.join]; omega
 have hcn : 1 ≤ e.conn ∧ e.conn ≤ 64 → (digS 10 e.conn.toNat).length ≤ 10 := fun hc => dig10 (by omega)
 have hct : 1 ≤ e.ticks ∧ e.ticks ≤ 4096 → (digS 10 e.ticks.toNat).length ≤ 10 := fun hc => dig10 (by omega)
 have hnp := nam e.peer
 obtain ⟨k, c, a, p, b, t, d⟩ := e
 unfold evOk at h
 unfold evW evWs
 dsimp only at h hx hw hdw hcn hct hnp ⊢
 split at h
 ·rename_i hk; simp only [Bool.and_eq_true, decide_eq_true_eq, connOk] at h; rw [if_pos hk, l3]
  have := hcn h.2.1
  simp only [List.length_cons, List.length_nil]; omega
 rename_i hk
 rw [if_neg hk]
 split at h
 ·rename_i hk; simp only [Bool.and_eq_true, decide_eq_true_eq, connOk] at h; rw [if_pos hk, l3]
  have := hcn h.2.1
  have := hnp h.2.2
  simp only [List.length_cons, List.length_nil]; omega
 rename_i hk
 rw [if_neg hk]
 split at h
 ·rename_i hk; simp only [Bool.and_eq_true, decide_eq_true_eq, connOk] at h; rw [if_pos hk, l2]
  have := hnp h.2
  simp only [List.length_cons, List.length_nil]; omega
 rename_i hk
 rw [if_neg hk]
 split at h
 ·rename_i hk; simp only [Bool.and_eq_true, decide_eq_true_eq, connOk] at h; rw [if_pos hk, l3]
  have := hcn h.2.1
  simp only [List.length_cons, List.length_nil]; omega
 rename_i hk
 rw [if_neg hk]
 split at h
 ·rename_i hk; simp only [Bool.and_eq_true, decide_eq_true_eq, connOk] at h; rw [if_pos hk, l2]
  have := hcn h.2
  simp only [List.length_cons, List.length_nil]; omega
 rename_i hk
 rw [if_neg hk]
 split at h
 ·rename_i hk; simp only [Bool.and_eq_true, decide_eq_true_eq, connOk] at h; rw [if_pos hk, l2]
  have := hct h.2
  simp only [List.length_cons, List.length_nil]; omega
 rename_i hk
 rw [if_neg hk]
 split at h
 ·rename_i hk; simp only [Bool.and_eq_true, decide_eq_true_eq, connOk] at h; rw [if_pos hk, l2]
  have := h.2
  simp only [List.length_cons, List.length_nil]; omega
 rename_i hk
 rw [if_neg hk]
 split at h
 ·rename_i hk; simp only [Bool.and_eq_true, decide_eq_true_eq, connOk] at h; rw [if_pos hk, l2]
  have := h.2
  simp only [List.length_cons, List.length_nil]; omega
 rename_i hk
 rw [if_neg hk]
 split at h
 ·rename_i hk; simp only [Bool.and_eq_true, decide_eq_true_eq, connOk] at h; rw [if_pos hk, l2]
  simp only [List.length_cons, List.length_nil]; omega
 rename_i hk
 rw [if_neg hk]
 simp [Lib.join]
end
section
open Go.RowKit
set_option linter.unusedVariables false
set_option linter.unusedSimpArgs false
/-- An event's words, as far as its kind has fields. -/
def tellS (e : EvS) : List UInt8 :=
 if e.kind = 1 then Lib.join [[105, 110], Lib.itoa e.conn, (addrT e.addr).1] [32]
 else if e.kind = 2 then Lib.join [[117, 112], Lib.itoa e.conn, e.peer] [32]
 else if e.kind = 3 then Lib.join [[114, 101, 102, 117, 115, 101], e.peer] [32]
 else if e.kind = 4 then Lib.join [[100, 97, 116, 97], Lib.itoa e.conn, wordB e.bytes] [32]
 else if e.kind = 5 then Lib.join [[99, 108, 111, 115, 101], Lib.itoa e.conn] [32]
 else if e.kind = 6 then Lib.join [[116, 105, 99, 107], Lib.itoa e.ticks] [32]
 else if e.kind = 7 then Lib.join [[108, 111, 97, 100], wordB e.bytes] [32]
 else if e.kind = 8 then Lib.join [[97, 115, 107], wordB e.bytes] [32]
 else if e.kind = 9 then Lib.join [[100, 114, 97, 119], digS 10 e.draw.toNat] [32]
 else if e.kind = 10 then [100, 114, 97, 105, 110]
 else []
theorem itoa_nn {n : Int} (h : 0 ≤ n) : Lib.itoa n = digS 10 n.toNat := by
 rw [digS_dec]
 exact if_neg (by omega)
theorem tell_ok {e : EvS} (h : evOk e = true) : tellS e = evW e := by
 have hcn : connOk e.conn = true → Lib.itoa e.conn = digS 10 e.conn.toNat := fun hc => itoa_nn (by simp only [connOk, decide_eq_true_eq] at hc; omega)
 unfold evOk at h
 unfold tellS evW evWs
 split at h
 ·rename_i hk; (try simp only [Bool.and_eq_true] at h); rw [if_pos hk, if_pos hk, hcn h.2.1]
 rename_i hk; rw [if_neg hk, if_neg hk]
 split at h
 ·rename_i hk; (try simp only [Bool.and_eq_true] at h); rw [if_pos hk, if_pos hk, hcn h.2.1]
 rename_i hk; rw [if_neg hk, if_neg hk]
 split at h
 ·rename_i hk; (try simp only [Bool.and_eq_true] at h); rw [if_pos hk, if_pos hk]
 rename_i hk; rw [if_neg hk, if_neg hk]
 split at h
 ·rename_i hk; (try simp only [Bool.and_eq_true] at h); rw [if_pos hk, if_pos hk, hcn h.2.1]
 rename_i hk; rw [if_neg hk, if_neg hk]
 split at h
 ·rename_i hk; (try simp only [Bool.and_eq_true] at h); rw [if_pos hk, if_pos hk, hcn h.2]
 rename_i hk; rw [if_neg hk, if_neg hk]
 split at h
 ·rename_i hk; (try simp only [Bool.and_eq_true] at h); rw [if_pos hk, if_pos hk, itoa_nn (by have := of_decide_eq_true h.2; omega)]
 rename_i hk; rw [if_neg hk, if_neg hk]
 split at h
 ·rename_i hk; (try simp only [Bool.and_eq_true] at h); rw [if_pos hk, if_pos hk]
 rename_i hk; rw [if_neg hk, if_neg hk]
 split at h
 ·rename_i hk; (try simp only [Bool.and_eq_true] at h); rw [if_pos hk, if_pos hk]
 rename_i hk; rw [if_neg hk, if_neg hk]
 split at h
 ·rename_i hk; (try simp only [Bool.and_eq_true] at h); rw [if_pos hk, if_pos hk]
 rename_i hk; rw [if_neg hk, if_neg hk]
 split at h
 ·rename_i hk; rw [if_pos hk]; rfl
 cases h
/-- The line that is told is one that is read back. -/
theorem evT_back (e : EvS) : evT e = if evO (tellS e) = some e then (tellS e, 0) else ([], 2) := by
 unfold evT
 by_cases h : evOk e = true
 ·rw [if_pos h, tell_ok h, if_pos (evO_ev h)]
 ·rw [if_neg h, if_neg]
  intro hb
  exact h (evO_some hb).1
/-- An output. -/
structure OutS where
  kind : Int
  conn : Int
  peer : List UInt8
  bytes : List UInt8
  err : Int
deriving instance DecidableEq for OutS
def outT (o : OutS) : List UInt8 × Int :=
 if o.kind = 1 then (if decide (o = ⟨1, 0, o.peer, [], 0⟩) && nameOk o.peer then (Lib.join [[99, 111, 110, 110, 101, 99, 116], o.peer] [32], 0) else ([], 2))
 else if o.kind = 2 then (if decide (o = ⟨2, o.conn, [], o.bytes, 0⟩) && (connOk o.conn && decide (o.bytes.length ≤ 4096)) then (Lib.join [[100, 97, 116, 97], digS 10 o.conn.toNat, wordB o.bytes] [32], 0) else ([], 2))
 else if o.kind = 3 then (if decide (o = ⟨3, o.conn, [], [], 0⟩) && connOk o.conn then (Lib.join [[99, 108, 111, 115, 101], digS 10 o.conn.toNat] [32], 0) else ([], 2))
 else if o.kind = 4 then (if decide (o = ⟨4, 0, [], o.bytes, 0⟩) then (Lib.join [[114, 101, 112, 108, 121], wordB o.bytes] [32], 0) else ([], 2))
 else if o.kind = 5 then (if decide (o = ⟨5, 0, [], [], o.err⟩) && decide (0 ≤ o.err ∧ o.err ≤ 11) then (Lib.join [[108, 111, 97, 100], digS 10 o.err.toNat] [32], 0) else ([], 2))
 else ([], 2)
/-- The rest of a script's reading, from a line on: the configuration's lines; the events' lines. -/
def restE (s : List UInt8) (cf at_ : Nat) (out : List EvS) (r : List (List UInt8)) : List UInt8 × List EvS × Int × Nat :=
 match scanE at_ out r with
 | (o, c, p) => if c = 0 then (s.take cf, o, 0, 0) else ([], [], c, p)
def restC (s : List UInt8) (at_ cf : Nat) (L : List (List UInt8)) : List UInt8 × List EvS × Int × Nat :=
 match scanC at_ cf L with
 | none => ([], [], 9, at_ + L.length - 1)
 | some (a, k, r) => restE s k (a + 1) [] r
theorem parse_rest {s : List UInt8} (h : s.length ≤ 1048576) : parseS s = restC s 0 0 (spl 10 s) := by
 unfold parseS restC restE
 rw [if_neg (by omega)]
 cases scanC 0 0 (spl 10 s) with
 | none => simp
 | some x => rfl
theorem restC_run (s : List UInt8) (at_ cf : Nat) {x y : List UInt8} {r : List (List UInt8)} (h : x = runW) : restC s at_ cf (x :: y :: r) = restE s cf (at_ + 1) [] (y :: r) := by
 unfold restC
 rw [scanC, if_pos h]
theorem restC_on (s : List UInt8) (at_ cf : Nat) {x y : List UInt8} {r : List (List UInt8)} (h : x ≠ runW) : restC s at_ cf (x :: y :: r) = restC s (at_ + 1) (cf + x.length + 1) (y :: r) := by
 unfold restC
 rw [scanC, if_neg h]
 cases scanC (at_ + 1) (cf + x.length + 1) (y :: r) with
 | none => simp only [List.length_cons, Prod.mk.injEq, true_and]; omega
 | some x => rfl
theorem restC_end (s : List UInt8) (at_ cf : Nat) (x : List UInt8) : restC s at_ cf [x] = ([], [], 9, at_) := by
 unfold restC
 rw [scanC]
 ·simp
 ·intro a b c h; cases h
theorem restE_bad (s : List UInt8) (cf at_ : Nat) (out : List EvS) {x y : List UInt8} {r : List (List UInt8)} (h : evO x = none) : restE s cf at_ out (x :: y :: r) = ([], [], 9, at_) := by
 unfold restE
 rw [scanE, h]
 rfl
theorem restE_long (s : List UInt8) (cf at_ : Nat) {out : List EvS} {x y : List UInt8} {r : List (List UInt8)} {e : EvS} (h : evO x = some e) (hl : out.length = 512) : restE s cf at_ out (x :: y :: r) = ([], [], 3, at_) := by
 unfold restE
 rw [scanE, h]
 dsimp only
 rw [if_pos hl]
 rfl
theorem restE_on (s : List UInt8) (cf at_ : Nat) {out : List EvS} {x y : List UInt8} {r : List (List UInt8)} {e : EvS} (h : evO x = some e) (hl : out.length ≠ 512) : restE s cf at_ out (x :: y :: r) = restE s cf (at_ + 1) (out ++ [e]) (y :: r) := by
 unfold restE
 rw [scanE, h]
 dsimp only
 rw [if_neg hl]
theorem restE_end (s : List UInt8) (cf at_ : Nat) (out : List EvS) (x : List UInt8) : restE s cf at_ out [x] = if x = [] then (s.take cf, out, 0, 0) else ([], [], 9, at_) := by
 unfold restE
 rw [scanE]
 by_cases h : x = []
 ·rw [if_pos h, if_pos h]; rfl
 ·rw [if_neg h, if_neg h]; rfl
/-- 'run' stands in a line: or a text holds it between two lines' ends. -/
def nlRun : List UInt8 := 10 :: (runW ++ [10])
theorem nlRun_step {a t : List UInt8} (h : (10 : UInt8) ∉ a) : nlRun <:+: 10 :: (a ++ 10 :: t) ↔ a = runW ∨ nlRun <:+: 10 :: t := by
  constructor
  · rintro ⟨x, y, he⟩
    cases x with
    | nil =>
      left
      unfold nlRun at he
      simp only [List.nil_append, List.cons_append, List.append_assoc, List.cons.injEq, true_and] at he
      exact (append_at he.symm h (by decide)).1
    | cons c x =>
      right
      unfold nlRun at he
      simp only [List.cons_append, List.append_assoc, List.cons.injEq] at he
      obtain ⟨rfl, he⟩ := he
      rcases List.append_eq_append_iff.1 he with ⟨z, hz, he⟩ | ⟨z, hz, he⟩
      · cases z with
        | nil =>
          rw [List.nil_append] at he
          exact ⟨[], y, by unfold nlRun; simp only [List.nil_append, List.cons_append, List.append_assoc]; exact he⟩
        | cons d z =>
          exfalso
          rw [List.cons_append] at he
          injection he with h1 h2
          subst h1
          exact h (by rw [hz]; simp)
      · exact ⟨z, y, by unfold nlRun; simp only [List.cons_append, List.append_assoc]; exact he.symm⟩
  · rintro (rfl | ⟨x, y, he⟩)
    · exact ⟨[], t, by simp [nlRun]⟩
    · exact ⟨10 :: (a ++ x), y, by simp only [List.cons_append, List.append_assoc] at he ⊢; rw [he]⟩
end
section
open Go.RowKit
set_option linter.unusedVariables false
set_option linter.unusedSimpArgs false
/-- In a configuration that ends in a line's end, a line is 'run' just if it stands between two lines' ends. -/
theorem nlRun_iff (c : List UInt8) (hc : c = [] ∨ c.getLast? = some 10) : nlRun <:+: 10 :: c ↔ runW ∈ spl 10 c := by
  revert hc
  refine spl_ind (P := fun c => (c = [] ∨ c.getLast? = some 10) → (nlRun <:+: 10 :: c ↔ runW ∈ spl 10 c)) 10 (fun s hs hc => ?_) (fun a b ha ih hc => ?_) c.length c (Nat.le_refl _)
  · have h0 : s = [] := by
      rcases hc with h | h
      · exact h
      · exact absurd (List.mem_of_getLast? h) hs
    subst h0
    constructor
    · rintro ⟨p, q, h⟩
      have := congrArg List.length h
      simp [nlRun, runW] at this
      omega
    · intro h
      rw [spl_no hs] at h
      simp [runW] at h
  · rw [nlRun_step ha, spl_at ha]
    have hb : b = [] ∨ b.getLast? = some 10 := by
      rcases hc with h | h
      · simp at h
      · rw [List.getLast?_append] at h
        cases b with
        | nil => exact .inl rfl
        | cons x r =>
          right
          rw [List.getLast?_cons_cons] at h
          cases hq : (x :: r).getLast? with
          | none => simp at hq
          | some y => rw [hq] at h; simpa using h
    rw [ih hb]
    simp only [List.cons_append, List.nil_append, List.mem_cons, List.singleton_append]
    constructor
    · rintro (h | h)
      · exact .inl h.symm
      · exact .inr h
    · rintro (h | h)
      · exact .inl h.symm
      · exact .inr h
theorem cfgOk_iff (c : List UInt8) (hc : c = [] ∨ c.getLast? = some 10) : cfgOk c = true ↔ ¬ nlRun <:+: 10 :: c := by
 unfold cfgOk
 rw [nlRun_iff c hc]
 have : (decide (c = []) || decide (c.getLast? = some 10)) = true := by simpa using hc
 rw [this]
 simp
theorem cfgOk_end {c : List UInt8} (hc : ¬ (c = [] ∨ c.getLast? = some 10)) : cfgOk c = false := by
 unfold cfgOk
 have : (decide (c = []) || decide (c.getLast? = some 10)) = false := by simpa using hc
 rw [this]
 rfl
theorem contains_iff (s sub : List UInt8) : Lib.contains s sub = true ↔ sub <:+: s := by
 unfold Lib.contains
 rw [decide_eq_true_eq]
 constructor
 ·intro h
  rcases Lib.index_spec s sub with ⟨h1, _⟩ | ⟨i, h1, h2, h3, _⟩
  ·omega
  ·have h4 : sub <+: s.drop i := by simpa [Lib.occAt] using h3
   exact h4.isInfix.trans (List.drop_suffix i s).isInfix
 ·rintro ⟨p, q, rfl⟩
  rcases Lib.index_spec (p ++ sub ++ q) sub with ⟨h1, h2⟩ | ⟨i, h1, _⟩
  ·have := h2 p.length (by simp)
   simp only [Lib.occAt, List.append_assoc, List.drop_left] at this
   have h9 : sub.isPrefixOf (sub ++ q) = true := List.isPrefixOf_iff_prefix.2 (List.prefix_append _ _)
   rw [h9] at this
   cases this
  ·omega
theorem suffix_iff (c : List UInt8) : Lib.hasSuffix c [10] = decide (c.getLast? = some 10) := by
 rw [Bool.eq_iff_iff, decide_eq_true_eq]
 unfold Lib.hasSuffix
 rw [List.isSuffixOf_iff_suffix]
 constructor
 ·rintro ⟨p, rfl⟩; simp
 ·intro h
  obtain ⟨p, hp⟩ := List.getLast?_eq_some_iff.1 h
  exact ⟨p, hp.symm⟩
/-- A configuration that may stand ahead of a script, as the program asks. -/
theorem cfgOk_prog (c : List UInt8) : cfgOk c = ((decide (c = []) || Lib.hasSuffix c [10]) && !Lib.contains (10 :: c) nlRun) := by
 rw [suffix_iff]
 by_cases h : c = [] ∨ c.getLast? = some 10
 ·have h1 : (decide (c = []) || decide (c.getLast? = some 10)) = true := by simpa using h
  rw [h1, Bool.true_and, Bool.eq_iff_iff, cfgOk_iff c h, Bool.not_eq_true', ← Bool.not_eq_true, contains_iff]
 ·have h1 : (decide (c = []) || decide (c.getLast? = some 10)) = false := by simpa using h
  rw [h1, cfgOk_end h]
  rfl
/-- The events' lines that are told up to the first one that may not be. -/
theorem tellL_len (l : List EvS) (h : l.all evOk = true) : (tellL l).length ≤ 131113 * l.length := by
  induction l with
  | nil => simp [tellL]
  | cons e r ih =>
    simp only [List.all_cons, Bool.and_eq_true] at h
    have h1 := evW_len h.1
    have h2 := ih h.2
    have : tellL (e :: r) = (evW e ++ [10]) ++ tellL r := rfl
    rw [this]
    simp only [List.length_append, List.length_cons, List.length_nil]
    omega
theorem tellL_snoc (l : List EvS) (e : EvS) : tellL (l ++ [e]) = tellL l ++ (evW e ++ [10]) := by simp [tellL]
end
section
open Go.RowKit
set_option linter.unusedVariables false
set_option linter.unusedSimpArgs false
/-- The texts that are no scripts, and the line. -/
def kn7 : List (List UInt8 × Nat) := [([], 0), ([97, 115, 32, 49, 10], 1), ([114, 117, 110, 10, 116, 105, 99, 107, 10], 1), ([114, 117, 110, 10, 116, 105, 99, 107, 32, 53], 1), ([114, 117, 110, 10, 114, 117, 110, 10], 1), ([114, 117, 110], 0), ([97, 115, 32, 49, 10, 97, 115, 32, 50], 1)]
theorem kn7_all : ∀ k, (h : k < kn7.length) → parseS kn7[k].1 = ([], [], 9, kn7[k].2) := by decide +kernel
theorem kn7_few : ∀ k, (h : k < kn7.length) → kn7[k].1.length ≤ 100 ∧ kn7[k].2 ≤ 1 := by decide +kernel
/-- The texts that are no events. -/
def kn16 : List (List UInt8) := [[116, 105, 99, 107, 32, 48], [116, 105, 99, 107, 32, 48, 49], [116, 105, 99, 107, 32, 52, 48, 57, 55], [105, 110, 32, 54, 53, 32, 49, 48, 46, 48, 46, 48, 46, 50], [105, 110, 32, 48, 32, 49, 48, 46, 48, 46, 48, 46, 50], [105, 110, 32, 49, 32, 49, 48, 46, 48, 46, 48], [100, 97, 116, 97, 32, 49, 32, 48], [100, 97, 116, 97, 32, 49, 32], [100, 97, 116, 97, 32, 49], [100, 114, 97, 105, 110, 32], [], [117, 112, 32, 49, 32, 80], [100, 114, 97, 119, 32, 52, 50, 57, 52, 57, 54, 55, 50, 57, 54], [100, 97, 116, 97, 32, 49, 32, 70, 70], [116, 105, 99, 107, 32, 32, 53], [99, 108, 111, 115, 101]]
theorem kn16_all : ∀ k, (h : k < kn16.length) → evO kn16[k] = none := by decide +kernel
theorem kn16_few : ∀ k, (h : k < kn16.length) → kn16[k].length ≤ 100 := by decide +kernel
theorem kn_out0 : outT ⟨5, 0, [], [], 10⟩ = ([108, 111, 97, 100, 32, 49, 48], 0) := by decide +kernel
theorem kn_out1 : outT ⟨1, 0, [97], [], 0⟩ = ([99, 111, 110, 110, 101, 99, 116, 32, 97], 0) := by decide +kernel
theorem kn_out2 : outT ⟨2, 0, [], [], 0⟩ = ([], 2) := by decide +kernel
theorem kn_out3 : outT ⟨5, 0, [], [], 12⟩ = ([], 2) := by decide +kernel
theorem kn_out4 : outT ⟨0, 0, [], [], 0⟩ = ([], 2) := by decide +kernel
theorem kn_pr0 : printS [97, 115, 32, 49] [] = ([], 2) := by
 unfold printS
 rw [if_pos (by decide +kernel)]
theorem kn_pr1 : printS [114, 117, 110, 10] [] = ([], 2) := by
 unfold printS
 rw [if_pos (by decide +kernel)]
theorem kn_pr2 : printS [] [zeroEv] = ([], 2) := by
 unfold printS
 rw [if_neg (by decide +kernel), if_neg (by decide), if_pos (by decide +kernel)]
theorem kn_pr3 : printS [] (List.replicate 513 zeroEv) = ([], 3) := by
 unfold printS
 rw [if_neg (by decide +kernel), if_pos (by rw [List.length_replicate]; decide)]
def drnE : EvS := ⟨10, 0, [], [], [], 0, 0⟩
theorem drn_ok : evOk drnE = true := by decide +kernel
theorem drn_w : evW drnE = [100, 114, 97, 105, 110] := by decide +kernel
theorem drn_all (n : Nat) : (List.replicate n drnE).all evOk = true := by
 rw [List.all_eq_true]
 intro e he
 rw [List.eq_of_mem_replicate he]
 exact drn_ok
theorem drn_tell : ∀ n, (tellL (List.replicate n drnE)).length = 6 * n
  | 0 => rfl
  | n + 1 => by
    have h1 : tellL (List.replicate (n + 1) drnE) = evW drnE ++ [10] ++ tellL (List.replicate n drnE) := by simp [tellL, List.replicate_succ]
    rw [h1, List.length_append, drn_tell n, drn_w]
    simp
    omega
theorem drn_len (n : Nat) : (textScr [] (List.replicate n drnE)).length = 4 + 6 * n := by
 unfold textScr
 rw [List.nil_append, List.length_append, List.length_cons, drn_tell]
 simp [runW]
 omega
theorem kn_pr4 : printS [] (List.replicate 512 drnE) = (textScr [] (List.replicate 512 drnE), 0) := by
 unfold printS
 rw [if_neg (by decide +kernel), if_neg (by rw [List.length_replicate]; decide), if_neg (by rw [drn_all]; decide), if_neg (by rw [drn_len]; decide)]
theorem drn_more : textScr [] (List.replicate 512 drnE) ++ [100, 114, 97, 105, 110, 10] = textScr [] (List.replicate 513 drnE) := by
 have h1 : tellL (List.replicate 513 drnE) = tellL (List.replicate 512 drnE) ++ (evW drnE ++ [10]) := by
  rw [show 513 = 512 + 1 from rfl, List.replicate_succ', tellL_snoc]
 unfold textScr
 rw [h1, drn_w]
 generalize tellL (List.replicate 512 drnE) = T
 simp
theorem scanE_over : ∀ (n at_ : Nat) (out : List EvS), out.length ≤ 512 → 512 < out.length + n → scanE at_ out ((List.replicate n drnE).map evW ++ [[]]) = ([], 3, at_ + (512 - out.length))
  | 0, at_, out, h1, h2 => by omega
  | n + 1, at_, out, h1, h2 => by
    have hne : ∃ y q, (List.replicate n drnE).map evW ++ [[]] = y :: q := by cases (List.replicate n drnE).map evW <;> exact ⟨_, _, rfl⟩
    obtain ⟨y, q, hq⟩ := hne
    rw [List.replicate_succ, List.map_cons, List.cons_append, hq, scanE, evO_ev drn_ok]
    dsimp only
    by_cases hl : out.length = 512
    · rw [if_pos hl, hl, Nat.sub_self, Nat.add_zero]
    · rw [if_neg hl, ← hq, scanE_over n (at_ + 1) (out ++ [drnE]) (by simp; omega) (by simp; omega)]
      simp only [List.length_append, List.length_cons, List.length_nil, Prod.mk.injEq, true_and]
      omega
theorem kn_over : parseS (textScr [] (List.replicate 513 drnE)) = ([], [], 3, 513) := by
 have h1 : spl 10 (textScr [] (List.replicate 513 drnE)) = runW :: ((List.replicate 513 drnE).map evW ++ [[]]) := by
  unfold textScr
  rw [List.nil_append, spl_at (by decide), spl_tell _ (drn_all _)]
 have hne : ∃ y q, (List.replicate 513 drnE).map evW ++ [[]] = y :: q := by cases (List.replicate 513 drnE).map evW <;> exact ⟨_, _, rfl⟩
 obtain ⟨y, q, hq⟩ := hne
 have h3 := scanE_over 513 1 [] (Nat.zero_le _) (by decide)
 unfold parseS
 rw [if_neg (by rw [drn_len]; decide), h1]
 rw [hq] at h3 ⊢
 rw [scanC, if_pos rfl]
 dsimp only
 rw [h3]
 rfl
end
section
open Go.RowKit Go.Sort
set_option linter.unusedVariables false
theorem rdN_over {b M : Nat} (h2 : 2 ≤ b) (h16 : b ≤ 16) {s : List UInt8} {k : Nat} (hk : k < s.length) (h : M < vf b (s.take k) * b + dval s[k]) : rdN b M s = none := by
 refine (rdN_none h2 h16).2 fun u hu he => ?_
 have h1 := vf_take (b := b) (by omega) s (k + 1)
 rw [vf_next b s k hk] at h1
 have h3 : vf b s = u := by rw [← he, vf_dig h2 h16]
 omega
theorem rdN_nil {b M : Nat} (h2 : 2 ≤ b) (h16 : b ≤ 16) : rdN b M [] = none := (rdN_none h2 h16).2 fun u _ he => digS_ne b u he
end
section
open Go.RowKit Go.Sort
set_option linter.unusedVariables false
/-- What reading a numeral answers: a number, and whether it is one in its own form. -/
def NumP (b M : Nat) (s : List UInt8) (w : World) (e : Ending) (w' : World) : Prop :=
 (∃ z : Int, e = .returned (.tuple #[.int .u64 z, .bool (rdN b M s).isSome]) ∧ ∀ n, rdN b M s = some n → z = (n : Int)) ∧ Ext w w'
/-- What ParseUint answers, as far as that goes: no numeral in its own form is refused. -/
def PuP (b M : Nat) (s : List UInt8) (w : World) (e : Ending) (w' : World) : Prop :=
 Ext w w' ∧ ((∃ u : Nat, u ≤ M ∧ e = .returned (.tuple #[.int .u64 (u : Int), .nilIface]) ∧ ∀ n, rdN b M s = some n → n = u) ∨ (rdN b M s = none ∧ ∃ z T p, e = .returned (.tuple #[.int .u64 z, .iface T p])))
theorem rd_dec {B : Nat} (hB : B ≤ 64) {s : List UInt8} {n : Nat} (h : rdN 10 (2 ^ B - 1) s = some n) : Lib.parseUintB B s = .ok n := by
 obtain ⟨h1, h2⟩ := (rdN_iff (by decide) (by decide)).1 h
 rw [← h2, digS_dec]
 have : 0 < 2 ^ B := Nat.pow_pos (by decide)
 exact pub_dec B hB n (by omega)
theorem PU8_any (s : List UInt8) (w : World) (hV : Vars w) (hs : s.length ≤ 1048576) :
  Calls Tryz.prog 85 #[.string ⟨s.toArray⟩, .int .i64 10, .int .i64 8] w (PuP 10 255 s w) := by
 obtain ⟨t1, p1, h1⟩ := hV.es
 obtain ⟨t2, p2, h2⟩ := hV.er
 have hz : (ByteArray.mk s.toArray).size = s.length := ba_size s
 have hrd := fun n => rd_dec (B := 8) (s := s) (n := n) (by decide)
 rcases hp : Lib.parseUintB 8 s with u | _ | _
 ·rw [hp] at hrd
  refine (PU8_ok s u w hs hp).mono ?_
  rintro e w' ⟨rfl, hw⟩
  exact ⟨hw, .inl ⟨u, Lib.parseUintB_le hp, rfl, fun n hn => by have := hrd n hn; injection this with this; exact this.symm⟩⟩
 ·rw [hp] at hrd
  refine (Any.strconv_ParseUint_10_at8_syntax Tryz.laysPu14 ⟨s.toArray⟩ (by omega) hp _ w h1 (.inr ⟨_, _, rfl⟩)).mono ?_
  rintro e w' ⟨N, rfl, _, _, hb⟩
  refine ⟨hb, .inr ⟨?_, _, _, _, rfl⟩⟩
  cases hr : rdN 10 255 s with
  | none => rfl
  | some n => cases hrd n hr
 ·rw [hp] at hrd
  refine (Any.strconv_ParseUint_10_at8_range Tryz.laysPu14 ⟨s.toArray⟩ (by omega) hp _ w h2 (.inr ⟨_, _, rfl⟩)).mono ?_
  rintro e w' ⟨N, rfl, _, _, hb⟩
  refine ⟨hb, .inr ⟨?_, _, _, _, rfl⟩⟩
  cases hr : rdN 10 255 s with
  | none => rfl
  | some n => cases hrd n hr
/- prim.number: ParseUint, and told again. -/
set_option maxRecDepth 20000 in
theorem number_of (b M : Nat) (bits : Int) (h2 : 2 ≤ b) (h16 : b ≤ 16) (s : List UInt8) (w : World)
    (hpu : ∀ W, Ext w W → Calls Tryz.prog 85 #[.string ⟨s.toArray⟩, .int .i64 (b : Int), .int .i64 bits] W (PuP b M s W))
    (hf : ∀ u : Nat, u ≤ M → ∀ W, Ext w W → Calls Tryz.prog 62 #[.int .u64 (u : Int), .int .i64 (b : Int)] W fun e w' => e = .returned (.string ⟨(digS b u).toArray⟩) ∧ Ext W w') :
    Calls Tryz.prog 86 #[.string ⟨s.toArray⟩, .int .i64 (b : Int), .int .i64 bits] w (NumP b M s w) := by
  have hok : ∀ (u : Nat) (W : World), u ≤ M → (∀ n, rdN b M s = some n → n = u) → Ext w W → NumP b M s w (.returned (.tuple #[.int .u64 (u : Int), .bool (digS b u == s)])) W := by
    intro u W hu hn hE
    refine ⟨⟨(u : Int), ?_, fun n h => by rw [hn n h]⟩, hE⟩
    by_cases he : digS b u = s
    · rw [beq_iff_eq.2 he, (rdN_iff h2 h16).2 ⟨hu, he⟩]; rfl
    · rw [beq_eq_false_iff_ne.2 he]
      cases hr : rdN b M s with
      | none => rfl
      | some n =>
        have h1 := hn n hr
        subst h1
        exact absurd ((rdN_iff h2 h16).1 hr).2 he
  have hbad : ∀ (z : Int) (W : World), rdN b M s = none → Ext w W → NumP b M s w (.returned (.tuple #[.int .u64 z, .bool false])) W := by
    intro z W hn hE
    exact ⟨⟨z, by rw [hn]; rfl, fun n h => by rw [hn] at h; cases h⟩, hE⟩
  replace hok := hide hok
  replace hbad := hide hbad
  replace hpu := hide hpu
  replace hf := hide hf
  go_enter Tryz.func86, Tryz.ntmps86
  go_wp2_with fail
  refine (hpu.out _ (Ext.refl _)).mono ?_
  rintro e w1 ⟨he, ⟨u, hu, rfl, hn⟩ | ⟨hn, z, T, p, rfl⟩⟩
  · have hq := fun W h => hf.out u hu W h
    have hr := fun W h => hok.out u W hu hn h
    generalize digS b u = d at hq hr
    replace hq := hide hq
    replace hr := hide hr
    replace hn := hide hn
    replace hu := hide hu
    replace he := hide he
    go_wp2_with fail
    refine (hq.out _ he.out).mono ?_
    rintro e w2 ⟨rfl, he2⟩
    replace he2 := hide (he.out.trans he2)
    go_wp2
    go_ret2
    exact hr.out _ he2.out
  · have hr := fun W h => hbad.out z W hn h
    replace hr := hide hr
    replace hn := hide hn
    replace he := hide he
    go_wp2
    go_ret2
    exact hr.out _ he.out
theorem number10_8 (s : List UInt8) (w : World) (hT : Tab w) (hV : Vars w) (hs : s.length ≤ 1048576) :
  Calls Tryz.prog 86 #[.string ⟨s.toArray⟩, .int .i64 10, .int .i64 8] w (NumP 10 255 s w) :=
 number_of 10 255 8 (by decide) (by decide) s w (fun W h => PU8_any s W (hV.ext h) hs) fun u hu W h => (FormatUint_any u (by omega) W (hT.ext h)).mono fun e w' q => ⟨by rw [q.1]; unfold dec; rw [digS_dec], q.2⟩
open Go.RowKit Go.Sort
theorem low_hex : ∀ c : Fin 256, 97 ≤ c.val → c.val ≤ 102 → c.val ||| 32 = c.val := by decide +kernel
theorem low_small : ∀ c : Fin 256, c.val < 48 → c.val ||| 32 < 97 := by decide +kernel
theorem low_lt : ∀ c : Fin 256, c.val ||| 32 < 256 := by decide +kernel
set_option maxRecDepth 20000 in
theorem Lower_any (c : UInt8) (w : World) : Calls Tryz.prog 122 #[.int .u8 (c.toNat : Int)] w fun e w' => e = .returned (.int .u8 ((c.toNat ||| 32 : Nat) : Int)) ∧ w = w' := by
 have hor : bits .or .u8 (c.toNat : Int) 32 = ((c.toNat ||| 32 : Nat) : Int) := u8_or_nat _ 32 c.toNat_lt (by decide)
 generalize c.toNat ||| 32 = L at hor ⊢
 go_enter Tryz.func122, Tryz.ntmps122
 go_wp2
 go_ret
 exact ⟨rfl, rfl⟩
/-- What the walk needs of one byte: where it goes on, and that a numeral in its own form goes on with its own digit. -/
theorem hex_char {M m : Nat} {s : List UInt8} (h : rdN 16 M s = some m) {k : Nat} (hk : k < s.length) : (48 ≤ s[k].toNat ∧ s[k].toNat ≤ 57 ∧ dval s[k] = s[k].toNat - 48) ∨ (97 ≤ s[k].toNat ∧ s[k].toNat ≤ 102 ∧ s[k].toNat ||| 32 = s[k].toNat ∧ dval s[k] = s[k].toNat - 87) := by
 obtain ⟨_, he⟩ := (rdN_iff (by decide) (by decide)).1 h
 obtain ⟨d, hd, hc⟩ := digS_mem (b := 16) (by decide) (by decide) m s[k] (by rw [he]; exact List.getElem_mem hk)
 have h1 := dgt_toNat (show d < 16 from hd)
 have h2 := dval_dgt (show d < 16 from hd)
 rw [← hc] at h1 h2
 by_cases h10 : d < 10
 ·rw [if_pos h10] at h1
  exact .inl ⟨by omega, by omega, by omega⟩
 ·rw [if_neg h10] at h1
  refine .inr ⟨by omega, by omega, ?_, by omega⟩
  exact low_hex ⟨s[k].toNat, s[k].toNat_lt⟩ (by show 97 ≤ s[k].toNat; omega) (by show s[k].toNat ≤ 102; omega)
/-- What the inner ParseUint answers. -/
def IpP (M : Nat) (s : List UInt8) (w : World) (e : Ending) (w' : World) : Prop :=
 Ext w w' ∧ ((∃ u : Nat, u ≤ M ∧ e = .returned (.tuple #[.int .u64 (u : Int), .nilIface]) ∧ ∀ n, rdN 16 M s = some n → n = u) ∨ (rdN 16 M s = none ∧ ∃ z k, (k = 1 ∨ k = 2) ∧ e = .returned (.tuple #[.int .u64 z, .iface 168 (.int .i64 k)])))
set_option maxRecDepth 20000 in
set_option maxHeartbeats 4000000 in
theorem IPu16 (s : List UInt8) (hs : s.length ≤ 1048576) (w : World) :
  Calls Tryz.prog 106 #[.string ⟨s.toArray⟩, .int .i64 16, .int .i64 16] w (IpP 65535 s w) := by
 have hbad : ∀ (z k : Int) (W : World), rdN 16 65535 s = none → (k = 1 ∨ k = 2) → Ext w W → IpP 65535 s w (.returned (.tuple #[.int .u64 z, .iface 168 (.int .i64 k)])) W := fun z k W h1 h2 h3 => ⟨h3, .inr ⟨h1, z, k, h2, rfl⟩⟩
 have hz : (ByteArray.mk s.toArray).size = s.length := ba_size s
 by_cases hl0 : s.length = 0
 ·have hn : rdN 16 65535 s = none := by rw [List.eq_nil_of_length_eq_zero hl0]; exact rdN_nil (by decide) (by decide)
  have e0 : s = [] := List.eq_nil_of_length_eq_zero hl0
  subst e0
  replace hbad := hide hbad
  replace hn := hide hn
  go_enter Tryz.func106, Tryz.ntmps106
  go_wp2
  go_ret2
  exact hbad.out 0 2 _ hn.out (.inr rfl) (Ext.refl _)
 have kc := fun (w : World) => Lib.run_convert_string_bytes (P := Tryz.prog) w 9 65 5 ⟨s.toArray⟩ Tryz.underlying9 Tryz.underlying65 Tryz.underlying5
 have hne : s.isEmpty = false := by cases s with | nil => exact absurd rfl hl0 | cons _ _ => rfl
 replace hbad := hide hbad
 go_enter Tryz.func106, Tryz.ntmps106
 go_wp2
 have hcv := OwnB.conv (w := w) (e := 5) ⟨s.toArray⟩ (by unfold maxLen; omega)
 have hEc := ext_bytesWorld w 5 ⟨s.toArray⟩
 rw [hz] at hcv
 generalize hc : grownCap w s.length 0 5 = cp at hcv ⊢
 generalize hW : Lib.bytesWorld w 5 ⟨s.toArray⟩ = W1 at hcv hEc
 replace hc := hide hc
 clear kc
 replace hcv := hide hcv
 replace hEc := hide hEc
 replace hz := hide hz
 go_loop [12, 13, 101] (fun b n i => ∃ (k v : Nat), b = .bool false ∧ k ≤ s.length ∧ i = .int .i64 (k : Int) ∧ n = .int .u64 (v : Int) ∧ v ≤ 65535 ∧ ∀ m, rdN 16 65535 s = some m → v = vf 16 (s.take k)) (fun _ _ i => s.length - (intOf i).toNat)
 case atStart => exact ⟨0, 0, rfl, Nat.zero_le _, rfl, rfl, by decide, fun m _ => by rw [List.take_zero]; rfl⟩
 case round =>
  obtain ⟨k, v, rfl, hk, rfl, rfl, hv, hvf⟩ := hrel
  by_cases hlt : k < s.length
  ·obtain ⟨x1, f1⟩ := hcv.out.cell rfl k (by simpa using hlt)
   replace x1 : W1.cell? ⟨w.heap.size, k, none⟩ = some (.int .u8 (s[k].toNat : Int)) := by simpa using x1
   clear f1
   have hch := fun m h => hex_char (M := 65535) (m := m) h hlt
   have hov := fun h => rdN_over (b := 16) (M := 65535) (by decide) (by decide) hlt h
   have hnx := vf_next 16 s k hlt
   have hl1 : s[k].toNat < 48 → s[k].toNat ||| 32 < 97 := fun h => low_small ⟨s[k].toNat, s[k].toNat_lt⟩ h
   have hl2 := low_lt ⟨s[k].toNat, s[k].toNat_lt⟩
   have ql := fun W => Lower_any s[k] W
   have h95 : s[k].toNat = 95 → s[k].toNat ||| 32 = 127 := fun h => by rw [h]; rfl
   simp only [] at hl1 hl2
   have hclt := s[k].toNat_lt
   generalize dval s[k] = dv at hch hov hnx
   generalize s[k].toNat ||| 32 = L at hch hl1 hl2 ql h95
   generalize s[k] = c at x1 hch hl1 ql h95 hclt
   have hcls : (c.toNat < 48 ∧ L < 97) ∨ (48 ≤ c.toNat ∧ c.toNat ≤ 57) ∨ (57 < c.toNat ∧ L < 97) ∨ (57 < c.toNat ∧ 122 < L ∧ c.toNat = 95) ∨ (57 < c.toNat ∧ 122 < L ∧ c.toNat ≠ 95) ∨ (57 < c.toNat ∧ 97 ≤ L ∧ L ≤ 122) := by
    by_cases h1 : c.toNat < 48
    ·exact .inl ⟨h1, hl1 h1⟩
    ·omega
   have hbig : True → decide ((1152921504606846976 : Int) ≤ (v : Int)) = false := fun _ => decide_eq_false (by omega)
   have wv : IntKind.u64.wrap ((v : Int) * 16) = ((v * 16 : Nat) : Int) := by rw [IntKind.wrap_u64]; omega
   have hmul : (v : Int) * 16 = ((v * 16 : Nat) : Int) := by omega
   generalize hvv : v * 16 = vb at wv hmul
   replace hl1 := hide hl1
   replace ql := hide ql
   rcases hcls with ⟨h1, h2⟩ | ⟨h1, h2⟩ | ⟨h1, h2⟩ | ⟨h1, h2, h3⟩ | ⟨h1, h2, h3⟩ | ⟨h1, h2, h3⟩
   ·-- below the digits
    have hn : rdN 16 65535 s = none := by
     cases hr : rdN 16 65535 s with
     | none => rfl
     | some m => rcases hch m hr with h | h <;> omega
    have k1 : decide ((48 : Int) ≤ (c.toNat : Int)) = false := decide_eq_false (by omega)
    have k3 : decide ((97 : Int) ≤ (L : Int)) = false := decide_eq_false (by omega)
    have e95 : ((c.toNat : Int) == 95) = false := by rw [beq_eq_false_iff_ne]; omega
    clear hch hov hnx hvf hvv hmul
    replace hn := hide hn
    replace hv := hide hv
    replace h1 := hide h1
    replace h2 := hide h2
    replace hclt := hide hclt
    replace hl2 := hide hl2
    replace hlt := hlt
    go_wp2_with fail
    refine (ql.out _).mono ?_
    rintro e w_ ⟨rfl, rfl⟩
    go_wp2
    go_ret2
    exact hbad.out _ 2 _ hn.out (.inr rfl) hEc.out
   ·-- a digit
    have k1 : decide ((48 : Int) ≤ (c.toNat : Int)) = true := decide_eq_true (by omega)
    have k2 : decide ((c.toNat : Int) ≤ (57 : Int)) = true := decide_eq_true (by omega)
    have e95 : ((c.toNat : Int) == 95) = false := by rw [beq_eq_false_iff_ne]; omega
    obtain ⟨d, hd⟩ : ∃ d : Nat, c.toNat = d + 48 := ⟨c.toNat - 48, by omega⟩
    have v1 : IntKind.u8.wrap ((c.toNat : Int) - 48) = (d : Int) := by rw [IntKind.wrap_u8]; omega
    have hdv : ∀ m, rdN 16 65535 s = some m → dv = d := fun m h => by rcases hch m h with h | h <;> omega
    have d16 : d < 16 := by omega
    have k5 : decide ((16 : Int) ≤ (d : Int)) = false := decide_eq_false (by omega)
    have wd : IntKind.u64.wrap (d : Int) = (d : Int) := by rw [IntKind.wrap_u64]; omega
    have ws : IntKind.u64.wrap ((vb : Int) + (d : Int)) = ((vb + d : Nat) : Int) := by rw [IntKind.wrap_u64]; omega
    have k6 : decide (((vb + d : Nat) : Int) < (vb : Int)) = false := decide_eq_false (by omega)
    have hnx2 : ∀ m, rdN 16 65535 s = some m → vb + d = vf 16 (s.take (k + 1)) := fun m h => by rw [hnx, ← hvf m h, hdv m h]; omega
    by_cases hover : 65535 < vb + d
    ·have hn : rdN 16 65535 s = none := by
      cases hr : rdN 16 65535 s with
      | none => rfl
      | some m => rw [hov (by rw [← hvf m hr, hdv m hr]; omega)] at hr; cases hr
     have k7 : decide ((65535 : Int) < ((vb + d : Nat) : Int)) = true := decide_eq_true (by omega)
     generalize hvs : vb + d = vs at ws k6 k7
     have hvb : vb ≤ vs := by omega
     clear hch hov hnx hnx2 hvf hvv hmul hdv hvs hover
     replace hn := hide hn
     replace hv := hide hv
     replace h1 := hide h1
     replace h2 := hide h2
     replace hclt := hide hclt
     replace hl2 := hide hl2
     replace hd := hide hd
     go_wp2
     go_ret2
     exact hbad.out _ 1 _ hn.out (.inl rfl) hEc.out
    ·have k7 : decide ((65535 : Int) < ((vb + d : Nat) : Int)) = false := decide_eq_false (by omega)
     have hle : vb + d ≤ 65535 := by omega
     generalize hvs : vb + d = vs at ws k6 k7 hle hnx2
     have hvb : vb ≤ vs := by omega
     clear hch hov hnx hvf hvv hmul hdv hvs hover
     replace hnx2 := hide hnx2
     replace hle := hide hle
     replace hv := hide hv
     replace h1 := hide h1
     replace h2 := hide h2
     replace hclt := hide hclt
     replace hl2 := hide hl2
     replace hd := hide hd
     go_wp2
     go_round
     case rel => exact ⟨k + 1, vs, rfl, by omega, by go_num, rfl, hle.out, hnx2.out⟩
     case measure => simp [intOf]; omega
   ·-- between
    have hn : rdN 16 65535 s = none := by
     cases hr : rdN 16 65535 s with
     | none => rfl
     | some m => rcases hch m hr with h | h <;> omega
    have k1 : decide ((48 : Int) ≤ (c.toNat : Int)) = true := decide_eq_true (by omega)
    have k2 : decide ((c.toNat : Int) ≤ (57 : Int)) = false := decide_eq_false (by omega)
    have k3 : decide ((97 : Int) ≤ (L : Int)) = false := decide_eq_false (by omega)
    have e95 : ((c.toNat : Int) == 95) = false := by rw [beq_eq_false_iff_ne]; omega
    clear hch hov hnx hvf hvv hmul
    replace hn := hide hn
    replace hv := hide hv
    replace h1 := hide h1
    replace h2 := hide h2
    replace hclt := hide hclt
    replace hl2 := hide hl2
    replace hlt := hlt
    go_wp2_with fail
    refine (ql.out _).mono ?_
    rintro e w_ ⟨rfl, rfl⟩
    go_wp2
    go_ret2
    exact hbad.out _ 2 _ hn.out (.inr rfl) hEc.out
   ·-- the underscore
    have hn : rdN 16 65535 s = none := by
     cases hr : rdN 16 65535 s with
     | none => rfl
     | some m => rcases hch m hr with h | h <;> omega
    have k1 : decide ((48 : Int) ≤ (c.toNat : Int)) = true := decide_eq_true (by omega)
    have k2 : decide ((c.toNat : Int) ≤ (57 : Int)) = false := decide_eq_false (by omega)
    have k3 : decide ((97 : Int) ≤ (L : Int)) = true := decide_eq_true (by omega)
    have k4 : decide ((L : Int) ≤ (122 : Int)) = false := decide_eq_false (by omega)
    have e95 : ((c.toNat : Int) == 95) = true := by rw [beq_iff_eq]; omega
    have q95 : ∀ W, Calls Tryz.prog 122 #[.int .u8 95] W fun e w' => e = .returned (.int .u8 127) ∧ W = w' := fun W => by
     have h := ql.out W
     rw [h3, h95 h3] at h
     exact h
    clear k3 k4
    replace q95 := hide q95
    clear hch hov hnx hvf hvv hmul
    replace hn := hide hn
    replace hv := hide hv
    replace h1 := hide h1
    replace h2 := hide h2
    replace hclt := hide hclt
    replace hl2 := hide hl2
    replace hlt := hlt
    go_wp2_with fail
    refine (q95.out _).mono ?_
    rintro e w_ ⟨rfl, rfl⟩
    go_wp2_with fail
    refine (q95.out _).mono ?_
    rintro e w_ ⟨rfl, rfl⟩
    go_wp2
    go_ret2
    exact hbad.out _ 2 _ hn.out (.inr rfl) hEc.out
   ·-- behind
    have hn : rdN 16 65535 s = none := by
     cases hr : rdN 16 65535 s with
     | none => rfl
     | some m => rcases hch m hr with h | h <;> omega
    have k1 : decide ((48 : Int) ≤ (c.toNat : Int)) = true := decide_eq_true (by omega)
    have k2 : decide ((c.toNat : Int) ≤ (57 : Int)) = false := decide_eq_false (by omega)
    have k3 : decide ((97 : Int) ≤ (L : Int)) = true := decide_eq_true (by omega)
    have k4 : decide ((L : Int) ≤ (122 : Int)) = false := decide_eq_false (by omega)
    have e95 : ((c.toNat : Int) == 95) = false := by rw [beq_eq_false_iff_ne]; omega
    clear hch hov hnx hvf hvv hmul
    replace hn := hide hn
    replace hv := hide hv
    replace h1 := hide h1
    replace h2 := hide h2
    replace hclt := hide hclt
    replace hl2 := hide hl2
    replace hlt := hlt
    go_wp2_with fail
    refine (ql.out _).mono ?_
    rintro e w_ ⟨rfl, rfl⟩
    go_wp2_with fail
    refine (ql.out _).mono ?_
    rintro e w_ ⟨rfl, rfl⟩
    go_wp2
    go_ret2
    exact hbad.out _ 2 _ hn.out (.inr rfl) hEc.out
   ·-- a letter
    have k1 : decide ((48 : Int) ≤ (c.toNat : Int)) = true := decide_eq_true (by omega)
    have k2 : decide ((c.toNat : Int) ≤ (57 : Int)) = false := decide_eq_false (by omega)
    have k3 : decide ((97 : Int) ≤ (L : Int)) = true := decide_eq_true (by omega)
    have k4 : decide ((L : Int) ≤ (122 : Int)) = true := decide_eq_true (by omega)
    have e95 : ((c.toNat : Int) == 95) = false := by rw [beq_eq_false_iff_ne]; omega
    obtain ⟨ee, hee⟩ : ∃ d : Nat, L = d + 97 := ⟨L - 97, by omega⟩
    obtain ⟨d, hd⟩ : ∃ d : Nat, d = ee + 10 := ⟨_, rfl⟩
    have v1 : IntKind.u8.wrap ((L : Int) - 97) = (ee : Int) := by rw [IntKind.wrap_u8]; omega
    have v2 : IntKind.u8.wrap ((ee : Int) + 10) = (d : Int) := by rw [IntKind.wrap_u8]; omega
    have hdv : ∀ m, rdN 16 65535 s = some m → dv = d := fun m h => by rcases hch m h with h | h <;> omega
    by_cases d16 : d < 16
    ·skip
     have k5 : decide ((16 : Int) ≤ (d : Int)) = false := decide_eq_false (by omega)
     have wd : IntKind.u64.wrap (d : Int) = (d : Int) := by rw [IntKind.wrap_u64]; omega
     have ws : IntKind.u64.wrap ((vb : Int) + (d : Int)) = ((vb + d : Nat) : Int) := by rw [IntKind.wrap_u64]; omega
     have k6 : decide (((vb + d : Nat) : Int) < (vb : Int)) = false := decide_eq_false (by omega)
     have hnx2 : ∀ m, rdN 16 65535 s = some m → vb + d = vf 16 (s.take (k + 1)) := fun m h => by rw [hnx, ← hvf m h, hdv m h]; omega
     by_cases hover : 65535 < vb + d
     ·have hn : rdN 16 65535 s = none := by
       cases hr : rdN 16 65535 s with
       | none => rfl
       | some m => rw [hov (by rw [← hvf m hr, hdv m hr]; omega)] at hr; cases hr
      have k7 : decide ((65535 : Int) < ((vb + d : Nat) : Int)) = true := decide_eq_true (by omega)
      generalize hvs : vb + d = vs at ws k6 k7
      have hvb : vb ≤ vs := by omega
      clear hch hov hnx hnx2 hvf hvv hmul hdv hvs hover
      replace hn := hide hn
      replace hv := hide hv
      replace h1 := hide h1
      replace h2 := hide h2
      replace hclt := hide hclt
      replace hl2 := hide hl2
      replace hd := hide hd
      go_wp2_with fail
      refine (ql.out _).mono ?_
      rintro e w_ ⟨rfl, rfl⟩
      go_wp2_with fail
      refine (ql.out _).mono ?_
      rintro e w_ ⟨rfl, rfl⟩
      go_wp2_with fail
      refine (ql.out _).mono ?_
      rintro e w_ ⟨rfl, rfl⟩
      go_wp2
      go_ret2
      exact hbad.out _ 1 _ hn.out (.inl rfl) hEc.out
     ·have k7 : decide ((65535 : Int) < ((vb + d : Nat) : Int)) = false := decide_eq_false (by omega)
      have hle : vb + d ≤ 65535 := by omega
      generalize hvs : vb + d = vs at ws k6 k7 hle hnx2
      have hvb : vb ≤ vs := by omega
      clear hch hov hnx hvf hvv hmul hdv hvs hover
      replace hnx2 := hide hnx2
      replace hle := hide hle
      replace hv := hide hv
      replace h1 := hide h1
      replace h2 := hide h2
      replace hclt := hide hclt
      replace hl2 := hide hl2
      replace hd := hide hd
      go_wp2_with fail
      refine (ql.out _).mono ?_
      rintro e w_ ⟨rfl, rfl⟩
      go_wp2_with fail
      refine (ql.out _).mono ?_
      rintro e w_ ⟨rfl, rfl⟩
      go_wp2_with fail
      refine (ql.out _).mono ?_
      rintro e w_ ⟨rfl, rfl⟩
      go_wp2
      go_round
      case rel => exact ⟨k + 1, vs, rfl, by omega, by go_num, rfl, hle.out, hnx2.out⟩
      case measure => simp [intOf]; omega
    ·have hn : rdN 16 65535 s = none := by
      cases hr : rdN 16 65535 s with
      | none => rfl
      | some m => rcases hch m hr with h | h <;> omega
     have k5 : decide ((16 : Int) ≤ (d : Int)) = true := decide_eq_true (by omega)
     clear hch hov hnx hvf hvv hmul
     replace hn := hide hn
     replace hv := hide hv
     replace h1 := hide h1
     replace h2 := hide h2
     replace hclt := hide hclt
     replace hl2 := hide hl2
     replace hlt := hlt
     go_wp2_with fail
     refine (ql.out _).mono ?_
     rintro e w_ ⟨rfl, rfl⟩
     go_wp2_with fail
     refine (ql.out _).mono ?_
     rintro e w_ ⟨rfl, rfl⟩
     go_wp2_with fail
     refine (ql.out _).mono ?_
     rintro e w_ ⟨rfl, rfl⟩
     go_wp2
     go_ret2
     exact hbad.out _ 2 _ hn.out (.inr rfl) hEc.out
  ·obtain rfl : k = s.length := by omega
   rw [List.take_of_length_le (Nat.le_refl _)] at hvf
   have hfin : IpP 65535 s w (.returned (.tuple #[.int .u64 (v : Int), .nilIface])) W1 := ⟨hEc.out, .inl ⟨v, hv, rfl, fun n hn => by
    have h1 := hvf n hn
    obtain ⟨_, he⟩ := (rdN_iff (by decide) (by decide)).1 hn
    rw [h1, ← he, vf_dig (by decide) (by decide)]⟩⟩
   replace hfin := hide hfin
   replace hvf := hide hvf
   replace hW := hide hW
   go_wp2
   go_ret2
   exact hfin.out
open Go.RowKit Go.Sort
theorem toErr_syn (s : List UInt8) (hs : s.length ≤ 1048576) (w : World) (hV : Vars w) :
  Calls Tryz.prog 107 #[.string ⟨#[80, 97, 114, 115, 101, 85, 105, 110, 116]⟩, .string ⟨s.toArray⟩, .int .i64 16, .int .i64 16, .iface 168 (.int .i64 2)] w fun e w' => (∃ T p, e = .returned (.iface T p)) ∧ Ext w w' := by
 obtain ⟨t1, p1, h1⟩ := hV.es
 refine (AnyPu.strconv_toError_syntax { Tryz.laysPu14 with } ⟨#[80, 97, 114, 115, 101, 85, 105, 110, 116]⟩ ⟨s.toArray⟩ 16 16 _ w (by rw [ba_size]; omega) h1 (.inr ⟨_, _, rfl⟩)).mono ?_
 rintro e w' ⟨N, rfl, _, _, hb⟩
 exact ⟨⟨_, _, rfl⟩, hb⟩
theorem toErr_rng (s : List UInt8) (hs : s.length ≤ 1048576) (w : World) (hV : Vars w) :
  Calls Tryz.prog 107 #[.string ⟨#[80, 97, 114, 115, 101, 85, 105, 110, 116]⟩, .string ⟨s.toArray⟩, .int .i64 16, .int .i64 16, .iface 168 (.int .i64 1)] w fun e w' => (∃ T p, e = .returned (.iface T p)) ∧ Ext w w' := by
 obtain ⟨t1, p1, h1⟩ := hV.er
 refine (AnyPu.strconv_toError_range { Tryz.laysPu14 with } ⟨#[80, 97, 114, 115, 101, 85, 105, 110, 116]⟩ ⟨s.toArray⟩ 16 16 _ w (by rw [ba_size]; omega) h1 (.inr ⟨_, _, rfl⟩)).mono ?_
 rintro e w' ⟨N, rfl, _, _, hb⟩
 exact ⟨⟨_, _, rfl⟩, hb⟩
set_option maxRecDepth 20000 in
theorem PU16_any (s : List UInt8) (w : World) (hV : Vars w) (hs : s.length ≤ 1048576) :
  Calls Tryz.prog 85 #[.string ⟨s.toArray⟩, .int .i64 16, .int .i64 16] w (PuP 16 65535 s w) := by
 have hok : ∀ (u : Nat) (W : World), u ≤ 65535 → (∀ n, rdN 16 65535 s = some n → n = u) → Ext w W → PuP 16 65535 s w (.returned (.tuple #[.int .u64 (u : Int), .nilIface])) W := fun u W h1 h2 h3 => ⟨h3, .inl ⟨u, h1, rfl, h2⟩⟩
 have hbad : ∀ (z : Int) T p (W : World), rdN 16 65535 s = none → Ext w W → PuP 16 65535 s w (.returned (.tuple #[.int .u64 z, .iface T p])) W := fun z T p W h1 h2 => ⟨h2, .inr ⟨h1, z, T, p, rfl⟩⟩
 have q := fun W => IPu16 s hs W
 have q1 := fun W h => toErr_syn s hs W h
 have q2 := fun W h => toErr_rng s hs W h
 replace q := hide q
 replace q1 := hide q1
 replace q2 := hide q2
 replace hok := hide hok
 replace hbad := hide hbad
 replace hV := hide hV
 replace hs := hide hs
 go_enter Tryz.func85, Tryz.ntmps85
 go_wp2_with fail
 refine (q.out _).mono ?_
 rintro e w1 ⟨he, ⟨u, hu, rfl, hn⟩ | ⟨hn, z, k, hk, rfl⟩⟩
 ·have hr := hok.out u w1 hu hn he
  replace hr := hide hr
  replace hn := hide hn
  replace hu := hide hu
  replace he := hide he
  go_wp2
  go_ret2
  exact hr.out
 ·replace hn := hide hn
  replace he := hide he
  rcases hk with rfl | rfl
  ·go_wp2_with fail
   refine (q2.out _ (hV.out.ext he.out)).mono ?_
   rintro e w2 ⟨⟨T, p, rfl⟩, he2⟩
   have hr := hbad.out z T p w2 hn.out (he.out.trans he2)
   replace hr := hide hr
   clear he2
   go_wp2
   go_ret2
   exact hr.out
  ·go_wp2_with fail
   refine (q1.out _ (hV.out.ext he.out)).mono ?_
   rintro e w2 ⟨⟨T, p, rfl⟩, he2⟩
   have hr := hbad.out z T p w2 hn.out (he.out.trans he2)
   replace hr := hide hr
   clear he2
   go_wp2
   go_ret2
   exact hr.out
theorem number16 (s : List UInt8) (w : World) (hD : Deb w) (hV : Vars w) (hs : s.length ≤ 1048576) :
  Calls Tryz.prog 86 #[.string ⟨s.toArray⟩, .int .i64 16, .int .i64 16] w (NumP 16 65535 s w) :=
 number_of 16 65535 16 (by decide) (by decide) s w (fun W h => PU16_any s W (hV.ext h) hs) fun u hu W h => Format16 u (by omega) W (hD.ext h)
open Go.RowKit Go.Sort
theorem spl_len (c : UInt8) (s : List UInt8) : ∀ x ∈ spl c s, x.length ≤ s.length := by
 refine spl_ind (P := fun s => ∀ x ∈ spl c s, x.length ≤ s.length) c (fun s h x hx => ?_) (fun a b h ih x hx => ?_) s.length s (Nat.le_refl _)
 ·rw [spl_no h] at hx
  rw [List.mem_singleton.1 hx]
  exact Nat.le_refl _
 ·rw [spl_at h] at hx
  rcases List.mem_cons.1 hx with rfl | hx
  ·simp
  ·have := ih x hx
   simp
   omega
theorem unpair_len : ∀ l : List Nat, (l.flatMap unpair).length = 2 * l.length
 | [] => rfl
 | n :: l => by rw [List.flatMap_cons, List.length_append, unpair_len l]; simp [unpair]; omega
theorem byte_new2 (w : World) (b1 b2 : UInt8) (t : TypeId) : ∀ j (hj : j < [b1, b2].length), (w.alloc (.cells #[.int .u8 (b1.toNat : Int), .int .u8 (b2.toNat : Int)] t)).cell? ((⟨w.heap.size, 0, none⟩ : Addr).add j) = some (.int .u8 ([b1, b2][j].toNat : Int)) := by
 intro j hj
 have hj2 : j < 2 := hj
 refine cells_new w #[.int .u8 (b1.toNat : Int), .int .u8 (b2.toNat : Int)] t j _ ?_
 match j, hj2 with
 | 0, _ => rfl
 | 1, _ => rfl
/-- What reading an address answers. -/
def AdP (s : List UInt8) (w : World) (e : Ending) (w' : World) : Prop := e = .returned (.tuple #[.string ⟨(addrC s).1.toArray⟩, .int .i64 (addrC s).2]) ∧ Ext w w'
theorem AdP.of {s a : List UInt8} {c : Int} {w W : World} (h : addrC s = (a, c)) (hE : Ext w W) : AdP s w (.returned (.tuple #[.string ⟨a.toArray⟩, .int .i64 c])) W := ⟨by rw [h], hE⟩
set_option maxRecDepth 20000 in
set_option maxHeartbeats 2000000 in
theorem AAddr4_any (s : List UInt8) (hs : s.length ≤ 1048576) (h4 : (spl 46 s).length = 4) (w : World) (hT : Tab w) (hV : Vars w) :
    Calls Tryz.prog 67 #[.string ⟨s.toArray⟩] w (AdP s w) := by
  have hS := Split_any s 46 w hV hs
  have hnum := fun (x : List UInt8) (hx : x ∈ spl 46 s) W (h : Ext w W) => number10_8 x W (hT.ext h) (hV.ext h) (Nat.le_trans (spl_len 46 s x hx) hs)
  have hC : addrC s = (match rdAll 10 255 (spl 46 s) with | some l => (l.map UInt8.ofNat, 0) | none => ([], 4)) := if_pos h4
  generalize spl 46 s = P at hS hnum hC h4
  replace hS := hide hS
  replace hnum := hide hnum
  replace hC := hide hC
  clear hT hV
  go_enter Tryz.func67, Tryz.ntmps67
  go_wp2_with fail
  refine hS.out.mono ?_
  rintro e w1 ⟨d, hd4, rfl, hEw, hc1⟩
  rw [h4] at hd4
  rw [h4]
  clear hS
  replace hc1 := hide hc1
  replace hEw := hide hEw
  replace hd4 := hd4
  generalize hg1 : w.heap.size = g1 at hc1
  go_wp2_with fail
  clear hg1
  go_loopw [4, 22] (fun v q wr => ∃ (k : Nat) (ns : List Nat), k ≤ 4 ∧ q = .int .i64 (k : Int) ∧ rdAll 10 255 (P.take k) = some ns ∧ ns.length = k ∧ OwnB 5 wr w1.heap.size v (ns.map UInt8.ofNat) ∧ Ext w1 wr) (fun _ q _ => 4 - (intOf q).toNat)
  case atStart => exact ⟨0, [], by omega, rfl, by rw [List.take_zero]; rfl, rfl, OwnB.nil, Ext.refl _⟩
  case round =>
    obtain ⟨k, ns, hk, rfl, hrd, hnl, hown, hE⟩ := hrel
    rename World => W0
    have hz0 := hE.size
    obtain ⟨vo, dd, rfl⟩ := hown.form
    have hlk : (ns.map UInt8.ofNat).length = k := by rw [List.length_map, hnl]
    rw [hlk] at hown ⊢
    replace hlk := hide hlk
    replace hE := hide hE
    replace hown := hide hown
    by_cases hlt : k < 4
    · have hkP : k < P.length := by omega
      have x0 : W0.cell? ⟨g1, k, none⟩ = some (.string ⟨(P[k]'hkP).toArray⟩) := hE.out.cell (hc1.out k hkP)
      have hn := hnum.out (P[k]'hkP) (List.getElem_mem hkP) W0 (hEw.out.trans hE.out)
      have hbad : rdN 10 255 (P[k]'hkP) = none → addrC s = ([], 4) := fun h => by rw [hC.out, rdAll_bad (List.getElem_mem hkP) h]
      have hnx := fun n (h : rdN 10 255 (P[k]'hkP) = some n) => rdAll_next hkP hrd h
      have hmost := fun n (h : rdN 10 255 (P[k]'hkP) = some n) => ((rdN_iff (b := 10) (by decide) (by decide)).1 h).1
      generalize (P[k]'hkP) = wd at x0 hn hbad hnx hmost
      replace hrd := hide hrd
      replace hnl := hide hnl
      cases hr : rdN 10 255 wd with
      | none =>
        have hb := hbad hr
        clear hbad hmost hnx
        replace hb := hide hb
        unfold NumP at hn
        rw [hr] at hn
        replace hn := hide hn
        replace hr := hide hr
        go_wp2_with fail
        refine hn.out.mono ?_
        rintro e w3 ⟨⟨z, rfl, _⟩, he3⟩
        have hE3 := hide (hEw.out.trans (hE.out.trans he3))
        clear he3
        go_wp2
        go_ret2
        exact AdP.of hb.out hE3.out
      | some n =>
        have hm := hmost n hr
        have hnx2 := hnx n hr
        clear hbad hmost hnx
        unfold NumP at hn
        rw [hr] at hn
        replace hn := hide hn
        replace hr := hide hr
        have hw8 : IntKind.u8.wrap (n : Int) = ((UInt8.ofNat n).toNat : Int) := by rw [IntKind.wrap_u8, UInt8.toNat_ofNat']; omega
        have hap : ns.map UInt8.ofNat ++ [UInt8.ofNat n] = (ns ++ [n]).map UInt8.ofNat := by simp
        generalize hu : UInt8.ofNat n = u at hw8 hap
        replace hu := hide hu
        replace hap := hide hap
        replace hnx2 := hide hnx2
        replace hm := hide hm
        go_wp2_with fail
        refine hn.out.mono ?_
        rintro e w3 ⟨⟨z, rfl, hz⟩, he3⟩
        obtain rfl := hz n rfl
        have hown3 := hide (hown.out.ext he3)
        have hE3 := hide (hE.out.trans he3)
        have hz3 := he3.size
        clear he3 hz
        go_wp2_with (at_builtin
                     have hox := hown3.out.alloc (Obj.cells #[.int .u8 (u.toNat : Int)] 5)
                     refine wpList_appendB rfl _ _ _ rfl okB8 okB8z rfl hox (by simp; omega) [u] rfl (by rw [hlk.out]; simp; omega) (byte_new _ _ _) ?_
                     intro v' w5 hown1 hg hat)
        go_roundw
        case rel => exact ⟨k + 1, ns ++ [n], by omega, by go_num, hnx2.out, by simp [hnl.out], by rw [← hap.out]; exact hown1, (hE3.out.alloc _).push (fun j hj => (hown3.out.lt j hj).1) hg⟩
        case measure => simp [intOf]; omega
    · obtain rfl : k = 4 := by omega
      rw [List.take_of_length_le (by omega)] at hrd
      have hfin : addrC s = (ns.map UInt8.ofNat, 0) := by rw [hC.out, hrd]
      have kd := run_stringB (P := Tryz.prog) (src := 65) (dst := 9) Tryz.underlying65 Tryz.underlying5 Tryz.underlying9 hown.out
      replace hfin := hide hfin
      replace hrd := hide hrd
      replace hnl := hide hnl
      go_wp2
      go_ret2
      exact AdP.of hfin.out (hEw.out.trans hE.out)
set_option maxRecDepth 20000 in
set_option maxHeartbeats 2000000 in
theorem AAddr16_any (s : List UInt8) (hs : s.length ≤ 1048576) (h4 : (spl 46 s).length ≠ 4) (w : World) (hD : Deb w) (hV : Vars w) :
    Calls Tryz.prog 67 #[.string ⟨s.toArray⟩] w (AdP s w) := by
  have hS := Split_any s 46 w hV hs
  have b4 : ((((spl 46 s).length : Nat) : Int) == 4) = false := by rw [beq_eq_false_iff_ne]; omega
  have hS2 := fun W (h : Ext w W) => Split_any s 58 W (hV.ext h) hs
  have hnum := fun (x : List UInt8) (hx : x ∈ spl 58 s) W (h : Ext w W) => number16 x W (hD.ext h) (hV.ext h) (Nat.le_trans (spl_len 58 s x hx) hs)
  by_cases h8 : (spl 58 s).length = 8
  · have hC : addrC s = (match rdAll 16 65535 (spl 58 s) with | some l => (l.flatMap unpair, 0) | none => ([], 4)) := by unfold addrC; rw [if_neg h4, if_pos h8]; first | done | (cases rdAll 16 65535 (spl 58 s) <;> rfl)
    generalize spl 46 s = P4 at b4 hS h4
    generalize spl 58 s = P at hS2 hnum hC h8
    replace hS := hide hS
    replace hS2 := hide hS2
    replace hnum := hide hnum
    replace hC := hide hC
    clear hD hV
    have h4' : ¬ P4.length = 4 := h4
    go_enter Tryz.func67, Tryz.ntmps67
    go_wp2_with fail
    refine hS.out.mono ?_
    rintro e w1 ⟨d, hd4, rfl, hEw1, _⟩
    replace hEw1 := hide hEw1
    go_wp2_with fail
    refine (hS2.out _ hEw1.out).mono ?_
    rintro e w2 ⟨d2, hd8, rfl, hEw2, hc1⟩
    have hEw := hide (hEw1.out.trans hEw2)
    clear hEw2 hEw1
    rw [h8] at hd8
    rw [h8]
    clear hS hS2
    replace hc1 := hide hc1
    generalize hg2 : w1.heap.size = g2 at hc1
    go_wp2_with fail
    clear hg2
    go_loopw [4, 48] (fun v q wr => ∃ (k : Nat) (ns : List Nat), k ≤ 8 ∧ q = .int .i64 (k : Int) ∧ rdAll 16 65535 (P.take k) = some ns ∧ ns.length = k ∧ OwnB 5 wr w2.heap.size v (ns.flatMap unpair) ∧ Ext w2 wr) (fun _ q _ => 8 - (intOf q).toNat)
    case atStart => exact ⟨0, [], by omega, rfl, by rw [List.take_zero]; rfl, rfl, OwnB.nil, Ext.refl _⟩
    case round =>
      obtain ⟨k, ns, hk, rfl, hrd, hnl, hown, hE⟩ := hrel
      rename World => W0
      have hz0 := hE.size
      obtain ⟨vo, dd, rfl⟩ := hown.form
      have hlk : (ns.flatMap unpair).length = 2 * k := by rw [unpair_len, hnl]
      rw [hlk] at hown ⊢
      replace hlk := hide hlk
      replace hE := hide hE
      replace hown := hide hown
      by_cases hlt : k < 8
      · have hkP : k < P.length := by omega
        have x0 : W0.cell? ⟨g2, k, none⟩ = some (.string ⟨(P[k]'hkP).toArray⟩) := hE.out.cell (hc1.out k hkP)
        have hn := hnum.out (P[k]'hkP) (List.getElem_mem hkP) W0 (hEw.out.trans hE.out)
        have hbad : rdN 16 65535 (P[k]'hkP) = none → addrC s = ([], 4) := fun h => by rw [hC.out, rdAll_bad (List.getElem_mem hkP) h]
        have hnx := fun n (h : rdN 16 65535 (P[k]'hkP) = some n) => rdAll_next hkP hrd h
        have hmost := fun n (h : rdN 16 65535 (P[k]'hkP) = some n) => ((rdN_iff (b := 16) (by decide) (by decide)).1 h).1
        generalize (P[k]'hkP) = wd at x0 hn hbad hnx hmost
        replace hrd := hide hrd
        replace hnl := hide hnl
        cases hr : rdN 16 65535 wd with
        | none =>
          have hb := hbad hr
          clear hbad hmost hnx
          replace hb := hide hb
          unfold NumP at hn
          rw [hr] at hn
          replace hn := hide hn
          replace hr := hide hr
          go_wp2_with fail
          refine hn.out.mono ?_
          rintro e w3 ⟨⟨z, rfl, _⟩, he3⟩
          have hE3 := hide (hEw.out.trans (hE.out.trans he3))
          clear he3
          go_wp2
          go_ret2
          exact AdP.of hb.out hE3.out
        | some n =>
          have hm := hmost n hr
          have hnx2 := hnx n hr
          clear hbad hmost hnx
          unfold NumP at hn
          rw [hr] at hn
          replace hn := hide hn
          replace hr := hide hr
          have hw8 : IntKind.u8.wrap (n : Int) = ((UInt8.ofNat n).toNat : Int) := by rw [IntKind.wrap_u8, UInt8.toNat_ofNat']; omega
          have hw9 : IntKind.u8.wrap ((n : Int) / 256) = ((UInt8.ofNat (n / 256)).toNat : Int) := by rw [IntKind.wrap_u8, UInt8.toNat_ofNat']; omega
          have hap : ns.flatMap unpair ++ [UInt8.ofNat (n / 256), UInt8.ofNat n] = (ns ++ [n]).flatMap unpair := by simp [unpair]
          generalize hu : UInt8.ofNat n = u at hw8 hap
          generalize hu2 : UInt8.ofNat (n / 256) = u2 at hw9 hap
          replace hu := hide hu
          replace hu2 := hide hu2
          replace hap := hide hap
          replace hnx2 := hide hnx2
          replace hm := hide hm
          go_wp2_with fail
          refine hn.out.mono ?_
          rintro e w3 ⟨⟨z, rfl, hz⟩, he3⟩
          obtain rfl := hz n rfl
          have hown3 := hide (hown.out.ext he3)
          have hE3 := hide (hE.out.trans he3)
          have hz3 := he3.size
          clear he3 hz
          go_wp2_with (at_builtin
                       have hox := hown3.out.alloc (Obj.cells #[.int .u8 (u2.toNat : Int), .int .u8 (u.toNat : Int)] 5)
                       refine wpList_appendB rfl _ _ _ rfl okB8 okB8z rfl hox (by simp; omega) [u2, u] rfl (by rw [hlk.out]; simp; omega) (byte_new2 _ _ _ _) ?_
                       intro v' w5 hown1 hg hat)
          go_roundw
          case rel => exact ⟨k + 1, ns ++ [n], by omega, by go_num, hnx2.out, by simp [hnl.out], by rw [← hap.out]; exact hown1, (hE3.out.alloc _).push (fun j hj => (hown3.out.lt j hj).1) hg⟩
          case measure => simp [intOf]; omega
      · obtain rfl : k = 8 := by omega
        rw [List.take_of_length_le (by omega)] at hrd
        have hfin : addrC s = (ns.flatMap unpair, 0) := by rw [hC.out, hrd]
        have kd := run_stringB (P := Tryz.prog) (src := 65) (dst := 9) Tryz.underlying65 Tryz.underlying5 Tryz.underlying9 hown.out
        replace hfin := hide hfin
        replace hrd := hide hrd
        replace hnl := hide hnl
        go_wp2
        go_ret2
        exact AdP.of hfin.out (hEw.out.trans hE.out)
  · have hC : addrC s = ([], 4) := by unfold addrC; rw [if_neg h4, if_neg h8]
    have b8 : ((((spl 58 s).length : Nat) : Int) != 8) = true := by rw [bne_iff_ne]; omega
    have h8' : ¬ (((spl 58 s).length : Nat) : Int) = 8 := by omega
    clear hnum
    generalize spl 46 s = P4 at b4 hS h4
    generalize spl 58 s = P8 at b8 hS2 h8 h8'
    replace hS := hide hS
    replace hS2 := hide hS2
    replace hC := hide hC
    clear hD hV
    go_enter Tryz.func67, Tryz.ntmps67
    go_wp2_with fail
    refine hS.out.mono ?_
    rintro e w1 ⟨d, hd4, rfl, hEw1, _⟩
    replace hEw1 := hide hEw1
    go_wp2_with fail
    refine (hS2.out _ hEw1.out).mono ?_
    rintro e w2 ⟨d2, hd8, rfl, hEw2, _⟩
    have hEw := hide (hEw1.out.trans hEw2)
    clear hEw2 hEw1
    go_wp2
    go_ret2
    exact AdP.of hC.out hEw.out
theorem AAddr_any (s : List UInt8) (hs : s.length ≤ 1048576) (w : World) (hT : Tab w) (hD : Deb w) (hV : Vars w) :
  Calls Tryz.prog 67 #[.string ⟨s.toArray⟩] w (AdP s w) := by
 by_cases h4 : (spl 46 s).length = 4
 ·exact AAddr4_any s hs h4 w hT hV
 ·exact AAddr16_any s hs h4 w hD hV
end
section
open Go.RowKit
set_option linter.unusedVariables false
theorem digs_get (d : Nat) (h : d < 16) (h2 : d < (ByteArray.mk #[48, 49, 50, 51, 52, 53, 54, 55, 56, 57, 97, 98, 99, 100, 101, 102]).size) : (ByteArray.mk #[48, 49, 50, 51, 52, 53, 54, 55, 56, 57, 97, 98, 99, 100, 101, 102])[d]'h2 = dgt d := by
 have : ∀ d : Fin 16, (ByteArray.mk #[48, 49, 50, 51, 52, 53, 54, 55, 56, 57, 97, 98, 99, 100, 101, 102])[d.val]'(d.isLt) = dgt d.val := by decide +kernel
 exact this ⟨d, h⟩
/-- What digits answer. -/
def UnP (s : List UInt8) (w : World) (e : Ending) (w' : World) : Prop :=
 (∃ c : Int, e = .returned (.tuple #[.string ⟨((unhexS s).getD []).toArray⟩, .int .i64 c]) ∧ (c = 0 ↔ (unhexS s).isSome)) ∧ Ext w w'
theorem unhex_odd : ∀ (s : List UInt8), s.length % 2 = 1 → unhexS s = none
  | [], h => by cases h
  | [_], _ => rfl
  | a :: b :: r, h => by
    have ih := unhex_odd r (by simp only [List.length_cons] at h; omega)
    rw [unhexS, ih]
    split <;> rfl
theorem unhex_pair : ∀ (s t : List UInt8) (a b : UInt8), s.length % 2 = 0 → unhexS (s ++ a :: b :: t) = match unhexS s with
    | some l => (if hval a < 16 ∧ hval b < 16 then (unhexS t).map fun q => l ++ UInt8.ofNat (16 * hval a + hval b) :: q else none)
    | none => none
  | [], t, a, b, _ => by
    rw [List.nil_append, unhexS]
    rfl
  | [_], t, a, b, h => by cases h
  | x :: y :: r, t, a, b, h => by
    have ih := unhex_pair r t a b (by simp only [List.length_cons] at h; omega)
    rw [List.cons_append, List.cons_append, unhexS, ih, unhexS]
    by_cases hd : hval x < 16 ∧ hval y < 16
    · rw [if_pos hd, if_pos hd]
      cases unhexS r with
      | none => rfl
      | some l =>
        dsimp only [Option.map_some]
        by_cases hd2 : hval a < 16 ∧ hval b < 16
        · rw [if_pos hd2, if_pos hd2]
          cases unhexS t <;> rfl
        · rw [if_neg hd2, if_neg hd2]; rfl
    · rw [if_neg hd, if_neg hd]
end
section
open Go.RowKit
set_option linter.unusedVariables false
/-- A builder in the block b, its memory from B on. -/
def BdAt (B b : Nat) (p : Value) (l : List UInt8) (w : World) : Prop := Lib.BuilderAt 69 5 B b p (Lib.byteCells l) w
def Bd (B b : Nat) (l : List UInt8) (w : World) : Prop := Lib.IsBuilder 69 5 B b (Lib.byteCells l) w
theorem bd_info : ∃ j, Tryz.prog.info? 69 = some j ∧ j.size = 2 := by
 have h : (Tryz.prog.info? 69).map (fun i => i.size) = some 2 := by kernel_rfl
 exact Option.map_eq_some_iff.1 h
theorem bd_lies : liesAt Tryz.prog Tryz.prog.depth 69 (2 / Tryz.prog.cellsOf 69) 0 69 1 = true := by kernel_rfl
set_option maxRecDepth 100000 in
set_option maxHeartbeats 1000000 in
theorem BCopy_used (b : Nat) (w : World) (h0 : w.cell? ⟨b, 0, none⟩ = some (.pointer (some ⟨b, 0, none⟩))) :
  Calls Tryz.prog 60 #[.pointer (some ⟨b, 0, none⟩)] w fun e w' => e = .returned (.tuple #[]) ∧ w' = w := by
 obtain ⟨j, hj, hjs⟩ := bd_info
 go_enter Tryz.func60, Tryz.ntmps60
 go_wp2
 rw [Lib.run_neq_ptr_same w _ Tryz.underlying67 hj]
 go_wp2
 go_end0
 exact ⟨rfl, rfl⟩
set_option maxRecDepth 100000 in
set_option maxHeartbeats 1000000 in
theorem BCopy_fresh (b : Nat) (w : World) (h0 : w.cell? ⟨b, 0, none⟩ = some (.pointer none)) (hsh : w.shape? b = some (69, 2)) (hfz : w.frozen? ⟨b, 0, none⟩ = false) :
  Calls Tryz.prog 60 #[.pointer (some ⟨b, 0, none⟩)] w fun e w' => e = .returned (.tuple #[]) ∧ w' = w.setCell ⟨b, 0, none⟩ (.pointer (some ⟨b, 0, none⟩)) := by
 obtain ⟨j, hj, hjs⟩ := bd_info
 go_enter Tryz.func60, Tryz.ntmps60
 go_wp2
 rw [Lib.run_to_unsafe w ⟨b, 0, none⟩ Tryz.underlying67 Tryz.underlying80 hj (by rw [hjs]; decide) hsh (Nat.zero_lt_succ 1)]
 simp only [Result.andThen]
 rw [Oper.upon_value]
 go_wp2
 rw [run_callFunc_extern Tryz.func83 (by kernel_rfl) (by kernel_rfl) (by kernel_rfl) (e := Extern.AbiNoEscape.same) (by kernel_rfl)]
 rw [Lib.run_noEscape]
 simp only [Result.andThen]
 rw [Oper.upon_value]
 go_wp2
 rw [Lib.run_from_unsafe w ⟨b, 0, none⟩ Tryz.underlying80 Tryz.underlying67 hj hsh bd_lies]
 simp only [Result.andThen]
 rw [Oper.upon_value]
 go_wp2
 go_end0
 exact ⟨rfl, rfl⟩
theorem BCopy_any (B b : Nat) (l : List UInt8) (w : World) (h : Bd B b l w) :
  Calls Tryz.prog 60 #[.pointer (some ⟨b, 0, none⟩)] w fun e w' => e = .returned (.tuple #[]) ∧ BdAt B b (.pointer (some ⟨b, 0, none⟩)) l w' ∧ Below B w w' := by
 rcases h with h | h
 ·refine (BCopy_fresh b w h.cell0 h.shape h.frozen0).mono ?_
  rintro e w' ⟨rfl, rfl⟩
  exact ⟨rfl, h.used _, (Below.refl B w).setCell (p := ⟨b, 0, none⟩) h.1 _⟩
 ·refine (BCopy_used b w h.cell0).mono ?_
  rintro e w' ⟨rfl, rfl⟩
  exact ⟨rfl, h, Below.refl B _⟩
theorem byteCells_app (l m : List UInt8) : Lib.byteCells (l ++ m) = Lib.byteCells l ++ Lib.byteCells m := by simp [Lib.byteCells]
theorem byteCells_len (l : List UInt8) : (Lib.byteCells l).length = l.length := by simp [Lib.byteCells]
theorem bd_byte : ∃ i, Tryz.prog.info? 5 = some i ∧ i.size = 1 ∧ i.bytes = 1 ∧ i.zero = some (.int .u8 0) := by
 have h : (Tryz.prog.info? 5).map (fun i => (i.size, i.bytes, i.zero)) = some (1, 1, some (.int .u8 0)) := by kernel_rfl
 obtain ⟨i, hi, hp⟩ := Option.map_eq_some_iff.1 h
 obtain ⟨h1, hp⟩ := Prod.mk.inj hp
 obtain ⟨h2, h3⟩ := Prod.mk.inj hp
 exact ⟨i, hi, h1, h2, h3⟩
set_option maxRecDepth 100000 in
set_option maxHeartbeats 1000000 in
theorem BWriteByte_any (B b : Nat) (l : List UInt8) (c : UInt8) (w : World) (h : Bd B b l w) (hlen : l.length ≤ 4194304) (hBw : B ≤ w.heap.size) :
  Calls Tryz.prog 96 #[.pointer (some ⟨b, 0, none⟩), .int .u8 (c.toNat : Int)] w fun e w' => e = .returned .nilIface ∧ Bd B b (l ++ [c]) w' ∧ Below B w w' := by
 obtain ⟨i0, hi, hz0, hz1, hz2⟩ := bd_byte
 go_enter Tryz.func96, Tryz.ntmps96
 go_wp2_with (go_at_call 60; refine (BCopy_any B b l _ h).mono ?_)
 rintro e w1 ⟨rfl, h1, hb1⟩
 obtain ⟨hB, v, hbk, hown, hne⟩ := h1
 rw [byteCells_len] at hown
 have c0 : w1.cell? ⟨b, 0, none⟩ = some (.pointer (some ⟨b, 0, none⟩)) := by rw [Lib.cell_of_heap hbk]; rfl
 have c1 : w1.cell? ⟨b, 1, none⟩ = some v := by rw [Lib.cell_of_heap hbk]; rfl
 have hlt : b < w1.heap.size := by
  rcases Nat.lt_or_ge b w1.heap.size with h' | h'
  ·exact h'
  ·rw [Array.getElem?_eq_none h'] at hbk; cases hbk
 have hb2 : ∀ w2 : World, (w1.alloc (.cells #[.int .u8 (c.toNat : Int)] 5)).grownBy w2 v.ownBlock → w2.heap[b]? = some (.cells #[.pointer (some ⟨b, 0, none⟩), v] 69 (0, 0)) := fun w2 hg => by
  rw [hg.block b (by simp; omega) (fun e => hne e.symm), Lib.alloc_old w1 _ b hlt]
  exact hbk
 go_wp2_with (at_builtin; refine wpList_append_own _ rfl _ _ 65 rfl B 5 i0 (.int .u8 0) 1 1 Tryz.underlying65 hi hz2 hz0 hz1 rfl (by decide) _ _ _ rfl (hown.alloc _) ⟨w1.heap.size, 0, none⟩ 1 1 [.int .u8 (c.toNat : Int)] rfl rfl ?c1 ?c2 ?c3 ?c4 ?c5 ?_)
 case c1 =>
  intro j u hj
  match j, hj with
  | 0, hj => simp at hj; subst hj; simp [Addr.add]
 case c2 => intro u hu; simp at hu; subst hu; rfl
 case c3 => unfold maxLen; simp; omega
 case c4 => simp; omega
 case c5 => have := hb1.size; simp; omega
 intro v' w2 hown' hgrow _
 have hb2 := hb2 w2 hgrow
 have d0 : w2.cell? ⟨b, 0, none⟩ = some (.pointer (some ⟨b, 0, none⟩)) := by rw [Lib.cell_of_heap hb2]; rfl
 have d1 : w2.cell? ⟨b, 1, none⟩ = some v := by rw [Lib.cell_of_heap hb2]; rfl
 have f1 : w2.frozen? ⟨b, 1, none⟩ = false := Lib.frozen_of_heap hb2 1
 obtain ⟨ao, n', cap, rfl⟩ : ∃ ao n' cap, v' = .slice ao n' cap := by
  rcases hown'.2 with ⟨hv, _⟩ | ⟨g, cap, cur, hv, _⟩
  ·exact ⟨_, _, _, hv⟩
  ·exact ⟨_, _, _, hv⟩
 go_wp2
 go_ret
 refine ⟨rfl, ?_, ?_⟩
 ·exact .inr (Lib.BuilderAt.put (T := 69) (e := 5) hB hb2 (bs' := Lib.byteCells (l ++ [c])) (by rw [byteCells_len, byteCells_app, List.length_append]; exact hown') (by decide))
 ·exact ((hb1.alloc (by have := hb1.size; omega) _).grown hgrow (by have := hb1.size; simp; omega) (fun k hk => (hown.lt k hk).1)).setCell (p := ⟨b, 1, none⟩) hB _
set_option maxRecDepth 100000 in
set_option maxHeartbeats 1000000 in
theorem BWriteString_any (B b : Nat) (l s : List UInt8) (w : World) (h : Bd B b l w) (hlen : l.length + s.length ≤ 268435456) (hBw : B ≤ w.heap.size) :
  Calls Tryz.prog 27 #[.pointer (some ⟨b, 0, none⟩), .string ⟨s.toArray⟩] w fun e w' => e = .returned (.tuple #[.int .i64 (s.length : Int), .nilIface]) ∧ Bd B b (l ++ s) w' ∧ Below B w w' := by
 obtain ⟨i0, hi, hz0, hz1, hz2⟩ := bd_byte
 go_enter Tryz.func27, Tryz.ntmps27
 go_wp2_with (go_at_call 60; refine (BCopy_any B b l _ h).mono ?_)
 rintro e w1 ⟨rfl, h1, hb1⟩
 obtain ⟨hB, v, hbk, hown, hne⟩ := h1
 rw [byteCells_len] at hown
 have c0 : w1.cell? ⟨b, 0, none⟩ = some (.pointer (some ⟨b, 0, none⟩)) := by rw [Lib.cell_of_heap hbk]; rfl
 have c1 : w1.cell? ⟨b, 1, none⟩ = some v := by rw [Lib.cell_of_heap hbk]; rfl
 have hlt : b < w1.heap.size := by
  rcases Nat.lt_or_ge b w1.heap.size with h' | h'
  ·exact h'
  ·rw [Array.getElem?_eq_none h'] at hbk; cases hbk
 have hb2 : ∀ w2 : World, w1.grownBy w2 v.ownBlock → w2.heap[b]? = some (.cells #[.pointer (some ⟨b, 0, none⟩), v] 69 (0, 0)) := fun w2 hg => by
  rw [hg.block b hlt (fun e => hne e.symm)]
  exact hbk
 go_wp2_with (at_builtin; refine Lib.wpList_append_own_string _ rfl _ _ 65 9 rfl B 5 i0 Tryz.underlying65 Tryz.underlying9 hi hz2 hz0 hz1 _ _ _ rfl hown ⟨s.toArray⟩ rfl ?c3 ?c4 ?c5 ?_)
 case c3 => unfold maxLen; simp [ByteArray.size]; omega
 case c4 => simp [ByteArray.size]; omega
 case c5 => have := hb1.size; simp; omega
 intro v' w2 hown' hgrow _
 have hb2 := hb2 w2 hgrow
 have d0 : w2.cell? ⟨b, 0, none⟩ = some (.pointer (some ⟨b, 0, none⟩)) := by rw [Lib.cell_of_heap hb2]; rfl
 have d1 : w2.cell? ⟨b, 1, none⟩ = some v := by rw [Lib.cell_of_heap hb2]; rfl
 have f1 : w2.frozen? ⟨b, 1, none⟩ = false := Lib.frozen_of_heap hb2 1
 obtain ⟨ao, n', cap, rfl⟩ : ∃ ao n' cap, v' = .slice ao n' cap := by
  rcases hown'.2 with ⟨hv, _⟩ | ⟨g, cap, cur, hv, _⟩
  ·exact ⟨_, _, _, hv⟩
  ·exact ⟨_, _, _, hv⟩
 go_wp2
 go_ret2
 refine ⟨rfl, ?_, ?_⟩
 ·exact .inr (Lib.BuilderAt.put (T := 69) (e := 5) hB hb2 (bs' := Lib.byteCells (l ++ s)) (by rw [byteCells_len, byteCells_app, List.length_append]; exact hown') (by decide))
 ·exact (hb1.grown hgrow (by have := hb1.size; simp; omega) (fun k hk => (hown.lt k hk).1)).setCell (p := ⟨b, 1, none⟩) hB _
end
section
open Go.RowKit
set_option linter.unusedVariables false
set_option maxRecDepth 100000 in
set_option maxHeartbeats 1000000 in
theorem WHex_any (s : List UInt8) (hs : s.length ≤ 1048576) (w : World) :
    Calls Tryz.prog 79 #[.string ⟨s.toArray⟩] w fun e w' => e = .returned (.string ⟨(hexS s).toArray⟩) ∧ Ext w w' := by
  go_enter Tryz.func79, Tryz.ntmps79
  go_wp2
  go_loopw [7] (fun q wr => ∃ k : Nat, k ≤ s.length ∧ q = .int .i64 k ∧ Bd w.heap.size w.heap.size (hexS (s.take k)) wr ∧ Ext w wr) (fun q _ => s.length - (intOf q).toNat)
  case atStart => exact ⟨0, Nat.zero_le _, rfl, .inl ⟨Nat.le_refl _, _, Array.getElem?_push_size, World.ownsRow_nil _ _ _ _, by simp [Value.ownBlock]⟩, (Ext.refl _).alloc _⟩
  case round =>
    obtain ⟨k, hk, rfl, hbd, hE⟩ := hrel
    have hsz := hE.size
    have hle : (hexS (s.take k)).length ≤ 2097152 := by rw [hexS_len, List.length_take]; omega
    replace hE := hide hE
    replace hbd := hide hbd
    by_cases hlt : k < s.length
    · have e1 : (ByteArray.mk s.toArray)[k]'(by rw [ba_size]; exact hlt) = s[k] := rfl
      have hnx : hexS (s.take (k + 1)) = (hexS (s.take k) ++ [dgt (s[k].toNat / 16)]) ++ [dgt (s[k].toNat % 16)] := by
        rw [List.take_succ_eq_append_getElem hlt, hexS, List.flatMap_append]
        simp [hexS]
      generalize s[k] = c at e1 hnx
      generalize hexS (s.take k) = X at *
      have hc := c.toNat_lt
      have g1 : c.toNat / 16 < 16 := by omega
      have g2 : c.toNat % 16 < 16 := by omega
      have t1 : (c.toNat : Int) / 16 = ((c.toNat / 16 : Nat) : Int) := by omega
      have d1 := digs_get _ g1
      have d2 := digs_get _ g2
      generalize c.toNat / 16 = n1 at *
      go_wp2_with first
        | (go_at_call 96
           refine (BWriteByte_any w.heap.size w.heap.size X (dgt n1) _ hbd.out (by omega) hsz).mono ?_
           rintro e W1 ⟨rfl, hbd1, hB1⟩
           have hE1 : Ext w W1 := Below.trans hE.out hB1
           have hsz1 := hE1.size
           replace hE1 := hide hE1
           replace hbd1 := hide hbd1
           clear hbd)
        | (go_at_call 96
           refine (BWriteByte_any w.heap.size w.heap.size (X ++ [dgt n1]) (dgt (c.toNat % 16)) _ hbd1.out (by simp; omega) hsz1).mono ?_
           rintro e W2 ⟨rfl, hbd2, hB2⟩
           have hE2 : Ext w W2 := Below.trans hE1.out hB2
           replace hE2 := hide hE2
           replace hbd2 := hide hbd2
           clear hbd1)
      go_roundw
      case rel => exact ⟨k + 1, by omega, by simp, by rw [hnx]; exact hbd2.out, hE2.out⟩
      case measure => simp [intOf]; omega
    · obtain rfl : k = s.length := by omega
      have hbd1 := hbd.out
      rw [List.take_length] at hbd1
      have q := Tryz.Builder_String_any w.heap.size w.heap.size (hexS s) wr hbd1 hsz
      replace q := hide q
      replace hbd1 := hide hbd1
      go_wp2_with (go_at_call 29
                   refine q.out.mono ?_
                   rintro e W1 ⟨rfl, hB1⟩
                   have hE1 : Ext w W1 := Below.trans hE.out hB1
                   replace hE1 := hide hE1)
      go_ret
      exact ⟨rfl, hE1.out⟩
def digs : ByteArray := ⟨#[48, 49, 50, 51, 52, 53, 54, 55, 56, 57, 97, 98, 99, 100, 101, 102]⟩
/-- Where a digit stands. -/
def hx (c : UInt8) : Int := if hval c < 16 then (hval c : Int) else -1
theorem hx_fin : ∀ n : Fin 256, Lib.indexByte digs.data.toList (UInt8.ofNat n.val) = hx (UInt8.ofNat n.val) := by decide +kernel
theorem hx_is (c : UInt8) : Lib.indexByte digs.data.toList c = hx c := by
 have := hx_fin ⟨c.toNat, c.toNat_lt⟩
 simpa using this
theorem WIdx_any (c : UInt8) (w : World) : Calls Tryz.prog 108 #[.string ⟨#[48, 49, 50, 51, 52, 53, 54, 55, 56, 57, 97, 98, 99, 100, 101, 102]⟩, .int .u8 (c.toNat : Int)] w fun e w' => e = .returned (.int .i64 (hx c)) ∧ w' = w := by
 refine (Tryz.strings_IndexByte digs (c.toNat : Int) w).mono ?_
 rintro e w' ⟨rfl, rfl⟩
 refine ⟨?_, rfl⟩
 rw [← hx_is]
 simp
theorem mkB0 (n : Nat) (hn : n ≤ 4194304) (W : World) : (Instr.makeSlice 65 (.int .i64 0) (.int .i64 (n : Int))).run Tryz.prog W = .ok (.slice (some ⟨W.heap.size, 0, none⟩) 0 n) (W.alloc (.cells (Array.replicate n (.int .u8 0)) 5)) := by
 obtain ⟨i, hi, h1, h2, hz⟩ := bd_byte
 have := run_make W 65 5 i (.int .u8 0) Tryz.underlying65 hi hz .i64 .i64 0 n (by omega) (by omega) (by rw [h2]; omega) (by omega)
 have hm : madeCells (Value.cells (.int .u8 0)) n = Array.replicate n (.int .u8 0) := by
  apply Array.ext
  ·simp [madeCells]
  ·intro i h1 h2
   simp [madeCells, Value.cells, Nat.mod_one]
 simp only [h1, Int.toNat_natCast, Nat.mul_one] at this
 rw [hm] at this
 simpa using this
theorem OwnB.room {e : TypeId} (w : World) (n : Nat) (hn : n ≤ maxLen) : OwnB e (w.alloc (.cells (Array.replicate n (.int .u8 0)) e)) w.heap.size (.slice (some ⟨w.heap.size, 0, none⟩) 0 n) [] :=
 .inr ⟨w.heap.size, n, _, (0, 0), rfl, Nat.le_refl _, heap_alloc_new w _, .inr rfl, Nat.zero_le _, hn, by simp, rfl⟩
theorem or_fin : ∀ a b : Fin 16, bits BinOp.or IntKind.i64 (wrap64 ((a.val : Int) * 16)) (b.val : Int) % 256 = ((UInt8.ofNat (16 * a.val + b.val)).toNat : Int) := by decide +kernel
open Go.RowKit Go.Sort
theorem quiet_WIdx (c : UInt8) (w : World) (m : Nat) : Calls Tryz.prog 108 #[.string ⟨#[48, 49, 50, 51, 52, 53, 54, 55, 56, 57, 97, 98, 99, 100, 101, 102]⟩, .int .u8 (c.toNat : Int)] (w.drewN m) fun e w'' => e = .returned (.int .i64 (hx c)) ∧ ∃ m, w'' = w.drewN m :=
 Calls.quiet_of_same ((WIdx_any c _).mono fun e w' h => ⟨h.1, h.2⟩)
set_option maxRecDepth 20000 in
set_option maxHeartbeats 1000000 in
theorem WUnhex_any (s : List UInt8) (hs : s.length ≤ 4194304) (w : World) :
    Calls Tryz.prog 87 #[.string ⟨s.toArray⟩] w (UnP s w) := by
  have t0 : Int.tmod (s.length : Int) 2 = ((s.length % 2 : Nat) : Int) := by rw [Int.tmod_eq_emod_of_nonneg (by omega)]; rfl
  have t3 : Int.tdiv (s.length : Int) 2 = ((s.length / 2 : Nat) : Int) := by rw [Int.tdiv_eq_ediv_of_nonneg (by omega)]; rfl
  have hm2 : s.length % 2 < 2 := Nat.mod_lt _ (by decide)
  by_cases hodd : s.length % 2 = 1
  · have hn := unhex_odd s hodd
    have hP : ∀ w', Ext w w' → UnP s w (.returned (.tuple #[.string ⟨#[]⟩, .int .i64 4])) w' := fun w' he => ⟨⟨4, by rw [hn]; rfl, by rw [hn]; simp⟩, he⟩
    rw [hodd] at t0
    replace hP := hide hP
    replace hn := hide hn
    go_enter Tryz.func87, Tryz.ntmps87
    go_wp2
    go_ret2
    exact hP.out _ (Ext.refl _)
  have heven : s.length % 2 = 0 := by omega
  rw [heven] at t0
  have hcap : s.length / 2 ≤ 4194304 := by omega
  generalize s.length / 2 = cp at t3 hcap
  have hmake := mkB0 cp hcap w
  go_enter Tryz.func87, Tryz.ntmps87
  go_wp2
  have hO := OwnB.room (e := 5) w cp (by unfold maxLen; omega)
  have hE0 : Ext w (w.alloc (.cells (Array.replicate cp (.int .u8 0)) 5)) := (Ext.refl _).alloc _
  generalize hW1 : w.alloc (.cells (Array.replicate cp (.int .u8 0)) 5) = W1 at hO hE0 ⊢
  clear hW1 hmake
  go_loopw [4, 5] (fun v q wr => ∃ (p : Nat) (l : List UInt8), p ≤ s.length ∧ p % 2 = 0 ∧ q = .int .i64 (p : Int) ∧ unhexS (s.take p) = some l ∧ l.length ≤ p ∧ OwnB 5 wr w.heap.size v l ∧ Ext w wr) (fun _ q _ => s.length - (intOf q).toNat)
  case atStart => exact ⟨0, [], Nat.zero_le _, rfl, rfl, rfl, Nat.zero_le _, hO, hE0⟩
  case round =>
    obtain ⟨p, l, hm, hp2, rfl, hl, hlen, hown, hE⟩ := hrel
    have hsz := hE.size
    replace hE := hide hE
    replace hown := hide hown
    by_cases hlt : p < s.length
    · have hlt2 : p + 1 < s.length := by omega
      have e1 : (ByteArray.mk s.toArray)[p]'(by rw [ba_size]; exact hlt) = s[p] := rfl
      have e2 : (ByteArray.mk s.toArray)[p + 1]'(by rw [ba_size]; exact hlt2) = s[p + 1] := rfl
      have hev : (s.take p).length % 2 = 0 := by rw [List.length_take]; omega
      have hnx : unhexS (s.take (p + 2)) = unhexS (s.take p ++ s[p] :: s[p + 1] :: []) := by
        rw [show p + 2 = p + 1 + 1 by omega, List.take_succ_eq_append_getElem hlt2, List.take_succ_eq_append_getElem hlt, List.append_assoc]
        rfl
      have hall : unhexS s = unhexS (s.take p ++ s[p] :: s[p + 1] :: s.drop (p + 1 + 1)) := by
        rw [← List.drop_eq_getElem_cons hlt2, ← List.drop_eq_getElem_cons hlt, List.take_append_drop]
      rw [unhex_pair _ _ _ _ hev, hl] at hnx hall
      dsimp only at hnx hall
      have hle : l.length ≤ 4194304 := by omega
      replace hlen := hide hlen
      replace hl := hide hl
      generalize s[p] = c at e1 hnx hall
      generalize s[p + 1] = d at e2 hnx hall
      have hout := hown.out
      obtain ⟨a0, c0, rfl⟩ := hout.form
      clear hout
      have qc := fun m => quiet_WIdx c wr m
      have qd := fun m => quiet_WIdx d wr m
      have hvc : hval c ≤ 16 := by unfold hval; split <;> (try split) <;> omega
      have hvd : hval d ≤ 16 := by unfold hval; split <;> (try split) <;> omega
      by_cases hgood : hval c < 16 ∧ hval d < 16
      · have xc : hx c = (hval c : Int) := if_pos hgood.1
        have xd : hx d = (hval d : Int) := if_pos hgood.2
        have hor := or_fin ⟨hval c, hgood.1⟩ ⟨hval d, hgood.2⟩
        dsimp only at hor
        rw [← xc, ← xd] at hor
        have b1 : decide (hx c < 0) = false := decide_eq_false (by omega)
        have b2 : decide (hx d < 0) = false := decide_eq_false (by omega)
        rw [if_pos hgood] at hnx
        have hnx : unhexS (s.take (p + 2)) = some (l ++ [UInt8.ofNat (16 * hval c + hval d)]) := hnx
        generalize UInt8.ofNat (16 * hval c + hval d) = z at hor hnx
        clear xc xd hall hgood hvc hvd
        replace hnx := hide hnx
        replace qc := hide qc
        replace qd := hide qd
        go_upto_region 7 with fail
        go_quiet ((go_at_call 108; first | (with_reducible exact qc.out _) | (with_reducible exact qd.out _)))
        have hownd := hown.out.drewN nq
        have hEd := hE.out.drewN nq
        replace hownd := hide hownd
        replace hEd := hide hEd
        have hszd : w.heap.size ≤ (wr.drewN nq).heap.size := hsz
        generalize hWd : wr.drewN nq = Wd at hownd hEd hszd ⊢
        clear hWd
        go_wp2_with (at_builtin
                     have hox := hownd.out.alloc (Obj.cells #[.int .u8 (z.toNat : Int)] 5)
                     refine wpList_appendB rfl _ _ _ rfl okB8 okB8z rfl hox (by simp; omega) [z] rfl (by simp; omega) (byte_new _ _ _) ?_
                     intro v1 W2 hown1 hg1 hat1
                     replace hown1 := hide hown1)
        go_roundw
        case rel => exact ⟨p + 2, l ++ [z], by omega, by omega, by simp, hnx.out, by have := hlen.out; simp; omega, hown1.out, (hEd.out.alloc _).push (fun j hj => (hownd.out.lt j hj).1) hg1⟩
        case measure => simp [intOf]; omega
      · rw [if_neg hgood] at hall
        have hP : ∀ w', Ext w w' → UnP s w (.returned (.tuple #[.string ⟨#[]⟩, .int .i64 4])) w' := fun w' he => ⟨⟨4, by rw [hall]; rfl, by rw [hall]; simp⟩, he⟩
        replace hP := hide hP
        clear hall hnx
        have hb : (decide (hx c < 0) || decide (hx d < 0)) = true := by
          by_cases h1 : hval c < 16
          · have xd : hx d = -1 := if_neg (fun h => hgood ⟨h1, h⟩)
            rw [xd, Bool.or_eq_true]; right; decide
          · have xc : hx c = -1 := if_neg h1
            rw [xc, Bool.or_eq_true]; left; decide
        clear hgood hvc hvd
        replace qc := hide qc
        replace qd := hide qd
        go_upto_region 7 with fail
        go_quiet ((go_at_call 108; first | (with_reducible exact qc.out _) | (with_reducible exact qd.out _)))
        have hEd := hE.out.drewN nq
        replace hEd := hide hEd
        generalize hWd : wr.drewN nq = Wd at hEd ⊢
        clear hWd
        rw [Bool.or_eq_true] at hb
        cases hb1 : decide (hx c < 0) with
        | true =>
          go_wp2
          go_ret2
          exact hP.out _ hEd.out
        | false =>
          rw [hb1] at hb
          have hb2 : decide (hx d < 0) = true := by simpa using hb
          clear hb
          go_wp2
          go_ret2
          exact hP.out _ hEd.out
    · have hm2' : p = s.length := by omega
      subst hm2'
      rw [List.take_length] at hl
      have hown1 := hown.out
      have kd := run_stringB (P := Tryz.prog) (src := 65) (dst := 9) Tryz.underlying65 Tryz.underlying5 Tryz.underlying9 hown1
      replace hown1 := hide hown1
      have hP : ∀ w', Ext w w' → UnP s w (.returned (.tuple #[.string ⟨l.toArray⟩, .int .i64 0])) w' := fun w' he => ⟨⟨0, by rw [hl]; rfl, by rw [hl]; simp⟩, he⟩
      replace hP := hide hP
      replace hlen := hide hlen
      replace hl := hide hl
      go_wp2
      go_ret2
      exact hP.out _ hE.out
end
section
open Go.RowKit Go.Sort
set_option linter.unusedVariables false
theorem ba_extract (s : List UInt8) (i j : Nat) : (ByteArray.mk s.toArray).extract i j = ⟨((s.drop i).take (j - i)).toArray⟩ := by
 apply ByteArray.ext
 rw [ByteArray.data_extract]
 simp
def lb (l : List UInt8) : ByteArray := ⟨l.toArray⟩
end
section
open Go.RowKit
set_option linter.unusedVariables false
def nameCs : List UInt8 := [97, 98, 99, 100, 101, 102, 103, 104, 105, 106, 107, 108, 109, 110, 111, 112, 113, 114, 115, 116, 117, 118, 119, 120, 121, 122, 48, 49, 50, 51, 52, 53, 54, 55, 56, 57, 45]
theorem cells_is : Lib.setCells nameCs = (Array.range 256).map fun n => Value.bool (nameCh (UInt8.ofNat n)) := by kernel_rfl
theorem cells_at (n : Nat) (h : n < 256) : (Lib.setCells nameCs)[n]? = some (.bool (nameCh (UInt8.ofNat n))) := by
 rw [cells_is]
 simp [h]
def strLen : Value → Nat
 | .string b => b.size
 | _ => 0
theorem strLen_of (l : List UInt8) : strLen (.string ⟨l.toArray⟩) = l.length := by simp [strLen, ByteArray.size]
set_option maxRecDepth 20000 in
set_option maxHeartbeats 1000000 in
theorem TrimA_any (s : List UInt8) (hs : s.length ≤ 4194304) (b : Nat) (w : World) (hc : ∀ x : UInt8, w.cell? ⟨b, x.toNat, none⟩ = some (.bool (nameCh x))) :
    Calls Tryz.prog 93 #[.string ⟨s.toArray⟩, .pointer (some ⟨b, 0, none⟩)] w fun e w' => e = .returned (.string ⟨(s.dropWhile nameCh).toArray⟩) ∧ w' = w := by
  go_enter Tryz.func93, Tryz.ntmps93
  go_wp2
  go_loop [0] (fun v => ∃ t : List UInt8, v = .string ⟨t.toArray⟩ ∧ t.length ≤ s.length ∧ t.dropWhile nameCh = s.dropWhile nameCh) (fun v => strLen v)
  case atStart => exact ⟨s, rfl, Nat.le_refl _, rfl⟩
  case round =>
    obtain ⟨t, rfl, ht, hd⟩ := hrel
    match t, ht, hd with
    | [], ht, hd =>
      have hd : [] = s.dropWhile nameCh := hd
      replace hd := hide hd
      go_wp2
      go_ret
      exact ⟨by rw [← hd.out]; rfl, rfl⟩
    | x :: r, ht, hd =>
      simp only [List.length_cons] at ht
      have b0 : decide ((0 : Int) < ((x :: r).length : Int)) = true := decide_eq_true (by simp only [List.length_cons]; omega)
      have e1 : ∀ h, (ByteArray.mk (x :: r).toArray)[0]'h = x := fun _ => rfl
      have q := fun W (h : W.cell? ⟨b, x.toNat, none⟩ = some (.bool (nameCh x))) => Tryz.asciiSet_contains b x (nameCh x) W h
      have q := q w (hc x)
      replace q := hide q
      cases hx : nameCh x
      · rw [hx] at q
        rw [List.dropWhile_cons, hx] at hd
        have hd : x :: r = s.dropWhile nameCh := hd
        replace hd := hide hd
        replace q := hide q.out
        go_wp2_with (go_at_call 113; refine q.out.mono ?_; rintro e w' ⟨rfl, rfl⟩)
        go_ret
        exact ⟨by rw [← hd.out]; rfl, rfl⟩
      · rw [hx] at q
        rw [List.dropWhile_cons, hx] at hd
        have hd2 : r.dropWhile nameCh = s.dropWhile nameCh := hd
        clear hd
        have he : ∀ j : Nat, j = r.length + 1 → (ByteArray.mk (x :: r).toArray).extract 1 j = ⟨r.toArray⟩ := fun j hj => by
          subst hj
          rw [ba_extract]
          simp
        have he := he _ rfl
        replace hd2 := hide hd2
        replace q := hide q.out
        go_wp2_with (go_at_call 113; refine q.out.mono ?_; rintro e w' ⟨rfl, rfl⟩)
        go_round
        case rel => exact ⟨r, rfl, by omega, hd2.out⟩
        case measure => simp [strLen_of]
theorem zero_set : ∀ w, (zeroValue 142).run Tryz.prog w = .ok (.agg (Array.replicate 256 (.bool false))) w := by
 intro w
 kernel_rfl
theorem nameCs_low : ∀ (j : Nat) b, nameCs[j]? = some b → b.toNat < 128 := fun j b h => by
 have : ∀ x ∈ nameCs, x.toNat < 128 := by decide
 exact this b (List.mem_of_getElem? h)
theorem MakeSet_any (w : World) : Calls Tryz.prog 92 #[.string ⟨#[97, 98, 99, 100, 101, 102, 103, 104, 105, 106, 107, 108, 109, 110, 111, 112, 113, 114, 115, 116, 117, 118, 119, 120, 121, 122, 48, 49, 50, 51, 52, 53, 54, 55, 56, 57, 45]⟩] w fun e w' => e = .returned (.tuple #[.agg (Lib.setCells nameCs), .bool true]) ∧ w' = w.alloc (.cells (Lib.setCells nameCs) 142) :=
 Tryz.strings_makeASCIISet zero_set ⟨nameCs.toArray⟩ w (by decide) nameCs_low
end
section
open Go.RowKit
set_option linter.unusedVariables false
theorem setZ_size : Tryz.zeroCells142.size = 256 := by kernel_rfl
theorem setK_size : (Lib.setCells nameCs).size = 256 := by kernel_rfl
theorem there_set (W : World) : (W.alloc (.cells Tryz.zeroCells142 142)).there W.heap.size 0 (Lib.setCells nameCs).size := fun i hi => by
 have hB := Blk.new W 142 Tryz.zeroCells142
 refine ⟨?_, hB.frozen _⟩
 rw [setK_size] at hi
 rw [hB.cell, Nat.zero_add, Array.getElem?_eq_getElem (by rw [setZ_size]; exact hi)]
 rfl
theorem alloc_size35 (w : World) (o : Obj) : (w.alloc o).heap.size = w.heap.size + 1 := Array.size_push _
theorem Ext.setCs35 {a : World} {g : Nat} (hg : a.heap.size ≤ g) : ∀ (vs : List Value) (o : Nat) (b : World), Ext a b → Ext a (b.setCells g o vs)
  | [], _, _, h => h
  | v :: r, o, b, h => by
    rw [World.setCells]
    exact Ext.setCs35 hg r (o + 1) _ (h.setCell (p := ⟨g, o, none⟩) hg v)
theorem set_cell (W : World) (x : UInt8) : ((W.alloc (.cells Tryz.zeroCells142 142)).setCells W.heap.size 0 (Lib.setCells nameCs).toList).cell? ⟨W.heap.size, x.toNat, none⟩ = some (.bool (nameCh x)) := by
 have hx := x.toNat_lt
 have h1 := World.rangeAt_setCells_same _ _ _ _ (there_set W) x.toNat (.bool (nameCh x)) (by
  rw [Array.getElem?_toList, cells_at _ hx]
  simp)
 rw [Nat.zero_add] at h1
 exact h1
set_option maxRecDepth 20000 in
set_option maxHeartbeats 1000000 in
theorem TrimL_any (s : List UInt8) (hs : s.length ≤ 4194304) (w : World) :
    Calls Tryz.prog 77 #[.string ⟨s.toArray⟩, .string ⟨#[97, 98, 99, 100, 101, 102, 103, 104, 105, 106, 107, 108, 109, 110, 111, 112, 113, 114, 115, 116, 117, 118, 119, 120, 121, 122, 48, 49, 50, 51, 52, 53, 54, 55, 56, 57, 45]⟩] w fun e w' => e = .returned (.string ⟨(s.dropWhile nameCh).toArray⟩) ∧ Ext w w' := by
  cases hs0 : s with
  | nil =>
    go_enter Tryz.func77, Tryz.ntmps77
    go_wp2
    go_ret
    exact ⟨rfl, Ext.refl _⟩
  | cons x r =>
    subst hs0
    go_enter Tryz.func77, Tryz.ntmps77
    have hi2 : (Tryz.prog.info? 142).map (fun i => i.size) = some (Lib.setCells nameCs).size := by kernel_rfl
    have h12 : (Lib.setCells nameCs).all (·.oneCell') = true := by
      kernel_rfl
    replace hi2 := hide hi2
    replace h12 := hide h12
    have hth := there_set (w.alloc (.cells (Lib.setCells nameCs) 142))
    have hcell := fun y => set_cell (w.alloc (.cells (Lib.setCells nameCs) 142)) y
    have hE : Ext w (((w.alloc (.cells (Lib.setCells nameCs) 142)).alloc (.cells Tryz.zeroCells142 142)).setCells (w.heap.size + 1) 0 (Lib.setCells nameCs).toList) :=
      Ext.setCs35 (Nat.le_succ _) _ _ _ (((Ext.refl w).alloc _).alloc _)
    rw [alloc_size35] at hth
    have hcell : ∀ y : UInt8, (((w.alloc (.cells (Lib.setCells nameCs) 142)).alloc (.cells Tryz.zeroCells142 142)).setCells (w.heap.size + 1) 0 (Lib.setCells nameCs).toList).cell? ⟨w.heap.size + 1, y.toNat, none⟩ = some (.bool (nameCh y)) := fun y => by
      have h := hcell y
      rw [alloc_size35] at h
      exact h
    have q := TrimA_any (x :: r) hs (w.heap.size + 1) _ hcell
    replace q := hide q
    replace hs := hide hs
    replace hth := hide hth
    replace hcell := hide hcell
    replace hE := hide hE
    go_wp2_with first
      | (go_at_call 92; refine (MakeSet_any _).mono ?_; rintro e w' ⟨rfl, rfl⟩)
      | (refine wpList_store_mid rfl 142 (.tmp 5) (.tmp 29) rfl (w.heap.size + 1) 0 (Lib.setCells nameCs) rfl rfl ?_ hi2.out h12.out ?_; with_reducible exact hth.out)
      | (go_at_call 93; refine q.out.mono ?_; rintro e w' ⟨rfl, rfl⟩)
    all_goals
      go_ret
      exact ⟨rfl, hE.out⟩
end
section
open Go.RowKit
set_option linter.unusedVariables false
theorem drop_nil {s : List UInt8} : (s.dropWhile nameCh = []) ↔ s.all nameCh = true := by
  induction s with
  | nil => simp
  | cons x r ih =>
    rw [List.dropWhile_cons]
    cases h : nameCh x <;> simp [h, ih]
set_option maxRecDepth 20000 in
set_option maxHeartbeats 1000000 in
theorem Named_any (s : List UInt8) (hs : s.length ≤ 4194304) (w : World) :
    Calls Tryz.prog 49 #[.string ⟨s.toArray⟩] w fun e w' => e = .returned (.bool (nameOk s)) ∧ Ext w w' := by
  cases hs0 : s with
  | nil =>
    go_enter Tryz.func49, Tryz.ntmps49
    go_wp2
    go_ret
    exact ⟨rfl, Ext.refl _⟩
  | cons x r =>
    subst hs0
    have q := TrimL_any (x :: r) hs w
    have e1 : ∀ h, (ByteArray.mk (x :: r).toArray)[0]'h = x := fun _ => rfl
    have hN : nameOk (x :: r) = (decide ((x :: r).length ≤ 16) && (decide (97 ≤ x.toNat) && decide ((x :: r).dropWhile nameCh = []))) := by
      unfold nameOk
      have h1 : decide (1 ≤ (x :: r).length) = true := decide_eq_true (by simp)
      have h2 : (x :: r).all nameCh = decide ((x :: r).dropWhile nameCh = []) := by
        rw [Bool.eq_iff_iff, decide_eq_true_eq]; exact drop_nil.symm
      rw [h1, h2, Bool.true_and]
      rfl
    have hR : ∀ b : Bool, (decide ((x :: r).length ≤ 16) && (decide (97 ≤ x.toNat) && decide ((x :: r).dropWhile nameCh = []))) = b → ∀ w', Ext w w' → (Ending.returned (.bool b) = Ending.returned (.bool (nameOk (x :: r))) ∧ Ext w w') := fun b hb w' he => ⟨by rw [hN, hb], he⟩
    clear hN
    generalize (x :: r).dropWhile nameCh = d at q hR
    replace hR := hide hR
    replace q := hide q
    replace hs := hide hs
    by_cases h1 : (x :: r).length ≤ 16
    · have hl1 := h1
      have b1 : decide ((r.length : Int) + 1 ≤ 16) = true := decide_eq_true (by simp only [List.length_cons] at h1; omega)
      replace h1 := hide h1
      replace hl1 := hide hl1
      by_cases h2 : 97 ≤ x.toNat
      · have b2 : decide ((97 : Int) ≤ (x.toNat : Int)) = true := decide_eq_true (by omega)
        cases hd : d with
        | nil =>
          subst hd
          go_enter Tryz.func49, Tryz.ntmps49
          go_wp2_with (go_at_call 77; refine q.out.mono ?_; rintro e w1 ⟨rfl, he⟩)
          go_ret
          exact hR.out true (by rw [decide_eq_true hl1.out, decide_eq_true h2]; rfl) _ he
        | cons y t =>
          subst hd
          go_enter Tryz.func49, Tryz.ntmps49
          go_wp2_with (go_at_call 77; refine q.out.mono ?_; rintro e w1 ⟨rfl, he⟩)
          go_ret
          exact hR.out false (by rw [decide_eq_false (show ¬ (y :: t = []) by simp), Bool.and_false, Bool.and_false]) _ he
      · have b2 : decide ((97 : Int) ≤ (x.toNat : Int)) = false := decide_eq_false (by omega)
        go_enter Tryz.func49, Tryz.ntmps49
        go_wp2
        go_ret
        exact hR.out false (by rw [decide_eq_false h2, Bool.false_and, Bool.and_false]) _ (Ext.refl _)
    · have h3 := hR.out false (by rw [decide_eq_false h1, Bool.false_and]) _ (Ext.refl _)
      have b1 : decide ((r.length : Int) + 1 ≤ 16) = false := decide_eq_false (by simp only [List.length_cons] at h1; omega)
      clear h1
      replace h3 := hide h3
      go_enter Tryz.func49, Tryz.ntmps49
      go_wp2
      go_ret
      exact h3.out
end
section
open Go.RowKit Go.Sort
set_option linter.unusedVariables false
theorem Split_big (s : List UInt8) (c : UInt8) (w : World) (hV : Vars w) (hs : s.length ≤ 4194304) :
  Calls Tryz.prog 35 #[.string ⟨s.toArray⟩, .string ⟨#[c]⟩] w fun e w' => ∃ d, (spl c s).length ≤ d ∧ e = .returned (.slice (some ⟨w.heap.size, 0, none⟩) (spl c s).length d) ∧ Ext w w' ∧ ∀ k, (h : k < (spl c s).length) → w'.cell? ⟨w.heap.size, k, none⟩ = some (.string ⟨(spl c s)[k].toArray⟩) := by
 obtain ⟨m, hm⟩ := hV.max
 have hm2 : (Lib.splitB ⟨#[c]⟩ 0 (Lib.countB ⟨s.toArray⟩ ⟨#[c]⟩) ⟨s.toArray⟩).map (·.data.toList) = spl c s := Lib.splitB_data _ _ _ _
 have hlen : Lib.countB ⟨s.toArray⟩ ⟨#[c]⟩ + 1 = (spl c s).length := by
  rw [← hm2, List.length_map]
  exact (Lib.splitB_all ⟨#[c]⟩ (Nat.le_refl 1) _ _ _ rfl).symm
 refine (Tryz.strings_Split ⟨s.toArray⟩ ⟨#[c]⟩ m w (by simp [ByteArray.size]; omega) hm (Nat.le_refl 1)).mono ?_
 rintro e w' ⟨rfl, rfl⟩
 refine ⟨_, Nat.le_of_eq hlen.symm, by rw [hlen], (Ext.refl _).alloc _, fun k h => ?_⟩
 rw [(Blk.new w 9 _).cell k]
 have hk : k < (Lib.splitB ⟨#[c]⟩ 0 (Lib.countB ⟨s.toArray⟩ ⟨#[c]⟩) ⟨s.toArray⟩).length := by
  have := congrArg List.length hm2
  rw [List.length_map] at this
  omega
 have he := congrArg (fun l => l[k]?) hm2
 simp only [List.getElem?_map, List.getElem?_eq_getElem hk, List.getElem?_eq_getElem h, Option.map_some, Option.some.injEq] at he
 rw [List.getElem?_toArray, List.getElem?_map, List.getElem?_eq_getElem hk, ← he]
 rw [ba_list]
 rfl
theorem PU64_okb (s : List UInt8) (u : Nat) (w : World) (hs : s.length ≤ 4194304) (hp : Lib.parseUintB 64 s = .ok u) :
  Calls Tryz.prog 85 #[.string ⟨s.toArray⟩, .int .i64 10, .int .i64 64] w fun e w' => e = .returned (.tuple #[.int .u64 u, .nilIface]) ∧ Ext w w' := by
 refine (Any.strconv_ParseUint_10_at64_ok Tryz.laysPu14 ⟨s.toArray⟩ (by simp [ByteArray.size]; omega) u hp w).mono ?_
 rintro e w' ⟨rfl, hw⟩
 refine ⟨rfl, ?_⟩
 rcases hw with rfl | rfl
 ·exact Ext.refl _
 ·exact ext_bytes _ _ _
theorem PU64_big (s : List UInt8) (w : World) (hV : Vars w) (hs : s.length ≤ 4194304) :
  Calls Tryz.prog 85 #[.string ⟨s.toArray⟩, .int .i64 10, .int .i64 64] w (PuP 10 18446744073709551615 s w) := by
 obtain ⟨t1, p1, h1⟩ := hV.es
 obtain ⟨t2, p2, h2⟩ := hV.er
 have hz : (ByteArray.mk s.toArray).size = s.length := ba_size s
 have hrd := fun n => rd_dec (B := 64) (s := s) (n := n) (by decide)
 rcases hp : Lib.parseUintB 64 s with u | _ | _
 ·rw [hp] at hrd
  refine (PU64_okb s u w hs hp).mono ?_
  rintro e w' ⟨rfl, hw⟩
  exact ⟨hw, .inl ⟨u, Lib.parseUintB_le hp, rfl, fun n hn => by have := hrd n hn; injection this with this; exact this.symm⟩⟩
 ·rw [hp] at hrd
  refine (Any.strconv_ParseUint_10_at64_syntax Tryz.laysPu14 ⟨s.toArray⟩ (by omega) hp _ w h1 (.inr ⟨_, _, rfl⟩)).mono ?_
  rintro e w' ⟨N, rfl, _, _, hb⟩
  refine ⟨hb, .inr ⟨?_, _, _, _, rfl⟩⟩
  cases hr : rdN 10 18446744073709551615 s with
  | none => rfl
  | some n => cases hrd n hr
 ·rw [hp] at hrd
  refine (Any.strconv_ParseUint_10_at64_range Tryz.laysPu14 ⟨s.toArray⟩ (by omega) hp _ w h2 (.inr ⟨_, _, rfl⟩)).mono ?_
  rintro e w' ⟨N, rfl, _, _, hb⟩
  refine ⟨hb, .inr ⟨?_, _, _, _, rfl⟩⟩
  cases hr : rdN 10 18446744073709551615 s with
  | none => rfl
  | some n => cases hrd n hr
end
section
open Go.RowKit
set_option linter.unusedVariables false
/-- What is given up with. -/
def wrongP (c : Int) : List PanicEntry := [{ v := .iface 107 (.agg #[.int .i64 c]), recovered := false }]
theorem give_any (c : Int) (w : World) : Calls Tryz.prog 37 #[.int .i64 c] w fun e w' => e = .panicked (wrongP c) ∧ w = w' := by
 go_enter Tryz.func37, Tryz.ntmps37
 go_wp2
 exact ⟨rfl, rfl, rfl⟩
/-- A number of a word, or given up. -/
def NumS (s : List UInt8) (a b : Nat) (w : World) (e : Ending) (w' : World) : Prop := (e = match rdC s a b with | some n => .returned (.int .u64 (n : Int)) | none => .panicked (wrongP 9)) ∧ Ext w w'
theorem rdC_iff {s : List UInt8} {a b n : Nat} : rdC s a b = some n ↔ a ≤ n ∧ n ≤ b ∧ digS 10 n = s := by
 constructor
 ·exact rdC_some
 ·rintro ⟨h1, h2, rfl⟩; exact rdC_dig h1 h2
theorem rdC_no {s : List UInt8} {a b u : Nat} (hu : ∀ n, rdN 10 18446744073709551615 s = some n → n = u) (hb : b ≤ 4294967295) (h : u < a ∨ b < u ∨ digS 10 u ≠ s) : rdC s a b = none := by
  cases hr : rdC s a b with
  | none => rfl
  | some n =>
    obtain ⟨h1, h2, h3⟩ := rdC_some hr
    have := hu n ((rdN_iff (by decide) (by decide)).2 ⟨by omega, h3⟩)
    subst this
    rcases h with h | h | h
    · omega
    · omega
    · exact absurd h3 h
theorem rdC_none {s : List UInt8} {a b : Nat} (hu : rdN 10 18446744073709551615 s = none) (hb : b ≤ 4294967295) : rdC s a b = none := by
  cases hr : rdC s a b with
  | none => rfl
  | some n =>
    obtain ⟨h1, h2, h3⟩ := rdC_some hr
    have := (rdN_iff (b := 10) (most := 18446744073709551615) (by decide) (by decide)).2 ⟨by omega, h3⟩
    rw [hu] at this
    cases this
set_option maxRecDepth 20000 in
theorem SNum_any (s : List UInt8) (a b : Nat) (hab : a ≤ 4294967295) (hb : b ≤ 4294967295) (w : World) (hT : Tab w) (hV : Vars w) (hs : s.length ≤ 4194304) :
  Calls Tryz.prog 66 #[.string ⟨s.toArray⟩, .int .u64 (a : Int), .int .u64 (b : Int)] w (NumS s a b w) := by
 have hpu := PU64_big s w hV hs
 have hf := fun (u : Nat) (hu : u ≤ 18446744073709551615) W (h : Ext w W) => (FormatUint_any u (by omega) W (hT.ext h)).mono (R' := fun e w' => e = .returned (.string ⟨(digS 10 u).toArray⟩) ∧ Ext W w') fun e w' q => ⟨by rw [q.1]; unfold dec; rw [digS_dec], q.2⟩
 have hok : ∀ (u : Nat) (W : World), a ≤ u → u ≤ b → digS 10 u = s → Ext w W → NumS s a b w (.returned (.int .u64 (u : Int))) W := by
  intro u W h1 h2 h3 hE
  refine ⟨?_, hE⟩
  rw [rdC_iff.2 ⟨h1, h2, h3⟩]
 have hbad : ∀ (W : World), rdC s a b = none → Ext w W → NumS s a b w (.panicked (wrongP 9)) W := by
  intro W h hE
  refine ⟨?_, hE⟩
  rw [h]
 have hno1 : ∀ u : Nat, (∀ n, rdN 10 18446744073709551615 s = some n → n = u) → u < a ∨ b < u ∨ digS 10 u ≠ s → rdC s a b = none := fun u h1 h2 => rdC_no h1 hb h2
 have hno2 : rdN 10 18446744073709551615 s = none → rdC s a b = none := fun h => rdC_none h hb
 generalize NumS s a b w = Post at *
 replace hok := hide hok
 replace hbad := hide hbad
 replace hno1 := hide hno1
 replace hno2 := hide hno2
 replace hpu := hide hpu
 replace hf := hide hf
 clear hT hV hs hab hb
 go_enter Tryz.func66, Tryz.ntmps66
 go_wp2_with fail
 refine hpu.out.mono ?_
 rintro e w1 ⟨he, ⟨u, hu, rfl, hn⟩ | ⟨hn, z, T, p, rfl⟩⟩
 ·have hq := fun W h => hf.out u hu W h
  have hr := fun W h1 h2 h3 h => hok.out u W h1 h2 h3 h
  have hx := fun W h1 h => hbad.out W (hno1.out u hn h1) h
  replace hx := hide hx
  replace hr := hide hr
  replace hq := hide hq
  replace hn := hide hn
  replace hu := hide hu
  replace he := hide he
  by_cases h1 : u < a
  ·have b1 : decide (u < a) = true := decide_eq_true h1
   have h1' := hide h1
   clear h1
   go_wp2_with fail
   refine (give_any _ _).mono ?_
   rintro e w3 ⟨rfl, rfl⟩
   go_wp2
   exact ⟨rfl, hx.out _ (.inl h1'.out) he.out⟩
  have b1 : decide (u < a) = false := decide_eq_false h1
  have h1' := hide h1
  clear h1
  by_cases h2 : b < u
  ·have b2 : decide (b < u) = true := decide_eq_true h2
   have h2' := hide h2
   clear h2
   go_wp2_with fail
   refine (give_any _ _).mono ?_
   rintro e w3 ⟨rfl, rfl⟩
   go_wp2
   exact ⟨rfl, hx.out _ (.inr (.inl h2'.out)) he.out⟩
  have b2 : decide (b < u) = false := decide_eq_false h2
  have h2' := hide h2
  clear h2
  go_wp2_with fail
  refine (hq.out _ he.out).mono ?_
  rintro e w2 ⟨rfl, he2⟩
  replace he2 := hide (he.out.trans he2)
  generalize digS 10 u = d at *
  by_cases hds : d = s
  ·subst hds
   go_wp2
   try go_ret
   exact hr.out _ (by have := h1'.out; omega) (by have := h2'.out; omega) (by trivial) he2.out
  ·have hdd : ((d == s) = false) := by simpa using hds
   have hdd2 : ((s == d) = false) := by simpa using fun h => hds h.symm
   have hdd3 : ((d != s) = true) := by simpa using hds
   replace hds := hide hds
   go_wp2_with fail
   refine (give_any _ _).mono ?_
   rintro e w3 ⟨rfl, rfl⟩
   go_wp2
   exact ⟨rfl, hx.out _ (.inr (.inr hds.out)) he2.out⟩
 ·replace hn := hide hn
  replace he := hide he
  go_wp2_with fail
  refine (give_any _ _).mono ?_
  rintro e w3 ⟨rfl, rfl⟩
  go_wp2
  exact ⟨rfl, hbad.out _ (hno2.out hn.out) he.out⟩
/-- A name of a word, or given up. -/
def NamS (s : List UInt8) (w : World) (e : Ending) (w' : World) : Prop := (e = if nameOk s = true then .returned (.string ⟨s.toArray⟩) else .panicked (wrongP 9)) ∧ Ext w w'
theorem SName_any (s : List UInt8) (hs : s.length ≤ 4194304) (w : World) :
  Calls Tryz.prog 68 #[.string ⟨s.toArray⟩] w (NamS s w) := by
 have q := Named_any s hs w
 have h1 : ∀ W, nameOk s = true → Ext w W → NamS s w (.returned (.string ⟨s.toArray⟩)) W := fun W h he => ⟨by rw [if_pos h], he⟩
 have h2 : ∀ W, nameOk s = false → Ext w W → NamS s w (.panicked (wrongP 9)) W := fun W h he => ⟨by rw [h]; rfl, he⟩
 generalize NamS s w = Post at *
 generalize nameOk s = b at *
 replace q := hide q
 replace h1 := hide h1
 replace h2 := hide h2
 go_enter Tryz.func68, Tryz.ntmps68
 cases b
 ·go_wp2_with (go_at_call 49; refine q.out.mono ?_; rintro e w1 ⟨rfl, he⟩; replace he := hide he)
  refine (give_any _ _).mono ?_
  rintro e w3 ⟨rfl, rfl⟩
  go_wp2
  exact ⟨rfl, h2.out _ (by trivial) he.out⟩
 ·go_wp2_with (go_at_call 49; refine q.out.mono ?_; rintro e w1 ⟨rfl, he⟩; replace he := hide he)
  try go_ret
  exact h1.out _ (by trivial) he.out
/-- Bytes of a word, or given up. -/
def BytS (s : List UInt8) (m : Nat) (w : World) (e : Ending) (w' : World) : Prop := (e = match readB m s with | some b => .returned (.string ⟨b.toArray⟩) | none => .panicked (wrongP 9)) ∧ Ext w w'
theorem unhex_len2 {s b : List UInt8} (h : unhexS s = some b) : b.length ≤ s.length := by
 have := hexS_len b
 rw [hex_unhex s b h] at this
 omega
set_option maxRecDepth 20000 in
theorem SBytes_any (s : List UInt8) (m : Nat) (hm : m ≤ 1048576) (hs : s.length ≤ 4194304) (w : World) :
    Calls Tryz.prog 69 #[.string ⟨s.toArray⟩, .int .i64 (m : Int)] w (BytS s m w) := by
  by_cases h0 : s = [45]
  · subst h0
    go_enter Tryz.func69, Tryz.ntmps69
    go_wp2
    go_ret
    exact ⟨rfl, Ext.refl _⟩
  have q := WUnhex_any s hs w
  have e1 : (s == [45]) = false := beq_eq_false_iff_ne.2 h0
  have e2 : (s != [45]) = true := by simpa using h0
  have hN : readB m s = match unhexS s with | some b => if b ≠ [] ∧ b.length ≤ m then some b else none | none => none := by unfold readB; rw [if_neg h0]; first | done | (cases unhexS s <;> rfl)
  have hbad : ∀ W, readB m s = none → Ext w W → BytS s m w (.panicked (wrongP 9)) W := fun W h he => ⟨by rw [h], he⟩
  have hok : ∀ W b, readB m s = some b → Ext w W → BytS s m w (.returned (.string ⟨b.toArray⟩)) W := fun W b h he => ⟨by rw [h], he⟩
  generalize BytS s m w = Post at *
  rw [hN] at hbad hok
  unfold UnP at q
  clear hN
  have hul := fun b => unhex_len2 (s := s) (b := b)
  generalize unhexS s = un at *
  replace h0 := hide h0
  replace hs := hide hs
  replace hm := hide hm
  cases hun : un with
  | none =>
    subst hun
    replace q := hide q
    replace hbad := hide hbad
    replace hok := hide hok
    replace hul := hide hul
    go_enter Tryz.func69, Tryz.ntmps69
    go_wp2_with fail
    refine q.out.mono ?_
    rintro e w1 ⟨⟨c, rfl, hc⟩, he⟩
    have hc1 : ¬ c = 0 := fun h => by have := hc.1 h; cases this
    clear hc
    have b1 : (c == 0) = false := beq_eq_false_iff_ne.2 hc1
    have b2 : (c != 0) = true := by simpa using hc1
    have b3 : decide (c = 0) = false := decide_eq_false hc1
    replace he := hide he
    go_wp2_with fail
    refine (give_any _ _).mono ?_
    rintro e w3 ⟨rfl, rfl⟩
    go_wp2
    exact ⟨rfl, hbad.out _ (by trivial) he.out⟩
  | some b =>
    subst hun
    have hbl := hul b rfl
    clear hul
    by_cases hb0 : b = []
    · subst hb0
      replace q := hide q
      replace hbad := hide hbad
      replace hok := hide hok
      go_enter Tryz.func69, Tryz.ntmps69
      go_wp2_with fail
      refine q.out.mono ?_
      rintro e w1 ⟨⟨c, rfl, hc⟩, he⟩
      obtain rfl : c = 0 := hc.2 rfl
      clear hc
      simp only [Option.getD_some]
      replace he := hide he
      go_wp2_with fail
      refine (give_any _ _).mono ?_
      rintro e w3 ⟨rfl, rfl⟩
      go_wp2
      exact ⟨rfl, hbad.out _ (if_neg fun h => h.1 rfl) he.out⟩
    have f1 : (b == []) = false := beq_eq_false_iff_ne.2 hb0
    have f2 : (b != []) = true := by simpa using hb0
    by_cases hl : b.length ≤ m
    · have d1 : decide (m < b.length) = false := decide_eq_false (by have := hm.out; omega)
      have hl' := hide hl
      have hb0' := hide hb0
      clear hl
      replace q := hide q
      replace hbad := hide hbad
      replace hok := hide hok
      replace hbl := hide hbl
      go_enter Tryz.func69, Tryz.ntmps69
      go_wp2_with fail
      refine q.out.mono ?_
      rintro e w1 ⟨⟨c, rfl, hc⟩, he⟩
      obtain rfl : c = 0 := hc.2 rfl
      clear hc
      simp only [Option.getD_some]
      replace he := hide he
      go_wp2
      try go_ret
      exact hok.out _ b (if_pos ⟨hb0'.out, hl'.out⟩) he.out
    · have d1 : decide (m < b.length) = true := decide_eq_true (by have := hm.out; omega)
      have hl' := hide hl
      have hb0' := hide hb0
      clear hl
      replace q := hide q
      replace hbad := hide hbad
      replace hok := hide hok
      replace hbl := hide hbl
      go_enter Tryz.func69, Tryz.ntmps69
      go_wp2_with fail
      refine q.out.mono ?_
      rintro e w1 ⟨⟨c, rfl, hc⟩, he⟩
      obtain rfl : c = 0 := hc.2 rfl
      clear hc
      simp only [Option.getD_some]
      replace he := hide he
      go_wp2_with fail
      refine (give_any _ _).mono ?_
      rintro e w3 ⟨rfl, rfl⟩
      go_wp2
      exact ⟨rfl, hbad.out _ (if_neg fun h => hl'.out h.2) he.out⟩
theorem SWord_any (b : List UInt8) (hb : b.length ≤ 1048576) (w : World) :
    Calls Tryz.prog 51 #[.string ⟨b.toArray⟩] w fun e w' => e = .returned (.string ⟨(wordB b).toArray⟩) ∧ Ext w w' := by
  have q := WHex_any b hb w
  cases b with
  | nil =>
    clear q
    go_enter Tryz.func51, Tryz.ntmps51
    go_wp2
    go_ret
    exact ⟨rfl, Ext.refl _⟩
  | cons x r =>
    have hR : ∀ h W, hexS (x :: r) = h → Ext w W → (Ending.returned (.string ⟨h.toArray⟩) = Ending.returned (.string ⟨(wordB (x :: r)).toArray⟩) ∧ Ext w W) := fun h W hh he => ⟨by unfold wordB; rw [if_neg (by simp), hh], he⟩
    generalize hexS (x :: r) = hx at *
    replace q := hide q
    replace hR := hide hR
    go_enter Tryz.func51, Tryz.ntmps51
    go_wp2_with fail
    refine q.out.mono ?_
    rintro e w1 ⟨rfl, he⟩
    go_wp2
    go_ret
    exact hR.out _ _ rfl he
end
end Go.Proofs.YtkinghadgmbhbaaGreatDoor
