/- Numerals read by the program: strconv.ParseUint to the bases 10 and 16, prim.number. Walks: the library's ParseUint to the base 16 (of 16 bits). Walks: the library's ParseUint to the base 16, public; prim.number to the base 16. Walks: an address read, by the program. Arguments opened: what the form's reading of a type gives, as the words of Base say it; the bound on what is read is used throughout. The arguments of chapter 4's laws, opened. Chapter 15, plain: patterns of atoms, which lists they match; patterns as texts. Chapter 15, plain: names; sets, which may be, what they hold. Data of a fixed number of cells that lead nowhere: rows of the call's own, a whole slice appended. How numbers of 64 bits, bytes as texts, Bools, prefixes, items, atoms and sets lie in memory. Arguments of chapter 15, opened: prefixes, items, atoms, sets. Chapter 35, plain: bytes as hexadecimal digits; events,  -/
import Derived.WalkKit
import Derived.Below
import Derived.Outline
import Derived.LoopTactic
import Derived.Laws.OwnMore
import Derived.Deep.AppendLies
import Derived.Deep.Draws
import Derived.Lib.Hide
import Derived.BigQuiet
import Derived.Deep.QuietTactic
import Derived.WalkSpells
import Derived.WalkLawsBesides
import Derived.Deep.RegionHeld3
import Derived.Deep.DrawnRows
import Derived.Deep.RegionLaw
import Derived.Test.YtkinghadgmbhbaaGreatDoorProg
import Derived.Test.YtkinghadgmbhbaaGreatDoorShelf
import Derived.Lib.ConvBytes
import Derived.Lib.Bytealg
import Derived.Lib.Small
import Derived.Lib.SplitLaws
import Derived.Lib.ParseIntB
import Derived.Lib.ParseIntBCases
import Derived.Lib.ItoaNum
import Derived.Lib.Join
import Derived.Test.YtkinghadgmbhbaaGreatDoorShelf2
import Derived.Lib.UnsafeStr
import Derived.Shelf.RegionOpenPlain
import Derived.Laws.StructEq
import Derived.Lib.QuietBelow
import Derived.Test.YtkinghadgmbhbaaGreatDoorRows
import Derived.ProofKit
import Derived.Deep.Slices
import Derived.Shelf.GgClosure.StringsRunes
import Derived.Lib.ItoaMem
import Derived.Lib.ItoaLen
import Derived.Test.YtkinghadgmbhbaaGreatDoorPE01
namespace Go.Proofs.YtkinghadgmbhbaaGreatDoor
section
open Go.RowKit Go.Sort
set_option linter.unusedVariables false
/-- What reading a numeral answers: a number, and whether it is one in its own form. -/
def NumP (b M : Nat) (s : List UInt8) (w : World) (e : Ending) (w' : World) : Prop :=
 (∃ z : Int, e = .returned (.tuple #[.int .u64 z, .bool (rdN b M s).isSome]) ∧ ∀ n, rdN b M s = some n → z = (n : Int)) ∧ Ext w w'
/-- What ParseUint answers, as far as that goes: no numeral in its own form is refused. -/
def PuP (b M : Nat) (s : List UInt8) (w : World) (e : Ending) (w' : World) : Prop :=
 Ext w w' ∧ ((∃ u : Nat, u ≤ M ∧ e = .returned (.tuple #[.int .u64 (u : Int), .nilIface]) ∧ ∀ n, rdN b M s = some n → n = u) ∨ (rdN b M s = none ∧ ∃ z T p, e = .returned (.tuple #[.int .u64 z, .iface T p])))
theorem rd_dec {B : Nat} (hB : B ≤ 64) {s : List UInt8} {n : Nat} (h : rdN 10 (2 ^ B - 1) s = some n) : Lib.parseUintB B s = .ok n := by
 obtain ⟨h1, h2⟩ := (rdN_iff (by decide) (by decide)).1 h
 rw [← h2, digS_dec]
 have : 0 < 2 ^ B := Nat.pow_pos (by decide)
 exact pub_dec B hB n (by omega)
theorem PU8_any (s : List UInt8) (w : World) (hV : Vars w) (hs : s.length ≤ 1048576) :
  Calls Tryz.prog 85 #[.string ⟨s.toArray⟩, .int .i64 10, .int .i64 8] w (PuP 10 255 s w) := by
 obtain ⟨t1, p1, h1⟩ := hV.es
 obtain ⟨t2, p2, h2⟩ := hV.er
 have hz : (ByteArray.mk s.toArray).size = s.length := ba_size s
 have hrd := fun n => rd_dec (B := 8) (s := s) (n := n) (by decide)
 rcases hp : Lib.parseUintB 8 s with u | _ | _
 ·rw [hp] at hrd
  refine (PU8_ok s u w hs hp).mono ?_
  rintro e w' ⟨rfl, hw⟩
  exact ⟨hw, .inl ⟨u, Lib.parseUintB_le hp, rfl, fun n hn => by have := hrd n hn; injection this with this; exact this.symm⟩⟩
 ·rw [hp] at hrd
  refine (Any.strconv_ParseUint_10_at8_syntax Tryz.laysPu14 ⟨s.toArray⟩ (by omega) hp _ w h1 (.inr ⟨_, _, rfl⟩)).mono ?_
  rintro e w' ⟨N, rfl, _, _, hb⟩
  refine ⟨hb, .inr ⟨?_, _, _, _, rfl⟩⟩
  cases hr : rdN 10 255 s with
  | none => rfl
  | some n => cases hrd n hr
 ·rw [hp] at hrd
  refine (Any.strconv_ParseUint_10_at8_range Tryz.laysPu14 ⟨s.toArray⟩ (by omega) hp _ w h2 (.inr ⟨_, _, rfl⟩)).mono ?_
  rintro e w' ⟨N, rfl, _, _, hb⟩
  refine ⟨hb, .inr ⟨?_, _, _, _, rfl⟩⟩
  cases hr : rdN 10 255 s with
  | none => rfl
  | some n => cases hrd n hr
/- prim.number: ParseUint, and told again. -/
set_option maxRecDepth 20000 in
theorem number_of (b M : Nat) (bits : Int) (h2 : 2 ≤ b) (h16 : b ≤ 16) (s : List UInt8) (w : World)
    (hpu : ∀ W, Ext w W → Calls Tryz.prog 85 #[.string ⟨s.toArray⟩, .int .i64 (b : Int), .int .i64 bits] W (PuP b M s W))
    (hf : ∀ u : Nat, u ≤ M → ∀ W, Ext w W → Calls Tryz.prog 62 #[.int .u64 (u : Int), .int .i64 (b : Int)] W fun e w' => e = .returned (.string ⟨(digS b u).toArray⟩) ∧ Ext W w') :
    Calls Tryz.prog 86 #[.string ⟨s.toArray⟩, .int .i64 (b : Int), .int .i64 bits] w (NumP b M s w) := by
  have hok : ∀ (u : Nat) (W : World), u ≤ M → (∀ n, rdN b M s = some n → n = u) → Ext w W → NumP b M s w (.returned (.tuple #[.int .u64 (u : Int), .bool (digS b u == s)])) W := by
    intro u W hu hn hE
    refine ⟨⟨(u : Int), ?_, fun n h => by rw [hn n h]⟩, hE⟩
    by_cases he : digS b u = s
    · rw [beq_iff_eq.2 he, (rdN_iff h2 h16).2 ⟨hu, he⟩]; rfl
    · rw [beq_eq_false_iff_ne.2 he]
      cases hr : rdN b M s with
      | none => rfl
      | some n =>
        have h1 := hn n hr
        subst h1
        exact absurd ((rdN_iff h2 h16).1 hr).2 he
  have hbad : ∀ (z : Int) (W : World), rdN b M s = none → Ext w W → NumP b M s w (.returned (.tuple #[.int .u64 z, .bool false])) W := by
    intro z W hn hE
    exact ⟨⟨z, by rw [hn]; rfl, fun n h => by rw [hn] at h; cases h⟩, hE⟩
  replace hok := hide hok
  replace hbad := hide hbad
  replace hpu := hide hpu
  replace hf := hide hf
  go_enter Tryz.func86, Tryz.ntmps86
  go_wp2_with fail
  refine (hpu.out _ (Ext.refl _)).mono ?_
  rintro e w1 ⟨he, ⟨u, hu, rfl, hn⟩ | ⟨hn, z, T, p, rfl⟩⟩
  · have hq := fun W h => hf.out u hu W h
    have hr := fun W h => hok.out u W hu hn h
    generalize digS b u = d at hq hr
    replace hq := hide hq
    replace hr := hide hr
    replace hn := hide hn
    replace hu := hide hu
    replace he := hide he
    go_wp2_with fail
    refine (hq.out _ he.out).mono ?_
    rintro e w2 ⟨rfl, he2⟩
    replace he2 := hide (he.out.trans he2)
    go_wp2
    go_ret2
    exact hr.out _ he2.out
  · have hr := fun W h => hbad.out z W hn h
    replace hr := hide hr
    replace hn := hide hn
    replace he := hide he
    go_wp2
    go_ret2
    exact hr.out _ he.out
theorem number10_8 (s : List UInt8) (w : World) (hT : Tab w) (hV : Vars w) (hs : s.length ≤ 1048576) :
  Calls Tryz.prog 86 #[.string ⟨s.toArray⟩, .int .i64 10, .int .i64 8] w (NumP 10 255 s w) :=
 number_of 10 255 8 (by decide) (by decide) s w (fun W h => PU8_any s W (hV.ext h) hs) fun u hu W h => (FormatUint_any u (by omega) W (hT.ext h)).mono fun e w' q => ⟨by rw [q.1]; unfold dec; rw [digS_dec], q.2⟩
open Go.RowKit Go.Sort
theorem low_hex : ∀ c : Fin 256, 97 ≤ c.val → c.val ≤ 102 → c.val ||| 32 = c.val := by decide +kernel
theorem low_small : ∀ c : Fin 256, c.val < 48 → c.val ||| 32 < 97 := by decide +kernel
theorem low_lt : ∀ c : Fin 256, c.val ||| 32 < 256 := by decide +kernel
set_option maxRecDepth 20000 in
theorem Lower_any (c : UInt8) (w : World) : Calls Tryz.prog 122 #[.int .u8 (c.toNat : Int)] w fun e w' => e = .returned (.int .u8 ((c.toNat ||| 32 : Nat) : Int)) ∧ w = w' := by
 have hor : bits .or .u8 (c.toNat : Int) 32 = ((c.toNat ||| 32 : Nat) : Int) := u8_or_nat _ 32 c.toNat_lt (by decide)
 generalize c.toNat ||| 32 = L at hor ⊢
 go_enter Tryz.func122, Tryz.ntmps122
 go_wp2
 go_ret
 exact ⟨rfl, rfl⟩
/-- What the walk needs of one byte: where it goes on, and that a numeral in its own form goes on with its own digit. -/
theorem hex_char {M m : Nat} {s : List UInt8} (h : rdN 16 M s = some m) {k : Nat} (hk : k < s.length) : (48 ≤ s[k].toNat ∧ s[k].toNat ≤ 57 ∧ dval s[k] = s[k].toNat - 48) ∨ (97 ≤ s[k].toNat ∧ s[k].toNat ≤ 102 ∧ s[k].toNat ||| 32 = s[k].toNat ∧ dval s[k] = s[k].toNat - 87) := by
 obtain ⟨_, he⟩ := (rdN_iff (by decide) (by decide)).1 h
 obtain ⟨d, hd, hc⟩ := digS_mem (b := 16) (by decide) (by decide) m s[k] (by rw [he]; exact List.getElem_mem hk)
 have h1 := dgt_toNat (show d < 16 from hd)
 have h2 := dval_dgt (show d < 16 from hd)
 rw [← hc] at h1 h2
 by_cases h10 : d < 10
 ·rw [if_pos h10] at h1
  exact .inl ⟨by omega, by omega, by omega⟩
 ·rw [if_neg h10] at h1
  refine .inr ⟨by omega, by omega, ?_, by omega⟩
  exact low_hex ⟨s[k].toNat, s[k].toNat_lt⟩ (by show 97 ≤ s[k].toNat; omega) (by show s[k].toNat ≤ 102; omega)
/-- What the inner ParseUint answers. -/
def IpP (M : Nat) (s : List UInt8) (w : World) (e : Ending) (w' : World) : Prop :=
 Ext w w' ∧ ((∃ u : Nat, u ≤ M ∧ e = .returned (.tuple #[.int .u64 (u : Int), .nilIface]) ∧ ∀ n, rdN 16 M s = some n → n = u) ∨ (rdN 16 M s = none ∧ ∃ z k, (k = 1 ∨ k = 2) ∧ e = .returned (.tuple #[.int .u64 z, .iface 168 (.int .i64 k)])))
set_option maxRecDepth 20000 in
set_option maxHeartbeats 4000000 in
theorem IPu16 (s : List UInt8) (hs : s.length ≤ 1048576) (w : World) :
  Calls Tryz.prog 106 #[.string ⟨s.toArray⟩, .int .i64 16, .int .i64 16] w (IpP 65535 s w) := by
 have hbad : ∀ (z k : Int) (W : World), rdN 16 65535 s = none → (k = 1 ∨ k = 2) → Ext w W → IpP 65535 s w (.returned (.tuple #[.int .u64 z, .iface 168 (.int .i64 k)])) W := fun z k W h1 h2 h3 => ⟨h3, .inr ⟨h1, z, k, h2, rfl⟩⟩
 have hz : (ByteArray.mk s.toArray).size = s.length := ba_size s
 by_cases hl0 : s.length = 0
 ·have hn : rdN 16 65535 s = none := by rw [List.eq_nil_of_length_eq_zero hl0]; exact rdN_nil (by decide) (by decide)
  have e0 : s = [] := List.eq_nil_of_length_eq_zero hl0
  subst e0
  replace hbad := hide hbad
  replace hn := hide hn
  go_enter Tryz.func106, Tryz.ntmps106
  go_wp2
  go_ret2
  exact hbad.out 0 2 _ hn.out (.inr rfl) (Ext.refl _)
 have kc := fun (w : World) => Lib.run_convert_string_bytes (P := Tryz.prog) w 9 65 5 ⟨s.toArray⟩ Tryz.underlying9 Tryz.underlying65 Tryz.underlying5
 have hne : s.isEmpty = false := by cases s with | nil => exact absurd rfl hl0 | cons _ _ => rfl
 replace hbad := hide hbad
 go_enter Tryz.func106, Tryz.ntmps106
 go_wp2
 have hcv := OwnB.conv (w := w) (e := 5) ⟨s.toArray⟩ (by unfold maxLen; omega)
 have hEc := ext_bytesWorld w 5 ⟨s.toArray⟩
 rw [hz] at hcv
 generalize hc : grownCap w s.length 0 5 = cp at hcv ⊢
 generalize hW : Lib.bytesWorld w 5 ⟨s.toArray⟩ = W1 at hcv hEc
 replace hc := hide hc
 clear kc
 replace hcv := hide hcv
 replace hEc := hide hEc
 replace hz := hide hz
 go_loop [12, 13, 101] (fun b n i => ∃ (k v : Nat), b = .bool false ∧ k ≤ s.length ∧ i = .int .i64 (k : Int) ∧ n = .int .u64 (v : Int) ∧ v ≤ 65535 ∧ ∀ m, rdN 16 65535 s = some m → v = vf 16 (s.take k)) (fun _ _ i => s.length - (intOf i).toNat)
 case atStart => exact ⟨0, 0, rfl, Nat.zero_le _, rfl, rfl, by decide, fun m _ => by rw [List.take_zero]; rfl⟩
 case round =>
  obtain ⟨k, v, rfl, hk, rfl, rfl, hv, hvf⟩ := hrel
  by_cases hlt : k < s.length
  ·obtain ⟨x1, f1⟩ := hcv.out.cell rfl k (by simpa using hlt)
   replace x1 : W1.cell? ⟨w.heap.size, k, none⟩ = some (.int .u8 (s[k].toNat : Int)) := by simpa using x1
   clear f1
   have hch := fun m h => hex_char (M := 65535) (m := m) h hlt
   have hov := fun h => rdN_over (b := 16) (M := 65535) (by decide) (by decide) hlt h
   have hnx := vf_next 16 s k hlt
   have hl1 : s[k].toNat < 48 → s[k].toNat ||| 32 < 97 := fun h => low_small ⟨s[k].toNat, s[k].toNat_lt⟩ h
   have hl2 := low_lt ⟨s[k].toNat, s[k].toNat_lt⟩
   have ql := fun W => Lower_any s[k] W
   have h95 : s[k].toNat = 95 → s[k].toNat ||| 32 = 127 := fun h => by rw [h]; rfl
   simp only [] at hl1 hl2
   have hclt := s[k].toNat_lt
   generalize dval s[k] = dv at hch hov hnx
   generalize s[k].toNat ||| 32 = L at hch hl1 hl2 ql h95
   generalize s[k] = c at x1 hch hl1 ql h95 hclt
   have hcls : (c.toNat < 48 ∧ L < 97) ∨ (48 ≤ c.toNat ∧ c.toNat ≤ 57) ∨ (57 < c.toNat ∧ L < 97) ∨ (57 < c.toNat ∧ 122 < L ∧ c.toNat = 95) ∨ (57 < c.toNat ∧ 122 < L ∧ c.toNat ≠ 95) ∨ (57 < c.toNat ∧ 97 ≤ L ∧ L ≤ 122) := by
    by_cases h1 : c.toNat < 48
    ·exact .inl ⟨h1, hl1 h1⟩
    ·omega
   have hbig : True → decide ((1152921504606846976 : Int) ≤ (v : Int)) = false := fun _ => decide_eq_false (by omega)
   have wv : IntKind.u64.wrap ((v : Int) * 16) = ((v * 16 : Nat) : Int) := by rw [IntKind.wrap_u64]; omega
   have hmul : (v : Int) * 16 = ((v * 16 : Nat) : Int) := by omega
   generalize hvv : v * 16 = vb at wv hmul
   replace hl1 := hide hl1
   replace ql := hide ql
   rcases hcls with ⟨h1, h2⟩ | ⟨h1, h2⟩ | ⟨h1, h2⟩ | ⟨h1, h2, h3⟩ | ⟨h1, h2, h3⟩ | ⟨h1, h2, h3⟩
   ·-- below the digits
    have hn : rdN 16 65535 s = none := by
     cases hr : rdN 16 65535 s with
     | none => rfl
     | some m => rcases hch m hr with h | h <;> omega
    have k1 : decide ((48 : Int) ≤ (c.toNat : Int)) = false := decide_eq_false (by omega)
    have k3 : decide ((97 : Int) ≤ (L : Int)) = false := decide_eq_false (by omega)
    have e95 : ((c.toNat : Int) == 95) = false := by rw [beq_eq_false_iff_ne]; omega
    clear hch hov hnx hvf hvv hmul
    replace hn := hide hn
    replace hv := hide hv
    replace h1 := hide h1
    replace h2 := hide h2
    replace hclt := hide hclt
    replace hl2 := hide hl2
    replace hlt := hlt
    go_wp2_with fail
    refine (ql.out _).mono ?_
    rintro e w_ ⟨rfl, rfl⟩
    go_wp2
    go_ret2
    exact hbad.out _ 2 _ hn.out (.inr rfl) hEc.out
   ·-- a digit
    have k1 : decide ((48 : Int) ≤ (c.toNat : Int)) = true := decide_eq_true (by omega)
    have k2 : decide ((c.toNat : Int) ≤ (57 : Int)) = true := decide_eq_true (by omega)
    have e95 : ((c.toNat : Int) == 95) = false := by rw [beq_eq_false_iff_ne]; omega
    obtain ⟨d, hd⟩ : ∃ d : Nat, c.toNat = d + 48 := ⟨c.toNat - 48, by omega⟩
    have v1 : IntKind.u8.wrap ((c.toNat : Int) - 48) = (d : Int) := by rw [IntKind.wrap_u8]; omega
    have hdv : ∀ m, rdN 16 65535 s = some m → dv = d := fun m h => by rcases hch m h with h | h <;> omega
    have d16 : d < 16 := by omega
    have k5 : decide ((16 : Int) ≤ (d : Int)) = false := decide_eq_false (by omega)
    have wd : IntKind.u64.wrap (d : Int) = (d : Int) := by rw [IntKind.wrap_u64]; omega
    have ws : IntKind.u64.wrap ((vb : Int) + (d : Int)) = ((vb + d : Nat) : Int) := by rw [IntKind.wrap_u64]; omega
    have k6 : decide (((vb + d : Nat) : Int) < (vb : Int)) = false := decide_eq_false (by omega)
    have hnx2 : ∀ m, rdN 16 65535 s = some m → vb + d = vf 16 (s.take (k + 1)) := fun m h => by rw [hnx, ← hvf m h, hdv m h]; omega
    by_cases hover : 65535 < vb + d
    ·have hn : rdN 16 65535 s = none := by
      cases hr : rdN 16 65535 s with
      | none => rfl
      | some m => rw [hov (by rw [← hvf m hr, hdv m hr]; omega)] at hr; cases hr
     have k7 : decide ((65535 : Int) < ((vb + d : Nat) : Int)) = true := decide_eq_true (by omega)
     generalize hvs : vb + d = vs at ws k6 k7
     have hvb : vb ≤ vs := by omega
     clear hch hov hnx hnx2 hvf hvv hmul hdv hvs hover
     replace hn := hide hn
     replace hv := hide hv
     replace h1 := hide h1
     replace h2 := hide h2
     replace hclt := hide hclt
     replace hl2 := hide hl2
     replace hd := hide hd
     go_wp2
     go_ret2
     exact hbad.out _ 1 _ hn.out (.inl rfl) hEc.out
    ·have k7 : decide ((65535 : Int) < ((vb + d : Nat) : Int)) = false := decide_eq_false (by omega)
     have hle : vb + d ≤ 65535 := by omega
     generalize hvs : vb + d = vs at ws k6 k7 hle hnx2
     have hvb : vb ≤ vs := by omega
     clear hch hov hnx hvf hvv hmul hdv hvs hover
     replace hnx2 := hide hnx2
     replace hle := hide hle
     replace hv := hide hv
     replace h1 := hide h1
     replace h2 := hide h2
     replace hclt := hide hclt
     replace hl2 := hide hl2
     replace hd := hide hd
     go_wp2
     go_round
     case rel => exact ⟨k + 1, vs, rfl, by omega, by go_num, rfl, hle.out, hnx2.out⟩
     case measure => simp [intOf]; omega
   ·-- between
    have hn : rdN 16 65535 s = none := by
     cases hr : rdN 16 65535 s with
     | none => rfl
     | some m => rcases hch m hr with h | h <;> omega
    have k1 : decide ((48 : Int) ≤ (c.toNat : Int)) = true := decide_eq_true (by omega)
    have k2 : decide ((c.toNat : Int) ≤ (57 : Int)) = false := decide_eq_false (by omega)
    have k3 : decide ((97 : Int) ≤ (L : Int)) = false := decide_eq_false (by omega)
    have e95 : ((c.toNat : Int) == 95) = false := by rw [beq_eq_false_iff_ne]; omega
    clear hch hov hnx hvf hvv hmul
    replace hn := hide hn
    replace hv := hide hv
    replace h1 := hide h1
    replace h2 := hide h2
    replace hclt := hide hclt
    replace hl2 := hide hl2
    replace hlt := hlt
    go_wp2_with fail
    refine (ql.out _).mono ?_
    rintro e w_ ⟨rfl, rfl⟩
    go_wp2
    go_ret2
    exact hbad.out _ 2 _ hn.out (.inr rfl) hEc.out
   ·-- the underscore
    have hn : rdN 16 65535 s = none := by
     cases hr : rdN 16 65535 s with
     | none => rfl
     | some m => rcases hch m hr with h | h <;> omega
    have k1 : decide ((48 : Int) ≤ (c.toNat : Int)) = true := decide_eq_true (by omega)
    have k2 : decide ((c.toNat : Int) ≤ (57 : Int)) = false := decide_eq_false (by omega)
    have k3 : decide ((97 : Int) ≤ (L : Int)) = true := decide_eq_true (by omega)
    have k4 : decide ((L : Int) ≤ (122 : Int)) = false := decide_eq_false (by omega)
    have e95 : ((c.toNat : Int) == 95) = true := by rw [beq_iff_eq]; omega
    have q95 : ∀ W, Calls Tryz.prog 122 #[.int .u8 95] W fun e w' => e = .returned (.int .u8 127) ∧ W = w' := fun W => by
     have h := ql.out W
     rw [h3, h95 h3] at h
     exact h
    clear k3 k4
    replace q95 := hide q95
    clear hch hov hnx hvf hvv hmul
    replace hn := hide hn
    replace hv := hide hv
    replace h1 := hide h1
    replace h2 := hide h2
    replace hclt := hide hclt
    replace hl2 := hide hl2
    replace hlt := hlt
    go_wp2_with fail
    refine (q95.out _).mono ?_
    rintro e w_ ⟨rfl, rfl⟩
    go_wp2_with fail
    refine (q95.out _).mono ?_
    rintro e w_ ⟨rfl, rfl⟩
    go_wp2
    go_ret2
    exact hbad.out _ 2 _ hn.out (.inr rfl) hEc.out
   ·-- behind
    have hn : rdN 16 65535 s = none := by
     cases hr : rdN 16 65535 s with
     | none => rfl
     | some m => rcases hch m hr with h | h <;> omega
    have k1 : decide ((48 : Int) ≤ (c.toNat : Int)) = true := decide_eq_true (by omega)
    have k2 : decide ((c.toNat : Int) ≤ (57 : Int)) = false := decide_eq_false (by omega)
    have k3 : decide ((97 : Int) ≤ (L : Int)) = true := decide_eq_true (by omega)
    have k4 : decide ((L : Int) ≤ (122 : Int)) = false := decide_eq_false (by omega)
    have e95 : ((c.toNat : Int) == 95) = false := by rw [beq_eq_false_iff_ne]; omega
    clear hch hov hnx hvf hvv hmul
    replace hn := hide hn
    replace hv := hide hv
    replace h1 := hide h1
    replace h2 := hide h2
    replace hclt := hide hclt
    replace hl2 := hide hl2
    replace hlt := hlt
    go_wp2_with fail
    refine (ql.out _).mono ?_
    rintro e w_ ⟨rfl, rfl⟩
    go_wp2_with fail
    refine (ql.out _).mono ?_
    rintro e w_ ⟨rfl, rfl⟩
    go_wp2
    go_ret2
    exact hbad.out _ 2 _ hn.out (.inr rfl) hEc.out
   ·-- a letter
    have k1 : decide ((48 : Int) ≤ (c.toNat : Int)) = true := decide_eq_true (by omega)
    have k2 : decide ((c.toNat : Int) ≤ (57 : Int)) = false := decide_eq_false (by omega)
    have k3 : decide ((97 : Int) ≤ (L : Int)) = true := decide_eq_true (by omega)
    have k4 : decide ((L : Int) ≤ (122 : Int)) = true := decide_eq_true (by omega)
    have e95 : ((c.toNat : Int) == 95) = false := by rw [beq_eq_false_iff_ne]; omega
    obtain ⟨ee, hee⟩ : ∃ d : Nat, L = d + 97 := ⟨L - 97, by omega⟩
    obtain ⟨d, hd⟩ : ∃ d : Nat, d = ee + 10 := ⟨_, rfl⟩
    have v1 : IntKind.u8.wrap ((L : Int) - 97) = (ee : Int) := by rw [IntKind.wrap_u8]; omega
    have v2 : IntKind.u8.wrap ((ee : Int) + 10) = (d : Int) := by rw [IntKind.wrap_u8]; omega
    have hdv : ∀ m, rdN 16 65535 s = some m → dv = d := fun m h => by rcases hch m h with h | h <;> omega
    by_cases d16 : d < 16
    ·skip
     have k5 : decide ((16 : Int) ≤ (d : Int)) = false := decide_eq_false (by omega)
     have wd : IntKind.u64.wrap (d : Int) = (d : Int) := by rw [IntKind.wrap_u64]; omega
     have ws : IntKind.u64.wrap ((vb : Int) + (d : Int)) = ((vb + d : Nat) : Int) := by rw [IntKind.wrap_u64]; omega
     have k6 : decide (((vb + d : Nat) : Int) < (vb : Int)) = false := decide_eq_false (by omega)
     have hnx2 : ∀ m, rdN 16 65535 s = some m → vb + d = vf 16 (s.take (k + 1)) := fun m h => by rw [hnx, ← hvf m h, hdv m h]; omega
     by_cases hover : 65535 < vb + d
     ·have hn : rdN 16 65535 s = none := by
       cases hr : rdN 16 65535 s with
       | none => rfl
       | some m => rw [hov (by rw [← hvf m hr, hdv m hr]; omega)] at hr; cases hr
      have k7 : decide ((65535 : Int) < ((vb + d : Nat) : Int)) = true := decide_eq_true (by omega)
      generalize hvs : vb + d = vs at ws k6 k7
      have hvb : vb ≤ vs := by omega
      clear hch hov hnx hnx2 hvf hvv hmul hdv hvs hover
      replace hn := hide hn
      replace hv := hide hv
      replace h1 := hide h1
      replace h2 := hide h2
      replace hclt := hide hclt
      replace hl2 := hide hl2
      replace hd := hide hd
      go_wp2_with fail
      refine (ql.out _).mono ?_
      rintro e w_ ⟨rfl, rfl⟩
      go_wp2_with fail
      refine (ql.out _).mono ?_
      rintro e w_ ⟨rfl, rfl⟩
      go_wp2_with fail
      refine (ql.out _).mono ?_
      rintro e w_ ⟨rfl, rfl⟩
      go_wp2
      go_ret2
      exact hbad.out _ 1 _ hn.out (.inl rfl) hEc.out
     ·have k7 : decide ((65535 : Int) < ((vb + d : Nat) : Int)) = false := decide_eq_false (by omega)
      have hle : vb + d ≤ 65535 := by omega
      generalize hvs : vb + d = vs at ws k6 k7 hle hnx2
      have hvb : vb ≤ vs := by omega
      clear hch hov hnx hvf hvv hmul hdv hvs hover
      replace hnx2 := hide hnx2
      replace hle := hide hle
      replace hv := hide hv
      replace h1 := hide h1
      replace h2 := hide h2
      replace hclt := hide hclt
      replace hl2 := hide hl2
      replace hd := hide hd
      go_wp2_with fail
      refine (ql.out _).mono ?_
      rintro e w_ ⟨rfl, rfl⟩
      go_wp2_with fail
      refine (ql.out _).mono ?_
      rintro e w_ ⟨rfl, rfl⟩
      go_wp2_with fail
      refine (ql.out _).mono ?_
      rintro e w_ ⟨rfl, rfl⟩
      go_wp2
      go_round
      case rel => exact ⟨k + 1, vs, rfl, by omega, by go_num, rfl, hle.out, hnx2.out⟩
      case measure => simp [intOf]; omega
    ·have hn : rdN 16 65535 s = none := by
      cases hr : rdN 16 65535 s with
      | none => rfl
      | some m => rcases hch m hr with h | h <;> omega
     have k5 : decide ((16 : Int) ≤ (d : Int)) = true := decide_eq_true (by omega)
     clear hch hov hnx hvf hvv hmul
     replace hn := hide hn
     replace hv := hide hv
     replace h1 := hide h1
     replace h2 := hide h2
     replace hclt := hide hclt
     replace hl2 := hide hl2
     replace hlt := hlt
     go_wp2_with fail
     refine (ql.out _).mono ?_
     rintro e w_ ⟨rfl, rfl⟩
     go_wp2_with fail
     refine (ql.out _).mono ?_
     rintro e w_ ⟨rfl, rfl⟩
     go_wp2_with fail
     refine (ql.out _).mono ?_
     rintro e w_ ⟨rfl, rfl⟩
     go_wp2
     go_ret2
     exact hbad.out _ 2 _ hn.out (.inr rfl) hEc.out
  ·obtain rfl : k = s.length := by omega
   rw [List.take_of_length_le (Nat.le_refl _)] at hvf
   have hfin : IpP 65535 s w (.returned (.tuple #[.int .u64 (v : Int), .nilIface])) W1 := ⟨hEc.out, .inl ⟨v, hv, rfl, fun n hn => by
    have h1 := hvf n hn
    obtain ⟨_, he⟩ := (rdN_iff (by decide) (by decide)).1 hn
    rw [h1, ← he, vf_dig (by decide) (by decide)]⟩⟩
   replace hfin := hide hfin
   replace hvf := hide hvf
   replace hW := hide hW
   go_wp2
   go_ret2
   exact hfin.out
open Go.RowKit Go.Sort
theorem toErr_syn (s : List UInt8) (hs : s.length ≤ 1048576) (w : World) (hV : Vars w) :
  Calls Tryz.prog 107 #[.string ⟨#[80, 97, 114, 115, 101, 85, 105, 110, 116]⟩, .string ⟨s.toArray⟩, .int .i64 16, .int .i64 16, .iface 168 (.int .i64 2)] w fun e w' => (∃ T p, e = .returned (.iface T p)) ∧ Ext w w' := by
 obtain ⟨t1, p1, h1⟩ := hV.es
 refine (AnyPu.strconv_toError_syntax { Tryz.laysPu14 with } ⟨#[80, 97, 114, 115, 101, 85, 105, 110, 116]⟩ ⟨s.toArray⟩ 16 16 _ w (by rw [ba_size]; omega) h1 (.inr ⟨_, _, rfl⟩)).mono ?_
 rintro e w' ⟨N, rfl, _, _, hb⟩
 exact ⟨⟨_, _, rfl⟩, hb⟩
theorem toErr_rng (s : List UInt8) (hs : s.length ≤ 1048576) (w : World) (hV : Vars w) :
  Calls Tryz.prog 107 #[.string ⟨#[80, 97, 114, 115, 101, 85, 105, 110, 116]⟩, .string ⟨s.toArray⟩, .int .i64 16, .int .i64 16, .iface 168 (.int .i64 1)] w fun e w' => (∃ T p, e = .returned (.iface T p)) ∧ Ext w w' := by
 obtain ⟨t1, p1, h1⟩ := hV.er
 refine (AnyPu.strconv_toError_range { Tryz.laysPu14 with } ⟨#[80, 97, 114, 115, 101, 85, 105, 110, 116]⟩ ⟨s.toArray⟩ 16 16 _ w (by rw [ba_size]; omega) h1 (.inr ⟨_, _, rfl⟩)).mono ?_
 rintro e w' ⟨N, rfl, _, _, hb⟩
 exact ⟨⟨_, _, rfl⟩, hb⟩
set_option maxRecDepth 20000 in
theorem PU16_any (s : List UInt8) (w : World) (hV : Vars w) (hs : s.length ≤ 1048576) :
  Calls Tryz.prog 85 #[.string ⟨s.toArray⟩, .int .i64 16, .int .i64 16] w (PuP 16 65535 s w) := by
 have hok : ∀ (u : Nat) (W : World), u ≤ 65535 → (∀ n, rdN 16 65535 s = some n → n = u) → Ext w W → PuP 16 65535 s w (.returned (.tuple #[.int .u64 (u : Int), .nilIface])) W := fun u W h1 h2 h3 => ⟨h3, .inl ⟨u, h1, rfl, h2⟩⟩
 have hbad : ∀ (z : Int) T p (W : World), rdN 16 65535 s = none → Ext w W → PuP 16 65535 s w (.returned (.tuple #[.int .u64 z, .iface T p])) W := fun z T p W h1 h2 => ⟨h2, .inr ⟨h1, z, T, p, rfl⟩⟩
 have q := fun W => IPu16 s hs W
 have q1 := fun W h => toErr_syn s hs W h
 have q2 := fun W h => toErr_rng s hs W h
 replace q := hide q
 replace q1 := hide q1
 replace q2 := hide q2
 replace hok := hide hok
 replace hbad := hide hbad
 replace hV := hide hV
 replace hs := hide hs
 go_enter Tryz.func85, Tryz.ntmps85
 go_wp2_with fail
 refine (q.out _).mono ?_
 rintro e w1 ⟨he, ⟨u, hu, rfl, hn⟩ | ⟨hn, z, k, hk, rfl⟩⟩
 ·have hr := hok.out u w1 hu hn he
  replace hr := hide hr
  replace hn := hide hn
  replace hu := hide hu
  replace he := hide he
  go_wp2
  go_ret2
  exact hr.out
 ·replace hn := hide hn
  replace he := hide he
  rcases hk with rfl | rfl
  ·go_wp2_with fail
   refine (q2.out _ (hV.out.ext he.out)).mono ?_
   rintro e w2 ⟨⟨T, p, rfl⟩, he2⟩
   have hr := hbad.out z T p w2 hn.out (he.out.trans he2)
   replace hr := hide hr
   clear he2
   go_wp2
   go_ret2
   exact hr.out
  ·go_wp2_with fail
   refine (q1.out _ (hV.out.ext he.out)).mono ?_
   rintro e w2 ⟨⟨T, p, rfl⟩, he2⟩
   have hr := hbad.out z T p w2 hn.out (he.out.trans he2)
   replace hr := hide hr
   clear he2
   go_wp2
   go_ret2
   exact hr.out
theorem number16 (s : List UInt8) (w : World) (hD : Deb w) (hV : Vars w) (hs : s.length ≤ 1048576) :
  Calls Tryz.prog 86 #[.string ⟨s.toArray⟩, .int .i64 16, .int .i64 16] w (NumP 16 65535 s w) :=
 number_of 16 65535 16 (by decide) (by decide) s w (fun W h => PU16_any s W (hV.ext h) hs) fun u hu W h => Format16 u (by omega) W (hD.ext h)
open Go.RowKit Go.Sort
theorem spl_len (c : UInt8) (s : List UInt8) : ∀ x ∈ spl c s, x.length ≤ s.length := by
 refine spl_ind (P := fun s => ∀ x ∈ spl c s, x.length ≤ s.length) c (fun s h x hx => ?_) (fun a b h ih x hx => ?_) s.length s (Nat.le_refl _)
 ·rw [spl_no h] at hx
  rw [List.mem_singleton.1 hx]
  exact Nat.le_refl _
 ·rw [spl_at h] at hx
  rcases List.mem_cons.1 hx with rfl | hx
  ·simp
  ·have := ih x hx
   simp
   omega
theorem unpair_len : ∀ l : List Nat, (l.flatMap unpair).length = 2 * l.length
 | [] => rfl
 | n :: l => by rw [List.flatMap_cons, List.length_append, unpair_len l]; simp [unpair]; omega
theorem byte_new2 (w : World) (b1 b2 : UInt8) (t : TypeId) : ∀ j (hj : j < [b1, b2].length), (w.alloc (.cells #[.int .u8 (b1.toNat : Int), .int .u8 (b2.toNat : Int)] t)).cell? ((⟨w.heap.size, 0, none⟩ : Addr).add j) = some (.int .u8 ([b1, b2][j].toNat : Int)) := by
 intro j hj
 have hj2 : j < 2 := hj
 refine cells_new w #[.int .u8 (b1.toNat : Int), .int .u8 (b2.toNat : Int)] t j _ ?_
 match j, hj2 with
 | 0, _ => rfl
 | 1, _ => rfl
/-- What reading an address answers. -/
def AdP (s : List UInt8) (w : World) (e : Ending) (w' : World) : Prop := e = .returned (.tuple #[.string ⟨(addrC s).1.toArray⟩, .int .i64 (addrC s).2]) ∧ Ext w w'
theorem AdP.of {s a : List UInt8} {c : Int} {w W : World} (h : addrC s = (a, c)) (hE : Ext w W) : AdP s w (.returned (.tuple #[.string ⟨a.toArray⟩, .int .i64 c])) W := ⟨by rw [h], hE⟩
set_option maxRecDepth 20000 in
set_option maxHeartbeats 2000000 in
theorem AAddr4_any (s : List UInt8) (hs : s.length ≤ 1048576) (h4 : (spl 46 s).length = 4) (w : World) (hT : Tab w) (hV : Vars w) :
    Calls Tryz.prog 67 #[.string ⟨s.toArray⟩] w (AdP s w) := by
  have hS := Split_any s 46 w hV hs
  have hnum := fun (x : List UInt8) (hx : x ∈ spl 46 s) W (h : Ext w W) => number10_8 x W (hT.ext h) (hV.ext h) (Nat.le_trans (spl_len 46 s x hx) hs)
  have hC : addrC s = (match rdAll 10 255 (spl 46 s) with | some l => (l.map UInt8.ofNat, 0) | none => ([], 4)) := if_pos h4
  generalize spl 46 s = P at hS hnum hC h4
  replace hS := hide hS
  replace hnum := hide hnum
  replace hC := hide hC
  clear hT hV
  go_enter Tryz.func67, Tryz.ntmps67
  go_wp2_with fail
  refine hS.out.mono ?_
  rintro e w1 ⟨d, hd4, rfl, hEw, hc1⟩
  rw [h4] at hd4
  rw [h4]
  clear hS
  replace hc1 := hide hc1
  replace hEw := hide hEw
  replace hd4 := hd4
  generalize hg1 : w.heap.size = g1 at hc1
  go_wp2_with fail
  clear hg1
  go_loopw [4, 22] (fun v q wr => ∃ (k : Nat) (ns : List Nat), k ≤ 4 ∧ q = .int .i64 (k : Int) ∧ rdAll 10 255 (P.take k) = some ns ∧ ns.length = k ∧ OwnB 5 wr w1.heap.size v (ns.map UInt8.ofNat) ∧ Ext w1 wr) (fun _ q _ => 4 - (intOf q).toNat)
  case atStart => exact ⟨0, [], by omega, rfl, by rw [List.take_zero]; rfl, rfl, OwnB.nil, Ext.refl _⟩
  case round =>
    obtain ⟨k, ns, hk, rfl, hrd, hnl, hown, hE⟩ := hrel
    rename World => W0
    have hz0 := hE.size
    obtain ⟨vo, dd, rfl⟩ := hown.form
    have hlk : (ns.map UInt8.ofNat).length = k := by rw [List.length_map, hnl]
    rw [hlk] at hown ⊢
    replace hlk := hide hlk
    replace hE := hide hE
    replace hown := hide hown
    by_cases hlt : k < 4
    · have hkP : k < P.length := by omega
      have x0 : W0.cell? ⟨g1, k, none⟩ = some (.string ⟨(P[k]'hkP).toArray⟩) := hE.out.cell (hc1.out k hkP)
      have hn := hnum.out (P[k]'hkP) (List.getElem_mem hkP) W0 (hEw.out.trans hE.out)
      have hbad : rdN 10 255 (P[k]'hkP) = none → addrC s = ([], 4) := fun h => by rw [hC.out, rdAll_bad (List.getElem_mem hkP) h]
      have hnx := fun n (h : rdN 10 255 (P[k]'hkP) = some n) => rdAll_next hkP hrd h
      have hmost := fun n (h : rdN 10 255 (P[k]'hkP) = some n) => ((rdN_iff (b := 10) (by decide) (by decide)).1 h).1
      generalize (P[k]'hkP) = wd at x0 hn hbad hnx hmost
      replace hrd := hide hrd
      replace hnl := hide hnl
      cases hr : rdN 10 255 wd with
      | none =>
        have hb := hbad hr
        clear hbad hmost hnx
        replace hb := hide hb
        unfold NumP at hn
        rw [hr] at hn
        replace hn := hide hn
        replace hr := hide hr
        go_wp2_with fail
        refine hn.out.mono ?_
        rintro e w3 ⟨⟨z, rfl, _⟩, he3⟩
        have hE3 := hide (hEw.out.trans (hE.out.trans he3))
        clear he3
        go_wp2
        go_ret2
        exact AdP.of hb.out hE3.out
      | some n =>
        have hm := hmost n hr
        have hnx2 := hnx n hr
        clear hbad hmost hnx
        unfold NumP at hn
        rw [hr] at hn
        replace hn := hide hn
        replace hr := hide hr
        have hw8 : IntKind.u8.wrap (n : Int) = ((UInt8.ofNat n).toNat : Int) := by rw [IntKind.wrap_u8, UInt8.toNat_ofNat']; omega
        have hap : ns.map UInt8.ofNat ++ [UInt8.ofNat n] = (ns ++ [n]).map UInt8.ofNat := by simp
        generalize hu : UInt8.ofNat n = u at hw8 hap
        replace hu := hide hu
        replace hap := hide hap
        replace hnx2 := hide hnx2
        replace hm := hide hm
        go_wp2_with fail
        refine hn.out.mono ?_
        rintro e w3 ⟨⟨z, rfl, hz⟩, he3⟩
        obtain rfl := hz n rfl
        have hown3 := hide (hown.out.ext he3)
        have hE3 := hide (hE.out.trans he3)
        have hz3 := he3.size
        clear he3 hz
        go_wp2_with (at_builtin
                     have hox := hown3.out.alloc (Obj.cells #[.int .u8 (u.toNat : Int)] 5)
                     refine wpList_appendB rfl _ _ _ rfl okB8 okB8z rfl hox (by simp; omega) [u] rfl (by rw [hlk.out]; simp; omega) (byte_new _ _ _) ?_
                     intro v' w5 hown1 hg hat)
        go_roundw
        case rel => exact ⟨k + 1, ns ++ [n], by omega, by go_num, hnx2.out, by simp [hnl.out], by rw [← hap.out]; exact hown1, (hE3.out.alloc _).push (fun j hj => (hown3.out.lt j hj).1) hg⟩
        case measure => simp [intOf]; omega
    · obtain rfl : k = 4 := by omega
      rw [List.take_of_length_le (by omega)] at hrd
      have hfin : addrC s = (ns.map UInt8.ofNat, 0) := by rw [hC.out, hrd]
      have kd := run_stringB (P := Tryz.prog) (src := 65) (dst := 9) Tryz.underlying65 Tryz.underlying5 Tryz.underlying9 hown.out
      replace hfin := hide hfin
      replace hrd := hide hrd
      replace hnl := hide hnl
      go_wp2
      go_ret2
      exact AdP.of hfin.out (hEw.out.trans hE.out)
set_option maxRecDepth 20000 in
set_option maxHeartbeats 2000000 in
theorem AAddr16_any (s : List UInt8) (hs : s.length ≤ 1048576) (h4 : (spl 46 s).length ≠ 4) (w : World) (hD : Deb w) (hV : Vars w) :
    Calls Tryz.prog 67 #[.string ⟨s.toArray⟩] w (AdP s w) := by
  have hS := Split_any s 46 w hV hs
  have b4 : ((((spl 46 s).length : Nat) : Int) == 4) = false := by rw [beq_eq_false_iff_ne]; omega
  have hS2 := fun W (h : Ext w W) => Split_any s 58 W (hV.ext h) hs
  have hnum := fun (x : List UInt8) (hx : x ∈ spl 58 s) W (h : Ext w W) => number16 x W (hD.ext h) (hV.ext h) (Nat.le_trans (spl_len 58 s x hx) hs)
  by_cases h8 : (spl 58 s).length = 8
  · have hC : addrC s = (match rdAll 16 65535 (spl 58 s) with | some l => (l.flatMap unpair, 0) | none => ([], 4)) := by unfold addrC; rw [if_neg h4, if_pos h8]; first | done | (cases rdAll 16 65535 (spl 58 s) <;> rfl)
    generalize spl 46 s = P4 at b4 hS h4
    generalize spl 58 s = P at hS2 hnum hC h8
    replace hS := hide hS
    replace hS2 := hide hS2
    replace hnum := hide hnum
    replace hC := hide hC
    clear hD hV
    have h4' : ¬ P4.length = 4 := h4
    go_enter Tryz.func67, Tryz.ntmps67
    go_wp2_with fail
    refine hS.out.mono ?_
    rintro e w1 ⟨d, hd4, rfl, hEw1, _⟩
    replace hEw1 := hide hEw1
    go_wp2_with fail
    refine (hS2.out _ hEw1.out).mono ?_
    rintro e w2 ⟨d2, hd8, rfl, hEw2, hc1⟩
    have hEw := hide (hEw1.out.trans hEw2)
    clear hEw2 hEw1
    rw [h8] at hd8
    rw [h8]
    clear hS hS2
    replace hc1 := hide hc1
    generalize hg2 : w1.heap.size = g2 at hc1
    go_wp2_with fail
    clear hg2
    go_loopw [4, 48] (fun v q wr => ∃ (k : Nat) (ns : List Nat), k ≤ 8 ∧ q = .int .i64 (k : Int) ∧ rdAll 16 65535 (P.take k) = some ns ∧ ns.length = k ∧ OwnB 5 wr w2.heap.size v (ns.flatMap unpair) ∧ Ext w2 wr) (fun _ q _ => 8 - (intOf q).toNat)
    case atStart => exact ⟨0, [], by omega, rfl, by rw [List.take_zero]; rfl, rfl, OwnB.nil, Ext.refl _⟩
    case round =>
      obtain ⟨k, ns, hk, rfl, hrd, hnl, hown, hE⟩ := hrel
      rename World => W0
      have hz0 := hE.size
      obtain ⟨vo, dd, rfl⟩ := hown.form
      have hlk : (ns.flatMap unpair).length = 2 * k := by rw [unpair_len, hnl]
      rw [hlk] at hown ⊢
      replace hlk := hide hlk
      replace hE := hide hE
      replace hown := hide hown
      by_cases hlt : k < 8
      · have hkP : k < P.length := by omega
        have x0 : W0.cell? ⟨g2, k, none⟩ = some (.string ⟨(P[k]'hkP).toArray⟩) := hE.out.cell (hc1.out k hkP)
        have hn := hnum.out (P[k]'hkP) (List.getElem_mem hkP) W0 (hEw.out.trans hE.out)
        have hbad : rdN 16 65535 (P[k]'hkP) = none → addrC s = ([], 4) := fun h => by rw [hC.out, rdAll_bad (List.getElem_mem hkP) h]
        have hnx := fun n (h : rdN 16 65535 (P[k]'hkP) = some n) => rdAll_next hkP hrd h
        have hmost := fun n (h : rdN 16 65535 (P[k]'hkP) = some n) => ((rdN_iff (b := 16) (by decide) (by decide)).1 h).1
        generalize (P[k]'hkP) = wd at x0 hn hbad hnx hmost
        replace hrd := hide hrd
        replace hnl := hide hnl
        cases hr : rdN 16 65535 wd with
        | none =>
          have hb := hbad hr
          clear hbad hmost hnx
          replace hb := hide hb
          unfold NumP at hn
          rw [hr] at hn
          replace hn := hide hn
          replace hr := hide hr
          go_wp2_with fail
          refine hn.out.mono ?_
          rintro e w3 ⟨⟨z, rfl, _⟩, he3⟩
          have hE3 := hide (hEw.out.trans (hE.out.trans he3))
          clear he3
          go_wp2
          go_ret2
          exact AdP.of hb.out hE3.out
        | some n =>
          have hm := hmost n hr
          have hnx2 := hnx n hr
          clear hbad hmost hnx
          unfold NumP at hn
          rw [hr] at hn
          replace hn := hide hn
          replace hr := hide hr
          have hw8 : IntKind.u8.wrap (n : Int) = ((UInt8.ofNat n).toNat : Int) := by rw [IntKind.wrap_u8, UInt8.toNat_ofNat']; omega
          have hw9 : IntKind.u8.wrap ((n : Int) / 256) = ((UInt8.ofNat (n / 256)).toNat : Int) := by rw [IntKind.wrap_u8, UInt8.toNat_ofNat']; omega
          have hap : ns.flatMap unpair ++ [UInt8.ofNat (n / 256), UInt8.ofNat n] = (ns ++ [n]).flatMap unpair := by simp [unpair]
          generalize hu : UInt8.ofNat n = u at hw8 hap
          generalize hu2 : UInt8.ofNat (n / 256) = u2 at hw9 hap
          replace hu := hide hu
          replace hu2 := hide hu2
          replace hap := hide hap
          replace hnx2 := hide hnx2
          replace hm := hide hm
          go_wp2_with fail
          refine hn.out.mono ?_
          rintro e w3 ⟨⟨z, rfl, hz⟩, he3⟩
          obtain rfl := hz n rfl
          have hown3 := hide (hown.out.ext he3)
          have hE3 := hide (hE.out.trans he3)
          have hz3 := he3.size
          clear he3 hz
          go_wp2_with (at_builtin
                       have hox := hown3.out.alloc (Obj.cells #[.int .u8 (u2.toNat : Int), .int .u8 (u.toNat : Int)] 5)
                       refine wpList_appendB rfl _ _ _ rfl okB8 okB8z rfl hox (by simp; omega) [u2, u] rfl (by rw [hlk.out]; simp; omega) (byte_new2 _ _ _ _) ?_
                       intro v' w5 hown1 hg hat)
          go_roundw
          case rel => exact ⟨k + 1, ns ++ [n], by omega, by go_num, hnx2.out, by simp [hnl.out], by rw [← hap.out]; exact hown1, (hE3.out.alloc _).push (fun j hj => (hown3.out.lt j hj).1) hg⟩
          case measure => simp [intOf]; omega
      · obtain rfl : k = 8 := by omega
        rw [List.take_of_length_le (by omega)] at hrd
        have hfin : addrC s = (ns.flatMap unpair, 0) := by rw [hC.out, hrd]
        have kd := run_stringB (P := Tryz.prog) (src := 65) (dst := 9) Tryz.underlying65 Tryz.underlying5 Tryz.underlying9 hown.out
        replace hfin := hide hfin
        replace hrd := hide hrd
        replace hnl := hide hnl
        go_wp2
        go_ret2
        exact AdP.of hfin.out (hEw.out.trans hE.out)
  · have hC : addrC s = ([], 4) := by unfold addrC; rw [if_neg h4, if_neg h8]
    have b8 : ((((spl 58 s).length : Nat) : Int) != 8) = true := by rw [bne_iff_ne]; omega
    have h8' : ¬ (((spl 58 s).length : Nat) : Int) = 8 := by omega
    clear hnum
    generalize spl 46 s = P4 at b4 hS h4
    generalize spl 58 s = P8 at b8 hS2 h8 h8'
    replace hS := hide hS
    replace hS2 := hide hS2
    replace hC := hide hC
    clear hD hV
    go_enter Tryz.func67, Tryz.ntmps67
    go_wp2_with fail
    refine hS.out.mono ?_
    rintro e w1 ⟨d, hd4, rfl, hEw1, _⟩
    replace hEw1 := hide hEw1
    go_wp2_with fail
    refine (hS2.out _ hEw1.out).mono ?_
    rintro e w2 ⟨d2, hd8, rfl, hEw2, _⟩
    have hEw := hide (hEw1.out.trans hEw2)
    clear hEw2 hEw1
    go_wp2
    go_ret2
    exact AdP.of hC.out hEw.out
theorem AAddr_any (s : List UInt8) (hs : s.length ≤ 1048576) (w : World) (hT : Tab w) (hD : Deb w) (hV : Vars w) :
  Calls Tryz.prog 67 #[.string ⟨s.toArray⟩] w (AdP s w) := by
 by_cases h4 : (spl 46 s).length = 4
 ·exact AAddr4_any s hs h4 w hT hV
 ·exact AAddr16_any s hs h4 w hD hV
end
section
open Go.RowKit Go.ChangeShapes Go.WideShapes Go.Deep
set_option linter.unusedVariables false
theorem bulk_part {H : Type} {d : DataW H} {l : List (DataW H)} (h : d ∈ l) : Rows.uptoBulk d ≤ Rows.uptoBulkAll l := by
  induction l with
  | nil => cases h
  | cons x r ih =>
    simp only [Rows.uptoBulkAll]
    rcases List.mem_cons.1 h with e | e
    · subst e; omega
    · have := ih e; omega
/-- What is read as type T reads as E says. -/
def Opens {α : Type} (P : Program) (T : TypeId) (E : Enc α) : Prop :=
 P.cellsOf T = E.sz ∧ ∀ {H : Type} (enc : TypeId × Value → H) (W : World) (fuel : Nat) (cs : List Value) (x : DataW H × List MemPlace), DataW.trod enc P W 0 (fun _ => true) true fuel T cs = some x → Rows.uptoBulk x.1 ≤ 1048576 →
  ∃ y, E.R W (fun b => b < W.heap.size) y cs
section
variable {P : Program} {T : TypeId}
theorem opens_i64 (h : P.underlying T = some (.int .i64)) (hc : P.cellsOf T = 1) : Opens P T EI64 := by
 refine ⟨hc, fun enc W fuel cs x hx _ => ?_⟩
 obtain ⟨n, rfl, _, hw⟩ := DataW.trod_int h hx
 have : -9223372036854775808 ≤ n ∧ n ≤ 9223372036854775807 := by simpa [Lit.wf, IntKind.min, IntKind.max, IntKind.signed, IntKind.bits] using hw
 exact ⟨n, rfl, this⟩
theorem opens_u32 (h : P.underlying T = some (.int .u32)) (hc : P.cellsOf T = 1) : Opens P T EU32 := by
 refine ⟨hc, fun enc W fuel cs x hx _ => ?_⟩
 obtain ⟨n, rfl, _, hw⟩ := DataW.trod_int h hx
 have : 0 ≤ n ∧ n ≤ 4294967295 := by simpa [Lit.wf, IntKind.min, IntKind.max, IntKind.signed, IntKind.bits] using hw
 refine ⟨UInt32.ofNat n.toNat, ?_, trivial⟩
 have : ((UInt32.ofNat n.toNat).toNat : Int) = n := by rw [UInt32.toNat_ofNat']; omega
 show [Value.int .u32 n] = [Value.int .u32 _]
 rw [this]
/-- A struct's fields from number i on, which lies at cell off. -/
def OpensF {α : Type} (P : Program) (fs : Array Field) (tot i off : Nat) (E : Enc α) : Prop :=
  ∀ (H : Type) (enc : TypeId × Value → H) (W : World) (n : Nat) (cs : List Value) (xs : List (DataW H × List MemPlace)), cs.length = tot → Rows.uptoBulkAll (xs.map (·.1)) ≤ 1048576 → xs.length = fs.size →
    (∀ (j : Nat) (f : Field), fs[j]? = some f → DataW.trod enc P W 0 (fun _ => true) true n f.type ((cs.drop f.offset).take (P.cellsOf f.type)) = xs[j]?) → ∃ y, E.R W (fun b => b < W.heap.size) y (cs.drop off)
theorem field_opens {α : Type} {E : Enc α} {fs : Array Field} {i : Nat} {f : Field} (hf : fs[i]? = some f) (hE : Opens P f.type E) {H : Type} {enc : TypeId × Value → H} {W : World} {n : Nat} {cs : List Value} {xs : List (DataW H × List MemPlace)}
  (hb : Rows.uptoBulkAll (xs.map (·.1)) ≤ 1048576) (hx : xs.length = fs.size)
  (h : ∀ (j : Nat) (f : Field), fs[j]? = some f → DataW.trod enc P W 0 (fun _ => true) true n f.type ((cs.drop f.offset).take (P.cellsOf f.type)) = xs[j]?) : ∃ y, E.R W (fun b => b < W.heap.size) y ((cs.drop f.offset).take (P.cellsOf f.type)) := by
 have hi : i < xs.length := by rw [hx]; exact (Array.getElem?_eq_some_iff.1 hf).1
 have h1 := h i f hf
 rw [List.getElem?_eq_getElem hi] at h1
 exact hE.2 enc W n _ _ h1 (Nat.le_trans (bulk_part (List.mem_map.2 ⟨xs[i], List.getElem_mem hi, rfl⟩)) hb)
theorem opensF_last {α : Type} {E : Enc α} {fs : Array Field} {tot i off : Nat} {f : Field} (hf : fs[i]? = some f) (ho : f.offset = off) (hE : Opens P f.type E) (ht : off + E.sz = tot) : OpensF P fs tot i off E := by
 intro H enc W n cs xs hcl hb hx h
 obtain ⟨y, hy⟩ := field_opens hf hE hb hx h
 refine ⟨y, ?_⟩
 rw [ho, hE.1, List.take_of_length_le (by simp; omega)] at hy
 exact hy
theorem opensF_cons {α β : Type} {E : Enc α} {F : Enc β} {fs : Array Field} {tot i off : Nat} {f : Field} (hf : fs[i]? = some f) (ho : f.offset = off) (hE : Opens P f.type E) (hF : OpensF P fs tot (i + 1) (off + E.sz) F) : OpensF P fs tot i off (E.pair F) := by
 intro H enc W n cs xs hcl hb hx h
 obtain ⟨y, hy⟩ := field_opens hf hE hb hx h
 obtain ⟨z, hz⟩ := hF _ enc W n cs xs hcl hb hx h
 refine ⟨(y, z), (cs.drop off).take E.sz, cs.drop (off + E.sz), ?_, ?_, hz⟩
 ·rw [← List.drop_drop, List.take_append_drop]
 ·rw [ho, hE.1] at hy; exact hy
theorem opens_struct {α : Type} {E : Enc α} {fs : Array Field} (h : P.underlying T = some (.struct fs)) (hc : P.cellsOf T = E.sz) (hF : OpensF P fs E.sz 0 0 E) : Opens P T E := by
 refine ⟨hc, fun enc W fuel cs x hx hb => ?_⟩
 obtain ⟨xs, n, _, rfl, hcl, hxl, hall⟩ := DataW.trod_struct h hx
 have := hF _ enc W n cs xs (by rw [hcl, hc]) (by simp only [Rows.uptoBulk] at hb; omega) hxl hall
 simpa using this
end
open Go.RowKit
theorem opens_u32_ : Opens Tryz.prog 29 EU32 := opens_u32 Tryz.underlying29 (by kernel_rfl)
theorem opens_int : Opens Tryz.prog 3 EI64 := opens_i64 Tryz.underlying3 (by kernel_rfl)
end
section
set_option linter.unusedVariables false
/-- An atom: its kind, its AS. -/
abbrev Atm := Int × UInt32
def starS (f : List UInt32 → Bool) : List UInt32 → Bool
 | [] => f []
 | x :: t => f (x :: t) || starS f t
/-- Does a pattern match a list? -/
def matS : List Atm → List UInt32 → Bool
 | [], l => l.isEmpty
 | a :: p, l => if a.1 = 3 then starS (matS p) l else if a.1 = 2 then (match l with | [] => false | _ :: t => matS p t) else (match l with | [] => false | x :: t => decide (x = a.2) && matS p t)
/-- One atom takes the ASs from k to m. -/
def stepA (a : Atm) (l : List UInt32) (k m : Nat) : Bool := if a.1 = 3 then decide (k ≤ m) else if a.1 = 2 then decide (m = k + 1) else decide (m = k + 1 ∧ l[k]? = some a.2)
/-- .. and while the next row is filled, behind the first k places. -/
def fillA (p : List Atm) (l : List UInt32) (i : Nat) (a : Atm) (k : Nat) : List Bool := (List.range (l.length + 1)).map fun m => (List.range k).any fun j => matS (p.take i) (l.take j) && stepA a l j m
/-! ### what SetsStars asks -/
/-! ### patterns as texts -/
def runeOk (x : Nat) : Bool := (decide (97 ≤ x) && decide (x ≤ 122)) || ((decide (48 ≤ x) && decide (x ≤ 57)) || decide (x = 45))
def nameCh (c : UInt8) : Bool := runeOk c.toNat
/-- May it be a name? -/
def nameOk (s : List UInt8) : Bool := decide (1 ≤ s.length) && (decide (s.length ≤ 16) && (decide (97 ≤ (s.headD 0).toNat) && s.all nameCh))
/-- An item of a set of prefixes. -/
structure Itm where
  p : Pfx
  low : Int
  high : Int
def itmOk (x : Itm) : Prop := MayP x.p ∧ x.p.len ≤ x.low ∧ x.low ≤ x.high ∧ x.high ≤ 8 * sizeS x.p.fam
noncomputable instance (x : Itm) : Decidable (itmOk x) := Classical.propDecidable _
/-- A set. -/
structure StS where
  name : List UInt8
  kind : Int
  items : List Itm
  comms : List UInt32
  paths : List (List Atm)
open Go.RowKit
def Enc.cells {α : Type} (f : α → List Value) (P : α → Prop) (n : Nat) (hn : ∀ x, (f x).length = n) (h1 : ∀ x, ∀ u ∈ f x, u.oneCell' = true) : Enc α where
 R _ _ x cs := cs = f x ∧ P x
 sz := n
 size h := by rw [h.1]; exact hn _
 one := by rintro w S x cs ⟨rfl, _⟩ u hu; exact h1 x u hu
 frame _ h := h
 mono _ h := h
section
variable {α : Type} {f : α → List Value} {P : α → Prop} {n : Nat} {hn : ∀ x, (f x).length = n} {h1 : ∀ x, ∀ u ∈ f x, u.oneCell' = true} {w w' : World} {B : Nat} {v : Value} {l : List α} {e : TypeId} {S : Nat → Prop} {a : Option Addr}
end
def EU64 : Enc Nat := Enc.flat (fun n => .int .u64 (n : Int)) (fun n => n ≤ 18446744073709551615) (fun _ => rfl)
def EByt : Enc (List UInt8) := Enc.flat (fun l => .string ⟨l.toArray⟩) (fun l => l.length ≤ 1048576) (fun _ => rfl)
def pfxCs (p : Pfx) : List Value := [.int .i64 p.fam, .int .u64 (p.rd : Int), .string ⟨p.addr.toArray⟩, .int .i64 p.len]
def itmCs (x : Itm) : List Value := [.int .i64 x.p.fam, .int .u64 (x.p.rd : Int), .string ⟨x.p.addr.toArray⟩, .int .i64 x.p.len, .int .i64 x.low, .int .i64 x.high]
def atmCs (a : Atm) : List Value := [.int .i64 a.1, .int .u32 (a.2.toNat : Int)]
def i64 (x : Int) : Prop := -9223372036854775808 ≤ x ∧ x ≤ 9223372036854775807
structure PfxIn (p : Pfx) : Prop where
  fam : i64 p.fam
  rd : p.rd ≤ 18446744073709551615
  addr : p.addr.length ≤ 1048576
  len : i64 p.len
structure ItmIn (x : Itm) : Prop where
  p : PfxIn x.p
  low : i64 x.low
  high : i64 x.high
def EPfx : Enc Pfx := Enc.cells pfxCs PfxIn 4 (fun _ => rfl) (fun x u hu => by simp only [pfxCs, List.mem_cons, List.not_mem_nil, or_false] at hu; rcases hu with rfl | rfl | rfl | rfl <;> rfl)
def EItm : Enc Itm := Enc.cells itmCs ItmIn 6 (fun _ => rfl) (fun x u hu => by simp only [itmCs, List.mem_cons, List.not_mem_nil, or_false] at hu; rcases hu with rfl | rfl | rfl | rfl | rfl | rfl <;> rfl)
def EAtm : Enc Atm := Enc.cells atmCs (fun a => i64 a.1) 2 (fun _ => rfl) (fun x u hu => by simp only [atmCs, List.mem_cons, List.not_mem_nil, or_false] at hu; rcases hu with rfl | rfl <;> rfl)
theorem EPfx.of {w : World} {S : Nat → Prop} {p : Pfx} {cs : List Value} (h : ((EI64.pair (EU64.pair (EByt.pair EI64))).map fun p : Pfx => (p.fam, p.rd, p.addr, p.len)).R w S p cs) : EPfx.R w S p cs := by
 obtain ⟨c, d, rfl, ⟨rfl, h1⟩, c, d, rfl, ⟨rfl, h2⟩, c, d, rfl, ⟨rfl, h3⟩, ⟨rfl, h4⟩⟩ := h
 exact ⟨rfl, h1, h2, h3, h4⟩
theorem EItm.of {w : World} {S : Nat → Prop} {x : Itm} {cs : List Value} (h : ((EPfx.pair (EI64.pair EI64)).map fun x : Itm => (x.p, x.low, x.high)).R w S x cs) : EItm.R w S x cs := by
 obtain ⟨c, d, rfl, ⟨rfl, h1⟩, c, d, rfl, ⟨rfl, h2⟩, ⟨rfl, h3⟩⟩ := h
 exact ⟨rfl, h1, h2, h3⟩
theorem EAtm.of {w : World} {S : Nat → Prop} {x : Atm} {cs : List Value} (h : (EI64.pair EU32).R w S x cs) : EAtm.R w S x cs := by
 obtain ⟨c, d, rfl, ⟨rfl, h1⟩, ⟨rfl, h2⟩⟩ := h
 exact ⟨rfl, h1⟩
theorem EItm.at {w : World} {S : Nat → Prop} {a : Option Addr} {l : List Itm} (h : Sl EItm w S a l) (k : Nat) (hk : k < l.length) :
  ∃ b off, a = some ⟨b, off, none⟩ ∧ S b ∧ ItmIn l[k] ∧ ∀ j u, (itmCs l[k])[j]? = some u → w.cell? ⟨b, off + k * 6 + j, none⟩ = some u := by
 obtain ⟨b, off, cs, rfl, hb, ⟨rfl, hi⟩, hc⟩ := h.at k hk
 exact ⟨b, off, rfl, hb, hi, hc⟩
theorem EAtm.at {w : World} {S : Nat → Prop} {a : Option Addr} {l : List Atm} (h : Sl EAtm w S a l) (k : Nat) (hk : k < l.length) :
  ∃ b off, a = some ⟨b, off, none⟩ ∧ S b ∧ i64 l[k].1 ∧ w.cell? ⟨b, off + k * 2, none⟩ = some (.int .i64 l[k].1) ∧ w.cell? ⟨b, off + k * 2 + 1, none⟩ = some (.int .u32 (l[k].2.toNat : Int)) := by
 obtain ⟨b, off, cs, rfl, hb, ⟨rfl, h1⟩, hc⟩ := h.at k hk
 exact ⟨b, off, rfl, hb, h1, hc 0 _ rfl, hc 1 _ rfl⟩
theorem EPat.at {w : World} {S : Nat → Prop} {a : Option Addr} {l : List (List Atm)} (h : Sl EAtm.slice w S a l) (k : Nat) (hk : k < l.length) :
  ∃ b off ak ck, a = some ⟨b, off, none⟩ ∧ S b ∧ w.cell? ⟨b, off + k, none⟩ = some (.slice ak l[k].length ck) ∧ l[k].length ≤ 16777216 ∧ Sl EAtm w S ak l[k] := by
 obtain ⟨b, off, cs, rfl, hb, ⟨ak, ck, rfl, hm, hs⟩, hc⟩ := h.at k hk
 have h0 := hc 0 _ rfl
 simp only [Enc.slice, Nat.mul_one, Nat.add_zero] at h0
 exact ⟨b, off, ak, ck, rfl, hb, h0, hm, hs⟩
structure SetIn (w : World) (S : Nat → Prop) (s : StS) (a1 a2 a3 : Option Addr) : Prop where
  name : s.name.length ≤ 1048576
  kind : i64 s.kind
  nItems : s.items.length ≤ 16777216
  items : Sl EItm w S a1 s.items
  nComms : s.comms.length ≤ 16777216
  comms : Sl EU32 w S a2 s.comms
  nPaths : s.paths.length ≤ 16777216
  paths : Sl EAtm.slice w S a3 s.paths
theorem SetIn.frame {w w' : World} {S : Nat → Prop} {s : StS} {a1 a2 a3 : Option Addr} (h : SetIn w S s a1 a2 a3) (hw : ∀ b, S b → w'.heap[b]? = w.heap[b]?) : SetIn w' S s a1 a2 a3 :=
 ⟨h.name, h.kind, h.nItems, h.items.frame hw, h.nComms, h.comms.frame hw, h.nPaths, h.paths.frame hw⟩
theorem SetIn.mono {w : World} {S S' : Nat → Prop} {s : StS} {a1 a2 a3 : Option Addr} (h : SetIn w S s a1 a2 a3) (hS : ∀ b, S b → S' b) : SetIn w S' s a1 a2 a3 :=
 ⟨h.name, h.kind, h.nItems, h.items.mono hS, h.nComms, h.comms.mono hS, h.nPaths, h.paths.mono hS⟩
theorem SetIn.ext {w w' : World} {s : StS} {a1 a2 a3 : Option Addr} (h : SetIn w (· < w.heap.size) s a1 a2 a3) (hb : Ext w w') : SetIn w' (· < w'.heap.size) s a1 a2 a3 :=
 (h.frame hb.block).mono fun _ hh => Nat.lt_of_lt_of_le hh hb.size
open Go.RowKit Go.ChangeShapes Go.WideShapes Go.Deep
section
variable {P : Program} {T : TypeId}
theorem opens_bytes (h : P.underlying T = some .string) (hc : P.cellsOf T = 1) : Opens P T EByt := by
 refine ⟨hc, fun enc W fuel cs x hx hb => ?_⟩
 obtain ⟨s, rfl, hd, hs⟩ := DataW.trod_string h hx
 refine ⟨s.data.toList, by simp, ?_⟩
 rw [hd] at hb
 simp only [Rows.uptoBulk] at hb
 show s.data.toList.length ≤ 1048576
 omega
theorem opens_of {α β : Type} {E : Enc α} {F : Enc β} (h : Opens P T E) (hsz : E.sz = F.sz) (g : α → β) (hg : ∀ {w : World} {S : Nat → Prop} {x : α} {cs : List Value}, E.R w S x cs → F.R w S (g x) cs) : Opens P T F := by
 refine ⟨h.1.trans hsz, fun enc W fuel cs x hx hb => ?_⟩
 obtain ⟨y, hy⟩ := h.2 enc W fuel cs x hx hb
 exact ⟨g y, hg hy⟩
end
theorem opens_text : Opens Tryz.prog 9 EByt := opens_bytes Tryz.underlying9 (by kernel_rfl)
end
section
open Go.RowKit
set_option linter.unusedVariables false
set_option linter.unusedSimpArgs false
/-- Bytes as digits. -/
def hexS (b : List UInt8) : List UInt8 := b.flatMap fun x => [dgt (x.toNat / 16), dgt (x.toNat % 16)]
/-- A digit's worth; 16: it is none. -/
def hval (c : UInt8) : Nat := if 48 ≤ c.toNat ∧ c.toNat ≤ 57 then c.toNat - 48 else if 97 ≤ c.toNat ∧ c.toNat ≤ 102 then c.toNat - 87 else 16
def unhexS : List UInt8 → Option (List UInt8)
 | [] => some []
 | [_] => none
 | a :: b :: r => if hval a < 16 ∧ hval b < 16 then (unhexS r).map fun l => UInt8.ofNat (16 * hval a + hval b) :: l else none
theorem hval_dgt {d : Nat} (h : d < 16) : hval (dgt d) = d := by
 unfold hval
 rw [dgt_toNat h]
 split <;> split <;> (try split) <;> omega
theorem dgt_hval {c : UInt8} (h : hval c < 16) : dgt (hval c) = c := by
 apply UInt8.toNat_inj.1
 rw [dgt_toNat h]
 unfold hval at h ⊢
 split at h
 ·rename_i h1; rw [if_pos h1]; split <;> omega
 ·rename_i h1
  rw [if_neg h1]
  split at h
  ·rename_i h2; rw [if_pos h2]; split <;> omega
  ·omega
theorem unhex_hex : ∀ (b : List UInt8), unhexS (hexS b) = some b
  | [] => rfl
  | x :: r => by
    have hx := x.toNat_lt
    have h1 : hval (dgt (x.toNat / 16)) = x.toNat / 16 := hval_dgt (by omega)
    have h2 : hval (dgt (x.toNat % 16)) = x.toNat % 16 := hval_dgt (by omega)
    show unhexS (dgt (x.toNat / 16) :: dgt (x.toNat % 16) :: hexS r) = _
    rw [unhexS, h1, h2, if_pos ⟨by omega, by omega⟩, unhex_hex r]
    show some (_ :: r) = _
    congr 2
    apply UInt8.toNat_inj.1
    rw [UInt8.toNat_ofNat']
    omega
theorem hex_unhex : ∀ (s b : List UInt8), unhexS s = some b → hexS b = s
  | [], b, h => by injection h with h; subst h; rfl
  | [_], b, h => by cases h
  | x :: y :: r, b, h => by
    rw [unhexS] at h
    split at h
    · rename_i hd
      cases hr : unhexS r with
      | none => rw [hr] at h; cases h
      | some l =>
        rw [hr] at h
        injection h with h
        subst h
        have ih := hex_unhex r l hr
        show dgt ((UInt8.ofNat (16 * hval x + hval y)).toNat / 16) :: dgt ((UInt8.ofNat (16 * hval x + hval y)).toNat % 16) :: hexS l = _
        have hv : (UInt8.ofNat (16 * hval x + hval y)).toNat = 16 * hval x + hval y := by rw [UInt8.toNat_ofNat']; omega
        rw [hv, show (16 * hval x + hval y) / 16 = hval x by omega, show (16 * hval x + hval y) % 16 = hval y by omega, dgt_hval hd.1, dgt_hval hd.2, ih]
    · cases h
theorem hexS_len (b : List UInt8) : (hexS b).length = 2 * b.length := by
  induction b with
  | nil => rfl
  | cons x r ih =>
    show (dgt _ :: dgt _ :: hexS r).length = _
    simp only [List.length_cons, ih]
    omega
theorem hexS_mem {b : List UInt8} {c : UInt8} (h : c ∈ hexS b) : ∃ d, d < 16 ∧ c = dgt d := by
 obtain ⟨x, _, h2⟩ := List.mem_flatMap.1 h
 have hx := x.toNat_lt
 simp only [List.mem_cons, List.not_mem_nil, or_false] at h2
 rcases h2 with rfl | rfl
 ·exact ⟨_, by omega, rfl⟩
 ·exact ⟨_, by omega, rfl⟩
theorem hexS_no {b : List UInt8} (c : UInt8) (hc : c.toNat < 48 ∨ (57 < c.toNat ∧ c.toNat < 97) ∨ 102 < c.toNat) : c ∉ hexS b := fun h => by
 obtain ⟨d, hd, rfl⟩ := hexS_mem h
 rw [dgt_toNat hd] at hc
 split at hc <;> omega
/-- A word of bytes. -/
def wordB (b : List UInt8) : List UInt8 := if b = [] then [45] else hexS b
def readB (most : Nat) (s : List UInt8) : Option (List UInt8) :=
 if s = [45] then some [] else match unhexS s with
  | some b => if b ≠ [] ∧ b.length ≤ most then some b else none
  | none => none
theorem readB_word {most : Nat} {b : List UInt8} (h : b.length ≤ most) : readB most (wordB b) = some b := by
 unfold readB wordB
 by_cases hb : b = []
 ·subst hb; rw [if_pos rfl, if_pos rfl]
 ·rw [if_neg hb, if_neg, unhex_hex]
  ·show (if _ then _ else _) = _
   rw [if_pos ⟨hb, h⟩]
  ·intro e
   have := hexS_len b
   rw [e] at this
   simp at this
   omega
theorem word_readB {most : Nat} {s b : List UInt8} (h : readB most s = some b) : wordB b = s ∧ b.length ≤ most := by
  unfold readB at h
  split at h
  · rename_i h1; injection h with h; subst h; exact ⟨h1.symm, Nat.zero_le _⟩
  · cases hu : unhexS s with
    | none => rw [hu] at h; cases h
    | some c =>
      rw [hu] at h
      have h : (if c ≠ [] ∧ c.length ≤ most then some c else none) = some b := h
      split at h
      · rename_i h2
        injection h with h
        subst h
        exact ⟨by unfold wordB; rw [if_neg h2.1]; exact hex_unhex s c hu, h2.2⟩
      · cases h
theorem wordB_no {b : List UInt8} (c : UInt8) (hc : c.toNat < 45 ∨ (45 < c.toNat ∧ c.toNat < 48) ∨ (57 < c.toNat ∧ c.toNat < 97) ∨ 102 < c.toNat) : c ∉ wordB b := by
 unfold wordB
 split
 ·simp only [List.mem_cons, List.not_mem_nil, or_false]
  rintro rfl
  simp at hc
 ·exact hexS_no c (by omega)
/-- An event. -/
structure EvS where
  kind : Int
  conn : Int
  addr : List UInt8
  peer : List UInt8
  bytes : List UInt8
  ticks : Int
  draw : UInt32
deriving instance DecidableEq for EvS
def zeroEv : EvS := ⟨0, 0, [], [], [], 0, 0⟩
def connOk (n : Int) : Bool := decide (1 ≤ n ∧ n ≤ 64)
/-- May it be? -/
def evOk (e : EvS) : Bool :=
 if e.kind = 1 then decide (e = ⟨1, e.conn, e.addr, [], [], 0, 0⟩) && (connOk e.conn && decide (e.addr.length = 4 ∨ e.addr.length = 16))
 else if e.kind = 2 then decide (e = ⟨2, e.conn, [], e.peer, [], 0, 0⟩) && (connOk e.conn && nameOk e.peer)
 else if e.kind = 3 then decide (e = ⟨3, 0, [], e.peer, [], 0, 0⟩) && nameOk e.peer
 else if e.kind = 4 then decide (e = ⟨4, e.conn, [], [], e.bytes, 0, 0⟩) && (connOk e.conn && decide (e.bytes.length ≤ 16384))
 else if e.kind = 5 then decide (e = ⟨5, e.conn, [], [], [], 0, 0⟩) && connOk e.conn
 else if e.kind = 6 then decide (e = ⟨6, 0, [], [], [], e.ticks, 0⟩) && decide (1 ≤ e.ticks ∧ e.ticks ≤ 4096)
 else if e.kind = 7 then decide (e = ⟨7, 0, [], [], e.bytes, 0, 0⟩) && decide (e.bytes.length ≤ 65536)
 else if e.kind = 8 then decide (e = ⟨8, 0, [], [], e.bytes, 0, 0⟩) && decide (e.bytes.length ≤ 16384)
 else if e.kind = 9 then decide (e = ⟨9, 0, [], [], [], 0, e.draw⟩)
 else if e.kind = 10 then decide (e = ⟨10, 0, [], [], [], 0, 0⟩)
 else false
/-- Its words. -/
def evWs (e : EvS) : List (List UInt8) :=
 if e.kind = 1 then [[105, 110], digS 10 e.conn.toNat, (addrT e.addr).1]
 else if e.kind = 2 then [[117, 112], digS 10 e.conn.toNat, e.peer]
 else if e.kind = 3 then [[114, 101, 102, 117, 115, 101], e.peer]
 else if e.kind = 4 then [[100, 97, 116, 97], digS 10 e.conn.toNat, wordB e.bytes]
 else if e.kind = 5 then [[99, 108, 111, 115, 101], digS 10 e.conn.toNat]
 else if e.kind = 6 then [[116, 105, 99, 107], digS 10 e.ticks.toNat]
 else if e.kind = 7 then [[108, 111, 97, 100], wordB e.bytes]
 else if e.kind = 8 then [[97, 115, 107], wordB e.bytes]
 else if e.kind = 9 then [[100, 114, 97, 119], digS 10 e.draw.toNat]
 else [[100, 114, 97, 105, 110]]
def evW (e : EvS) : List UInt8 := Lib.join (evWs e) [32]
def evT (e : EvS) : List UInt8 × Int := if evOk e = true then (evW e, 0) else ([], 2)
def rdC (s : List UInt8) (least most : Nat) : Option Nat := match rdN 10 most s with | some n => if least ≤ n then some n else none | none => none
/-- The event of words. -/
def readE : List (List UInt8) → Option EvS
  | [k, n, x] =>
    if k = [105, 110] then (match rdC n 1 64 with | some c => if (addrC x).2 = 0 then some ⟨1, (c : Int), (addrC x).1, [], [], 0, 0⟩ else none | none => none)
    else if k = [117, 112] then (match rdC n 1 64 with | some c => if nameOk x = true then some ⟨2, (c : Int), [], x, [], 0, 0⟩ else none | none => none)
    else if k = [100, 97, 116, 97] then (match rdC n 1 64 with | some c => (readB 16384 x).map fun b => ⟨4, (c : Int), [], [], b, 0, 0⟩ | none => none)
    else none
  | [k, x] =>
    if k = [114, 101, 102, 117, 115, 101] then (if nameOk x = true then some ⟨3, 0, [], x, [], 0, 0⟩ else none)
    else if k = [99, 108, 111, 115, 101] then (rdC x 1 64).map fun c => ⟨5, (c : Int), [], [], [], 0, 0⟩
    else if k = [116, 105, 99, 107] then (rdC x 1 4096).map fun c => ⟨6, 0, [], [], [], (c : Int), 0⟩
    else if k = [108, 111, 97, 100] then (readB 65536 x).map fun b => ⟨7, 0, [], [], b, 0, 0⟩
    else if k = [97, 115, 107] then (readB 16384 x).map fun b => ⟨8, 0, [], [], b, 0, 0⟩
    else if k = [100, 114, 97, 119] then (rdC x 0 4294967295).map fun c => ⟨9, 0, [], [], [], 0, UInt32.ofNat c⟩
    else none
  | [k] => if k = [100, 114, 97, 105, 110] then some ⟨10, 0, [], [], [], 0, 0⟩ else none
  | _ => none
def evO (s : List UInt8) : Option EvS := readE (spl 32 s)
theorem rdC_some {s : List UInt8} {a m n : Nat} (h : rdC s a m = some n) : a ≤ n ∧ n ≤ m ∧ digS 10 n = s := by
  unfold rdC at h
  cases hr : rdN 10 m s with
  | none => rw [hr] at h; cases h
  | some k =>
    rw [hr] at h
    have h : (if a ≤ k then some k else none) = some n := h
    split at h
    · injection h with h
      subst h
      obtain ⟨h1, h2⟩ := (rdN_iff (by decide) (by decide)).1 hr
      exact ⟨by assumption, h1, h2⟩
    · cases h
theorem rdC_dig {a m n : Nat} (h1 : a ≤ n) (h2 : n ≤ m) : rdC (digS 10 n) a m = some n := by
 unfold rdC
 rw [rdN_dig (by decide) (by decide) h2]
 exact if_pos h1
theorem rdC_int {a m : Nat} {n : Int} (h1 : (a : Int) ≤ n) (h2 : n ≤ (m : Int)) : rdC (digS 10 n.toNat) a m = some n.toNat := rdC_dig (by omega) (by omega)
theorem nameOk_mem {s : List UInt8} (h : nameOk s = true) {c : UInt8} (hc : c ∈ s) : nameCh c = true := by
 unfold nameOk at h
 simp only [Bool.and_eq_true] at h
 exact List.all_eq_true.1 h.2.2.2 c hc
theorem readE_words {e : EvS} (h : evOk e = true) : readE (evWs e) = some e := by
 obtain ⟨k, c, a, p, b, t, d⟩ := e
 unfold evOk at h
 dsimp only at h
 unfold evWs
 dsimp only
 split at h
 ·rename_i hk
  rw [if_pos hk]
  simp only [Bool.and_eq_true, decide_eq_true_eq, connOk, EvS.mk.injEq] at h
  obtain ⟨⟨rfl, _, _, rfl, rfl, rfl, rfl⟩, hc, ha⟩ := h
  have hx := text_addr ha
  unfold readE
  dsimp only
  rw [if_pos rfl, rdC_int (by omega) (by omega), hx]
  show (if (0 : Int) = 0 then _ else _) = _
  rw [if_pos rfl, Int.toNat_of_nonneg (by omega)]
 rename_i hk
 rw [if_neg hk]
 split at h
 ·rename_i hk
  rw [if_pos hk]
  simp only [Bool.and_eq_true, decide_eq_true_eq, connOk, EvS.mk.injEq] at h
  obtain ⟨⟨rfl, _, rfl, _, rfl, rfl, rfl⟩, hc, hn⟩ := h
  unfold readE
  dsimp only
  rw [if_neg (by decide), if_pos rfl, rdC_int (by omega) (by omega)]
  show (if nameOk p = true then _ else _) = _
  rw [if_pos hn, Int.toNat_of_nonneg (by omega)]
 rename_i hk
 rw [if_neg hk]
 split at h
 ·rename_i hk
  rw [if_pos hk]
  simp only [Bool.and_eq_true, decide_eq_true_eq, connOk, EvS.mk.injEq] at h
  obtain ⟨⟨rfl, rfl, rfl, _, rfl, rfl, rfl⟩, hn⟩ := h
  unfold readE
  dsimp only
  rw [if_pos rfl, if_pos hn]
 rename_i hk
 rw [if_neg hk]
 split at h
 ·rename_i hk
  rw [if_pos hk]
  simp only [Bool.and_eq_true, decide_eq_true_eq, connOk, EvS.mk.injEq] at h
  obtain ⟨⟨rfl, _, rfl, rfl, _, rfl, rfl⟩, hc, hb⟩ := h
  unfold readE
  dsimp only
  rw [if_neg (by decide), if_neg (by decide), if_pos rfl, rdC_int (by omega) (by omega)]
  show (readB 16384 (wordB b)).map _ = _
  rw [readB_word hb]
  show some _ = _
  rw [Int.toNat_of_nonneg (by omega)]
 rename_i hk
 rw [if_neg hk]
 split at h
 ·rename_i hk
  rw [if_pos hk]
  simp only [Bool.and_eq_true, decide_eq_true_eq, connOk, EvS.mk.injEq] at h
  obtain ⟨⟨rfl, _, rfl, rfl, rfl, rfl, rfl⟩, hc⟩ := h
  unfold readE
  dsimp only
  rw [if_neg (by decide), if_pos rfl, rdC_int (by omega) (by omega)]
  show some _ = _
  rw [Int.toNat_of_nonneg (by omega)]
 rename_i hk
 rw [if_neg hk]
 split at h
 ·rename_i hk
  rw [if_pos hk]
  simp only [Bool.and_eq_true, decide_eq_true_eq, connOk, EvS.mk.injEq] at h
  obtain ⟨⟨rfl, rfl, rfl, rfl, rfl, _, rfl⟩, hc⟩ := h
  unfold readE
  dsimp only
  rw [if_neg (by decide), if_neg (by decide), if_pos rfl, rdC_int (by omega) (by omega)]
  show some _ = _
  rw [Int.toNat_of_nonneg (by omega)]
 rename_i hk
 rw [if_neg hk]
 split at h
 ·rename_i hk
  rw [if_pos hk]
  simp only [Bool.and_eq_true, decide_eq_true_eq, connOk, EvS.mk.injEq] at h
  obtain ⟨⟨rfl, rfl, rfl, rfl, _, rfl, rfl⟩, hb⟩ := h
  unfold readE
  dsimp only
  rw [if_neg (by decide), if_neg (by decide), if_neg (by decide), if_pos rfl, readB_word hb]
  rfl
 rename_i hk
 rw [if_neg hk]
 split at h
 ·rename_i hk
  rw [if_pos hk]
  simp only [Bool.and_eq_true, decide_eq_true_eq, connOk, EvS.mk.injEq] at h
  obtain ⟨⟨rfl, rfl, rfl, rfl, _, rfl, rfl⟩, hb⟩ := h
  unfold readE
  dsimp only
  rw [if_neg (by decide), if_neg (by decide), if_neg (by decide), if_neg (by decide), if_pos rfl, readB_word hb]
  rfl
 rename_i hk
 rw [if_neg hk]
 split at h
 ·rename_i hk
  rw [if_pos hk]
  simp only [Bool.and_eq_true, decide_eq_true_eq, connOk, EvS.mk.injEq] at h
  obtain ⟨rfl, rfl, rfl, rfl, rfl, rfl, _⟩ := h
  have hd := d.toNat_lt
  unfold readE
  dsimp only
  rw [if_neg (by decide), if_neg (by decide), if_neg (by decide), if_neg (by decide), if_neg (by decide), if_pos rfl, rdC_dig (Nat.zero_le _) (by omega)]
  show some (⟨9, 0, [], [], [], 0, UInt32.ofNat d.toNat⟩ : EvS) = _
  rw [UInt32.ofNat_toNat]
 rename_i hk
 rw [if_neg hk]
 split at h
 ·rename_i hk
  simp only [Bool.and_eq_true, decide_eq_true_eq, connOk, EvS.mk.injEq] at h
  obtain ⟨rfl, rfl, rfl, rfl, rfl, rfl, rfl⟩ := h
  unfold readE
  dsimp only
  rw [if_pos rfl]
 rename_i hk
 cases h
/-- A space, a line's end: none stands in a word of an event that may be. -/
theorem evWs_no {e : EvS} (h : evOk e = true) {c : UInt8} (hc : c = 32 ∨ c = 10) : ∀ w ∈ evWs e, c ∉ w := by
 have hd : c.toNat < 45 := by rcases hc with rfl | rfl <;> decide
 have dig : ∀ n, c ∉ digS 10 n := fun n => digS_no (by decide) (by decide) n c (.inl (by omega))
 have wrd : ∀ b, c ∉ wordB b := fun b => wordB_no c (.inl hd)
 have adr : ∀ x : List UInt8, c ∉ (addrT x).1 := fun x => addrT_no c (.inl (by omega))
 have nam : ∀ x, nameOk x = true → c ∉ x := fun x hx hm => by
  have := nameOk_mem hx hm
  rcases hc with rfl | rfl <;> exact absurd this (by decide)
 have lit : ∀ l : List UInt8, (∀ x ∈ l, 97 ≤ x.toNat) → c ∉ l := fun l hl hm => by have := hl c hm; omega
 obtain ⟨k, cn, a, p, b, t, d⟩ := e
 unfold evOk at h
 unfold evWs
 dsimp only at h ⊢
 intro w hw
 split at h
 ·rename_i hk
  rw [if_pos hk] at hw
  simp only [List.mem_cons, List.not_mem_nil, or_false] at hw
  rcases hw with rfl | rfl | rfl
  ·exact lit _ (by decide)
  ·exact dig _
  ·exact adr _
 rename_i hk
 rw [if_neg hk] at hw
 split at h
 ·rename_i hk
  rw [if_pos hk] at hw
  simp only [Bool.and_eq_true] at h
  have hn := h.2.2
  simp only [List.mem_cons, List.not_mem_nil, or_false] at hw
  rcases hw with rfl | rfl | rfl
  ·exact lit _ (by decide)
  ·exact dig _
  ·exact nam _ hn
 rename_i hk
 rw [if_neg hk] at hw
 split at h
 ·rename_i hk
  rw [if_pos hk] at hw
  simp only [Bool.and_eq_true] at h
  have hn := h.2
  simp only [List.mem_cons, List.not_mem_nil, or_false] at hw
  rcases hw with rfl | rfl
  ·exact lit _ (by decide)
  ·exact nam _ hn
 rename_i hk
 rw [if_neg hk] at hw
 split at h
 ·rename_i hk
  rw [if_pos hk] at hw
  simp only [List.mem_cons, List.not_mem_nil, or_false] at hw
  rcases hw with rfl | rfl | rfl
  ·exact lit _ (by decide)
  ·exact dig _
  ·exact wrd _
 rename_i hk
 rw [if_neg hk] at hw
 split at h
 ·rename_i hk
  rw [if_pos hk] at hw
  simp only [List.mem_cons, List.not_mem_nil, or_false] at hw
  rcases hw with rfl | rfl
  ·exact lit _ (by decide)
  ·exact dig _
 rename_i hk
 rw [if_neg hk] at hw
 split at h
 ·rename_i hk
  rw [if_pos hk] at hw
  simp only [List.mem_cons, List.not_mem_nil, or_false] at hw
  rcases hw with rfl | rfl
  ·exact lit _ (by decide)
  ·exact dig _
 rename_i hk
 rw [if_neg hk] at hw
 split at h
 ·rename_i hk
  rw [if_pos hk] at hw
  simp only [List.mem_cons, List.not_mem_nil, or_false] at hw
  rcases hw with rfl | rfl
  ·exact lit _ (by decide)
  ·exact wrd _
 rename_i hk
 rw [if_neg hk] at hw
 split at h
 ·rename_i hk
  rw [if_pos hk] at hw
  simp only [List.mem_cons, List.not_mem_nil, or_false] at hw
  rcases hw with rfl | rfl
  ·exact lit _ (by decide)
  ·exact wrd _
 rename_i hk
 rw [if_neg hk] at hw
 split at h
 ·rename_i hk
  rw [if_pos hk] at hw
  simp only [List.mem_cons, List.not_mem_nil, or_false] at hw
  rcases hw with rfl | rfl
  ·exact lit _ (by decide)
  ·exact dig _
 rename_i hk
 rw [if_neg hk] at hw
 split at h
 ·rename_i hk
  simp only [List.mem_cons, List.not_mem_nil, or_false] at hw
  subst hw
  exact lit _ (by decide)
 rename_i hk
 cases h
theorem evWs_ne (e : EvS) : evWs e ≠ [] := by
 unfold evWs
 repeat' split
 all_goals simp
theorem spl_ev {e : EvS} (h : evOk e = true) : spl 32 (evW e) = evWs e := by
 have hn := evWs_no h (c := 32) (.inl rfl)
 have hne := evWs_ne e
 unfold evW
 generalize evWs e = l at *
 match l, hne with
 | x :: r, _ => exact join_spl 32 x r hn
theorem evO_ev {e : EvS} (h : evOk e = true) : evO (evW e) = some e := by unfold evO; rw [spl_ev h, readE_words h]
theorem addrC_len4 {x : List UInt8} (h : (addrC x).2 = 0) : (addrT (addrC x).1).1 = x ∧ ((addrC x).1.length = 4 ∨ (addrC x).1.length = 16) := by
 obtain ⟨h1, h2⟩ := addr_text h
 exact ⟨by rw [h1], h2.1⟩
theorem words_readE {w : List (List UInt8)} {e : EvS} (h : readE w = some e) : evOk e = true ∧ evWs e = w := by
  match w, h with
  | [], h => cases h
  | [k], h =>
    unfold readE at h
    dsimp only at h
    split at h
    · rename_i hk
      injection h with h
      subst h hk
      exact ⟨by decide, by decide⟩
    · cases h
  | [k, x], h =>
    unfold readE at h
    dsimp only at h
    split at h
    · rename_i hk
      split at h
      · rename_i hn
        injection h with h
        subst h hk
        exact ⟨by simp [evOk, hn], rfl⟩
      · cases h
    split at h
    · rename_i hk
      subst hk
      cases hc : rdC x 1 64 with
      | none => rw [hc] at h; cases h
      | some c =>
        rw [hc] at h
        injection h with h
        subst h
        obtain ⟨h1, h2, h3⟩ := rdC_some hc
        exact ⟨by simp [evOk, connOk]; omega, by rw [← h3]; rfl⟩
    split at h
    · rename_i hk
      subst hk
      cases hc : rdC x 1 4096 with
      | none => rw [hc] at h; cases h
      | some c =>
        rw [hc] at h
        injection h with h
        subst h
        obtain ⟨h1, h2, h3⟩ := rdC_some hc
        exact ⟨by simp [evOk]; omega, by rw [← h3]; rfl⟩
    split at h
    · rename_i hk
      subst hk
      cases hc : readB 65536 x with
      | none => rw [hc] at h; cases h
      | some b =>
        rw [hc] at h
        injection h with h
        subst h
        obtain ⟨h1, h2⟩ := word_readB hc
        exact ⟨by simp [evOk, h2], by rw [← h1]; rfl⟩
    split at h
    · rename_i hk
      subst hk
      cases hc : readB 16384 x with
      | none => rw [hc] at h; cases h
      | some b =>
        rw [hc] at h
        injection h with h
        subst h
        obtain ⟨h1, h2⟩ := word_readB hc
        exact ⟨by simp [evOk, h2], by rw [← h1]; rfl⟩
    split at h
    · rename_i hk
      subst hk
      cases hc : rdC x 0 4294967295 with
      | none => rw [hc] at h; cases h
      | some c =>
        rw [hc] at h
        injection h with h
        subst h
        obtain ⟨h1, h2, h3⟩ := rdC_some hc
        have hv : (UInt32.ofNat c).toNat = c := by rw [UInt32.toNat_ofNat']; omega
        exact ⟨by simp [evOk], by rw [← h3]; show [_, digS 10 (UInt32.ofNat c).toNat] = _; rw [hv]⟩
    · cases h
  | [k, n, x], h =>
    unfold readE at h
    dsimp only at h
    split at h
    · rename_i hk
      subst hk
      cases hc : rdC n 1 64 with
      | none => rw [hc] at h; cases h
      | some c =>
        rw [hc] at h
        have h : (if (addrC x).2 = 0 then some (⟨1, (c : Int), (addrC x).1, [], [], 0, 0⟩ : EvS) else none) = some e := h
        split at h
        · rename_i ha
          injection h with h
          subst h
          obtain ⟨h1, h2, h3⟩ := rdC_some hc
          obtain ⟨h4, h5⟩ := addrC_len4 ha
          exact ⟨by simp [evOk, connOk, h5]; omega, by rw [← h3]; show [_, _, (addrT (addrC x).1).1] = _; rw [h4]; rfl⟩
        · cases h
    split at h
    · rename_i hk
      subst hk
      cases hc : rdC n 1 64 with
      | none => rw [hc] at h; cases h
      | some c =>
        rw [hc] at h
        have h : (if nameOk x = true then some (⟨2, (c : Int), [], x, [], 0, 0⟩ : EvS) else none) = some e := h
        split at h
        · rename_i ha
          injection h with h
          subst h
          obtain ⟨h1, h2, h3⟩ := rdC_some hc
          exact ⟨by simp [evOk, connOk, ha]; omega, by rw [← h3]; rfl⟩
        · cases h
    split at h
    · rename_i hk
      subst hk
      cases hc : rdC n 1 64 with
      | none => rw [hc] at h; cases h
      | some c =>
        rw [hc] at h
        have h : (readB 16384 x).map (fun b => (⟨4, (c : Int), [], [], b, 0, 0⟩ : EvS)) = some e := h
        cases hb : readB 16384 x with
        | none => rw [hb] at h; cases h
        | some b =>
          rw [hb] at h
          injection h with h
          subst h
          obtain ⟨h1, h2, h3⟩ := rdC_some hc
          obtain ⟨h4, h5⟩ := word_readB hb
          exact ⟨by simp [evOk, connOk, h5]; omega, by rw [← h3, ← h4]; rfl⟩
    · cases h
  | _ :: _ :: _ :: _ :: _, h => cases h
theorem evO_some {s : List UInt8} {e : EvS} (h : evO s = some e) : evOk e = true ∧ evW e = s := by
 obtain ⟨h1, h2⟩ := words_readE h
 exact ⟨h1, by unfold evW; rw [h2]; exact spl_join 32 s⟩
theorem evW_no {e : EvS} (h : evOk e = true) : (10 : UInt8) ∉ evW e := by
 unfold evW
 exact join_no (by decide) (evWs_no h (.inr rfl))
end
section
open Go.RowKit
set_option linter.unusedVariables false
def runW : List UInt8 := [114, 117, 110]
/-- The lines of a configuration, up to 'run': where it stands, how many bytes stand ahead, the lines behind; none: there is none. -/
def scanC : Nat → Nat → List (List UInt8) → Option (Nat × Nat × List (List UInt8))
 | at_, cf, x :: y :: r => if x = runW then some (at_, cf, y :: r) else scanC (at_ + 1) (cf + x.length + 1) (y :: r)
 | _, _, _ => none
/-- The lines of events: events, a code, a place. -/
def scanE : Nat → List EvS → List (List UInt8) → List EvS × Int × Nat
  | at_, out, x :: y :: r => match evO x with
    | none => ([], 9, at_)
    | some e => if out.length = 512 then ([], 3, at_) else scanE (at_ + 1) (out ++ [e]) (y :: r)
  | at_, out, [x] => if x = [] then (out, 0, 0) else ([], 9, at_)
  | at_, out, [] => (out, 0, 0)
/-- What reading a script answers: the configuration, the events, a code (0: all is right), a place. -/
def parseS (s : List UInt8) : List UInt8 × List EvS × Int × Nat :=
  if 1048576 < s.length then ([], [], 3, 0)
  else match scanC 0 0 (spl 10 s) with
    | none => ([], [], 9, (spl 10 s).length - 1)
    | some (at_, cf, r) => match scanE (at_ + 1) [] r with
      | (out, c, p) => if c = 0 then (s.take cf, out, 0, 0) else ([], [], c, p)
/-- A configuration that may stand ahead of a script. -/
def cfgOk (c : List UInt8) : Bool := (decide (c = []) || decide (c.getLast? = some 10)) && !(spl 10 c).contains runW
def tellL (l : List EvS) : List UInt8 := l.flatMap fun e => evW e ++ [10]
def textScr (c : List UInt8) (l : List EvS) : List UInt8 := c ++ (runW ++ (10 :: tellL l))
def printS (c : List UInt8) (l : List EvS) : List UInt8 × Int :=
 if cfgOk c = false then ([], 2)
 else if 512 < l.length then ([], 3)
 else if l.all evOk = false then ([], 2)
 else if 1048576 < (textScr c l).length then ([], 3)
 else (textScr c l, 0)
theorem spl_tell : ∀ (l : List EvS), l.all evOk = true → spl 10 (tellL l) = l.map evW ++ [[]]
  | [], _ => spl_no (by simp [tellL])
  | e :: r, h => by
    simp only [List.all_cons, Bool.and_eq_true] at h
    have h1 : tellL (e :: r) = evW e ++ 10 :: tellL r := by simp [tellL]
    rw [h1, spl_at (evW_no h.1), spl_tell r h.2]
    rfl
theorem scanE_tell : ∀ (l : List EvS) (at_ : Nat) (out : List EvS), l.all evOk = true → out.length + l.length ≤ 512 → scanE at_ out (l.map evW ++ [[]]) = (out ++ l, 0, 0)
  | [], at_, out, _, _ => by simp [scanE]
  | e :: r, at_, out, h, hl => by
    simp only [List.all_cons, Bool.and_eq_true] at h
    simp only [List.length_cons] at hl
    have ih := scanE_tell r (at_ + 1) (out ++ [e]) h.2 (by simp; omega)
    have hne : ∃ y q, r.map evW ++ [[]] = y :: q := by cases r <;> exact ⟨_, _, rfl⟩
    obtain ⟨y, q, hq⟩ := hne
    show scanE at_ out (evW e :: (r.map evW ++ [[]])) = _
    rw [hq] at ih ⊢
    rw [scanE, evO_ev h.1]
    show (if out.length = 512 then _ else _) = _
    rw [if_neg (by omega), ih]
    simp
/-- The lines of a configuration that ends in a line's end: all but the last one, which is empty. -/
theorem spl_end (c t : List UInt8) : spl 10 (c ++ 10 :: t) = spl 10 c ++ spl 10 t := by
 refine spl_ind (P := fun c => spl 10 (c ++ 10 :: t) = spl 10 c ++ spl 10 t) 10 (fun s hs => ?_) (fun a b ha ih => ?_) c.length c (Nat.le_refl _)
 ·rw [spl_at hs, spl_no hs]; rfl
 ·rw [List.append_assoc, List.cons_append, spl_at ha, spl_at ha, ih]; rfl
theorem scanC_lines : ∀ (L : List (List UInt8)) (at_ cf : Nat) (y : List UInt8) (r : List (List UInt8)), runW ∉ L → scanC at_ cf (L ++ runW :: y :: r) = some (at_ + L.length, cf + (L.map fun x => x.length + 1).sum, y :: r)
  | [], at_, cf, y, r, _ => by rw [List.nil_append, scanC, if_pos rfl]; rfl
  | x :: q, at_, cf, y, r, h => by
    have hx : x ≠ runW := fun e => h (by simp [e])
    have hne : ∃ z s, q ++ runW :: y :: r = z :: s := by cases q <;> exact ⟨_, _, rfl⟩
    obtain ⟨z, s, hz⟩ := hne
    have ih := scanC_lines q (at_ + 1) (cf + x.length + 1) y r (fun hm => h (List.mem_cons_of_mem _ hm))
    rw [List.cons_append, hz, scanC, if_neg hx, ← hz, ih]
    simp only [List.length_cons, List.map_cons, List.sum_cons]
    congr 2
    · omega
    · congr 1; omega
theorem spl_size (c : List UInt8) : ((spl 10 c).map fun x => x.length + 1).sum = c.length + 1 := by
 refine spl_ind (P := fun c => ((spl 10 c).map fun x => x.length + 1).sum = c.length + 1) 10 (fun s hs => ?_) (fun a b ha ih => ?_) c.length c (Nat.le_refl _)
 ·rw [spl_no hs]; simp
 ·rw [spl_at ha, List.map_cons, List.sum_cons, ih]
  simp only [List.length_append, List.length_cons]
  omega
theorem textScr_lines {c : List UInt8} (h : cfgOk c = true) : ∃ L, runW ∉ L ∧ (L.map fun x => x.length + 1).sum = c.length ∧ ∀ t, spl 10 (c ++ t) = L ++ spl 10 t := by
 unfold cfgOk at h
 simp only [Bool.and_eq_true, Bool.or_eq_true, decide_eq_true_eq, Bool.not_eq_true'] at h
 obtain ⟨h1, h2⟩ := h
 have h2' : runW ∉ spl 10 c := fun hm => by rw [List.contains_iff_mem.2 hm] at h2; cases h2
 rcases h1 with rfl | h1
 ·exact ⟨[], by simp, rfl, fun t => rfl⟩
 ·have hc : c ≠ [] := by rintro rfl; cases h1
  obtain ⟨d, rfl⟩ : ∃ d, c = d ++ [10] := List.getLast?_eq_some_iff.1 h1
  have hs := spl_end d []
  rw [show spl 10 ([] : List UInt8) = [[]] from spl_no (by simp)] at hs
  have hd : runW ∉ spl 10 d := fun hm => h2' (by rw [hs]; exact List.mem_append_left _ hm)
  refine ⟨spl 10 d, hd, ?_, fun t => ?_⟩
  ·rw [spl_size]; simp
  ·rw [List.append_assoc]; exact spl_end d t
theorem parse_print {c : List UInt8} {l : List EvS} (h : cfgOk c = true) (hl : l.length ≤ 512) (ho : l.all evOk = true) (hs : (textScr c l).length ≤ 1048576) : parseS (textScr c l) = (c, l, 0, 0) := by
 obtain ⟨L, hL, hsum, hsp⟩ := textScr_lines h
 have h1 : spl 10 (textScr c l) = L ++ runW :: (l.map evW ++ [[]]) := by
  unfold textScr
  rw [hsp, spl_at (by decide), spl_tell l ho]
 have hne : ∃ y q, l.map evW ++ [[]] = y :: q := by cases l <;> exact ⟨_, _, rfl⟩
 obtain ⟨y, q, hq⟩ := hne
 have h2 := scanC_lines L 0 0 y q hL
 rw [← hq, Nat.zero_add, Nat.zero_add, hsum] at h2
 have h3 := scanE_tell l (L.length + 1) [] ho (by simpa using hl)
 unfold parseS
 rw [if_neg (by omega), h1, h2]
 dsimp only
 rw [h3]
 dsimp only
 rw [if_pos rfl, List.nil_append]
 congr 1
 unfold textScr
 rw [List.take_left]
end
section
open Go.RowKit Go.Sort
set_option linter.unusedVariables false
/-- A prefix as a value. -/
def valP (p : Pfx) : Value := .agg #[.int .i64 p.fam, .int .u64 (p.rd : Int), .string ⟨p.addr.toArray⟩, .int .i64 p.len]
open Go.RowKit Go.Sort
open Go.RowKit Go.Sort
/-- What a cut answers. -/
noncomputable instance (p : Pfx) (n : Int) : Decidable (cutOk p n) := Classical.propDecidable _
end
section
open Go.RowKit Go.Sort
set_option linter.unusedVariables false
theorem Itoa_any (u : Nat) (hu : u < 9223372036854775808) (w : World) (hT : Tab w) : Calls Tryz.prog 50 #[.int .i64 (u : Int)] w fun e w' => e = .returned (.string (dec u)) ∧ Ext w w' := by
 refine (Tryz.strconv_Itoa (u : Int) (by omega) (by omega) w hT).mono ?_
 rintro e w' ⟨rfl, k, os, rfl⟩
 refine ⟨by rw [Lib.itoa_nonneg]; rfl, ?_⟩
 refine ⟨rfl, rfl, rfl, by simp [grow, World.drewN], fun j hj => ?_⟩
 simp only [grow, World.drewN]
 rw [Array.getElem?_append_left hj]
def decB8 (u : UInt8) : ByteArray := dec u.toNat
theorem decB8_size (u : UInt8) : (decB8 u).size ≤ 21 := by
 have := Lib.itoa_length_le (u.toNat : Int) (by have := u.toNat_lt; omega) (by have := u.toNat_lt; omega)
 rw [Lib.itoa_nonneg] at this
 unfold decB8 dec
 simpa [ByteArray.size] using this
theorem Own.one {w : World} {B g : Nat} {T : TypeId} {x : ByteArray} (h : Blk w g T #[.string x]) (hB : B ≤ g) (hx : x.size ≤ maxLen) : Own EStr T w B (.slice (some ⟨g, 0, none⟩) 1 1) [x] := by
  refine ⟨[.string x], ⟨rfl, .inr ⟨g, 1, #[.string x], rfl, hB, h, Nat.le_refl _, by unfold maxLen; omega, rfl, rfl⟩⟩, fun k y hy => ?_⟩
  cases k with
  | zero =>
    obtain rfl : x = y := by simpa using hy
    refine ⟨[.string x], ⟨rfl, hx⟩, fun j u hu => ?_⟩
    match j, hu with
    | 0, hu => simpa using hu
  | succ k => simp at hy
set_option maxRecDepth 20000 in
set_option maxHeartbeats 2000000 in
theorem AAddrText4_any (bs : List UInt8) (h4 : bs.length = 4) (w : World) (hT : Tab w) (hlen : (Lib.join ((bs.map decB8).map (·.data.toList)) [46]).length ≤ 1048576) :
    Calls Tryz.prog 61 #[.string ⟨bs.toArray⟩] w fun e w' => e = .returned (.tuple #[.string ⟨(Lib.join ((bs.map decB8).map (·.data.toList)) [46]).toArray⟩, .int .i64 0]) ∧ Ext w w' := by
  have hz : (ByteArray.mk bs.toArray).size = 4 := by simp [ByteArray.size, h4]
  replace hT := hide hT
  go_enter Tryz.func61, Tryz.ntmps61
  go_wp2_with fail
  go_loopw [4, 13] (fun v q wr => ∃ k : Nat, k ≤ 4 ∧ q = .int .i64 k ∧ Own EStr 9 wr w.heap.size v ((bs.take k).map decB8) ∧ Ext w wr) (fun _ q _ => 4 - (intOf q).toNat)
  case atStart => exact ⟨0, by omega, rfl, by rw [List.take_zero]; exact Own.nil, Ext.refl _⟩
  case round =>
    obtain ⟨k, hk, rfl, hown, hE⟩ := hrel
    rename World => W0
    have hz0 := hE.size
    obtain ⟨vo, dd, rfl⟩ := hown.form
    have hlk : ((bs.take k).map decB8).length = k := by simp; omega
    rw [hlk] at hown ⊢
    replace hlk := hide hlk
    replace hE := hide hE
    replace hown := hide hown
    by_cases hlt : k < 4
    · have e1 : (ByteArray.mk bs.toArray)[k]'(by omega) = bs[k]'(by omega) := rfl
      have hnx : (bs.take k).map decB8 ++ [decB8 (bs[k]'(by omega))] = (bs.take (k + 1)).map decB8 := by rw [List.take_succ_eq_append_getElem (by omega), List.map_append]; rfl
      generalize bs[k]'(by omega) = u at e1 hnx
      have hu8 := u.toNat_lt
      have hsz := decB8_size u
      have hI := Itoa_any u.toNat (by omega) W0 (hT.out.ext hE.out)
      have w8 : IntKind.i64.wrap (u.toNat : Int) = (u.toNat : Int) := by rw [IntKind.wrap_i64]; omega
      replace hI := hide hI
      replace hnx := hide hnx
      replace hsz := hide hsz
      go_wp2_with fail
      refine hI.out.mono ?_
      rintro e w3 ⟨rfl, he3⟩
      have hown3 := hide (hown.out.ext he3)
      have hE3 := hide (hE.out.trans he3)
      have hz3 := he3.size
      clear he3
      go_wp2_with (at_builtin
                   have hox := hown3.out.alloc (Obj.cells #[.string (dec u.toNat)] 9)
                   refine wpList_push (E := EStr) rfl _ _ _ rfl okStr (by decide) (by decide) rfl hox (by rw [hlk.out]; omega) (by simp; omega) rfl (y := decB8 u) (cs := [.string (dec u.toNat)]) ⟨rfl, by have := hsz.out; unfold maxLen; omega⟩ (str_new' _ _ _) ?_
                   intro v' w5 hown1 hg hat)
      go_roundw
      case rel => exact ⟨k + 1, by omega, by go_num, by rw [← hnx.out]; exact hown1, (hE3.out.alloc _).push (fun j hj => (hown3.out.lt j hj).1) hg⟩
      case measure => simp [intOf]; omega
    · obtain rfl : k = 4 := by omega
      have hall : bs.take 4 = bs := List.take_of_length_le (by omega)
      rw [hall] at hown hlk
      obtain ⟨a9, c9, hv9, hc9, hs9⟩ := hown.out.slc
      injection hv9 with e1 e2 e3
      subst e1 e3
      clear e2
      have hJ := Join_any vo dd (bs.map decB8) 46 W0 _ (fun b hb => hb.2) hs9 (by intro h; have := hlk.out; rw [h] at this; exact absurd this (by simp)) hc9 (by rw [hlk.out]; omega) (by omega)
      rw [hlk.out] at hJ
      replace hJ := hide hJ
      go_wp2_with fail
      refine hJ.out.mono ?_
      rintro e w6 ⟨rfl, he6⟩
      replace he6 := hide he6
      go_wp2
      go_ret2
      exact ⟨by rw [List.map_map]; rfl, hE.out.trans he6.out⟩
end
section
open Go.RowKit Go.Sort
set_option linter.unusedVariables false
def hexB (n : Nat) : ByteArray := ⟨(digS 16 n).toArray⟩
theorem txt4_dec (bs : List UInt8) : Lib.join ((bs.map decB8).map (·.data.toList)) [46] = txt4 bs := by
 unfold txt4
 congr 1
 rw [List.map_map]
 apply List.map_congr_left
 intro u _
 show (Lib.decDigits u.toNat) = _
 rw [digS_dec]
theorem txt16_hex (bs : List UInt8) : Lib.join (((pairs bs).map hexB).map (·.data.toList)) [58] = txt16 bs := by
 unfold txt16
 congr 1
 rw [List.map_map]
 rfl
theorem addrT_len {a : List UInt8} : (addrT a).1.length ≤ 39 := by
 by_cases h : a.length = 4 ∨ a.length = 16
 ·have := text_addr h
  exact (addr_text (s := (addrT a).1) (by rw [this])).2.2
 ·unfold addrT
  rw [if_neg (by omega), if_neg (by omega)]
  simp
theorem hexB_size (n : Nat) (h : n ≤ 65535) : (hexB n).size ≤ 4 := by
 have := digS_len (b := 16) (by decide) 4 n (by omega) (by decide)
 simpa [hexB, ByteArray.size] using this
theorem or_byte16 (v : Nat) (b : UInt8) (hv : v < 72057594037927936) : bits BinOp.or IntKind.u64 ((v : Int) * 256) (b.toNat : Int) = ((v * 256 + b.toNat : Nat) : Int) := by
 have hb := b.toNat_lt
 rw [show (v : Int) * 256 = ((v * 256 : Nat) : Int) by omega, u64_or_nat _ _ (by omega) (by omega)]
 have h := Nat.shiftLeft_add_eq_or_of_lt (show b.toNat < 2 ^ 8 from hb) v
 rw [Nat.shiftLeft_eq] at h
 rw [← h]
set_option maxRecDepth 20000 in
set_option maxHeartbeats 2000000 in
theorem AAddrText16_any (bs : List UInt8) (h16 : bs.length = 16) (w : World) (hD : Deb w) :
    Calls Tryz.prog 61 #[.string ⟨bs.toArray⟩] w fun e w' => e = .returned (.tuple #[.string ⟨(txt16 bs).toArray⟩, .int .i64 0]) ∧ Ext w w' := by
  have mixed : Tryz.prog.follows Departure.mixedOrders = true := by kernel_rfl
  have hz : (ByteArray.mk bs.toArray).size = 16 := by simp [ByteArray.size, h16]
  have hpl : (pairs bs).length = 8 := by rw [pairs_length, h16]
  have htl : (txt16 bs).length ≤ 39 := by
    have := addrT_len (a := bs)
    unfold addrT at this
    rw [if_neg (by omega), if_pos h16] at this
    exact this
  replace hD := hide hD
  replace htl := hide htl
  go_enter Tryz.func61, Tryz.ntmps61
  go_wp2_with fail
  go_loopw [4, 6] (fun v q wr => ∃ k j : Nat, k ≤ 8 ∧ j = 2 * k ∧ q = .int .i64 (j : Int) ∧ Own EStr 9 wr w.heap.size v (((pairs bs).take k).map hexB) ∧ Ext w wr) (fun _ q _ => 16 - (intOf q).toNat)
  case atStart => exact ⟨0, 0, by omega, rfl, rfl, by rw [List.take_zero]; exact Own.nil, Ext.refl _⟩
  case round =>
    obtain ⟨k, j, hk, hj, rfl, hown, hE⟩ := hrel
    rename World => W0
    have hz0 := hE.size
    obtain ⟨vo, dd, rfl⟩ := hown.form
    have hlk : (((pairs bs).take k).map hexB).length = k := by simp; omega
    rw [hlk] at hown ⊢
    replace hlk := hide hlk
    replace hE := hide hE
    replace hown := hide hown
    by_cases hlt : k < 8
    · have hj1 : j + 1 < 16 := by omega
      have hjb : j + 1 < bs.length := by omega
      have hjz : j + 1 < (ByteArray.mk bs.toArray).size := by omega
      replace hj := hide hj
      have hp : (pairs bs)[k]? = some (256 * (bs[j]'(Nat.lt_of_succ_lt hjb)).toNat + (bs[j + 1]'hjb).toNat) := by
        have hj2 := hj.out
        subst hj2
        exact pairs_at bs k hjb
      have e1 : (ByteArray.mk bs.toArray)[j]'(Nat.lt_of_succ_lt hjz) = bs[j]'(Nat.lt_of_succ_lt hjb) := rfl
      have e2 : (ByteArray.mk bs.toArray)[j + 1]'hjz = bs[j + 1]'hjb := rfl
      generalize bs[j]'(Nat.lt_of_succ_lt hjb) = u1 at e1 hp
      generalize bs[j + 1]'hjb = u2 at e2 hp
      have l1 := u1.toNat_lt
      have l2 := u2.toNat_lt
      have hpk : (pairs bs)[k]'(by omega) = 256 * u1.toNat + u2.toNat := by
        have := List.getElem?_eq_getElem (show k < (pairs bs).length by omega)
        rw [this] at hp
        exact Option.some.inj hp
      have hnx : ((pairs bs).take k).map hexB ++ [hexB (256 * u1.toNat + u2.toNat)] = ((pairs bs).take (k + 1)).map hexB := by rw [List.take_succ_eq_append_getElem (by omega), List.map_append, hpk]; rfl
      have hsz := hexB_size (256 * u1.toNat + u2.toNat) (by omega)
      have hF := fun W h => Format16 (256 * u1.toNat + u2.toNat) (by omega) W h
      have w1 : IntKind.u64.wrap (u1.toNat : Int) = (u1.toNat : Int) := by rw [IntKind.wrap_u64]; omega
      have w2 : IntKind.u64.wrap (u2.toNat : Int) = (u2.toNat : Int) := by rw [IntKind.wrap_u64]; omega
      have w3 : IntKind.i64.wrap ((j : Int) + 1) = (j : Int) + 1 := by rw [IntKind.wrap_i64]; omega
      have w6 : IntKind.i64.wrap ((j : Int) + 2) = (j : Int) + 2 := by rw [IntKind.wrap_i64]; omega
      have w4 : ((j : Int) + 1).toNat = j + 1 := by omega
      have w5 : IntKind.u64.wrap ((u1.toNat : Int) * 256) = (u1.toNat : Int) * 256 := by rw [IntKind.wrap_u64]; omega
      have hor := or_byte16 u1.toNat u2 (by omega)
      rw [Nat.mul_comm u1.toNat 256] at hor
      generalize 256 * u1.toNat + u2.toNat = n at hnx hsz hF hor
      have hnm : (Tryz.f62.name == "runtime.NumGoroutine") = false := by kernel_rfl
      have hbd : Tryz.f62.body.isNone = false := by kernel_rfl
      replace hnm := hide hnm
      replace hbd := hide hbd
      have hb0 : (0 : Int) ≤ (j : Int) + 1 := by omega
      have hb1 : (j : Int) < 16 := by omega
      have hb2 : (j : Int) + 1 < 16 := by omega
      replace hF := hide hF
      replace hnx := hide hnx
      replace hsz := hide hsz
      clear hp hpk
      go_wp2_with fail
      go_region_law_o (first
        | (refine step_callN (fn := Tryz.f62) (by rfl) _ _ _ rfl Tryz.func62 hnm.out hbd.out #[.int .u64 (n : Int), .int .i64 16] (by simp [Act.eval, Act.put]) (hF.out _ (hD.out.ext hE.out.drew)) ?_
           rintro e w3 ⟨rfl, he3⟩
           refine ⟨_, rfl, ?_⟩
           have hown3 := hide (hown.out.drew.ext he3)
           have hE3 := hide (hE.out.drew.trans he3)
           have hz3 : W0.heap.size ≤ w3.heap.size := he3.size
           clear he3)
        | (refine step_push (E := EStr) (B := w.heap.size) (v := .slice vo k dd) (l := ((pairs bs).take k).map hexB) (y := hexB n) (cs := [.string (hexB n)]) rfl _ _ _ (by rfl) okStr (by decide) (by decide) (by rfl) (hown3.out.alloc _) (by rw [hlk.out]; omega) (by simp; omega) (by rfl) ⟨rfl, by have := hsz.out; unfold maxLen; omega⟩ (str_new' _ _ _) ?_
           intro v' w5 hown1 hg hat))
      all_goals
        go_wp2
        exact ⟨⟨k + 1, j + 2, by omega, by have := hj.out; omega, by go_num, by rw [← hnx.out]; exact hown1, (hE3.out.alloc _).push (fun j hj => (hown3.out.lt j hj).1) hg⟩, by simp [intOf]; omega⟩
    · obtain rfl : k = 8 := by omega
      subst hj
      have hall : (pairs bs).take 8 = pairs bs := List.take_of_length_le (by omega)
      rw [hall] at hown hlk
      obtain ⟨a9, c9, hv9, hc9, hs9⟩ := hown.out.slc
      injection hv9 with e1 e2 e3
      subst e1 e3
      clear e2
      have hJ := Join_any vo dd ((pairs bs).map hexB) 58 W0 _ (fun b hb => hb.2) hs9 (by intro h; have := hlk.out; rw [h] at this; exact absurd this (by simp)) hc9 (by rw [hlk.out]; omega) (by rw [txt16_hex]; have := htl.out; omega)
      rw [hlk.out, txt16_hex] at hJ
      replace hJ := hide hJ
      go_wp2_with fail
      refine hJ.out.mono ?_
      rintro e w6 ⟨rfl, he6⟩
      replace he6 := hide he6
      go_wp2
      go_ret2
      exact ⟨rfl, hE.out.trans he6.out⟩
set_option maxRecDepth 20000 in
theorem AAddrText_any (a : List UInt8) (ha : a.length ≤ 1048576) (w : World) (hT : Tab w) (hD : Deb w) :
  Calls Tryz.prog 61 #[.string ⟨a.toArray⟩] w fun e w' => e = .returned (.tuple #[.string ⟨(addrT a).1.toArray⟩, .int .i64 (addrT a).2]) ∧ Ext w w' := by
 by_cases h4 : a.length = 4
 ·have hl := addrT_len (a := a)
  have h := AAddrText4_any a h4 w hT (by rw [txt4_dec]; unfold addrT at hl; rw [if_pos h4] at hl; have hl2 : (txt4 a).length ≤ 39 := hl; omega)
  rw [txt4_dec] at h
  unfold addrT
  rw [if_pos h4]
  exact h
 ·by_cases h16 : a.length = 16
  ·unfold addrT
   rw [if_neg h4, if_pos h16]
   exact AAddrText16_any a h16 w hD
  ·unfold addrT
   rw [if_neg h4, if_neg h16]
   have hz : (ByteArray.mk a.toArray).size = a.length := by simp [ByteArray.size]
   have b1 : ((a.length : Int) == 4) = false := by rw [beq_eq_false_iff_ne]; omega
   have b2 : ((a.length : Int) == 16) = false := by rw [beq_eq_false_iff_ne]; omega
   clear hT hD
   go_enter Tryz.func61, Tryz.ntmps61
   go_wp2
   go_ret2
   exact ⟨rfl, Ext.refl _⟩
end
section
open Go.RowKit
set_option linter.unusedVariables false
set_option linter.unusedSimpArgs false
def wAt (w : List (List UInt8)) (n : Nat) : List UInt8 := w.getD n []
def smallS (s : List UInt8) : Nat := (rdN 10 4294967295 s).getD 0
def unhexD (s : List UInt8) : List UInt8 := (unhexS s).getD []
/-- What words may be. -/
def candE (w : List (List UInt8)) : EvS :=
 if wAt w 0 = [105, 110] then ⟨1, (smallS (wAt w 1) : Int), (addrC (wAt w 2)).1, [], [], 0, 0⟩
 else if wAt w 0 = [117, 112] then ⟨2, (smallS (wAt w 1) : Int), [], wAt w 2, [], 0, 0⟩
 else if wAt w 0 = [114, 101, 102, 117, 115, 101] then ⟨3, 0, [], wAt w 1, [], 0, 0⟩
 else if wAt w 0 = [100, 97, 116, 97] then ⟨4, (smallS (wAt w 1) : Int), [], [], unhexD (wAt w 2), 0, 0⟩
 else if wAt w 0 = [99, 108, 111, 115, 101] then ⟨5, (smallS (wAt w 1) : Int), [], [], [], 0, 0⟩
 else if wAt w 0 = [116, 105, 99, 107] then ⟨6, 0, [], [], [], (smallS (wAt w 1) : Int), 0⟩
 else if wAt w 0 = [108, 111, 97, 100] then ⟨7, 0, [], [], unhexD (wAt w 1), 0, 0⟩
 else if wAt w 0 = [97, 115, 107] then ⟨8, 0, [], [], unhexD (wAt w 1), 0, 0⟩
 else if wAt w 0 = [100, 114, 97, 119] then ⟨9, 0, [], [], [], 0, UInt32.ofNat (smallS (wAt w 1))⟩
 else if wAt w 0 = [100, 114, 97, 105, 110] then ⟨10, 0, [], [], [], 0, 0⟩
 else zeroEv
def docE (s : List UInt8) : EvS × Bool :=
 if 131112 < s.length then (zeroEv, false)
 else if evT (candE (spl 32 s)) = (s, 0) then (candE (spl 32 s), true) else (zeroEv, false)
theorem smallS_dig {n : Nat} (h : n ≤ 4294967295) : smallS (digS 10 n) = n := by
 unfold smallS
 rw [rdN_dig (by decide) (by decide) h]
 rfl
theorem unhexD_word (b : List UInt8) : unhexD (wordB b) = b := by
 unfold unhexD wordB
 split
 ·rename_i h; subst h; rfl
 ·rw [unhex_hex]; rfl
theorem smallS_int {n : Int} (h : 0 ≤ n) (h2 : n ≤ 4294967295) : (smallS (digS 10 n.toNat) : Int) = n := by
 rw [smallS_dig (by omega), Int.toNat_of_nonneg h]
theorem cand_words {e : EvS} (h : evOk e = true) : candE (evWs e) = e := by
 obtain ⟨k, c, a, p, b, t, d⟩ := e
 unfold evOk at h
 dsimp only at h
 unfold evWs
 dsimp only
 split at h
 ·rename_i hk
  rw [if_pos hk]
  simp only [Bool.and_eq_true, decide_eq_true_eq, connOk, EvS.mk.injEq] at h
  obtain ⟨⟨rfl, _, _, rfl, rfl, rfl, rfl⟩, hc, ha⟩ := h
  have hx := text_addr ha
  show (if ([105, 110] : List UInt8) = [105, 110] then (⟨1, (smallS (digS 10 c.toNat) : Int), (addrC (addrT a).1).1, [], [], 0, 0⟩ : EvS) else _) = _
  rw [if_pos rfl, smallS_int (by omega) (by omega), hx]
 rename_i hk
 rw [if_neg hk]
 split at h
 ·rename_i hk
  rw [if_pos hk]
  simp only [Bool.and_eq_true, decide_eq_true_eq, connOk, EvS.mk.injEq] at h
  obtain ⟨⟨rfl, _, rfl, _, rfl, rfl, rfl⟩, hc, hn⟩ := h
  show (⟨2, (smallS (digS 10 c.toNat) : Int), [], p, [], 0, 0⟩ : EvS) = _
  rw [smallS_int (by omega) (by omega)]
 rename_i hk
 rw [if_neg hk]
 split at h
 ·rename_i hk
  rw [if_pos hk]
  simp only [Bool.and_eq_true, decide_eq_true_eq, connOk, EvS.mk.injEq] at h
  obtain ⟨⟨rfl, rfl, rfl, _, rfl, rfl, rfl⟩, hn⟩ := h
  rfl
 rename_i hk
 rw [if_neg hk]
 split at h
 ·rename_i hk
  rw [if_pos hk]
  simp only [Bool.and_eq_true, decide_eq_true_eq, connOk, EvS.mk.injEq] at h
  obtain ⟨⟨rfl, _, rfl, rfl, _, rfl, rfl⟩, hc, hb⟩ := h
  show (⟨4, (smallS (digS 10 c.toNat) : Int), [], [], unhexD (wordB b), 0, 0⟩ : EvS) = _
  rw [smallS_int (by omega) (by omega), unhexD_word]
 rename_i hk
 rw [if_neg hk]
 split at h
 ·rename_i hk
  rw [if_pos hk]
  simp only [Bool.and_eq_true, decide_eq_true_eq, connOk, EvS.mk.injEq] at h
  obtain ⟨⟨rfl, _, rfl, rfl, rfl, rfl, rfl⟩, hc⟩ := h
  show (⟨5, (smallS (digS 10 c.toNat) : Int), [], [], [], 0, 0⟩ : EvS) = _
  rw [smallS_int (by omega) (by omega)]
 rename_i hk
 rw [if_neg hk]
 split at h
 ·rename_i hk
  rw [if_pos hk]
  simp only [Bool.and_eq_true, decide_eq_true_eq, connOk, EvS.mk.injEq] at h
  obtain ⟨⟨rfl, rfl, rfl, rfl, rfl, _, rfl⟩, hc⟩ := h
  show (⟨6, 0, [], [], [], (smallS (digS 10 t.toNat) : Int), 0⟩ : EvS) = _
  rw [smallS_int (by omega) (by omega)]
 rename_i hk
 rw [if_neg hk]
 split at h
 ·rename_i hk
  rw [if_pos hk]
  simp only [Bool.and_eq_true, decide_eq_true_eq, connOk, EvS.mk.injEq] at h
  obtain ⟨⟨rfl, rfl, rfl, rfl, _, rfl, rfl⟩, hb⟩ := h
  show (⟨7, 0, [], [], unhexD (wordB b), 0, 0⟩ : EvS) = _
  rw [unhexD_word]
 rename_i hk
 rw [if_neg hk]
 split at h
 ·rename_i hk
  rw [if_pos hk]
  simp only [Bool.and_eq_true, decide_eq_true_eq, connOk, EvS.mk.injEq] at h
  obtain ⟨⟨rfl, rfl, rfl, rfl, _, rfl, rfl⟩, hb⟩ := h
  show (⟨8, 0, [], [], unhexD (wordB b), 0, 0⟩ : EvS) = _
  rw [unhexD_word]
 rename_i hk
 rw [if_neg hk]
 split at h
 ·rename_i hk
  rw [if_pos hk]
  simp only [Bool.and_eq_true, decide_eq_true_eq, connOk, EvS.mk.injEq] at h
  obtain ⟨rfl, rfl, rfl, rfl, rfl, rfl, _⟩ := h
  have hd := d.toNat_lt
  show (⟨9, 0, [], [], [], 0, UInt32.ofNat (smallS (digS 10 d.toNat))⟩ : EvS) = _
  rw [smallS_dig (by omega), UInt32.ofNat_toNat]
 rename_i hk
 rw [if_neg hk]
 split at h
 ·rename_i hk
  simp only [Bool.and_eq_true, decide_eq_true_eq, connOk, EvS.mk.injEq] at h
  obtain ⟨rfl, rfl, rfl, rfl, rfl, rfl, rfl⟩ := h
  rfl
 rename_i hk
 cases h
theorem wordB_len (b : List UInt8) : (wordB b).length ≤ 2 * b.length + 1 := by
 unfold wordB
 split
 ·simp
 ·rw [hexS_len]; omega
theorem dig10 {n : Nat} (h : n ≤ 4294967295) : (digS 10 n).length ≤ 10 := digS_len (by decide) 10 _ (by omega) (by decide)
theorem evW_len {e : EvS} (h : evOk e = true) : (evW e).length ≤ 131112 := by
 have hx := addrT_len (a := e.addr)
 have hw := wordB_len e.bytes
 have hdw := dig10 (n := e.draw.toNat) (by have := e.draw.toNat_lt; omega)
 have nam : ∀ x : List UInt8, nameOk x = true → x.length ≤ 16 := fun x hx => by
  unfold nameOk at hx
  simp only [Bool.and_eq_true, decide_eq_true_eq] at hx
  exact hx.2.1
 have l3 : ∀ a b c : List UInt8, (Lib.join [a, b, c] [32]).length = a.length + b.length + c.length + 2 := fun a b c => by simp [Lib.join]; omega
 have l2 : ∀ a b : List UInt8, (Lib.join [a, b] [32]).length = a.length + b.length + 1 := fun a b => by simp [Lib.join]; omega
 have hcn : 1 ≤ e.conn ∧ e.conn ≤ 64 → (digS 10 e.conn.toNat).length ≤ 10 := fun hc => dig10 (by omega)
 have hct : 1 ≤ e.ticks ∧ e.ticks ≤ 4096 → (digS 10 e.ticks.toNat).length ≤ 10 := fun hc => dig10 (by omega)
 have hnp := nam e.peer
 obtain ⟨k, c, a, p, b, t, d⟩ := e
 unfold evOk at h
 unfold evW evWs
 dsimp only at h hx hw hdw hcn hct hnp ⊢
 split at h
 ·rename_i hk; simp only [Bool.and_eq_true, decide_eq_true_eq, connOk] at h; rw [if_pos hk, l3]
  have := hcn h.2.1
  simp only [List.length_cons, List.length_nil]; omega
 rename_i hk
 rw [if_neg hk]
 split at h
 ·rename_i hk; simp only [Bool.and_eq_true, decide_eq_true_eq, connOk] at h; rw [if_pos hk, l3]
  have := hcn h.2.1
  have := hnp h.2.2
  simp only [List.length_cons, List.length_nil]; omega
 rename_i hk
 rw [if_neg hk]
 split at h
 ·rename_i hk; simp only [Bool.and_eq_true, decide_eq_true_eq, connOk] at h; rw [if_pos hk, l2]
  have := hnp h.2
  simp only [List.length_cons, List.length_nil]; omega
 rename_i hk
 rw [if_neg hk]
 split at h
 ·rename_i hk; simp only [Bool.and_eq_true, decide_eq_true_eq, connOk] at h; rw [if_pos hk, l3]
  have := hcn h.2.1
  simp only [List.length_cons, List.length_nil]; omega
 rename_i hk
 rw [if_neg hk]
 split at h
 ·rename_i hk; simp only [Bool.and_eq_true, decide_eq_true_eq, connOk] at h; rw [if_pos hk, l2]
  have := hcn h.2
  simp only [List.length_cons, List.length_nil]; omega
 rename_i hk
 rw [if_neg hk]
 split at h
 ·rename_i hk; simp only [Bool.and_eq_true, decide_eq_true_eq, connOk] at h; rw [if_pos hk, l2]
  have := hct h.2
  simp only [List.length_cons, List.length_nil]; omega
 rename_i hk
 rw [if_neg hk]
 split at h
 ·rename_i hk; simp only [Bool.and_eq_true, decide_eq_true_eq, connOk] at h; rw [if_pos hk, l2]
  have := h.2
  simp only [List.length_cons, List.length_nil]; omega
 rename_i hk
 rw [if_neg hk]
 split at h
 ·rename_i hk; simp only [Bool.and_eq_true, decide_eq_true_eq, connOk] at h; rw [if_pos hk, l2]
  have := h.2
  simp only [List.length_cons, List.length_nil]; omega
 rename_i hk
 rw [if_neg hk]
 split at h
 ·rename_i hk; simp only [Bool.and_eq_true, decide_eq_true_eq, connOk] at h; rw [if_pos hk, l2]
  simp only [List.length_cons, List.length_nil]; omega
 rename_i hk
 rw [if_neg hk]
 simp [Lib.join]
/-- The document's event of a line is the one that is read. -/
theorem docE_is (s : List UInt8) : docE s = match evO s with | some e => (e, true) | none => (zeroEv, false) := by
  unfold docE
  cases ho : evO s with
  | some e =>
    obtain ⟨h1, h2⟩ := evO_some ho
    have hl := evW_len h1
    have hc : candE (spl 32 s) = e := by rw [← h2, spl_ev h1]; exact cand_words h1
    dsimp only
    rw [if_neg (by rw [← h2]; omega), hc, if_pos]
    unfold evT
    rw [if_pos h1, h2]
  | none =>
    dsimp only
    split
    · rfl
    · rw [if_neg]
      intro he
      unfold evT at he
      split at he
      · rename_i hk
        have hs : evW (candE (spl 32 s)) = s := (Prod.mk.inj he).1
        have := evO_ev hk
        rw [hs, ho] at this
        cases this
      · cases (Prod.mk.inj he).2
end
section
open Go.RowKit
set_option linter.unusedVariables false
set_option linter.unusedSimpArgs false
/-- An event's words, as far as its kind has fields. -/
def tellS (e : EvS) : List UInt8 :=
 if e.kind = 1 then Lib.join [[105, 110], Lib.itoa e.conn, (addrT e.addr).1] [32]
 else if e.kind = 2 then Lib.join [[117, 112], Lib.itoa e.conn, e.peer] [32]
 else if e.kind = 3 then Lib.join [[114, 101, 102, 117, 115, 101], e.peer] [32]
 else if e.kind = 4 then Lib.join [[100, 97, 116, 97], Lib.itoa e.conn, wordB e.bytes] [32]
 else if e.kind = 5 then Lib.join [[99, 108, 111, 115, 101], Lib.itoa e.conn] [32]
 else if e.kind = 6 then Lib.join [[116, 105, 99, 107], Lib.itoa e.ticks] [32]
 else if e.kind = 7 then Lib.join [[108, 111, 97, 100], wordB e.bytes] [32]
 else if e.kind = 8 then Lib.join [[97, 115, 107], wordB e.bytes] [32]
 else if e.kind = 9 then Lib.join [[100, 114, 97, 119], digS 10 e.draw.toNat] [32]
 else if e.kind = 10 then [100, 114, 97, 105, 110]
 else []
theorem itoa_nn {n : Int} (h : 0 ≤ n) : Lib.itoa n = digS 10 n.toNat := by
 rw [digS_dec]
 exact if_neg (by omega)
theorem tell_ok {e : EvS} (h : evOk e = true) : tellS e = evW e := by
 have hcn : connOk e.conn = true → Lib.itoa e.conn = digS 10 e.conn.toNat := fun hc => itoa_nn (by simp only [connOk, decide_eq_true_eq] at hc; omega)
 unfold evOk at h
 unfold tellS evW evWs
 split at h
 ·rename_i hk; (try simp only [Bool.and_eq_true] at h); rw [if_pos hk, if_pos hk, hcn h.2.1]
 rename_i hk; rw [if_neg hk, if_neg hk]
 split at h
 ·rename_i hk; (try simp only [Bool.and_eq_true] at h); rw [if_pos hk, if_pos hk, hcn h.2.1]
 rename_i hk; rw [if_neg hk, if_neg hk]
 split at h
 ·rename_i hk; (try simp only [Bool.and_eq_true] at h); rw [if_pos hk, if_pos hk]
 rename_i hk; rw [if_neg hk, if_neg hk]
 split at h
 ·rename_i hk; (try simp only [Bool.and_eq_true] at h); rw [if_pos hk, if_pos hk, hcn h.2.1]
 rename_i hk; rw [if_neg hk, if_neg hk]
 split at h
 ·rename_i hk; (try simp only [Bool.and_eq_true] at h); rw [if_pos hk, if_pos hk, hcn h.2]
 rename_i hk; rw [if_neg hk, if_neg hk]
 split at h
 ·rename_i hk; (try simp only [Bool.and_eq_true] at h); rw [if_pos hk, if_pos hk, itoa_nn (by have := of_decide_eq_true h.2; omega)]
 rename_i hk; rw [if_neg hk, if_neg hk]
 split at h
 ·rename_i hk; (try simp only [Bool.and_eq_true] at h); rw [if_pos hk, if_pos hk]
 rename_i hk; rw [if_neg hk, if_neg hk]
 split at h
 ·rename_i hk; (try simp only [Bool.and_eq_true] at h); rw [if_pos hk, if_pos hk]
 rename_i hk; rw [if_neg hk, if_neg hk]
 split at h
 ·rename_i hk; (try simp only [Bool.and_eq_true] at h); rw [if_pos hk, if_pos hk]
 rename_i hk; rw [if_neg hk, if_neg hk]
 split at h
 ·rename_i hk; rw [if_pos hk]; rfl
 cases h
/-- The line that is told is one that is read back. -/
theorem evT_back (e : EvS) : evT e = if evO (tellS e) = some e then (tellS e, 0) else ([], 2) := by
 unfold evT
 by_cases h : evOk e = true
 ·rw [if_pos h, tell_ok h, if_pos (evO_ev h)]
 ·rw [if_neg h, if_neg]
  intro hb
  exact h (evO_some hb).1
/-- An output. -/
structure OutS where
  kind : Int
  conn : Int
  peer : List UInt8
  bytes : List UInt8
  err : Int
deriving instance DecidableEq for OutS
def outT (o : OutS) : List UInt8 × Int :=
 if o.kind = 1 then (if decide (o = ⟨1, 0, o.peer, [], 0⟩) && nameOk o.peer then (Lib.join [[99, 111, 110, 110, 101, 99, 116], o.peer] [32], 0) else ([], 2))
 else if o.kind = 2 then (if decide (o = ⟨2, o.conn, [], o.bytes, 0⟩) && (connOk o.conn && decide (o.bytes.length ≤ 4096)) then (Lib.join [[100, 97, 116, 97], digS 10 o.conn.toNat, wordB o.bytes] [32], 0) else ([], 2))
 else if o.kind = 3 then (if decide (o = ⟨3, o.conn, [], [], 0⟩) && connOk o.conn then (Lib.join [[99, 108, 111, 115, 101], digS 10 o.conn.toNat] [32], 0) else ([], 2))
 else if o.kind = 4 then (if decide (o = ⟨4, 0, [], o.bytes, 0⟩) then (Lib.join [[114, 101, 112, 108, 121], wordB o.bytes] [32], 0) else ([], 2))
 else if o.kind = 5 then (if decide (o = ⟨5, 0, [], [], o.err⟩) && decide (0 ≤ o.err ∧ o.err ≤ 11) then (Lib.join [[108, 111, 97, 100], digS 10 o.err.toNat] [32], 0) else ([], 2))
 else ([], 2)
/-- The rest of a script's reading, from a line on: the configuration's lines; the events' lines. -/
def restE (s : List UInt8) (cf at_ : Nat) (out : List EvS) (r : List (List UInt8)) : List UInt8 × List EvS × Int × Nat :=
 match scanE at_ out r with
 | (o, c, p) => if c = 0 then (s.take cf, o, 0, 0) else ([], [], c, p)
def restC (s : List UInt8) (at_ cf : Nat) (L : List (List UInt8)) : List UInt8 × List EvS × Int × Nat :=
 match scanC at_ cf L with
 | none => ([], [], 9, at_ + L.length - 1)
 | some (a, k, r) => restE s k (a + 1) [] r
theorem parse_rest {s : List UInt8} (h : s.length ≤ 1048576) : parseS s = restC s 0 0 (spl 10 s) := by
 unfold parseS restC restE
 rw [if_neg (by omega)]
 cases scanC 0 0 (spl 10 s) with
 | none => simp
 | some x => rfl
theorem restC_run (s : List UInt8) (at_ cf : Nat) {x y : List UInt8} {r : List (List UInt8)} (h : x = runW) : restC s at_ cf (x :: y :: r) = restE s cf (at_ + 1) [] (y :: r) := by
 unfold restC
 rw [scanC, if_pos h]
theorem restC_on (s : List UInt8) (at_ cf : Nat) {x y : List UInt8} {r : List (List UInt8)} (h : x ≠ runW) : restC s at_ cf (x :: y :: r) = restC s (at_ + 1) (cf + x.length + 1) (y :: r) := by
 unfold restC
 rw [scanC, if_neg h]
 cases scanC (at_ + 1) (cf + x.length + 1) (y :: r) with
 | none => simp only [List.length_cons, Prod.mk.injEq, true_and]; omega
 | some x => rfl
theorem restC_end (s : List UInt8) (at_ cf : Nat) (x : List UInt8) : restC s at_ cf [x] = ([], [], 9, at_) := by
 unfold restC
 rw [scanC]
 ·simp
 ·intro a b c h; cases h
theorem restE_bad (s : List UInt8) (cf at_ : Nat) (out : List EvS) {x y : List UInt8} {r : List (List UInt8)} (h : evO x = none) : restE s cf at_ out (x :: y :: r) = ([], [], 9, at_) := by
 unfold restE
 rw [scanE, h]
 rfl
theorem restE_long (s : List UInt8) (cf at_ : Nat) {out : List EvS} {x y : List UInt8} {r : List (List UInt8)} {e : EvS} (h : evO x = some e) (hl : out.length = 512) : restE s cf at_ out (x :: y :: r) = ([], [], 3, at_) := by
 unfold restE
 rw [scanE, h]
 dsimp only
 rw [if_pos hl]
 rfl
theorem restE_on (s : List UInt8) (cf at_ : Nat) {out : List EvS} {x y : List UInt8} {r : List (List UInt8)} {e : EvS} (h : evO x = some e) (hl : out.length ≠ 512) : restE s cf at_ out (x :: y :: r) = restE s cf (at_ + 1) (out ++ [e]) (y :: r) := by
 unfold restE
 rw [scanE, h]
 dsimp only
 rw [if_neg hl]
theorem restE_end (s : List UInt8) (cf at_ : Nat) (out : List EvS) (x : List UInt8) : restE s cf at_ out [x] = if x = [] then (s.take cf, out, 0, 0) else ([], [], 9, at_) := by
 unfold restE
 rw [scanE]
 by_cases h : x = []
 ·rw [if_pos h, if_pos h]; rfl
 ·rw [if_neg h, if_neg h]; rfl
/-- 'run' stands in a line: or a text holds it between two lines' ends. -/
def nlRun : List UInt8 := 10 :: (runW ++ [10])
theorem nlRun_step {a t : List UInt8} (h : (10 : UInt8) ∉ a) : nlRun <:+: 10 :: (a ++ 10 :: t) ↔ a = runW ∨ nlRun <:+: 10 :: t := by
  constructor
  · rintro ⟨x, y, he⟩
    cases x with
    | nil =>
      left
      unfold nlRun at he
      simp only [List.nil_append, List.cons_append, List.append_assoc, List.cons.injEq, true_and] at he
      exact (append_at he.symm h (by decide)).1
    | cons c x =>
      right
      unfold nlRun at he
      simp only [List.cons_append, List.append_assoc, List.cons.injEq] at he
      obtain ⟨rfl, he⟩ := he
      rcases List.append_eq_append_iff.1 he with ⟨z, hz, he⟩ | ⟨z, hz, he⟩
      · cases z with
        | nil =>
          rw [List.nil_append] at he
          exact ⟨[], y, by unfold nlRun; simp only [List.nil_append, List.cons_append, List.append_assoc]; exact he⟩
        | cons d z =>
          exfalso
          rw [List.cons_append] at he
          injection he with h1 h2
          subst h1
          exact h (by rw [hz]; simp)
      · exact ⟨z, y, by unfold nlRun; simp only [List.cons_append, List.append_assoc]; exact he.symm⟩
  · rintro (rfl | ⟨x, y, he⟩)
    · exact ⟨[], t, by simp [nlRun]⟩
    · exact ⟨10 :: (a ++ x), y, by simp only [List.cons_append, List.append_assoc] at he ⊢; rw [he]⟩
end
section
open Go.RowKit
set_option linter.unusedVariables false
theorem digs_get (d : Nat) (h : d < 16) (h2 : d < (ByteArray.mk #[48, 49, 50, 51, 52, 53, 54, 55, 56, 57, 97, 98, 99, 100, 101, 102]).size) : (ByteArray.mk #[48, 49, 50, 51, 52, 53, 54, 55, 56, 57, 97, 98, 99, 100, 101, 102])[d]'h2 = dgt d := by
 have : ∀ d : Fin 16, (ByteArray.mk #[48, 49, 50, 51, 52, 53, 54, 55, 56, 57, 97, 98, 99, 100, 101, 102])[d.val]'(d.isLt) = dgt d.val := by decide +kernel
 exact this ⟨d, h⟩
set_option maxRecDepth 20000 in
set_option maxHeartbeats 1000000 in
theorem DHex_any (s : List UInt8) (hs : s.length ≤ 1048576) (w : World) :
    Calls Tryz.prog 75 #[.string ⟨s.toArray⟩] w fun e w' => e = .returned (.string ⟨(hexS s).toArray⟩) ∧ Ext w w' := by
  go_enter Tryz.func75, Tryz.ntmps75
  go_wp2
  go_loopw [3, 4] (fun v q wr => ∃ k : Nat, k ≤ s.length ∧ q = .int .i64 k ∧ OwnB 5 wr w.heap.size v (hexS (s.take k)) ∧ Ext w wr) (fun _ q _ => s.length - (intOf q).toNat)
  case atStart => exact ⟨0, Nat.zero_le _, rfl, by rw [List.take_zero]; exact OwnB.nil, Ext.refl _⟩
  case round =>
    obtain ⟨k, hk, rfl, hown, hE⟩ := hrel
    have hsz := hE.size
    have hle : (hexS (s.take k)).length ≤ 2097152 := by rw [hexS_len, List.length_take]; omega
    replace hE := hide hE
    replace hown := hide hown
    by_cases hlt : k < s.length
    · have e1 : (ByteArray.mk s.toArray)[k]'(by rw [ba_size]; exact hlt) = s[k] := rfl
      have hnx : hexS (s.take (k + 1)) = (hexS (s.take k) ++ [dgt (s[k].toNat / 16)]) ++ [dgt (s[k].toNat % 16)] := by
        rw [List.take_succ_eq_append_getElem hlt, hexS, List.flatMap_append]
        simp [hexS]
      generalize s[k] = c at e1 hnx
      generalize hexS (s.take k) = X at *
      have hc := c.toNat_lt
      have t1 : Int.tdiv (c.toNat : Int) 16 = ((c.toNat / 16 : Nat) : Int) := by rw [Int.tdiv_eq_ediv_of_nonneg (by omega)]; rfl
      have t2 : Int.tmod (c.toNat : Int) 16 = ((c.toNat % 16 : Nat) : Int) := by rw [Int.tmod_eq_emod_of_nonneg (by omega)]; rfl
      have w1 : IntKind.u8.wrap ((c.toNat / 16 : Nat) : Int) = ((c.toNat / 16 : Nat) : Int) := by rw [IntKind.wrap_u8]; omega
      have w2 : IntKind.u8.wrap ((c.toNat % 16 : Nat) : Int) = ((c.toNat % 16 : Nat) : Int) := by rw [IntKind.wrap_u8]; omega
      have g1 : c.toNat / 16 < 16 := by omega
      have g2 : c.toNat % 16 < 16 := by omega
      have d1 := digs_get _ g1
      have d2 := digs_get _ g2
      generalize c.toNat / 16 = n1 at *
      generalize c.toNat % 16 = n2 at *
      go_wp2_with first
        | (at_builtin
           have hox := hown.out.alloc (Obj.cells #[.int .u8 ((dgt n1).toNat : Int)] 5)
           refine wpList_appendB rfl _ _ _ rfl okB8 okB8z rfl hox (by simp; omega) [dgt n1] rfl (by simp at hle ⊢; omega) (byte_new _ _ _) ?_
           intro v1 W1 hown1 hg1 hat1
           replace hown1 := hide hown1)
        | (at_builtin
           have hE1 := (hE.out.alloc _).push (fun j hj => (hown.out.lt j hj).1) hg1
           have hsz1 := hE1.size
           replace hE1 := hide hE1
           have hox := hown1.out.alloc (Obj.cells #[.int .u8 ((dgt n2).toNat : Int)] 5)
           refine wpList_appendB rfl _ _ _ rfl okB8 okB8z rfl hox (by simp; omega) [dgt n2] rfl (by simp at hle ⊢; omega) (byte_new _ _ _) ?_
           intro v2 W2 hown2 hg2 hat2
           replace hown2 := hide hown2)
      go_roundw
      case rel => exact ⟨k + 1, by omega, by simp, by rw [hnx]; exact hown2.out, (hE1.out.alloc _).push (fun j hj => (hown1.out.lt j hj).1) hg2⟩
      case measure => simp [intOf]; omega
    · obtain rfl : k = s.length := by omega
      have hown1 := hown.out
      rw [List.take_length] at hown1
      have kd := run_stringB (P := Tryz.prog) (src := 65) (dst := 9) Tryz.underlying65 Tryz.underlying5 Tryz.underlying9 hown1
      replace hown1 := hide hown1
      go_wp2
      go_ret
      exact ⟨rfl, hE.out⟩
set_option maxRecDepth 20000 in
set_option maxHeartbeats 1000000 in
theorem DDigit_any (c : UInt8) (w : World) :
  Calls Tryz.prog 97 #[.int .u8 (c.toNat : Int)] w fun e w' => e = .returned (.int .u8 (hval c : Int)) ∧ w' = w := by
 have hbd : hval c ≤ 16 := by unfold hval; split <;> (try split) <;> omega
 go_enter Tryz.func97, Tryz.ntmps97
 go_wp2
 go_loop [3] (fun q => ∃ k : Nat, k ≤ 16 ∧ q = .int .i64 k ∧ k ≤ hval c) (fun q => 16 - (intOf q).toNat)
 case atStart => exact ⟨0, by omega, rfl, by omega⟩
 case round =>
  obtain ⟨k, hk, rfl, hv⟩ := hrel
  by_cases hlt : k < 16
  ·have d1 := digs_get k hlt
   by_cases hh : hval c = k
   ·have hc : dgt k = c := by rw [← hh]; exact dgt_hval (by omega)
    have b1 : (((dgt k).toNat : Int) == (c.toNat : Int)) = true := by rw [hc]; simp
    have wk : IntKind.u8.wrap (k : Int) = (k : Int) := by rw [IntKind.wrap_u8]; omega
    replace hbd := hide hbd
    go_wp2
    go_ret
    exact ⟨rfl, rfl⟩
   ·have hc : dgt k ≠ c := fun e => hh (by rw [← e]; exact hval_dgt hlt)
    have b1 : (((dgt k).toNat : Int) == (c.toNat : Int)) = false := by
     rw [beq_eq_false_iff_ne]
     intro e
     exact hc (UInt8.toNat_inj.1 (by omega))
    replace hbd := hide hbd
    go_wp2
    go_round
    case rel => exact ⟨k + 1, by omega, by simp, by omega⟩
    case measure => simp [intOf]; omega
  ·have hh : hval c = 16 := by omega
   replace hbd := hide hbd
   go_wp2
   go_ret
   exact ⟨rfl, rfl⟩
/-- What digits answer. -/
def UnP (s : List UInt8) (w : World) (e : Ending) (w' : World) : Prop :=
 (∃ c : Int, e = .returned (.tuple #[.string ⟨((unhexS s).getD []).toArray⟩, .int .i64 c]) ∧ (c = 0 ↔ (unhexS s).isSome)) ∧ Ext w w'
theorem unhex_odd : ∀ (s : List UInt8), s.length % 2 = 1 → unhexS s = none
  | [], h => by cases h
  | [_], _ => rfl
  | a :: b :: r, h => by
    have ih := unhex_odd r (by simp only [List.length_cons] at h; omega)
    rw [unhexS, ih]
    split <;> rfl
theorem unhex_pair : ∀ (s t : List UInt8) (a b : UInt8), s.length % 2 = 0 → unhexS (s ++ a :: b :: t) = match unhexS s with
    | some l => (if hval a < 16 ∧ hval b < 16 then (unhexS t).map fun q => l ++ UInt8.ofNat (16 * hval a + hval b) :: q else none)
    | none => none
  | [], t, a, b, _ => by
    rw [List.nil_append, unhexS]
    rfl
  | [_], t, a, b, h => by cases h
  | x :: y :: r, t, a, b, h => by
    have ih := unhex_pair r t a b (by simp only [List.length_cons] at h; omega)
    rw [List.cons_append, List.cons_append, unhexS, ih, unhexS]
    by_cases hd : hval x < 16 ∧ hval y < 16
    · rw [if_pos hd, if_pos hd]
      cases unhexS r with
      | none => rfl
      | some l =>
        dsimp only [Option.map_some]
        by_cases hd2 : hval a < 16 ∧ hval b < 16
        · rw [if_pos hd2, if_pos hd2]
          cases unhexS t <;> rfl
        · rw [if_neg hd2, if_neg hd2]; rfl
    · rw [if_neg hd, if_neg hd]
set_option maxRecDepth 20000 in
set_option maxHeartbeats 1000000 in
theorem DUnhex_any (s : List UInt8) (hs : s.length ≤ 1048576) (w : World) :
    Calls Tryz.prog 81 #[.string ⟨s.toArray⟩] w (UnP s w) := by
  have t0 : Int.tmod (s.length : Int) 2 = ((s.length % 2 : Nat) : Int) := by rw [Int.tmod_eq_emod_of_nonneg (by omega)]; rfl
  have hm2 : s.length % 2 < 2 := Nat.mod_lt _ (by decide)
  by_cases hodd : s.length % 2 = 1
  · have hn := unhex_odd s hodd
    have hP : ∀ w', Ext w w' → UnP s w (.returned (.tuple #[.string ⟨#[]⟩, .int .i64 4])) w' := fun w' he => ⟨⟨4, by rw [hn]; rfl, by rw [hn]; simp⟩, he⟩
    rw [hodd] at t0
    replace hP := hide hP
    replace hn := hide hn
    go_enter Tryz.func81, Tryz.ntmps81
    go_wp2
    go_ret2
    exact hP.out _ (Ext.refl _)
  have heven : s.length % 2 = 0 := by omega
  rw [heven] at t0
  have hdg := fun (c : UInt8) W => DDigit_any c W
  replace hdg := hide hdg
  go_enter Tryz.func81, Tryz.ntmps81
  go_wp2
  go_loopw [4, 5] (fun v q wr => ∃ (p : Nat) (l : List UInt8), p ≤ s.length ∧ p % 2 = 0 ∧ q = .int .i64 (p : Int) ∧ unhexS (s.take p) = some l ∧ l.length ≤ p ∧ OwnB 5 wr w.heap.size v l ∧ Ext w wr) (fun _ q _ => s.length - (intOf q).toNat)
  case atStart => exact ⟨0, [], Nat.zero_le _, rfl, rfl, rfl, Nat.zero_le _, OwnB.nil, Ext.refl _⟩
  case round =>
    obtain ⟨p, l, hm, hp2, rfl, hl, hlen, hown, hE⟩ := hrel
    have hsz := hE.size
    replace hE := hide hE
    replace hown := hide hown
    have hlt0 := hp2
    clear hp2
    by_cases hlt : p < s.length
    · have hlt2 : p + 1 < s.length := by omega
      have e1 : (ByteArray.mk s.toArray)[p]'(by rw [ba_size]; exact hlt) = s[p] := rfl
      have e2 : (ByteArray.mk s.toArray)[p + 1]'(by rw [ba_size]; exact hlt2) = s[p + 1] := rfl
      have hev : (s.take (p)).length % 2 = 0 := by rw [List.length_take]; omega
      have hnx : unhexS (s.take (p + 2)) = unhexS (s.take p ++ s[p] :: s[p + 1] :: []) := by
        rw [show p + 2 = p + 1 + 1 by omega, List.take_succ_eq_append_getElem hlt2, List.take_succ_eq_append_getElem hlt, List.append_assoc]
        rfl
      have hall : unhexS s = unhexS (s.take (p) ++ s[p] :: s[p + 1] :: s.drop (p + 1 + 1)) := by
        rw [← List.drop_eq_getElem_cons hlt2, ← List.drop_eq_getElem_cons hlt, List.take_append_drop]
      rw [unhex_pair _ _ _ _ hev, hl] at hnx hall
      dsimp only at hnx hall
      have hle : l.length ≤ 1048576 := by omega
      replace hlen := hide hlen
      replace hl := hide hl
      generalize s[p] = c at e1 hnx hall
      generalize s[p + 1] = d at e2 hnx hall
      have hc := c.toNat_lt
      have hvc : hval c ≤ 16 := by unfold hval; split <;> (try split) <;> omega
      have hvd : hval d ≤ 16 := by unfold hval; split <;> (try split) <;> omega
      have hout := hown.out
      obtain ⟨a0, c0, rfl⟩ := hout.form
      clear hout
      by_cases hgood : hval c < 16 ∧ hval d < 16
      · have hN : 16 * hval c + hval d < 256 := by omega
        have w1 : IntKind.u8.wrap (16 * (hval c : Int)) = 16 * (hval c : Int) := by rw [IntKind.wrap_u8]; omega
        have w2 : IntKind.u8.wrap (16 * (hval c : Int) + (hval d : Int)) = ((UInt8.ofNat (16 * hval c + hval d)).toNat : Int) := by rw [IntKind.wrap_u8, UInt8.toNat_ofNat']; omega
        have b1 : decide ((15 : Int) < (hval c : Int)) = false := decide_eq_false (by omega)
        have b2 : decide ((15 : Int) < (hval d : Int)) = false := decide_eq_false (by omega)
        rw [if_pos hgood] at hnx
        have hnx : unhexS (s.take (p + 2)) = some (l ++ [UInt8.ofNat (16 * hval c + hval d)]) := hnx
        replace hgood := hide hgood
        generalize UInt8.ofNat (16 * hval c + hval d) = z at *
        clear hall
        replace hnx := hide hnx
        go_wp2_with first
          | (go_at_call 97; refine (hdg.out _ _).mono ?_; rintro e w' ⟨rfl, rfl⟩)
          | (at_builtin
             have hox := hown.out.alloc (Obj.cells #[.int .u8 (z.toNat : Int)] 5)
             refine wpList_appendB rfl _ _ _ rfl okB8 okB8z rfl hox (by simp; omega) [z] rfl (by simp; omega) (byte_new _ _ _) ?_
             intro v1 W1 hown1 hg1 hat1
             replace hown1 := hide hown1)
        go_roundw
        case rel => exact ⟨p + 2, l ++ [z], by omega, by omega, by simp, hnx.out, by have := hlen.out; simp; omega, hown1.out, (hE.out.alloc _).push (fun j hj => (hown.out.lt j hj).1) hg1⟩
        case measure => simp [intOf]; omega
      · rw [if_neg hgood] at hall
        have hP : ∀ w', Ext w w' → UnP s w (.returned (.tuple #[.string ⟨#[]⟩, .int .i64 4])) w' := fun w' he => ⟨⟨4, by rw [hall]; rfl, by rw [hall]; simp⟩, he⟩
        replace hP := hide hP
        clear hall hnx
        by_cases hg1 : hval c < 16
        · have hv2 : hval d = 16 := by omega
          have b1 : decide ((15 : Int) < (hval c : Int)) = false := decide_eq_false (by omega)
          clear hgood
          have b2 : decide ((15 : Int) < (hval d : Int)) = true := by rw [hv2]; rfl
          go_wp2_with (go_at_call 97; refine (hdg.out _ _).mono ?_; rintro e w' ⟨rfl, rfl⟩)
          go_ret2
          exact hP.out _ hE.out
        · have hv1 : hval c = 16 := by omega
          clear hgood
          have b1 : decide ((15 : Int) < (hval c : Int)) = true := by rw [hv1]; rfl
          go_wp2_with (go_at_call 97; refine (hdg.out _ _).mono ?_; rintro e w' ⟨rfl, rfl⟩)
          go_ret2
          exact hP.out _ hE.out
    · have hm2' : p = s.length := by omega
      subst hm2'
      rw [List.take_length] at hl
      have hown1 := hown.out
      have kd := run_stringB (P := Tryz.prog) (src := 65) (dst := 9) Tryz.underlying65 Tryz.underlying5 Tryz.underlying9 hown1
      replace hown1 := hide hown1
      have hP : ∀ w', Ext w w' → UnP s w (.returned (.tuple #[.string ⟨l.toArray⟩, .int .i64 0])) w' := fun w' he => ⟨⟨0, by rw [hl]; rfl, by rw [hl]; simp⟩, he⟩
      replace hP := hide hP
      replace hlen := hide hlen
      replace hl := hide hl
      go_wp2
      go_ret2
      exact hP.out _ hE.out
end
end Go.Proofs.YtkinghadgmbhbaaGreatDoor
