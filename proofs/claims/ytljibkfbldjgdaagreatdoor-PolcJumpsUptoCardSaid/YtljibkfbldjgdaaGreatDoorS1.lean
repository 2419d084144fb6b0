/- Numerals read by the program: strconv.ParseUint to the bases 10 and 16, prim.number. Walks: the library's ParseUint to the base 16 (of 16 bits). Walks: the library's ParseUint to the base 16, public; prim.number to the base 16. Walks: an address read, by the program. -/
import Derived.Test.YtljibkfbldjgdaaGreatDoorPL
import Derived.Test.YtljibkfbldjgdaaGreatDoorQ5
import Derived.Test.YtljibkfbldjgdaaGreatDoorQ1
import Derived.Test.YtljibkfbldjgdaaGreatDoorP20
namespace Go.Proofs.YtljibkfbldjgdaaGreatDoor
open Go.RowKit Go.Sort
set_option linter.unusedVariables false

/-- What reading a numeral answers: a number, and whether it is one in its own form. -/
def NumP (b M : Nat) (s : List UInt8) (w : World) (e : Ending) (w' : World) : Prop :=
  (∃ z : Int, e = .returned (.tuple #[.int .u64 z, .bool (rdN b M s).isSome]) ∧ ∀ n, rdN b M s = some n → z = (n : Int)) ∧ Ext w w'
/-- What ParseUint answers, as far as that goes: no numeral in its own form is refused. -/
def PuP (b M : Nat) (s : List UInt8) (w : World) (e : Ending) (w' : World) : Prop :=
  Ext w w' ∧ ((∃ u : Nat, u ≤ M ∧ e = .returned (.tuple #[.int .u64 (u : Int), .nilIface]) ∧ ∀ n, rdN b M s = some n → n = u) ∨ (rdN b M s = none ∧ ∃ z T p, e = .returned (.tuple #[.int .u64 z, .iface T p])))
theorem rd_dec {B : Nat} (hB : B ≤ 64) {s : List UInt8} {n : Nat} (h : rdN 10 (2 ^ B - 1) s = some n) : Lib.parseUintB B s = .ok n := by
  obtain ⟨h1, h2⟩ := (rdN_iff (by decide) (by decide)).1 h
  rw [← h2, digS_dec]
  have : 0 < 2 ^ B := Nat.pow_pos (by decide)
  exact pub_dec B hB n (by omega)
theorem PU8_any (s : List UInt8) (w : World) (hV : Vars w) (hs : s.length ≤ 1048576) :
    Calls Tryz.prog 137 #[.string ⟨s.toArray⟩, .int .i64 10, .int .i64 8] w (PuP 10 255 s w) := by
  obtain ⟨t1, p1, h1⟩ := hV.es
  obtain ⟨t2, p2, h2⟩ := hV.er
  have hz : (ByteArray.mk s.toArray).size = s.length := ba_size s
  have hrd := fun n => rd_dec (B := 8) (s := s) (n := n) (by decide)
  rcases hp : Lib.parseUintB 8 s with u | _ | _
  · rw [hp] at hrd
    refine (PU8_ok s u w hs hp).mono ?_
    rintro e w' ⟨rfl, hw⟩
    exact ⟨hw, .inl ⟨u, Lib.parseUintB_le hp, rfl, fun n hn => by have := hrd n hn; injection this with this; exact this.symm⟩⟩
  · rw [hp] at hrd
    refine (Any.strconv_ParseUint_10_at8_syntax Tryz.laysPu14 ⟨s.toArray⟩ (by omega) hp _ w h1 (.inr ⟨_, _, rfl⟩)).mono ?_
    rintro e w' ⟨N, rfl, _, _, hb⟩
    refine ⟨hb, .inr ⟨?_, _, _, _, rfl⟩⟩
    cases hr : rdN 10 255 s with
    | none => rfl
    | some n => cases hrd n hr
  · rw [hp] at hrd
    refine (Any.strconv_ParseUint_10_at8_range Tryz.laysPu14 ⟨s.toArray⟩ (by omega) hp _ w h2 (.inr ⟨_, _, rfl⟩)).mono ?_
    rintro e w' ⟨N, rfl, _, _, hb⟩
    refine ⟨hb, .inr ⟨?_, _, _, _, rfl⟩⟩
    cases hr : rdN 10 255 s with
    | none => rfl
    | some n => cases hrd n hr
theorem PU64_any (s : List UInt8) (w : World) (hV : Vars w) (hs : s.length ≤ 1048576) :
    Calls Tryz.prog 137 #[.string ⟨s.toArray⟩, .int .i64 10, .int .i64 64] w (PuP 10 18446744073709551615 s w) := by
  obtain ⟨t1, p1, h1⟩ := hV.es
  obtain ⟨t2, p2, h2⟩ := hV.er
  have hz : (ByteArray.mk s.toArray).size = s.length := ba_size s
  have hrd := fun n => rd_dec (B := 64) (s := s) (n := n) (by decide)
  rcases hp : Lib.parseUintB 64 s with u | _ | _
  · rw [hp] at hrd
    refine (PU64_ok s u w hs hp).mono ?_
    rintro e w' ⟨rfl, hw⟩
    exact ⟨hw, .inl ⟨u, Lib.parseUintB_le hp, rfl, fun n hn => by have := hrd n hn; injection this with this; exact this.symm⟩⟩
  · rw [hp] at hrd
    refine (Any.strconv_ParseUint_10_at64_syntax Tryz.laysPu14 ⟨s.toArray⟩ (by omega) hp _ w h1 (.inr ⟨_, _, rfl⟩)).mono ?_
    rintro e w' ⟨N, rfl, _, _, hb⟩
    refine ⟨hb, .inr ⟨?_, _, _, _, rfl⟩⟩
    cases hr : rdN 10 18446744073709551615 s with
    | none => rfl
    | some n => cases hrd n hr
  · rw [hp] at hrd
    refine (Any.strconv_ParseUint_10_at64_range Tryz.laysPu14 ⟨s.toArray⟩ (by omega) hp _ w h2 (.inr ⟨_, _, rfl⟩)).mono ?_
    rintro e w' ⟨N, rfl, _, _, hb⟩
    refine ⟨hb, .inr ⟨?_, _, _, _, rfl⟩⟩
    cases hr : rdN 10 18446744073709551615 s with
    | none => rfl
    | some n => cases hrd n hr
/- prim.number: ParseUint, and told again. -/
set_option maxRecDepth 20000 in
theorem number_of (b M : Nat) (bits : Int) (h2 : 2 ≤ b) (h16 : b ≤ 16) (s : List UInt8) (w : World)
    (hpu : ∀ W, Ext w W → Calls Tryz.prog 137 #[.string ⟨s.toArray⟩, .int .i64 (b : Int), .int .i64 bits] W (PuP b M s W))
    (hf : ∀ u : Nat, u ≤ M → ∀ W, Ext w W → Calls Tryz.prog 87 #[.int .u64 (u : Int), .int .i64 (b : Int)] W fun e w' => e = .returned (.string ⟨(digS b u).toArray⟩) ∧ Ext W w') :
    Calls Tryz.prog 139 #[.string ⟨s.toArray⟩, .int .i64 (b : Int), .int .i64 bits] w (NumP b M s w) := by
  have hok : ∀ (u : Nat) (W : World), u ≤ M → (∀ n, rdN b M s = some n → n = u) → Ext w W → NumP b M s w (.returned (.tuple #[.int .u64 (u : Int), .bool (digS b u == s)])) W := by
    intro u W hu hn hE
    refine ⟨⟨(u : Int), ?_, fun n h => by rw [hn n h]⟩, hE⟩
    by_cases he : digS b u = s
    · rw [beq_iff_eq.2 he, (rdN_iff h2 h16).2 ⟨hu, he⟩]; rfl
    · rw [beq_eq_false_iff_ne.2 he]
      cases hr : rdN b M s with
      | none => rfl
      | some n =>
        have h1 := hn n hr
        subst h1
        exact absurd ((rdN_iff h2 h16).1 hr).2 he
  have hbad : ∀ (z : Int) (W : World), rdN b M s = none → Ext w W → NumP b M s w (.returned (.tuple #[.int .u64 z, .bool false])) W := by
    intro z W hn hE
    exact ⟨⟨z, by rw [hn]; rfl, fun n h => by rw [hn] at h; cases h⟩, hE⟩
  replace hok := hide hok
  replace hbad := hide hbad
  replace hpu := hide hpu
  replace hf := hide hf
  go_enter Tryz.func139, Tryz.ntmps139
  go_wp2_with fail
  refine (hpu.out _ (Ext.refl _)).mono ?_
  rintro e w1 ⟨he, ⟨u, hu, rfl, hn⟩ | ⟨hn, z, T, p, rfl⟩⟩
  · have hq := fun W h => hf.out u hu W h
    have hr := fun W h => hok.out u W hu hn h
    generalize digS b u = d at hq hr
    replace hq := hide hq
    replace hr := hide hr
    replace hn := hide hn
    replace hu := hide hu
    replace he := hide he
    go_wp2_with fail
    refine (hq.out _ he.out).mono ?_
    rintro e w2 ⟨rfl, he2⟩
    replace he2 := hide (he.out.trans he2)
    go_wp2
    go_ret2
    exact hr.out _ he2.out
  · have hr := fun W h => hbad.out z W hn h
    replace hr := hide hr
    replace hn := hide hn
    replace he := hide he
    go_wp2
    go_ret2
    exact hr.out _ he.out
theorem number10_8 (s : List UInt8) (w : World) (hT : Tab w) (hV : Vars w) (hs : s.length ≤ 1048576) :
    Calls Tryz.prog 139 #[.string ⟨s.toArray⟩, .int .i64 10, .int .i64 8] w (NumP 10 255 s w) :=
  number_of 10 255 8 (by decide) (by decide) s w (fun W h => PU8_any s W (hV.ext h) hs) fun u hu W h => (FormatUint_any u (by omega) W (hT.ext h)).mono fun e w' q => ⟨by rw [q.1]; unfold dec; rw [digS_dec], q.2⟩
theorem number10_64 (s : List UInt8) (w : World) (hT : Tab w) (hV : Vars w) (hs : s.length ≤ 1048576) :
    Calls Tryz.prog 139 #[.string ⟨s.toArray⟩, .int .i64 10, .int .i64 64] w (NumP 10 18446744073709551615 s w) :=
  number_of 10 18446744073709551615 64 (by decide) (by decide) s w (fun W h => PU64_any s W (hV.ext h) hs) fun u hu W h => (FormatUint_any u (by omega) W (hT.ext h)).mono fun e w' q => ⟨by rw [q.1]; unfold dec; rw [digS_dec], q.2⟩
open Go.RowKit Go.Sort

theorem low_hex : ∀ c : Fin 256, 97 ≤ c.val → c.val ≤ 102 → c.val ||| 32 = c.val := by decide +kernel
theorem low_small : ∀ c : Fin 256, c.val < 48 → c.val ||| 32 < 97 := by decide +kernel
theorem low_lt : ∀ c : Fin 256, c.val ||| 32 < 256 := by decide +kernel
set_option maxRecDepth 20000 in
theorem Lower_any (c : UInt8) (w : World) : Calls Tryz.prog 187 #[.int .u8 (c.toNat : Int)] w fun e w' => e = .returned (.int .u8 ((c.toNat ||| 32 : Nat) : Int)) ∧ w = w' := by
  have hor : bits .or .u8 (c.toNat : Int) 32 = ((c.toNat ||| 32 : Nat) : Int) := u8_or_nat _ 32 c.toNat_lt (by decide)
  generalize c.toNat ||| 32 = L at hor ⊢
  go_enter Tryz.func187, Tryz.ntmps187
  go_wp2
  go_ret
  exact ⟨rfl, rfl⟩
/-- What the walk needs of one byte: where it goes on, and that a numeral in its own form goes on with its own digit. -/
theorem hex_char {M m : Nat} {s : List UInt8} (h : rdN 16 M s = some m) {k : Nat} (hk : k < s.length) : (48 ≤ s[k].toNat ∧ s[k].toNat ≤ 57 ∧ dval s[k] = s[k].toNat - 48) ∨ (97 ≤ s[k].toNat ∧ s[k].toNat ≤ 102 ∧ s[k].toNat ||| 32 = s[k].toNat ∧ dval s[k] = s[k].toNat - 87) := by
  obtain ⟨_, he⟩ := (rdN_iff (by decide) (by decide)).1 h
  obtain ⟨d, hd, hc⟩ := digS_mem (b := 16) (by decide) (by decide) m s[k] (by rw [he]; exact List.getElem_mem hk)
  have h1 := dgt_toNat (show d < 16 from hd)
  have h2 := dval_dgt (show d < 16 from hd)
  rw [← hc] at h1 h2
  by_cases h10 : d < 10
  · rw [if_pos h10] at h1
    exact .inl ⟨by omega, by omega, by omega⟩
  · rw [if_neg h10] at h1
    refine .inr ⟨by omega, by omega, ?_, by omega⟩
    exact low_hex ⟨s[k].toNat, s[k].toNat_lt⟩ (by show 97 ≤ s[k].toNat; omega) (by show s[k].toNat ≤ 102; omega)
/-- What the inner ParseUint answers. -/
def IpP (M : Nat) (s : List UInt8) (w : World) (e : Ending) (w' : World) : Prop :=
  Ext w w' ∧ ((∃ u : Nat, u ≤ M ∧ e = .returned (.tuple #[.int .u64 (u : Int), .nilIface]) ∧ ∀ n, rdN 16 M s = some n → n = u) ∨ (rdN 16 M s = none ∧ ∃ z k, (k = 1 ∨ k = 2) ∧ e = .returned (.tuple #[.int .u64 z, .iface 234 (.int .i64 k)])))
set_option maxRecDepth 20000 in
set_option maxHeartbeats 4000000 in
theorem IPu16 (s : List UInt8) (hs : s.length ≤ 1048576) (w : World) :
    Calls Tryz.prog 167 #[.string ⟨s.toArray⟩, .int .i64 16, .int .i64 16] w (IpP 65535 s w) := by
  have hbad : ∀ (z k : Int) (W : World), rdN 16 65535 s = none → (k = 1 ∨ k = 2) → Ext w W → IpP 65535 s w (.returned (.tuple #[.int .u64 z, .iface 234 (.int .i64 k)])) W := fun z k W h1 h2 h3 => ⟨h3, .inr ⟨h1, z, k, h2, rfl⟩⟩
  have hz : (ByteArray.mk s.toArray).size = s.length := ba_size s
  by_cases hl0 : s.length = 0
  · have hn : rdN 16 65535 s = none := by rw [List.eq_nil_of_length_eq_zero hl0]; exact rdN_nil (by decide) (by decide)
    have e0 : s = [] := List.eq_nil_of_length_eq_zero hl0
    subst e0
    replace hbad := hide hbad
    replace hn := hide hn
    go_enter Tryz.func167, Tryz.ntmps167
    go_wp2
    go_ret2
    exact hbad.out 0 2 _ hn.out (.inr rfl) (Ext.refl _)
  have kc := fun (w : World) => Lib.run_convert_string_bytes (P := Tryz.prog) w 9 148 5 ⟨s.toArray⟩ Tryz.underlying9 Tryz.underlying148 Tryz.underlying5
  have hne : s.isEmpty = false := by cases s with | nil => exact absurd rfl hl0 | cons _ _ => rfl
  replace hbad := hide hbad
  go_enter Tryz.func167, Tryz.ntmps167
  go_wp2
  have hcv := OwnB.conv (w := w) (e := 5) ⟨s.toArray⟩ (by unfold maxLen; omega)
  have hEc := ext_bytesWorld w 5 ⟨s.toArray⟩
  rw [hz] at hcv
  generalize hc : grownCap w s.length 0 5 = cp at hcv ⊢
  generalize hW : Lib.bytesWorld w 5 ⟨s.toArray⟩ = W1 at hcv hEc
  replace hc := hide hc
  clear kc
  replace hcv := hide hcv
  replace hEc := hide hEc
  replace hz := hide hz
  go_loop [12, 13, 101] (fun b n i => ∃ (k v : Nat), b = .bool false ∧ k ≤ s.length ∧ i = .int .i64 (k : Int) ∧ n = .int .u64 (v : Int) ∧ v ≤ 65535 ∧ ∀ m, rdN 16 65535 s = some m → v = vf 16 (s.take k)) (fun _ _ i => s.length - (intOf i).toNat)
  case atStart => exact ⟨0, 0, rfl, Nat.zero_le _, rfl, rfl, by decide, fun m _ => by rw [List.take_zero]; rfl⟩
  case round =>
    obtain ⟨k, v, rfl, hk, rfl, rfl, hv, hvf⟩ := hrel
    by_cases hlt : k < s.length
    · obtain ⟨x1, f1⟩ := hcv.out.cell rfl k (by simpa using hlt)
      replace x1 : W1.cell? ⟨w.heap.size, k, none⟩ = some (.int .u8 (s[k].toNat : Int)) := by simpa using x1
      clear f1
      have hch := fun m h => hex_char (M := 65535) (m := m) h hlt
      have hov := fun h => rdN_over (b := 16) (M := 65535) (by decide) (by decide) hlt h
      have hnx := vf_next 16 s k hlt
      have hl1 : s[k].toNat < 48 → s[k].toNat ||| 32 < 97 := fun h => low_small ⟨s[k].toNat, s[k].toNat_lt⟩ h
      have hl2 := low_lt ⟨s[k].toNat, s[k].toNat_lt⟩
      have ql := fun W => Lower_any s[k] W
      have h95 : s[k].toNat = 95 → s[k].toNat ||| 32 = 127 := fun h => by rw [h]; rfl
      simp only [] at hl1 hl2
      have hclt := s[k].toNat_lt
      generalize dval s[k] = dv at hch hov hnx
      generalize s[k].toNat ||| 32 = L at hch hl1 hl2 ql h95
      generalize s[k] = c at x1 hch hl1 ql h95 hclt
      have hcls : (c.toNat < 48 ∧ L < 97) ∨ (48 ≤ c.toNat ∧ c.toNat ≤ 57) ∨ (57 < c.toNat ∧ L < 97) ∨ (57 < c.toNat ∧ 122 < L ∧ c.toNat = 95) ∨ (57 < c.toNat ∧ 122 < L ∧ c.toNat ≠ 95) ∨ (57 < c.toNat ∧ 97 ≤ L ∧ L ≤ 122) := by
        by_cases h1 : c.toNat < 48
        · exact .inl ⟨h1, hl1 h1⟩
        · omega
      have hbig : True → decide ((1152921504606846976 : Int) ≤ (v : Int)) = false := fun _ => decide_eq_false (by omega)
      have wv : IntKind.u64.wrap ((v : Int) * 16) = ((v * 16 : Nat) : Int) := by rw [IntKind.wrap_u64]; omega
      have hmul : (v : Int) * 16 = ((v * 16 : Nat) : Int) := by omega
      generalize hvv : v * 16 = vb at wv hmul
      replace hl1 := hide hl1
      replace ql := hide ql
      rcases hcls with ⟨h1, h2⟩ | ⟨h1, h2⟩ | ⟨h1, h2⟩ | ⟨h1, h2, h3⟩ | ⟨h1, h2, h3⟩ | ⟨h1, h2, h3⟩
      · -- below the digits
        have hn : rdN 16 65535 s = none := by
          cases hr : rdN 16 65535 s with
          | none => rfl
          | some m => rcases hch m hr with h | h <;> omega
        have k1 : decide ((48 : Int) ≤ (c.toNat : Int)) = false := decide_eq_false (by omega)
        have k3 : decide ((97 : Int) ≤ (L : Int)) = false := decide_eq_false (by omega)
        have e95 : ((c.toNat : Int) == 95) = false := by rw [beq_eq_false_iff_ne]; omega
        clear hch hov hnx hvf hvv hmul
        replace hn := hide hn
        replace hv := hide hv
        replace h1 := hide h1
        replace h2 := hide h2
        replace hclt := hide hclt
        replace hl2 := hide hl2
        replace hlt := hlt
        go_wp2_with fail
        refine (ql.out _).mono ?_
        rintro e w_ ⟨rfl, rfl⟩
        go_wp2
        go_ret2
        exact hbad.out _ 2 _ hn.out (.inr rfl) hEc.out
      · -- a digit
        have k1 : decide ((48 : Int) ≤ (c.toNat : Int)) = true := decide_eq_true (by omega)
        have k2 : decide ((c.toNat : Int) ≤ (57 : Int)) = true := decide_eq_true (by omega)
        have e95 : ((c.toNat : Int) == 95) = false := by rw [beq_eq_false_iff_ne]; omega
        obtain ⟨d, hd⟩ : ∃ d : Nat, c.toNat = d + 48 := ⟨c.toNat - 48, by omega⟩
        have v1 : IntKind.u8.wrap ((c.toNat : Int) - 48) = (d : Int) := by rw [IntKind.wrap_u8]; omega
        have hdv : ∀ m, rdN 16 65535 s = some m → dv = d := fun m h => by rcases hch m h with h | h <;> omega
        have d16 : d < 16 := by omega
        have k5 : decide ((16 : Int) ≤ (d : Int)) = false := decide_eq_false (by omega)
        have wd : IntKind.u64.wrap (d : Int) = (d : Int) := by rw [IntKind.wrap_u64]; omega
        have ws : IntKind.u64.wrap ((vb : Int) + (d : Int)) = ((vb + d : Nat) : Int) := by rw [IntKind.wrap_u64]; omega
        have k6 : decide (((vb + d : Nat) : Int) < (vb : Int)) = false := decide_eq_false (by omega)
        have hnx2 : ∀ m, rdN 16 65535 s = some m → vb + d = vf 16 (s.take (k + 1)) := fun m h => by rw [hnx, ← hvf m h, hdv m h]; omega
        by_cases hover : 65535 < vb + d
        · have hn : rdN 16 65535 s = none := by
            cases hr : rdN 16 65535 s with
            | none => rfl
            | some m => rw [hov (by rw [← hvf m hr, hdv m hr]; omega)] at hr; cases hr
          have k7 : decide ((65535 : Int) < ((vb + d : Nat) : Int)) = true := decide_eq_true (by omega)
          generalize hvs : vb + d = vs at ws k6 k7
          have hvb : vb ≤ vs := by omega
          clear hch hov hnx hnx2 hvf hvv hmul hdv hvs hover
          replace hn := hide hn
          replace hv := hide hv
          replace h1 := hide h1
          replace h2 := hide h2
          replace hclt := hide hclt
          replace hl2 := hide hl2
          replace hd := hide hd
          go_wp2
          go_ret2
          exact hbad.out _ 1 _ hn.out (.inl rfl) hEc.out
        · have k7 : decide ((65535 : Int) < ((vb + d : Nat) : Int)) = false := decide_eq_false (by omega)
          have hle : vb + d ≤ 65535 := by omega
          generalize hvs : vb + d = vs at ws k6 k7 hle hnx2
          have hvb : vb ≤ vs := by omega
          clear hch hov hnx hvf hvv hmul hdv hvs hover
          replace hnx2 := hide hnx2
          replace hle := hide hle
          replace hv := hide hv
          replace h1 := hide h1
          replace h2 := hide h2
          replace hclt := hide hclt
          replace hl2 := hide hl2
          replace hd := hide hd
          go_wp2
          go_round
          case rel => exact ⟨k + 1, vs, rfl, by omega, by go_num, rfl, hle.out, hnx2.out⟩
          case measure => simp [intOf]; omega
      · -- between
        have hn : rdN 16 65535 s = none := by
          cases hr : rdN 16 65535 s with
          | none => rfl
          | some m => rcases hch m hr with h | h <;> omega
        have k1 : decide ((48 : Int) ≤ (c.toNat : Int)) = true := decide_eq_true (by omega)
        have k2 : decide ((c.toNat : Int) ≤ (57 : Int)) = false := decide_eq_false (by omega)
        have k3 : decide ((97 : Int) ≤ (L : Int)) = false := decide_eq_false (by omega)
        have e95 : ((c.toNat : Int) == 95) = false := by rw [beq_eq_false_iff_ne]; omega
        clear hch hov hnx hvf hvv hmul
        replace hn := hide hn
        replace hv := hide hv
        replace h1 := hide h1
        replace h2 := hide h2
        replace hclt := hide hclt
        replace hl2 := hide hl2
        replace hlt := hlt
        go_wp2_with fail
        refine (ql.out _).mono ?_
        rintro e w_ ⟨rfl, rfl⟩
        go_wp2
        go_ret2
        exact hbad.out _ 2 _ hn.out (.inr rfl) hEc.out
      · -- the underscore
        have hn : rdN 16 65535 s = none := by
          cases hr : rdN 16 65535 s with
          | none => rfl
          | some m => rcases hch m hr with h | h <;> omega
        have k1 : decide ((48 : Int) ≤ (c.toNat : Int)) = true := decide_eq_true (by omega)
        have k2 : decide ((c.toNat : Int) ≤ (57 : Int)) = false := decide_eq_false (by omega)
        have k3 : decide ((97 : Int) ≤ (L : Int)) = true := decide_eq_true (by omega)
        have k4 : decide ((L : Int) ≤ (122 : Int)) = false := decide_eq_false (by omega)
        have e95 : ((c.toNat : Int) == 95) = true := by rw [beq_iff_eq]; omega
        have q95 : ∀ W, Calls Tryz.prog 187 #[.int .u8 95] W fun e w' => e = .returned (.int .u8 127) ∧ W = w' := fun W => by
          have h := ql.out W
          rw [h3, h95 h3] at h
          exact h
        clear k3 k4
        replace q95 := hide q95
        clear hch hov hnx hvf hvv hmul
        replace hn := hide hn
        replace hv := hide hv
        replace h1 := hide h1
        replace h2 := hide h2
        replace hclt := hide hclt
        replace hl2 := hide hl2
        replace hlt := hlt
        go_wp2_with fail
        refine (q95.out _).mono ?_
        rintro e w_ ⟨rfl, rfl⟩
        go_wp2_with fail
        refine (q95.out _).mono ?_
        rintro e w_ ⟨rfl, rfl⟩
        go_wp2
        go_ret2
        exact hbad.out _ 2 _ hn.out (.inr rfl) hEc.out
      · -- behind
        have hn : rdN 16 65535 s = none := by
          cases hr : rdN 16 65535 s with
          | none => rfl
          | some m => rcases hch m hr with h | h <;> omega
        have k1 : decide ((48 : Int) ≤ (c.toNat : Int)) = true := decide_eq_true (by omega)
        have k2 : decide ((c.toNat : Int) ≤ (57 : Int)) = false := decide_eq_false (by omega)
        have k3 : decide ((97 : Int) ≤ (L : Int)) = true := decide_eq_true (by omega)
        have k4 : decide ((L : Int) ≤ (122 : Int)) = false := decide_eq_false (by omega)
        have e95 : ((c.toNat : Int) == 95) = false := by rw [beq_eq_false_iff_ne]; omega
        clear hch hov hnx hvf hvv hmul
        replace hn := hide hn
        replace hv := hide hv
        replace h1 := hide h1
        replace h2 := hide h2
        replace hclt := hide hclt
        replace hl2 := hide hl2
        replace hlt := hlt
        go_wp2_with fail
        refine (ql.out _).mono ?_
        rintro e w_ ⟨rfl, rfl⟩
        go_wp2_with fail
        refine (ql.out _).mono ?_
        rintro e w_ ⟨rfl, rfl⟩
        go_wp2
        go_ret2
        exact hbad.out _ 2 _ hn.out (.inr rfl) hEc.out
      · -- a letter
        have k1 : decide ((48 : Int) ≤ (c.toNat : Int)) = true := decide_eq_true (by omega)
        have k2 : decide ((c.toNat : Int) ≤ (57 : Int)) = false := decide_eq_false (by omega)
        have k3 : decide ((97 : Int) ≤ (L : Int)) = true := decide_eq_true (by omega)
        have k4 : decide ((L : Int) ≤ (122 : Int)) = true := decide_eq_true (by omega)
        have e95 : ((c.toNat : Int) == 95) = false := by rw [beq_eq_false_iff_ne]; omega
        obtain ⟨ee, hee⟩ : ∃ d : Nat, L = d + 97 := ⟨L - 97, by omega⟩
        obtain ⟨d, hd⟩ : ∃ d : Nat, d = ee + 10 := ⟨_, rfl⟩
        have v1 : IntKind.u8.wrap ((L : Int) - 97) = (ee : Int) := by rw [IntKind.wrap_u8]; omega
        have v2 : IntKind.u8.wrap ((ee : Int) + 10) = (d : Int) := by rw [IntKind.wrap_u8]; omega
        have hdv : ∀ m, rdN 16 65535 s = some m → dv = d := fun m h => by rcases hch m h with h | h <;> omega
        by_cases d16 : d < 16
        · skip
          have k5 : decide ((16 : Int) ≤ (d : Int)) = false := decide_eq_false (by omega)
          have wd : IntKind.u64.wrap (d : Int) = (d : Int) := by rw [IntKind.wrap_u64]; omega
          have ws : IntKind.u64.wrap ((vb : Int) + (d : Int)) = ((vb + d : Nat) : Int) := by rw [IntKind.wrap_u64]; omega
          have k6 : decide (((vb + d : Nat) : Int) < (vb : Int)) = false := decide_eq_false (by omega)
          have hnx2 : ∀ m, rdN 16 65535 s = some m → vb + d = vf 16 (s.take (k + 1)) := fun m h => by rw [hnx, ← hvf m h, hdv m h]; omega
          by_cases hover : 65535 < vb + d
          · have hn : rdN 16 65535 s = none := by
              cases hr : rdN 16 65535 s with
              | none => rfl
              | some m => rw [hov (by rw [← hvf m hr, hdv m hr]; omega)] at hr; cases hr
            have k7 : decide ((65535 : Int) < ((vb + d : Nat) : Int)) = true := decide_eq_true (by omega)
            generalize hvs : vb + d = vs at ws k6 k7
            have hvb : vb ≤ vs := by omega
            clear hch hov hnx hnx2 hvf hvv hmul hdv hvs hover
            replace hn := hide hn
            replace hv := hide hv
            replace h1 := hide h1
            replace h2 := hide h2
            replace hclt := hide hclt
            replace hl2 := hide hl2
            replace hd := hide hd
            go_wp2_with fail
            refine (ql.out _).mono ?_
            rintro e w_ ⟨rfl, rfl⟩
            go_wp2_with fail
            refine (ql.out _).mono ?_
            rintro e w_ ⟨rfl, rfl⟩
            go_wp2_with fail
            refine (ql.out _).mono ?_
            rintro e w_ ⟨rfl, rfl⟩
            go_wp2
            go_ret2
            exact hbad.out _ 1 _ hn.out (.inl rfl) hEc.out
          · have k7 : decide ((65535 : Int) < ((vb + d : Nat) : Int)) = false := decide_eq_false (by omega)
            have hle : vb + d ≤ 65535 := by omega
            generalize hvs : vb + d = vs at ws k6 k7 hle hnx2
            have hvb : vb ≤ vs := by omega
            clear hch hov hnx hvf hvv hmul hdv hvs hover
            replace hnx2 := hide hnx2
            replace hle := hide hle
            replace hv := hide hv
            replace h1 := hide h1
            replace h2 := hide h2
            replace hclt := hide hclt
            replace hl2 := hide hl2
            replace hd := hide hd
            go_wp2_with fail
            refine (ql.out _).mono ?_
            rintro e w_ ⟨rfl, rfl⟩
            go_wp2_with fail
            refine (ql.out _).mono ?_
            rintro e w_ ⟨rfl, rfl⟩
            go_wp2_with fail
            refine (ql.out _).mono ?_
            rintro e w_ ⟨rfl, rfl⟩
            go_wp2
            go_round
            case rel => exact ⟨k + 1, vs, rfl, by omega, by go_num, rfl, hle.out, hnx2.out⟩
            case measure => simp [intOf]; omega
        · have hn : rdN 16 65535 s = none := by
            cases hr : rdN 16 65535 s with
            | none => rfl
            | some m => rcases hch m hr with h | h <;> omega
          have k5 : decide ((16 : Int) ≤ (d : Int)) = true := decide_eq_true (by omega)
          clear hch hov hnx hvf hvv hmul
          replace hn := hide hn
          replace hv := hide hv
          replace h1 := hide h1
          replace h2 := hide h2
          replace hclt := hide hclt
          replace hl2 := hide hl2
          replace hlt := hlt
          go_wp2_with fail
          refine (ql.out _).mono ?_
          rintro e w_ ⟨rfl, rfl⟩
          go_wp2_with fail
          refine (ql.out _).mono ?_
          rintro e w_ ⟨rfl, rfl⟩
          go_wp2_with fail
          refine (ql.out _).mono ?_
          rintro e w_ ⟨rfl, rfl⟩
          go_wp2
          go_ret2
          exact hbad.out _ 2 _ hn.out (.inr rfl) hEc.out
    · obtain rfl : k = s.length := by omega
      rw [List.take_of_length_le (Nat.le_refl _)] at hvf
      have hfin : IpP 65535 s w (.returned (.tuple #[.int .u64 (v : Int), .nilIface])) W1 := ⟨hEc.out, .inl ⟨v, hv, rfl, fun n hn => by
        have h1 := hvf n hn
        obtain ⟨_, he⟩ := (rdN_iff (by decide) (by decide)).1 hn
        rw [h1, ← he, vf_dig (by decide) (by decide)]⟩⟩
      replace hfin := hide hfin
      replace hvf := hide hvf
      replace hW := hide hW
      go_wp2
      go_ret2
      exact hfin.out
open Go.RowKit Go.Sort

theorem toErr_syn (s : List UInt8) (hs : s.length ≤ 1048576) (w : World) (hV : Vars w) :
    Calls Tryz.prog 168 #[.string ⟨#[80, 97, 114, 115, 101, 85, 105, 110, 116]⟩, .string ⟨s.toArray⟩, .int .i64 16, .int .i64 16, .iface 234 (.int .i64 2)] w fun e w' => (∃ T p, e = .returned (.iface T p)) ∧ Ext w w' := by
  obtain ⟨t1, p1, h1⟩ := hV.es
  refine (AnyPu.strconv_toError_syntax { Tryz.laysPu14 with } ⟨#[80, 97, 114, 115, 101, 85, 105, 110, 116]⟩ ⟨s.toArray⟩ 16 16 _ w (by rw [ba_size]; omega) h1 (.inr ⟨_, _, rfl⟩)).mono ?_
  rintro e w' ⟨N, rfl, _, _, hb⟩
  exact ⟨⟨_, _, rfl⟩, hb⟩
theorem toErr_rng (s : List UInt8) (hs : s.length ≤ 1048576) (w : World) (hV : Vars w) :
    Calls Tryz.prog 168 #[.string ⟨#[80, 97, 114, 115, 101, 85, 105, 110, 116]⟩, .string ⟨s.toArray⟩, .int .i64 16, .int .i64 16, .iface 234 (.int .i64 1)] w fun e w' => (∃ T p, e = .returned (.iface T p)) ∧ Ext w w' := by
  obtain ⟨t1, p1, h1⟩ := hV.er
  refine (AnyPu.strconv_toError_range { Tryz.laysPu14 with } ⟨#[80, 97, 114, 115, 101, 85, 105, 110, 116]⟩ ⟨s.toArray⟩ 16 16 _ w (by rw [ba_size]; omega) h1 (.inr ⟨_, _, rfl⟩)).mono ?_
  rintro e w' ⟨N, rfl, _, _, hb⟩
  exact ⟨⟨_, _, rfl⟩, hb⟩
set_option maxRecDepth 20000 in
theorem PU16_any (s : List UInt8) (w : World) (hV : Vars w) (hs : s.length ≤ 1048576) :
    Calls Tryz.prog 137 #[.string ⟨s.toArray⟩, .int .i64 16, .int .i64 16] w (PuP 16 65535 s w) := by
  have hok : ∀ (u : Nat) (W : World), u ≤ 65535 → (∀ n, rdN 16 65535 s = some n → n = u) → Ext w W → PuP 16 65535 s w (.returned (.tuple #[.int .u64 (u : Int), .nilIface])) W := fun u W h1 h2 h3 => ⟨h3, .inl ⟨u, h1, rfl, h2⟩⟩
  have hbad : ∀ (z : Int) T p (W : World), rdN 16 65535 s = none → Ext w W → PuP 16 65535 s w (.returned (.tuple #[.int .u64 z, .iface T p])) W := fun z T p W h1 h2 => ⟨h2, .inr ⟨h1, z, T, p, rfl⟩⟩
  have q := fun W => IPu16 s hs W
  have q1 := fun W h => toErr_syn s hs W h
  have q2 := fun W h => toErr_rng s hs W h
  replace q := hide q
  replace q1 := hide q1
  replace q2 := hide q2
  replace hok := hide hok
  replace hbad := hide hbad
  replace hV := hide hV
  replace hs := hide hs
  go_enter Tryz.func137, Tryz.ntmps137
  go_wp2_with fail
  refine (q.out _).mono ?_
  rintro e w1 ⟨he, ⟨u, hu, rfl, hn⟩ | ⟨hn, z, k, hk, rfl⟩⟩
  · have hr := hok.out u w1 hu hn he
    replace hr := hide hr
    replace hn := hide hn
    replace hu := hide hu
    replace he := hide he
    go_wp2
    go_ret2
    exact hr.out
  · replace hn := hide hn
    replace he := hide he
    rcases hk with rfl | rfl
    · go_wp2_with fail
      refine (q2.out _ (hV.out.ext he.out)).mono ?_
      rintro e w2 ⟨⟨T, p, rfl⟩, he2⟩
      have hr := hbad.out z T p w2 hn.out (he.out.trans he2)
      replace hr := hide hr
      clear he2
      go_wp2
      go_ret2
      exact hr.out
    · go_wp2_with fail
      refine (q1.out _ (hV.out.ext he.out)).mono ?_
      rintro e w2 ⟨⟨T, p, rfl⟩, he2⟩
      have hr := hbad.out z T p w2 hn.out (he.out.trans he2)
      replace hr := hide hr
      clear he2
      go_wp2
      go_ret2
      exact hr.out
theorem number16 (s : List UInt8) (w : World) (hD : Deb w) (hV : Vars w) (hs : s.length ≤ 1048576) :
    Calls Tryz.prog 139 #[.string ⟨s.toArray⟩, .int .i64 16, .int .i64 16] w (NumP 16 65535 s w) :=
  number_of 16 65535 16 (by decide) (by decide) s w (fun W h => PU16_any s W (hV.ext h) hs) fun u hu W h => Format16 u (by omega) W (hD.ext h)
open Go.RowKit Go.Sort

theorem spl_len (c : UInt8) (s : List UInt8) : ∀ x ∈ spl c s, x.length ≤ s.length := by
  refine spl_ind (P := fun s => ∀ x ∈ spl c s, x.length ≤ s.length) c (fun s h x hx => ?_) (fun a b h ih x hx => ?_) s.length s (Nat.le_refl _)
  · rw [spl_no h] at hx
    rw [List.mem_singleton.1 hx]
    exact Nat.le_refl _
  · rw [spl_at h] at hx
    rcases List.mem_cons.1 hx with rfl | hx
    · simp
    · have := ih x hx
      simp
      omega
theorem unpair_len : ∀ l : List Nat, (l.flatMap unpair).length = 2 * l.length
  | [] => rfl
  | n :: l => by rw [List.flatMap_cons, List.length_append, unpair_len l]; simp [unpair]; omega
theorem byte_new2 (w : World) (b1 b2 : UInt8) (t : TypeId) : ∀ j (hj : j < [b1, b2].length), (w.alloc (.cells #[.int .u8 (b1.toNat : Int), .int .u8 (b2.toNat : Int)] t)).cell? ((⟨w.heap.size, 0, none⟩ : Addr).add j) = some (.int .u8 ([b1, b2][j].toNat : Int)) := by
  intro j hj
  have hj2 : j < 2 := hj
  refine cells_new w #[.int .u8 (b1.toNat : Int), .int .u8 (b2.toNat : Int)] t j _ ?_
  match j, hj2 with
  | 0, _ => rfl
  | 1, _ => rfl
/-- What reading an address answers. -/
def AdP (s : List UInt8) (w : World) (e : Ending) (w' : World) : Prop := e = .returned (.tuple #[.string ⟨(addrC s).1.toArray⟩, .int .i64 (addrC s).2]) ∧ Ext w w'
theorem AdP.of {s a : List UInt8} {c : Int} {w W : World} (h : addrC s = (a, c)) (hE : Ext w W) : AdP s w (.returned (.tuple #[.string ⟨a.toArray⟩, .int .i64 c])) W := ⟨by rw [h], hE⟩
set_option maxRecDepth 20000 in
set_option maxHeartbeats 2000000 in
theorem AAddr4_any (s : List UInt8) (hs : s.length ≤ 1048576) (h4 : (spl 46 s).length = 4) (w : World) (hT : Tab w) (hV : Vars w) :
    Calls Tryz.prog 103 #[.string ⟨s.toArray⟩] w (AdP s w) := by
  have hS := Split_any s 46 w hV hs
  have hnum := fun (x : List UInt8) (hx : x ∈ spl 46 s) W (h : Ext w W) => number10_8 x W (hT.ext h) (hV.ext h) (Nat.le_trans (spl_len 46 s x hx) hs)
  have hC : addrC s = (match rdAll 10 255 (spl 46 s) with | some l => (l.map UInt8.ofNat, 0) | none => ([], 4)) := if_pos h4
  generalize spl 46 s = P at hS hnum hC h4
  replace hS := hide hS
  replace hnum := hide hnum
  replace hC := hide hC
  clear hT hV
  go_enter Tryz.func103, Tryz.ntmps103
  go_wp2_with fail
  refine hS.out.mono ?_
  rintro e w1 ⟨d, hd4, rfl, hEw, hc1⟩
  rw [h4] at hd4
  rw [h4]
  clear hS
  replace hc1 := hide hc1
  replace hEw := hide hEw
  replace hd4 := hd4
  generalize hg1 : w.heap.size = g1 at hc1
  go_wp2_with fail
  clear hg1
  go_loopw [4, 22] (fun v q wr => ∃ (k : Nat) (ns : List Nat), k ≤ 4 ∧ q = .int .i64 (k : Int) ∧ rdAll 10 255 (P.take k) = some ns ∧ ns.length = k ∧ OwnB 5 wr w1.heap.size v (ns.map UInt8.ofNat) ∧ Ext w1 wr) (fun _ q _ => 4 - (intOf q).toNat)
  case atStart => exact ⟨0, [], by omega, rfl, by rw [List.take_zero]; rfl, rfl, OwnB.nil, Ext.refl _⟩
  case round =>
    obtain ⟨k, ns, hk, rfl, hrd, hnl, hown, hE⟩ := hrel
    rename World => W0
    have hz0 := hE.size
    obtain ⟨vo, dd, rfl⟩ := hown.form
    have hlk : (ns.map UInt8.ofNat).length = k := by rw [List.length_map, hnl]
    rw [hlk] at hown ⊢
    replace hlk := hide hlk
    replace hE := hide hE
    replace hown := hide hown
    by_cases hlt : k < 4
    · have hkP : k < P.length := by omega
      have x0 : W0.cell? ⟨g1, k, none⟩ = some (.string ⟨(P[k]'hkP).toArray⟩) := hE.out.cell (hc1.out k hkP)
      have hn := hnum.out (P[k]'hkP) (List.getElem_mem hkP) W0 (hEw.out.trans hE.out)
      have hbad : rdN 10 255 (P[k]'hkP) = none → addrC s = ([], 4) := fun h => by rw [hC.out, rdAll_bad (List.getElem_mem hkP) h]
      have hnx := fun n (h : rdN 10 255 (P[k]'hkP) = some n) => rdAll_next hkP hrd h
      have hmost := fun n (h : rdN 10 255 (P[k]'hkP) = some n) => ((rdN_iff (b := 10) (by decide) (by decide)).1 h).1
      generalize (P[k]'hkP) = wd at x0 hn hbad hnx hmost
      replace hrd := hide hrd
      replace hnl := hide hnl
      cases hr : rdN 10 255 wd with
      | none =>
        have hb := hbad hr
        clear hbad hmost hnx
        replace hb := hide hb
        unfold NumP at hn
        rw [hr] at hn
        replace hn := hide hn
        replace hr := hide hr
        go_wp2_with fail
        refine hn.out.mono ?_
        rintro e w3 ⟨⟨z, rfl, _⟩, he3⟩
        have hE3 := hide (hEw.out.trans (hE.out.trans he3))
        clear he3
        go_wp2
        go_ret2
        exact AdP.of hb.out hE3.out
      | some n =>
        have hm := hmost n hr
        have hnx2 := hnx n hr
        clear hbad hmost hnx
        unfold NumP at hn
        rw [hr] at hn
        replace hn := hide hn
        replace hr := hide hr
        have hw8 : IntKind.u8.wrap (n : Int) = ((UInt8.ofNat n).toNat : Int) := by rw [IntKind.wrap_u8, UInt8.toNat_ofNat']; omega
        have hap : ns.map UInt8.ofNat ++ [UInt8.ofNat n] = (ns ++ [n]).map UInt8.ofNat := by simp
        generalize hu : UInt8.ofNat n = u at hw8 hap
        replace hu := hide hu
        replace hap := hide hap
        replace hnx2 := hide hnx2
        replace hm := hide hm
        go_wp2_with fail
        refine hn.out.mono ?_
        rintro e w3 ⟨⟨z, rfl, hz⟩, he3⟩
        obtain rfl := hz n rfl
        have hown3 := hide (hown.out.ext he3)
        have hE3 := hide (hE.out.trans he3)
        have hz3 := he3.size
        clear he3 hz
        go_wp2_with (at_builtin
                     have hox := hown3.out.alloc (Obj.cells #[.int .u8 (u.toNat : Int)] 5)
                     refine wpList_appendB rfl _ _ _ rfl okB8 okB8z rfl hox (by simp; omega) [u] rfl (by rw [hlk.out]; simp; omega) (byte_new _ _ _) ?_
                     intro v' w5 hown1 hg hat)
        go_roundw
        case rel => exact ⟨k + 1, ns ++ [n], by omega, by go_num, hnx2.out, by simp [hnl.out], by rw [← hap.out]; exact hown1, (hE3.out.alloc _).push (fun j hj => (hown3.out.lt j hj).1) hg⟩
        case measure => simp [intOf]; omega
    · obtain rfl : k = 4 := by omega
      rw [List.take_of_length_le (by omega)] at hrd
      have hfin : addrC s = (ns.map UInt8.ofNat, 0) := by rw [hC.out, hrd]
      have kd := run_stringB (P := Tryz.prog) (src := 148) (dst := 9) Tryz.underlying148 Tryz.underlying5 Tryz.underlying9 hown.out
      replace hfin := hide hfin
      replace hrd := hide hrd
      replace hnl := hide hnl
      go_wp2
      go_ret2
      exact AdP.of hfin.out (hEw.out.trans hE.out)
set_option maxRecDepth 20000 in
set_option maxHeartbeats 2000000 in
theorem AAddr16_any (s : List UInt8) (hs : s.length ≤ 1048576) (h4 : (spl 46 s).length ≠ 4) (w : World) (hD : Deb w) (hV : Vars w) :
    Calls Tryz.prog 103 #[.string ⟨s.toArray⟩] w (AdP s w) := by
  have hS := Split_any s 46 w hV hs
  have b4 : ((((spl 46 s).length : Nat) : Int) == 4) = false := by rw [beq_eq_false_iff_ne]; omega
  have hS2 := fun W (h : Ext w W) => Split_any s 58 W (hV.ext h) hs
  have hnum := fun (x : List UInt8) (hx : x ∈ spl 58 s) W (h : Ext w W) => number16 x W (hD.ext h) (hV.ext h) (Nat.le_trans (spl_len 58 s x hx) hs)
  by_cases h8 : (spl 58 s).length = 8
  · have hC : addrC s = (match rdAll 16 65535 (spl 58 s) with | some l => (l.flatMap unpair, 0) | none => ([], 4)) := by unfold addrC; rw [if_neg h4, if_pos h8]; cases rdAll 16 65535 (spl 58 s) <;> rfl
    generalize spl 46 s = P4 at b4 hS h4
    generalize spl 58 s = P at hS2 hnum hC h8
    replace hS := hide hS
    replace hS2 := hide hS2
    replace hnum := hide hnum
    replace hC := hide hC
    clear hD hV
    have h4' : ¬ P4.length = 4 := h4
    go_enter Tryz.func103, Tryz.ntmps103
    go_wp2_with fail
    refine hS.out.mono ?_
    rintro e w1 ⟨d, hd4, rfl, hEw1, _⟩
    replace hEw1 := hide hEw1
    go_wp2_with fail
    refine (hS2.out _ hEw1.out).mono ?_
    rintro e w2 ⟨d2, hd8, rfl, hEw2, hc1⟩
    have hEw := hide (hEw1.out.trans hEw2)
    clear hEw2 hEw1
    rw [h8] at hd8
    rw [h8]
    clear hS hS2
    replace hc1 := hide hc1
    generalize hg2 : w1.heap.size = g2 at hc1
    go_wp2_with fail
    clear hg2
    go_loopw [4, 48] (fun v q wr => ∃ (k : Nat) (ns : List Nat), k ≤ 8 ∧ q = .int .i64 (k : Int) ∧ rdAll 16 65535 (P.take k) = some ns ∧ ns.length = k ∧ OwnB 5 wr w2.heap.size v (ns.flatMap unpair) ∧ Ext w2 wr) (fun _ q _ => 8 - (intOf q).toNat)
    case atStart => exact ⟨0, [], by omega, rfl, by rw [List.take_zero]; rfl, rfl, OwnB.nil, Ext.refl _⟩
    case round =>
      obtain ⟨k, ns, hk, rfl, hrd, hnl, hown, hE⟩ := hrel
      rename World => W0
      have hz0 := hE.size
      obtain ⟨vo, dd, rfl⟩ := hown.form
      have hlk : (ns.flatMap unpair).length = 2 * k := by rw [unpair_len, hnl]
      rw [hlk] at hown ⊢
      replace hlk := hide hlk
      replace hE := hide hE
      replace hown := hide hown
      by_cases hlt : k < 8
      · have hkP : k < P.length := by omega
        have x0 : W0.cell? ⟨g2, k, none⟩ = some (.string ⟨(P[k]'hkP).toArray⟩) := hE.out.cell (hc1.out k hkP)
        have hn := hnum.out (P[k]'hkP) (List.getElem_mem hkP) W0 (hEw.out.trans hE.out)
        have hbad : rdN 16 65535 (P[k]'hkP) = none → addrC s = ([], 4) := fun h => by rw [hC.out, rdAll_bad (List.getElem_mem hkP) h]
        have hnx := fun n (h : rdN 16 65535 (P[k]'hkP) = some n) => rdAll_next hkP hrd h
        have hmost := fun n (h : rdN 16 65535 (P[k]'hkP) = some n) => ((rdN_iff (b := 16) (by decide) (by decide)).1 h).1
        generalize (P[k]'hkP) = wd at x0 hn hbad hnx hmost
        replace hrd := hide hrd
        replace hnl := hide hnl
        cases hr : rdN 16 65535 wd with
        | none =>
          have hb := hbad hr
          clear hbad hmost hnx
          replace hb := hide hb
          unfold NumP at hn
          rw [hr] at hn
          replace hn := hide hn
          replace hr := hide hr
          go_wp2_with fail
          refine hn.out.mono ?_
          rintro e w3 ⟨⟨z, rfl, _⟩, he3⟩
          have hE3 := hide (hEw.out.trans (hE.out.trans he3))
          clear he3
          go_wp2
          go_ret2
          exact AdP.of hb.out hE3.out
        | some n =>
          have hm := hmost n hr
          have hnx2 := hnx n hr
          clear hbad hmost hnx
          unfold NumP at hn
          rw [hr] at hn
          replace hn := hide hn
          replace hr := hide hr
          have hw8 : IntKind.u8.wrap (n : Int) = ((UInt8.ofNat n).toNat : Int) := by rw [IntKind.wrap_u8, UInt8.toNat_ofNat']; omega
          have hw9 : IntKind.u8.wrap ((n : Int) / 256) = ((UInt8.ofNat (n / 256)).toNat : Int) := by rw [IntKind.wrap_u8, UInt8.toNat_ofNat']; omega
          have hap : ns.flatMap unpair ++ [UInt8.ofNat (n / 256), UInt8.ofNat n] = (ns ++ [n]).flatMap unpair := by simp [unpair]
          generalize hu : UInt8.ofNat n = u at hw8 hap
          generalize hu2 : UInt8.ofNat (n / 256) = u2 at hw9 hap
          replace hu := hide hu
          replace hu2 := hide hu2
          replace hap := hide hap
          replace hnx2 := hide hnx2
          replace hm := hide hm
          go_wp2_with fail
          refine hn.out.mono ?_
          rintro e w3 ⟨⟨z, rfl, hz⟩, he3⟩
          obtain rfl := hz n rfl
          have hown3 := hide (hown.out.ext he3)
          have hE3 := hide (hE.out.trans he3)
          have hz3 := he3.size
          clear he3 hz
          go_wp2_with (at_builtin
                       have hox := hown3.out.alloc (Obj.cells #[.int .u8 (u2.toNat : Int), .int .u8 (u.toNat : Int)] 5)
                       refine wpList_appendB rfl _ _ _ rfl okB8 okB8z rfl hox (by simp; omega) [u2, u] rfl (by rw [hlk.out]; simp; omega) (byte_new2 _ _ _ _) ?_
                       intro v' w5 hown1 hg hat)
          go_roundw
          case rel => exact ⟨k + 1, ns ++ [n], by omega, by go_num, hnx2.out, by simp [hnl.out], by rw [← hap.out]; exact hown1, (hE3.out.alloc _).push (fun j hj => (hown3.out.lt j hj).1) hg⟩
          case measure => simp [intOf]; omega
      · obtain rfl : k = 8 := by omega
        rw [List.take_of_length_le (by omega)] at hrd
        have hfin : addrC s = (ns.flatMap unpair, 0) := by rw [hC.out, hrd]
        have kd := run_stringB (P := Tryz.prog) (src := 148) (dst := 9) Tryz.underlying148 Tryz.underlying5 Tryz.underlying9 hown.out
        replace hfin := hide hfin
        replace hrd := hide hrd
        replace hnl := hide hnl
        go_wp2
        go_ret2
        exact AdP.of hfin.out (hEw.out.trans hE.out)
  · have hC : addrC s = ([], 4) := by unfold addrC; rw [if_neg h4, if_neg h8]
    have b8 : ((((spl 58 s).length : Nat) : Int) != 8) = true := by rw [bne_iff_ne]; omega
    have h8' : ¬ (((spl 58 s).length : Nat) : Int) = 8 := by omega
    clear hnum
    generalize spl 46 s = P4 at b4 hS h4
    generalize spl 58 s = P8 at b8 hS2 h8 h8'
    replace hS := hide hS
    replace hS2 := hide hS2
    replace hC := hide hC
    clear hD hV
    go_enter Tryz.func103, Tryz.ntmps103
    go_wp2_with fail
    refine hS.out.mono ?_
    rintro e w1 ⟨d, hd4, rfl, hEw1, _⟩
    replace hEw1 := hide hEw1
    go_wp2_with fail
    refine (hS2.out _ hEw1.out).mono ?_
    rintro e w2 ⟨d2, hd8, rfl, hEw2, _⟩
    have hEw := hide (hEw1.out.trans hEw2)
    clear hEw2 hEw1
    go_wp2
    go_ret2
    exact AdP.of hC.out hEw.out
theorem AAddr_any (s : List UInt8) (hs : s.length ≤ 1048576) (w : World) (hT : Tab w) (hD : Deb w) (hV : Vars w) :
    Calls Tryz.prog 103 #[.string ⟨s.toArray⟩] w (AdP s w) := by
  by_cases h4 : (spl 46 s).length = 4
  · exact AAddr4_any s hs h4 w hT hV
  · exact AAddr16_any s hs h4 w hD hV
end Go.Proofs.YtljibkfbldjgdaaGreatDoor
