/- Walks: the library's ParseUint to the base 16 (of 16 bits). -/
import Derived.Test.YtoghdmoldcjedaaGreatDoorS1
import Derived.Test.YtoghdmoldcjedaaGreatDoorQ1
namespace Go.Proofs.YtoghdmoldcjedaaGreatDoor
open Go.RowKit Go.Sort
set_option linter.unusedVariables false

theorem low_hex : ∀ c : Fin 256, 97 ≤ c.val → c.val ≤ 102 → c.val ||| 32 = c.val := by decide +kernel
theorem low_small : ∀ c : Fin 256, c.val < 48 → c.val ||| 32 < 97 := by decide +kernel
theorem low_lt : ∀ c : Fin 256, c.val ||| 32 < 256 := by decide +kernel
set_option maxRecDepth 20000 in
theorem Lower_any (c : UInt8) (w : World) : Calls Tryz.prog 118 #[.int .u8 (c.toNat : Int)] w fun e w' => e = .returned (.int .u8 ((c.toNat ||| 32 : Nat) : Int)) ∧ w = w' := by
  have hor : bits .or .u8 (c.toNat : Int) 32 = ((c.toNat ||| 32 : Nat) : Int) := u8_or_nat _ 32 c.toNat_lt (by decide)
  generalize c.toNat ||| 32 = L at hor ⊢
  go_enter Tryz.func118, Tryz.ntmps118
  go_wp2
  go_ret
  exact ⟨rfl, rfl⟩
/-- What the walk needs of one byte: where it goes on, and that a numeral in its own form goes on with its own digit. -/
theorem hex_char {M m : Nat} {s : List UInt8} (h : rdN 16 M s = some m) {k : Nat} (hk : k < s.length) : (48 ≤ s[k].toNat ∧ s[k].toNat ≤ 57 ∧ dval s[k] = s[k].toNat - 48) ∨ (97 ≤ s[k].toNat ∧ s[k].toNat ≤ 102 ∧ s[k].toNat ||| 32 = s[k].toNat ∧ dval s[k] = s[k].toNat - 87) := by
  obtain ⟨_, he⟩ := (rdN_iff (by decide) (by decide)).1 h
  obtain ⟨d, hd, hc⟩ := digS_mem (b := 16) (by decide) (by decide) m s[k] (by rw [he]; exact List.getElem_mem hk)
  have h1 := dgt_toNat (show d < 16 from hd)
  have h2 := dval_dgt (show d < 16 from hd)
  rw [← hc] at h1 h2
  by_cases h10 : d < 10
  · rw [if_pos h10] at h1
    exact .inl ⟨by omega, by omega, by omega⟩
  · rw [if_neg h10] at h1
    refine .inr ⟨by omega, by omega, ?_, by omega⟩
    exact low_hex ⟨s[k].toNat, s[k].toNat_lt⟩ (by show 97 ≤ s[k].toNat; omega) (by show s[k].toNat ≤ 102; omega)
/-- What the inner ParseUint answers. -/
def IpP (M : Nat) (s : List UInt8) (w : World) (e : Ending) (w' : World) : Prop :=
  Ext w w' ∧ ((∃ u : Nat, u ≤ M ∧ e = .returned (.tuple #[.int .u64 (u : Int), .nilIface]) ∧ ∀ n, rdN 16 M s = some n → n = u) ∨ (rdN 16 M s = none ∧ ∃ z k, (k = 1 ∨ k = 2) ∧ e = .returned (.tuple #[.int .u64 z, .iface 152 (.int .i64 k)])))
set_option maxRecDepth 20000 in
set_option maxHeartbeats 4000000 in
theorem IPu16 (s : List UInt8) (hs : s.length ≤ 1048576) (w : World) :
    Calls Tryz.prog 96 #[.string ⟨s.toArray⟩, .int .i64 16, .int .i64 16] w (IpP 65535 s w) := by
  have hbad : ∀ (z k : Int) (W : World), rdN 16 65535 s = none → (k = 1 ∨ k = 2) → Ext w W → IpP 65535 s w (.returned (.tuple #[.int .u64 z, .iface 152 (.int .i64 k)])) W := fun z k W h1 h2 h3 => ⟨h3, .inr ⟨h1, z, k, h2, rfl⟩⟩
  have hz : (ByteArray.mk s.toArray).size = s.length := ba_size s
  by_cases hl0 : s.length = 0
  · have hn : rdN 16 65535 s = none := by rw [List.eq_nil_of_length_eq_zero hl0]; exact rdN_nil (by decide) (by decide)
    have e0 : s = [] := List.eq_nil_of_length_eq_zero hl0
    subst e0
    replace hbad := hide hbad
    replace hn := hide hn
    go_enter Tryz.func96, Tryz.ntmps96
    go_wp2
    go_ret2
    exact hbad.out 0 2 _ hn.out (.inr rfl) (Ext.refl _)
  have kc := fun (w : World) => Lib.run_convert_string_bytes (P := Tryz.prog) w 9 62 5 ⟨s.toArray⟩ Tryz.underlying9 Tryz.underlying62 Tryz.underlying5
  have hne : s.isEmpty = false := by cases s with | nil => exact absurd rfl hl0 | cons _ _ => rfl
  replace hbad := hide hbad
  go_enter Tryz.func96, Tryz.ntmps96
  go_wp2
  have hcv := OwnB.conv (w := w) (e := 5) ⟨s.toArray⟩ (by unfold maxLen; omega)
  have hEc := ext_bytesWorld w 5 ⟨s.toArray⟩
  rw [hz] at hcv
  generalize hc : grownCap w s.length 0 5 = cp at hcv ⊢
  generalize hW : Lib.bytesWorld w 5 ⟨s.toArray⟩ = W1 at hcv hEc
  replace hc := hide hc
  clear kc
  replace hcv := hide hcv
  replace hEc := hide hEc
  replace hz := hide hz
  go_loop [12, 13, 101] (fun b n i => ∃ (k v : Nat), b = .bool false ∧ k ≤ s.length ∧ i = .int .i64 (k : Int) ∧ n = .int .u64 (v : Int) ∧ v ≤ 65535 ∧ ∀ m, rdN 16 65535 s = some m → v = vf 16 (s.take k)) (fun _ _ i => s.length - (intOf i).toNat)
  case atStart => exact ⟨0, 0, rfl, Nat.zero_le _, rfl, rfl, by decide, fun m _ => by rw [List.take_zero]; rfl⟩
  case round =>
    obtain ⟨k, v, rfl, hk, rfl, rfl, hv, hvf⟩ := hrel
    by_cases hlt : k < s.length
    · obtain ⟨x1, f1⟩ := hcv.out.cell rfl k (by simpa using hlt)
      replace x1 : W1.cell? ⟨w.heap.size, k, none⟩ = some (.int .u8 (s[k].toNat : Int)) := by simpa using x1
      clear f1
      have hch := fun m h => hex_char (M := 65535) (m := m) h hlt
      have hov := fun h => rdN_over (b := 16) (M := 65535) (by decide) (by decide) hlt h
      have hnx := vf_next 16 s k hlt
      have hl1 : s[k].toNat < 48 → s[k].toNat ||| 32 < 97 := fun h => low_small ⟨s[k].toNat, s[k].toNat_lt⟩ h
      have hl2 := low_lt ⟨s[k].toNat, s[k].toNat_lt⟩
      have ql := fun W => Lower_any s[k] W
      have h95 : s[k].toNat = 95 → s[k].toNat ||| 32 = 127 := fun h => by rw [h]; rfl
      simp only [] at hl1 hl2
      have hclt := s[k].toNat_lt
      generalize dval s[k] = dv at hch hov hnx
      generalize s[k].toNat ||| 32 = L at hch hl1 hl2 ql h95
      generalize s[k] = c at x1 hch hl1 ql h95 hclt
      have hcls : (c.toNat < 48 ∧ L < 97) ∨ (48 ≤ c.toNat ∧ c.toNat ≤ 57) ∨ (57 < c.toNat ∧ L < 97) ∨ (57 < c.toNat ∧ 122 < L ∧ c.toNat = 95) ∨ (57 < c.toNat ∧ 122 < L ∧ c.toNat ≠ 95) ∨ (57 < c.toNat ∧ 97 ≤ L ∧ L ≤ 122) := by
        by_cases h1 : c.toNat < 48
        · exact .inl ⟨h1, hl1 h1⟩
        · omega
      have hbig : True → decide ((1152921504606846976 : Int) ≤ (v : Int)) = false := fun _ => decide_eq_false (by omega)
      have wv : IntKind.u64.wrap ((v : Int) * 16) = ((v * 16 : Nat) : Int) := by rw [IntKind.wrap_u64]; omega
      have hmul : (v : Int) * 16 = ((v * 16 : Nat) : Int) := by omega
      generalize hvv : v * 16 = vb at wv hmul
      replace hl1 := hide hl1
      replace ql := hide ql
      rcases hcls with ⟨h1, h2⟩ | ⟨h1, h2⟩ | ⟨h1, h2⟩ | ⟨h1, h2, h3⟩ | ⟨h1, h2, h3⟩ | ⟨h1, h2, h3⟩
      · -- below the digits
        have hn : rdN 16 65535 s = none := by
          cases hr : rdN 16 65535 s with
          | none => rfl
          | some m => rcases hch m hr with h | h <;> omega
        have k1 : decide ((48 : Int) ≤ (c.toNat : Int)) = false := decide_eq_false (by omega)
        have k3 : decide ((97 : Int) ≤ (L : Int)) = false := decide_eq_false (by omega)
        have e95 : ((c.toNat : Int) == 95) = false := by rw [beq_eq_false_iff_ne]; omega
        clear hch hov hnx hvf hvv hmul
        replace hn := hide hn
        replace hv := hide hv
        replace h1 := hide h1
        replace h2 := hide h2
        replace hclt := hide hclt
        replace hl2 := hide hl2
        replace hlt := hlt
        go_wp2_with fail
        refine (ql.out _).mono ?_
        rintro e w_ ⟨rfl, rfl⟩
        go_wp2
        go_ret2
        exact hbad.out _ 2 _ hn.out (.inr rfl) hEc.out
      · -- a digit
        have k1 : decide ((48 : Int) ≤ (c.toNat : Int)) = true := decide_eq_true (by omega)
        have k2 : decide ((c.toNat : Int) ≤ (57 : Int)) = true := decide_eq_true (by omega)
        have e95 : ((c.toNat : Int) == 95) = false := by rw [beq_eq_false_iff_ne]; omega
        obtain ⟨d, hd⟩ : ∃ d : Nat, c.toNat = d + 48 := ⟨c.toNat - 48, by omega⟩
        have v1 : IntKind.u8.wrap ((c.toNat : Int) - 48) = (d : Int) := by rw [IntKind.wrap_u8]; omega
        have hdv : ∀ m, rdN 16 65535 s = some m → dv = d := fun m h => by rcases hch m h with h | h <;> omega
        have d16 : d < 16 := by omega
        have k5 : decide ((16 : Int) ≤ (d : Int)) = false := decide_eq_false (by omega)
        have wd : IntKind.u64.wrap (d : Int) = (d : Int) := by rw [IntKind.wrap_u64]; omega
        have ws : IntKind.u64.wrap ((vb : Int) + (d : Int)) = ((vb + d : Nat) : Int) := by rw [IntKind.wrap_u64]; omega
        have k6 : decide (((vb + d : Nat) : Int) < (vb : Int)) = false := decide_eq_false (by omega)
        have hnx2 : ∀ m, rdN 16 65535 s = some m → vb + d = vf 16 (s.take (k + 1)) := fun m h => by rw [hnx, ← hvf m h, hdv m h]; omega
        by_cases hover : 65535 < vb + d
        · have hn : rdN 16 65535 s = none := by
            cases hr : rdN 16 65535 s with
            | none => rfl
            | some m => rw [hov (by rw [← hvf m hr, hdv m hr]; omega)] at hr; cases hr
          have k7 : decide ((65535 : Int) < ((vb + d : Nat) : Int)) = true := decide_eq_true (by omega)
          generalize hvs : vb + d = vs at ws k6 k7
          have hvb : vb ≤ vs := by omega
          clear hch hov hnx hnx2 hvf hvv hmul hdv hvs hover
          replace hn := hide hn
          replace hv := hide hv
          replace h1 := hide h1
          replace h2 := hide h2
          replace hclt := hide hclt
          replace hl2 := hide hl2
          replace hd := hide hd
          go_wp2
          go_ret2
          exact hbad.out _ 1 _ hn.out (.inl rfl) hEc.out
        · have k7 : decide ((65535 : Int) < ((vb + d : Nat) : Int)) = false := decide_eq_false (by omega)
          have hle : vb + d ≤ 65535 := by omega
          generalize hvs : vb + d = vs at ws k6 k7 hle hnx2
          have hvb : vb ≤ vs := by omega
          clear hch hov hnx hvf hvv hmul hdv hvs hover
          replace hnx2 := hide hnx2
          replace hle := hide hle
          replace hv := hide hv
          replace h1 := hide h1
          replace h2 := hide h2
          replace hclt := hide hclt
          replace hl2 := hide hl2
          replace hd := hide hd
          go_wp2
          go_round
          case rel => exact ⟨k + 1, vs, rfl, by omega, by go_num, rfl, hle.out, hnx2.out⟩
          case measure => simp [intOf]; omega
      · -- between
        have hn : rdN 16 65535 s = none := by
          cases hr : rdN 16 65535 s with
          | none => rfl
          | some m => rcases hch m hr with h | h <;> omega
        have k1 : decide ((48 : Int) ≤ (c.toNat : Int)) = true := decide_eq_true (by omega)
        have k2 : decide ((c.toNat : Int) ≤ (57 : Int)) = false := decide_eq_false (by omega)
        have k3 : decide ((97 : Int) ≤ (L : Int)) = false := decide_eq_false (by omega)
        have e95 : ((c.toNat : Int) == 95) = false := by rw [beq_eq_false_iff_ne]; omega
        clear hch hov hnx hvf hvv hmul
        replace hn := hide hn
        replace hv := hide hv
        replace h1 := hide h1
        replace h2 := hide h2
        replace hclt := hide hclt
        replace hl2 := hide hl2
        replace hlt := hlt
        go_wp2_with fail
        refine (ql.out _).mono ?_
        rintro e w_ ⟨rfl, rfl⟩
        go_wp2
        go_ret2
        exact hbad.out _ 2 _ hn.out (.inr rfl) hEc.out
      · -- the underscore
        have hn : rdN 16 65535 s = none := by
          cases hr : rdN 16 65535 s with
          | none => rfl
          | some m => rcases hch m hr with h | h <;> omega
        have k1 : decide ((48 : Int) ≤ (c.toNat : Int)) = true := decide_eq_true (by omega)
        have k2 : decide ((c.toNat : Int) ≤ (57 : Int)) = false := decide_eq_false (by omega)
        have k3 : decide ((97 : Int) ≤ (L : Int)) = true := decide_eq_true (by omega)
        have k4 : decide ((L : Int) ≤ (122 : Int)) = false := decide_eq_false (by omega)
        have e95 : ((c.toNat : Int) == 95) = true := by rw [beq_iff_eq]; omega
        have q95 : ∀ W, Calls Tryz.prog 118 #[.int .u8 95] W fun e w' => e = .returned (.int .u8 127) ∧ W = w' := fun W => by
          have h := ql.out W
          rw [h3, h95 h3] at h
          exact h
        clear k3 k4
        replace q95 := hide q95
        clear hch hov hnx hvf hvv hmul
        replace hn := hide hn
        replace hv := hide hv
        replace h1 := hide h1
        replace h2 := hide h2
        replace hclt := hide hclt
        replace hl2 := hide hl2
        replace hlt := hlt
        go_wp2_with fail
        refine (q95.out _).mono ?_
        rintro e w_ ⟨rfl, rfl⟩
        go_wp2_with fail
        refine (q95.out _).mono ?_
        rintro e w_ ⟨rfl, rfl⟩
        go_wp2
        go_ret2
        exact hbad.out _ 2 _ hn.out (.inr rfl) hEc.out
      · -- behind
        have hn : rdN 16 65535 s = none := by
          cases hr : rdN 16 65535 s with
          | none => rfl
          | some m => rcases hch m hr with h | h <;> omega
        have k1 : decide ((48 : Int) ≤ (c.toNat : Int)) = true := decide_eq_true (by omega)
        have k2 : decide ((c.toNat : Int) ≤ (57 : Int)) = false := decide_eq_false (by omega)
        have k3 : decide ((97 : Int) ≤ (L : Int)) = true := decide_eq_true (by omega)
        have k4 : decide ((L : Int) ≤ (122 : Int)) = false := decide_eq_false (by omega)
        have e95 : ((c.toNat : Int) == 95) = false := by rw [beq_eq_false_iff_ne]; omega
        clear hch hov hnx hvf hvv hmul
        replace hn := hide hn
        replace hv := hide hv
        replace h1 := hide h1
        replace h2 := hide h2
        replace hclt := hide hclt
        replace hl2 := hide hl2
        replace hlt := hlt
        go_wp2_with fail
        refine (ql.out _).mono ?_
        rintro e w_ ⟨rfl, rfl⟩
        go_wp2_with fail
        refine (ql.out _).mono ?_
        rintro e w_ ⟨rfl, rfl⟩
        go_wp2
        go_ret2
        exact hbad.out _ 2 _ hn.out (.inr rfl) hEc.out
      · -- a letter
        have k1 : decide ((48 : Int) ≤ (c.toNat : Int)) = true := decide_eq_true (by omega)
        have k2 : decide ((c.toNat : Int) ≤ (57 : Int)) = false := decide_eq_false (by omega)
        have k3 : decide ((97 : Int) ≤ (L : Int)) = true := decide_eq_true (by omega)
        have k4 : decide ((L : Int) ≤ (122 : Int)) = true := decide_eq_true (by omega)
        have e95 : ((c.toNat : Int) == 95) = false := by rw [beq_eq_false_iff_ne]; omega
        obtain ⟨ee, hee⟩ : ∃ d : Nat, L = d + 97 := ⟨L - 97, by omega⟩
        obtain ⟨d, hd⟩ : ∃ d : Nat, d = ee + 10 := ⟨_, rfl⟩
        have v1 : IntKind.u8.wrap ((L : Int) - 97) = (ee : Int) := by rw [IntKind.wrap_u8]; omega
        have v2 : IntKind.u8.wrap ((ee : Int) + 10) = (d : Int) := by rw [IntKind.wrap_u8]; omega
        have hdv : ∀ m, rdN 16 65535 s = some m → dv = d := fun m h => by rcases hch m h with h | h <;> omega
        by_cases d16 : d < 16
        · skip
          have k5 : decide ((16 : Int) ≤ (d : Int)) = false := decide_eq_false (by omega)
          have wd : IntKind.u64.wrap (d : Int) = (d : Int) := by rw [IntKind.wrap_u64]; omega
          have ws : IntKind.u64.wrap ((vb : Int) + (d : Int)) = ((vb + d : Nat) : Int) := by rw [IntKind.wrap_u64]; omega
          have k6 : decide (((vb + d : Nat) : Int) < (vb : Int)) = false := decide_eq_false (by omega)
          have hnx2 : ∀ m, rdN 16 65535 s = some m → vb + d = vf 16 (s.take (k + 1)) := fun m h => by rw [hnx, ← hvf m h, hdv m h]; omega
          by_cases hover : 65535 < vb + d
          · have hn : rdN 16 65535 s = none := by
              cases hr : rdN 16 65535 s with
              | none => rfl
              | some m => rw [hov (by rw [← hvf m hr, hdv m hr]; omega)] at hr; cases hr
            have k7 : decide ((65535 : Int) < ((vb + d : Nat) : Int)) = true := decide_eq_true (by omega)
            generalize hvs : vb + d = vs at ws k6 k7
            have hvb : vb ≤ vs := by omega
            clear hch hov hnx hnx2 hvf hvv hmul hdv hvs hover
            replace hn := hide hn
            replace hv := hide hv
            replace h1 := hide h1
            replace h2 := hide h2
            replace hclt := hide hclt
            replace hl2 := hide hl2
            replace hd := hide hd
            go_wp2_with fail
            refine (ql.out _).mono ?_
            rintro e w_ ⟨rfl, rfl⟩
            go_wp2_with fail
            refine (ql.out _).mono ?_
            rintro e w_ ⟨rfl, rfl⟩
            go_wp2_with fail
            refine (ql.out _).mono ?_
            rintro e w_ ⟨rfl, rfl⟩
            go_wp2
            go_ret2
            exact hbad.out _ 1 _ hn.out (.inl rfl) hEc.out
          · have k7 : decide ((65535 : Int) < ((vb + d : Nat) : Int)) = false := decide_eq_false (by omega)
            have hle : vb + d ≤ 65535 := by omega
            generalize hvs : vb + d = vs at ws k6 k7 hle hnx2
            have hvb : vb ≤ vs := by omega
            clear hch hov hnx hvf hvv hmul hdv hvs hover
            replace hnx2 := hide hnx2
            replace hle := hide hle
            replace hv := hide hv
            replace h1 := hide h1
            replace h2 := hide h2
            replace hclt := hide hclt
            replace hl2 := hide hl2
            replace hd := hide hd
            go_wp2_with fail
            refine (ql.out _).mono ?_
            rintro e w_ ⟨rfl, rfl⟩
            go_wp2_with fail
            refine (ql.out _).mono ?_
            rintro e w_ ⟨rfl, rfl⟩
            go_wp2_with fail
            refine (ql.out _).mono ?_
            rintro e w_ ⟨rfl, rfl⟩
            go_wp2
            go_round
            case rel => exact ⟨k + 1, vs, rfl, by omega, by go_num, rfl, hle.out, hnx2.out⟩
            case measure => simp [intOf]; omega
        · have hn : rdN 16 65535 s = none := by
            cases hr : rdN 16 65535 s with
            | none => rfl
            | some m => rcases hch m hr with h | h <;> omega
          have k5 : decide ((16 : Int) ≤ (d : Int)) = true := decide_eq_true (by omega)
          clear hch hov hnx hvf hvv hmul
          replace hn := hide hn
          replace hv := hide hv
          replace h1 := hide h1
          replace h2 := hide h2
          replace hclt := hide hclt
          replace hl2 := hide hl2
          replace hlt := hlt
          go_wp2_with fail
          refine (ql.out _).mono ?_
          rintro e w_ ⟨rfl, rfl⟩
          go_wp2_with fail
          refine (ql.out _).mono ?_
          rintro e w_ ⟨rfl, rfl⟩
          go_wp2_with fail
          refine (ql.out _).mono ?_
          rintro e w_ ⟨rfl, rfl⟩
          go_wp2
          go_ret2
          exact hbad.out _ 2 _ hn.out (.inr rfl) hEc.out
    · obtain rfl : k = s.length := by omega
      rw [List.take_of_length_le (Nat.le_refl _)] at hvf
      have hfin : IpP 65535 s w (.returned (.tuple #[.int .u64 (v : Int), .nilIface])) W1 := ⟨hEc.out, .inl ⟨v, hv, rfl, fun n hn => by
        have h1 := hvf n hn
        obtain ⟨_, he⟩ := (rdN_iff (by decide) (by decide)).1 hn
        rw [h1, ← he, vf_dig (by decide) (by decide)]⟩⟩
      replace hfin := hide hfin
      replace hvf := hide hvf
      replace hW := hide hW
      go_wp2
      go_ret2
      exact hfin.out
end Go.Proofs.YtoghdmoldcjedaaGreatDoor
