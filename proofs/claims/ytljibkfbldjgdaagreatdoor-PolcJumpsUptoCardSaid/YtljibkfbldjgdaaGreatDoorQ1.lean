/- Walks: numerals to a base: the document's. -/
import Derived.Test.YtljibkfbldjgdaaGreatDoorPX
import Derived.Test.YtljibkfbldjgdaaGreatDoorPG
namespace Go.Proofs.YtljibkfbldjgdaaGreatDoor
open Go.RowKit Go.Sort
set_option linter.unusedVariables false

def hexd : ByteArray := ⟨#[48, 49, 50, 51, 52, 53, 54, 55, 56, 57, 97, 98, 99, 100, 101, 102]⟩
theorem hexd_at : ∀ d : Fin 16, (hexd.extract d.val (d.val + 1)) = ⟨#[dgt d.val]⟩ := by decide +kernel

set_option maxRecDepth 20000 in
theorem RNumber_any (b : Nat) (h2 : 2 ≤ b) (h16 : b ≤ 16) (n : Nat) : n < 18446744073709551616 → ∀ w, Calls Tryz.prog 132 #[.int .u64 (n : Int), .int .u64 (b : Int)] w fun e w' => e = .returned (.string ⟨(digS b n).toArray⟩) ∧ Ext w w' := by
  have mixed : Tryz.prog.follows Departure.mixedOrders = true := by kernel_rfl
  induction n using Nat.strongRecOn with
  | _ n ih =>
    intro hn w
    have hm := Nat.mod_lt n (show 0 < b by omega)
    have t1 : Int.tmod (n : Int) (b : Int) = ((n % b : Nat) : Int) := by rw [Int.tmod_eq_emod_of_nonneg (by omega)]; rfl
    have hd := hexd_at ⟨n % b, by omega⟩
    simp only [] at hd
    generalize hD : n % b = d at t1 hm hd
    by_cases h : n < b
    · obtain rfl : n = d := by rw [← hD, Nat.mod_eq_of_lt h]
      rw [digS_small h]
      replace hD := hide hD
      replace ih := hide ih
      replace hn := hide hn
      have b0 : ((b : Int) == 0) = false := by simp; omega
      have b1 : decide ((n : Int) < (b : Int)) = true := by simp; omega
      unfold hexd at hd
      go_enter Tryz.func132, Tryz.ntmps132
      go_wp2
      go_quiet (fail)
      go_wp2
      go_ret
      exact ⟨rfl, (Ext.refl _).drewN _⟩
    · have hlt : n / b < n := Nat.div_lt_self (by omega) (by omega)
      have hr := fun W => ih (n / b) hlt (by omega) W
      have t2 : Int.tdiv (n : Int) (b : Int) = ((n / b : Nat) : Int) := by rw [Int.tdiv_eq_ediv_of_nonneg (by omega)]; rfl
      rw [digS_big h2 (by omega), hD]
      have hl : (digS b (n / b)).length ≤ 64 := digS_len h2 64 _ (Nat.lt_of_lt_of_le (Nat.lt_of_lt_of_le (show n / b < 2 ^ 64 by omega) (Nat.le_refl _)) (Nat.pow_le_pow_left h2 64)) (by decide)
      generalize digS b (n / b) = r at hr hl ⊢
      generalize n / b = q at hr hlt t2
      have wq : IntKind.u64.wrap (q : Int) = (q : Int) := by rw [IntKind.wrap_u64]; omega
      have hsz : ¬ 9223372036854775807 < (ByteArray.mk r.toArray).size + (ByteArray.mk #[dgt d]).size := by simp [ByteArray.size]; omega
      replace hD := hide hD
      clear ih
      replace hr := hide hr
      replace hn := hide hn
      replace hl := hide hl
      have b0 : ((b : Int) == 0) = false := by simp; omega
      have b1 : decide ((n : Int) < (b : Int)) = false := by simp; omega
      unfold hexd at hd
      go_enter Tryz.func132, Tryz.ntmps132
      go_wp2
      go_quiet (fail)
      go_wp2_with fail
      refine (hr.out _).mono ?_
      rintro e w1 ⟨rfl, he⟩
      replace he := hide he
      go_wp2
      go_ret
      exact ⟨by rw [ba_app1]; rfl, ((Ext.refl _).drewN _).trans he.out⟩

/-- What reading a numeral answers. -/
def RdP (b M : Nat) (s : List UInt8) (w : World) (e : Ending) (w' : World) : Prop :=
  (∃ x : Nat, x < 18446744073709551616 ∧ e = .returned (.tuple #[.int .u64 (x : Int), .bool (rdN b M s).isSome]) ∧ ∀ n, rdN b M s = some n → n = x) ∧ Ext w w'
theorem rdN_digit {b M : Nat} (h2 : 2 ≤ b) (h16 : b ≤ 16) {s : List UInt8} {k : Nat} (hk : k < s.length) (h : b ≤ dval s[k]) : rdN b M s = none := by
  refine (rdN_none h2 h16).2 fun u _ he => ?_
  obtain ⟨d, hd, hc⟩ := digS_mem h2 h16 u s[k] (by rw [he]; exact List.getElem_mem hk)
  rw [hc, dval_dgt (by omega)] at h
  omega
theorem rdN_over {b M : Nat} (h2 : 2 ≤ b) (h16 : b ≤ 16) {s : List UInt8} {k : Nat} (hk : k < s.length) (h : M < vf b (s.take k) * b + dval s[k]) : rdN b M s = none := by
  refine (rdN_none h2 h16).2 fun u hu he => ?_
  have h1 := vf_take (b := b) (by omega) s (k + 1)
  rw [vf_next b s k hk] at h1
  have h3 : vf b s = u := by rw [← he, vf_dig h2 h16]
  omega
theorem rdN_long {b M : Nat} (h10 : 10 ≤ b) (h16 : b ≤ 16) (hM : M < 18446744073709551616) {s : List UInt8} (h : 20 < s.length) : rdN b M s = none := by
  refine (rdN_none (by omega) h16).2 fun u hu he => ?_
  have : (digS b u).length ≤ 20 := digS_len (by omega) 20 u (Nat.lt_of_lt_of_le (show u < 10 ^ 20 by omega) (Nat.pow_le_pow_left h10 20)) (by decide)
  rw [he] at this
  omega
theorem rdN_nil {b M : Nat} (h2 : 2 ≤ b) (h16 : b ≤ 16) : rdN b M [] = none := (rdN_none h2 h16).2 fun u _ he => digS_ne b u he
theorem rdN_end {b M : Nat} {s : List UInt8} (h : vf b s ≤ M) : (rdN b M s).isSome = (digS b (vf b s) == s) ∧ ∀ n, rdN b M s = some n → n = vf b s := by
  unfold rdN
  by_cases hc : digS b (vf b s) = s
  · rw [if_pos ⟨hc, h⟩, beq_iff_eq.2 hc]
    exact ⟨rfl, fun n hn => (Option.some.inj hn).symm⟩
  · rw [if_neg fun hh => hc hh.1, beq_eq_false_iff_ne.2 hc]
    exact ⟨rfl, fun n hn => by cases hn⟩
theorem rdP_none {b M : Nat} {s : List UInt8} {w w' : World} (h : rdN b M s = none) {x : Nat} (hx : x < 18446744073709551616) (he : Ext w w') : RdP b M s w (.returned (.tuple #[.int .u64 (x : Int), .bool false])) w' :=
  ⟨⟨x, hx, by rw [h]; rfl, fun n hn => by rw [h] at hn; cases hn⟩, he⟩
theorem dval_bd (c : UInt8) : dval c ≤ 99 := by unfold dval; split <;> (try split) <;> omega
set_option maxRecDepth 20000 in
set_option maxHeartbeats 1000000 in
theorem RRead_any (b M : Nat) (h10 : 10 ≤ b) (h16 : b ≤ 16) (hM1 : 100 ≤ M) (hM2 : M < 18446744073709551616) (s : List UInt8) (hs : s.length ≤ 1048576) (w : World) :
    Calls Tryz.prog 140 #[.string ⟨s.toArray⟩, .int .u64 (b : Int), .int .u64 (M : Int)] w (RdP b M s w) := by
  have mixed : Tryz.prog.follows Departure.mixedOrders = true := by kernel_rfl
  have hz : (ByteArray.mk s.toArray).size = s.length := by simp [ByteArray.size]
  by_cases hlen : s.length = 0
  · have hn : rdN b M s = none := by rw [List.eq_nil_of_length_eq_zero hlen]; exact rdN_nil (by omega) h16
    have hp := fun w' (he : Ext w w') => rdP_none hn (x := 0) (by decide) he
    replace hp := hide hp
    replace hn := hide hn
    replace hM2 := hide hM2
    go_enter Tryz.func140, Tryz.ntmps140
    go_wp2
    go_ret2
    exact hp.out _ (Ext.refl _)
  by_cases hlong : 20 < s.length
  · have hn : rdN b M s = none := rdN_long h10 h16 hM2 hlong
    have hp := fun w' (he : Ext w w') => rdP_none hn (x := 0) (by decide) he
    replace hp := hide hp
    replace hn := hide hn
    replace hM2 := hide hM2
    go_enter Tryz.func140, Tryz.ntmps140
    go_wp2
    go_ret2
    exact hp.out _ (Ext.refl _)
  have hnum := fun x (hx : x < 18446744073709551616) W => RNumber_any b (by omega) h16 x hx W
  replace hM2 := hide hM2
  replace hnum := hide hnum
  have b1 : ((s.length : Int) == 0) = false := by rw [beq_eq_false_iff_ne]; omega
  have b2 : decide ((20 : Int) < (s.length : Int)) = false := decide_eq_false (by omega)
  go_enter Tryz.func140, Tryz.ntmps140
  go_wp2
  go_loop [8, 9] (fun n i => ∃ k : Nat, k ≤ s.length ∧ i = .int .i64 k ∧ n = .int .u64 (vf b (s.take k) : Int) ∧ vf b (s.take k) ≤ M) (fun _ i => s.length - (intOf i).toNat)
  case atStart => exact ⟨0, Nat.zero_le _, rfl, rfl, Nat.zero_le _⟩
  case round =>
    obtain ⟨k, hk, rfl, rfl, hv⟩ := hrel
    by_cases hlt : k < s.length
    · have e1 : (ByteArray.mk s.toArray)[k]'(by rw [ba_size]; exact hlt) = s[k] := rfl
      have hnx := vf_next b s k hlt
      have hbad := fun h => rdN_digit (b := b) (M := M) (by omega) h16 hlt h
      have hov := fun h => rdN_over (b := b) (M := M) (by omega) h16 hlt h
      have hdb := dval_bd s[k]
      have hdv : dval s[k] = if 48 ≤ s[k].toNat ∧ s[k].toNat ≤ 57 then s[k].toNat - 48 else if 97 ≤ s[k].toNat ∧ s[k].toNat ≤ 102 then s[k].toNat - 87 else 99 := rfl
      generalize s[k] = c at e1 hnx hbad hov hdv hdb
      generalize vf b (s.take k) = v at hv hnx hov ⊢
      generalize dval c = d at hnx hbad hov hdv hdb
      replace hnx := hide hnx
      have c0 := c.toNat_lt
      have hM3 := hM2.out
      have wM : IntKind.u64.wrap (M : Int) = (M : Int) := by rw [IntKind.wrap_u64]; omega
      have hcl : (d = 99 ∧ c.toNat < 48) ∨ (c.toNat = d + 48 ∧ d ≤ 9) ∨ (d = 99 ∧ 57 < c.toNat ∧ c.toNat < 97) ∨ (c.toNat = d + 87 ∧ 10 ≤ d ∧ d ≤ 15) ∨ (d = 99 ∧ 102 < c.toNat) := by
        split at hdv
        · exact .inr (.inl (by omega))
        · split at hdv
          · exact .inr (.inr (.inr (.inl (by omega))))
          · omega
      clear hdv
      by_cases hd : b ≤ d
      · have hn := hbad hd
        have hp := fun w' (he : Ext w w') => rdP_none hn (x := 0) (by decide) he
        replace hp := hide hp
        replace hn := hide hn
        clear hov hbad hM3
        have d1 : decide (b ≤ d) = true := decide_eq_true (by omega)
        rcases hcl with ⟨rfl, h1⟩ | ⟨h1, h2⟩ | ⟨rfl, h1, h2⟩ | ⟨h1, h2, h3⟩ | ⟨rfl, h1⟩
        · have k1 : decide ((48 : Int) ≤ (c.toNat : Int)) = false := decide_eq_false (by omega)
          have k3 : decide ((97 : Int) ≤ (c.toNat : Int)) = false := decide_eq_false (by omega)
          replace h1 := hide h1
          go_wp2
          go_ret2
          exact hp.out _ (Ext.refl _)
        · have k1 : decide ((48 : Int) ≤ (c.toNat : Int)) = true := decide_eq_true (by omega)
          have k2 : decide ((c.toNat : Int) ≤ (57 : Int)) = true := decide_eq_true (by omega)
          have k3 : decide ((97 : Int) ≤ (c.toNat : Int)) = false := decide_eq_false (by omega)
          have v1 : (c.toNat : Int) - 48 = (d : Int) := by omega
          replace h1 := hide h1
          go_wp2
          go_ret2
          exact hp.out _ (Ext.refl _)
        · have k1 : decide ((48 : Int) ≤ (c.toNat : Int)) = true := decide_eq_true (by omega)
          have k2 : decide ((c.toNat : Int) ≤ (57 : Int)) = false := decide_eq_false (by omega)
          have k3 : decide ((97 : Int) ≤ (c.toNat : Int)) = false := decide_eq_false (by omega)
          replace h1 := hide h1
          go_wp2
          go_ret2
          exact hp.out _ (Ext.refl _)
        · have k1 : decide ((48 : Int) ≤ (c.toNat : Int)) = true := decide_eq_true (by omega)
          have k2 : decide ((c.toNat : Int) ≤ (57 : Int)) = false := decide_eq_false (by omega)
          have k3 : decide ((97 : Int) ≤ (c.toNat : Int)) = true := decide_eq_true (by omega)
          have k4 : decide ((c.toNat : Int) ≤ (102 : Int)) = true := decide_eq_true (by omega)
          have v1 : (c.toNat : Int) - 97 + 10 = (d : Int) := by omega
          replace h1 := hide h1
          go_wp2
          go_ret2
          exact hp.out _ (Ext.refl _)
        · have k1 : decide ((48 : Int) ≤ (c.toNat : Int)) = true := decide_eq_true (by omega)
          have k2 : decide ((c.toNat : Int) ≤ (57 : Int)) = false := decide_eq_false (by omega)
          have k3 : decide ((97 : Int) ≤ (c.toNat : Int)) = true := decide_eq_true (by omega)
          have k4 : decide ((c.toNat : Int) ≤ (102 : Int)) = false := decide_eq_false (by omega)
          replace h1 := hide h1
          go_wp2
          go_ret2
          exact hp.out _ (Ext.refl _)
      · have d1 : decide (b ≤ d) = false := decide_eq_false (by omega)
        have d2 : ¬ b ≤ d := by omega
        have dM : (M : Int) - (d : Int) = ((M - d : Nat) : Int) := by omega
        have wd : IntKind.u64.wrap ((M - d : Nat) : Int) = ((M - d : Nat) : Int) := by rw [IntKind.wrap_u64]; omega
        have td : Int.tdiv ((M - d : Nat) : Int) (b : Int) = (((M - d) / b : Nat) : Int) := by rw [Int.tdiv_eq_ediv_of_nonneg (by omega)]; rfl
        have hq : (M - d) / b < v ↔ M < v * b + d := by rw [Nat.div_lt_iff_lt_mul (by omega)]; omega
        have hql : (M - d) / b ≤ M := Nat.le_trans (Nat.div_le_self _ _) (by omega)
        have bz : ((b : Int) == 0) = false := by rw [beq_eq_false_iff_ne]; omega
        have bz2 : ¬ b = 0 := by omega
        generalize (M - d) / b = q at td hq hql
        have wq : IntKind.u64.wrap (q : Int) = (q : Int) := by rw [IntKind.wrap_u64]; omega
        generalize M - d = Md at dM wd td
        have hmul : (v : Int) * (b : Int) = ((v * b : Nat) : Int) := by simp
        replace hnx := hnx.out
        generalize v * b = vb at hmul hq hov hnx ⊢
        replace hnx := hide hnx
        by_cases hover : q < v
        · have q1 : decide (q < v) = true := decide_eq_true (by omega)
          have hn := hov (hq.1 hover)
          have hp := fun w' (he : Ext w w') => rdP_none hn (x := 0) (by decide) he
          replace hp := hide hp
          replace hn := hide hn
          clear hov hbad hM3 hq hmul
          replace hql := hide hql
          rcases hcl with ⟨rfl, h1⟩ | ⟨h1, h2⟩ | ⟨rfl, h1, h2⟩ | ⟨h1, h2, h3⟩ | ⟨rfl, h1⟩
          · omega
          · have k1 : decide ((48 : Int) ≤ (c.toNat : Int)) = true := decide_eq_true (by omega)
            have k2 : decide ((c.toNat : Int) ≤ (57 : Int)) = true := decide_eq_true (by omega)
            have k3 : decide ((97 : Int) ≤ (c.toNat : Int)) = false := decide_eq_false (by omega)
            have v1 : (c.toNat : Int) - 48 = (d : Int) := by omega
            replace h1 := hide h1
            replace hd := hide hd
            go_wp2
            go_ret2
            exact hp.out _ (Ext.refl _)
          · omega
          · have k1 : decide ((48 : Int) ≤ (c.toNat : Int)) = true := decide_eq_true (by omega)
            have k2 : decide ((c.toNat : Int) ≤ (57 : Int)) = false := decide_eq_false (by omega)
            have k3 : decide ((97 : Int) ≤ (c.toNat : Int)) = true := decide_eq_true (by omega)
            have k4 : decide ((c.toNat : Int) ≤ (102 : Int)) = true := decide_eq_true (by omega)
            have v1 : (c.toNat : Int) - 97 + 10 = (d : Int) := by omega
            replace h1 := hide h1
            replace hd := hide hd
            go_wp2
            go_ret2
            exact hp.out _ (Ext.refl _)
          · omega
        · have q1 : decide (q < v) = false := decide_eq_false (by omega)
          have q2 : v ≤ q := by omega
          have hle : vb + d ≤ M := by omega
          have wv : IntKind.u64.wrap (vb : Int) = (vb : Int) := by rw [IntKind.wrap_u64]; omega
          have wv2 : IntKind.u64.wrap ((vb : Int) + (d : Int)) = ((vb + d : Nat) : Int) := by rw [IntKind.wrap_u64]; omega
          clear hov hbad hM3 hq
          replace hql := hide hql
          replace hle := hide hle
          rcases hcl with ⟨rfl, h1⟩ | ⟨h1, h2⟩ | ⟨rfl, h1, h2⟩ | ⟨h1, h2, h3⟩ | ⟨rfl, h1⟩
          · omega
          · have k1 : decide ((48 : Int) ≤ (c.toNat : Int)) = true := decide_eq_true (by omega)
            have k2 : decide ((c.toNat : Int) ≤ (57 : Int)) = true := decide_eq_true (by omega)
            have k3 : decide ((97 : Int) ≤ (c.toNat : Int)) = false := decide_eq_false (by omega)
            have v1 : (c.toNat : Int) - 48 = (d : Int) := by omega
            replace h1 := hide h1
            replace hd := hide hd
            replace hover := hide hover
            go_wp2
            go_round
            case rel => exact ⟨k + 1, by omega, by go_num, by rw [hnx.out]; rfl, by rw [hnx.out]; exact hle.out⟩
            case measure => simp [intOf]; omega
          · omega
          · have k1 : decide ((48 : Int) ≤ (c.toNat : Int)) = true := decide_eq_true (by omega)
            have k2 : decide ((c.toNat : Int) ≤ (57 : Int)) = false := decide_eq_false (by omega)
            have k3 : decide ((97 : Int) ≤ (c.toNat : Int)) = true := decide_eq_true (by omega)
            have k4 : decide ((c.toNat : Int) ≤ (102 : Int)) = true := decide_eq_true (by omega)
            have v1 : (c.toNat : Int) - 97 + 10 = (d : Int) := by omega
            replace h1 := hide h1
            replace hd := hide hd
            replace hover := hide hover
            go_wp2
            go_round
            case rel => exact ⟨k + 1, by omega, by go_num, by rw [hnx.out]; rfl, by rw [hnx.out]; exact hle.out⟩
            case measure => simp [intOf]; omega
          · omega
    · obtain rfl : k = s.length := by omega
      rw [List.take_of_length_le (Nat.le_refl _)] at hv ⊢
      have hend := rdN_end hv
      have hM3 := hM2.out
      have hnm := hnum.out (vf b s) (by omega)
      have hb := fun w' (he : Ext w w') => (show RdP b M s w (.returned (.tuple #[.int .u64 (vf b s : Int), .bool (digS b (vf b s) == s)])) w' from ⟨⟨_, by omega, by rw [hend.1], hend.2⟩, he⟩)
      clear hend
      generalize digS b (vf b s) = r at hnm hb
      generalize vf b s = v at *
      replace hb := hide hb
      replace hnm := hide hnm
      clear hM3
      go_wp2_with fail
      refine (hnm.out _).mono ?_
      rintro e w1 ⟨rfl, he⟩
      replace he := hide he
      go_wp2
      go_ret2
      exact hb.out _ he.out
end Go.Proofs.YtljibkfbldjgdaaGreatDoor
