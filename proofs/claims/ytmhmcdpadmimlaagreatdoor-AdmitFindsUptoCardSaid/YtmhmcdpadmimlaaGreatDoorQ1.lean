/- Walks: numerals to a base: the document's. -/
import Derived.Test.YtmhmcdpadmimlaaGreatDoorPX
import Derived.Test.YtmhmcdpadmimlaaGreatDoorPG
namespace Go.Proofs.YtmhmcdpadmimlaaGreatDoor
open Go.RowKit Go.Sort
set_option linter.unusedVariables false

def hexd : ByteArray := ⟨#[48, 49, 50, 51, 52, 53, 54, 55, 56, 57, 97, 98, 99, 100, 101, 102]⟩
theorem hexd_at : ∀ d : Fin 16, (hexd.extract d.val (d.val + 1)) = ⟨#[dgt d.val]⟩ := by decide +kernel

set_option maxRecDepth 20000 in
theorem RNumber_any (b : Nat) (h2 : 2 ≤ b) (h16 : b ≤ 16) (n : Nat) : n < 18446744073709551616 → ∀ w, Calls Tryz.prog 39 #[.int .u64 (n : Int), .int .u64 (b : Int)] w fun e w' => e = .returned (.string ⟨(digS b n).toArray⟩) ∧ Ext w w' := by
  have mixed : Tryz.prog.follows Departure.mixedOrders = true := by kernel_rfl
  induction n using Nat.strongRecOn with
  | _ n ih =>
    intro hn w
    have hm := Nat.mod_lt n (show 0 < b by omega)
    have t1 : Int.tmod (n : Int) (b : Int) = ((n % b : Nat) : Int) := by rw [Int.tmod_eq_emod_of_nonneg (by omega)]; rfl
    have hd := hexd_at ⟨n % b, by omega⟩
    simp only [] at hd
    generalize hD : n % b = d at t1 hm hd
    by_cases h : n < b
    · obtain rfl : n = d := by rw [← hD, Nat.mod_eq_of_lt h]
      rw [digS_small h]
      replace hD := hide hD
      replace ih := hide ih
      replace hn := hide hn
      have b0 : ((b : Int) == 0) = false := by simp; omega
      have b1 : decide ((n : Int) < (b : Int)) = true := by simp; omega
      unfold hexd at hd
      go_enter Tryz.func39, Tryz.ntmps39
      go_wp2
      go_quiet (fail)
      go_wp2
      go_ret
      exact ⟨rfl, (Ext.refl _).drewN _⟩
    · have hlt : n / b < n := Nat.div_lt_self (by omega) (by omega)
      have hr := fun W => ih (n / b) hlt (by omega) W
      have t2 : Int.tdiv (n : Int) (b : Int) = ((n / b : Nat) : Int) := by rw [Int.tdiv_eq_ediv_of_nonneg (by omega)]; rfl
      rw [digS_big h2 (by omega), hD]
      have hl : (digS b (n / b)).length ≤ 64 := digS_len h2 64 _ (Nat.lt_of_lt_of_le (Nat.lt_of_lt_of_le (show n / b < 2 ^ 64 by omega) (Nat.le_refl _)) (Nat.pow_le_pow_left h2 64)) (by decide)
      generalize digS b (n / b) = r at hr hl ⊢
      generalize n / b = q at hr hlt t2
      have wq : IntKind.u64.wrap (q : Int) = (q : Int) := by rw [IntKind.wrap_u64]; omega
      have hsz : ¬ 9223372036854775807 < (ByteArray.mk r.toArray).size + (ByteArray.mk #[dgt d]).size := by simp [ByteArray.size]; omega
      replace hD := hide hD
      clear ih
      replace hr := hide hr
      replace hn := hide hn
      replace hl := hide hl
      have b0 : ((b : Int) == 0) = false := by simp; omega
      have b1 : decide ((n : Int) < (b : Int)) = false := by simp; omega
      unfold hexd at hd
      go_enter Tryz.func39, Tryz.ntmps39
      go_wp2
      go_quiet (fail)
      go_wp2_with fail
      refine (hr.out _).mono ?_
      rintro e w1 ⟨rfl, he⟩
      replace he := hide he
      go_wp2
      go_ret
      exact ⟨by rw [ba_app1]; rfl, ((Ext.refl _).drewN _).trans he.out⟩

/-- What reading a numeral answers. -/
def RdP (b M : Nat) (s : List UInt8) (w : World) (e : Ending) (w' : World) : Prop :=
  (∃ x : Nat, x < 18446744073709551616 ∧ e = .returned (.tuple #[.int .u64 (x : Int), .bool (rdN b M s).isSome]) ∧ ∀ n, rdN b M s = some n → n = x) ∧ Ext w w'
theorem rdN_digit {b M : Nat} (h2 : 2 ≤ b) (h16 : b ≤ 16) {s : List UInt8} {k : Nat} (hk : k < s.length) (h : b ≤ dval s[k]) : rdN b M s = none := by
  refine (rdN_none h2 h16).2 fun u _ he => ?_
  obtain ⟨d, hd, hc⟩ := digS_mem h2 h16 u s[k] (by rw [he]; exact List.getElem_mem hk)
  rw [hc, dval_dgt (by omega)] at h
  omega
theorem rdN_over {b M : Nat} (h2 : 2 ≤ b) (h16 : b ≤ 16) {s : List UInt8} {k : Nat} (hk : k < s.length) (h : M < vf b (s.take k) * b + dval s[k]) : rdN b M s = none := by
  refine (rdN_none h2 h16).2 fun u hu he => ?_
  have h1 := vf_take (b := b) (by omega) s (k + 1)
  rw [vf_next b s k hk] at h1
  have h3 : vf b s = u := by rw [← he, vf_dig h2 h16]
  omega
theorem rdN_long {b M : Nat} (h10 : 10 ≤ b) (h16 : b ≤ 16) (hM : M < 18446744073709551616) {s : List UInt8} (h : 20 < s.length) : rdN b M s = none := by
  refine (rdN_none (by omega) h16).2 fun u hu he => ?_
  have : (digS b u).length ≤ 20 := digS_len (by omega) 20 u (Nat.lt_of_lt_of_le (show u < 10 ^ 20 by omega) (Nat.pow_le_pow_left h10 20)) (by decide)
  rw [he] at this
  omega
theorem rdN_nil {b M : Nat} (h2 : 2 ≤ b) (h16 : b ≤ 16) : rdN b M [] = none := (rdN_none h2 h16).2 fun u _ he => digS_ne b u he
theorem rdN_end {b M : Nat} {s : List UInt8} (h : vf b s ≤ M) : (rdN b M s).isSome = (digS b (vf b s) == s) ∧ ∀ n, rdN b M s = some n → n = vf b s := by
  unfold rdN
  by_cases hc : digS b (vf b s) = s
  · rw [if_pos ⟨hc, h⟩, beq_iff_eq.2 hc]
    exact ⟨rfl, fun n hn => (Option.some.inj hn).symm⟩
  · rw [if_neg fun hh => hc hh.1, beq_eq_false_iff_ne.2 hc]
    exact ⟨rfl, fun n hn => by cases hn⟩
theorem rdP_none {b M : Nat} {s : List UInt8} {w w' : World} (h : rdN b M s = none) {x : Nat} (hx : x < 18446744073709551616) (he : Ext w w') : RdP b M s w (.returned (.tuple #[.int .u64 (x : Int), .bool false])) w' :=
  ⟨⟨x, hx, by rw [h]; rfl, fun n hn => by rw [h] at hn; cases hn⟩, he⟩
theorem dval_bd (c : UInt8) : dval c ≤ 99 := by unfold dval; split <;> (try split) <;> omega
end Go.Proofs.YtmhmcdpadmimlaaGreatDoor
