/- Walks: numerals to a base: the document's. -/
import Derived.Test.YtoghdmoldcjedaaDoorPX
import Derived.Test.YtoghdmoldcjedaaDoorPG
namespace Go.Proofs.YtoghdmoldcjedaaDoor
open Go.RowKit Go.Sort
set_option linter.unusedVariables false

def hexd : ByteArray := ⟨#[48, 49, 50, 51, 52, 53, 54, 55, 56, 57, 97, 98, 99, 100, 101, 102]⟩
theorem hexd_at : ∀ d : Fin 16, (hexd.extract d.val (d.val + 1)) = ⟨#[dgt d.val]⟩ := by decide +kernel

/-- What reading a numeral answers. -/
def RdP (b M : Nat) (s : List UInt8) (w : World) (e : Ending) (w' : World) : Prop :=
  (∃ x : Nat, x < 18446744073709551616 ∧ e = .returned (.tuple #[.int .u64 (x : Int), .bool (rdN b M s).isSome]) ∧ ∀ n, rdN b M s = some n → n = x) ∧ Ext w w'
theorem rdN_digit {b M : Nat} (h2 : 2 ≤ b) (h16 : b ≤ 16) {s : List UInt8} {k : Nat} (hk : k < s.length) (h : b ≤ dval s[k]) : rdN b M s = none := by
  refine (rdN_none h2 h16).2 fun u _ he => ?_
  obtain ⟨d, hd, hc⟩ := digS_mem h2 h16 u s[k] (by rw [he]; exact List.getElem_mem hk)
  rw [hc, dval_dgt (by omega)] at h
  omega
theorem rdN_over {b M : Nat} (h2 : 2 ≤ b) (h16 : b ≤ 16) {s : List UInt8} {k : Nat} (hk : k < s.length) (h : M < vf b (s.take k) * b + dval s[k]) : rdN b M s = none := by
  refine (rdN_none h2 h16).2 fun u hu he => ?_
  have h1 := vf_take (b := b) (by omega) s (k + 1)
  rw [vf_next b s k hk] at h1
  have h3 : vf b s = u := by rw [← he, vf_dig h2 h16]
  omega
theorem rdN_long {b M : Nat} (h10 : 10 ≤ b) (h16 : b ≤ 16) (hM : M < 18446744073709551616) {s : List UInt8} (h : 20 < s.length) : rdN b M s = none := by
  refine (rdN_none (by omega) h16).2 fun u hu he => ?_
  have : (digS b u).length ≤ 20 := digS_len (by omega) 20 u (Nat.lt_of_lt_of_le (show u < 10 ^ 20 by omega) (Nat.pow_le_pow_left h10 20)) (by decide)
  rw [he] at this
  omega
theorem rdN_nil {b M : Nat} (h2 : 2 ≤ b) (h16 : b ≤ 16) : rdN b M [] = none := (rdN_none h2 h16).2 fun u _ he => digS_ne b u he
theorem rdN_end {b M : Nat} {s : List UInt8} (h : vf b s ≤ M) : (rdN b M s).isSome = (digS b (vf b s) == s) ∧ ∀ n, rdN b M s = some n → n = vf b s := by
  unfold rdN
  by_cases hc : digS b (vf b s) = s
  · rw [if_pos ⟨hc, h⟩, beq_iff_eq.2 hc]
    exact ⟨rfl, fun n hn => (Option.some.inj hn).symm⟩
  · rw [if_neg fun hh => hc hh.1, beq_eq_false_iff_ne.2 hc]
    exact ⟨rfl, fun n hn => by cases hn⟩
theorem rdP_none {b M : Nat} {s : List UInt8} {w w' : World} (h : rdN b M s = none) {x : Nat} (hx : x < 18446744073709551616) (he : Ext w w') : RdP b M s w (.returned (.tuple #[.int .u64 (x : Int), .bool false])) w' :=
  ⟨⟨x, hx, by rw [h]; rfl, fun n hn => by rw [h] at hn; cases hn⟩, he⟩
theorem dval_bd (c : UInt8) : dval c ≤ 99 := by unfold dval; split <;> (try split) <;> omega
end Go.Proofs.YtoghdmoldcjedaaDoor
