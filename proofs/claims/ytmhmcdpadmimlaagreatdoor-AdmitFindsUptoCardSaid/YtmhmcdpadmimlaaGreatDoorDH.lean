/- Walks: the neighbour of an address: admit.Find. -/
import Derived.Test.YtmhmcdpadmimlaaGreatDoorDF
import Derived.Deep.RegionHeld3
namespace Go.Proofs.YtmhmcdpadmimlaaGreatDoor
open Go.RowKit
set_option linter.unusedVariables false

def nearS (l : List Nbr) (best : Int) (i : Nat) : Bool := decide (best < 0) || decide (lenN l best < lenN l i)
theorem nbr_len {w : World} {S : Nat → Prop} {a : Option Addr} {l : List Nbr} (h : Sl ENbr w S a l) (k : Nat) (hk : k < l.length) : ∃ b off, a = some ⟨b, off, none⟩ ∧ w.cell? ⟨b, off + k * 23 + 2 + 3, none⟩ = some (.int .i64 (lenN l k)) ∧ i64 (lenN l k) := by
  obtain ⟨b, off, f, c, rfl, _, hi, hc⟩ := ENbr.at h k hk
  have hl : lenN l k = l[k].range.len := by
    unfold lenN
    rw [show ((k : Int)).toNat = k from rfl, List.getD_eq_getElem?_getD, List.getElem?_eq_getElem hk]
    rfl
  rw [hl]
  exact ⟨b, off, rfl, hc 5 _ rfl, hi.range.len⟩
set_option maxRecDepth 20000 in
set_option maxHeartbeats 1000000 in
theorem Find1_any21 (l : List Nbr) (hl : l.length ≤ 16777216) (a : Option Addr) (c gb gl i : Nat) (best : Int) (w : World) (hs : Sl ENbr w (· < w.heap.size) a l) (hi : i < l.length) (hb : -1 ≤ best ∧ best < l.length) (hB : Blk w gb 3 #[.int .i64 best]) (hL : Blk w gl 22 #[.slice a l.length c]) :
    Calls Tryz.prog 23 #[.int .i64 i, .pointer (some ⟨gb, 0, none⟩), .pointer (some ⟨gl, 0, none⟩)] w fun e w' => e = .returned (.bool (nearS l best i)) ∧ Drew w w' := by
  have mixed : Tryz.prog.follows Departure.mixedOrders = true := by kernel_rfl
  have c0 : w.cell? ⟨gb, 0, none⟩ = some (.int .i64 best) := hB.cell 0
  have c1 : w.cell? ⟨gl, 0, none⟩ = some (.slice a l.length c) := hL.cell 0
  obtain ⟨b, off, rfl, x1, _⟩ := nbr_len hs i hi
  unfold nearS
  by_cases hlt : best < 0
  · rw [decide_eq_true hlt, Bool.true_or]
    have d1 : decide (best < 0) = true := decide_eq_true hlt
    clear hs hB hL hlt
    go_enter Tryz.func23, Tryz.ntmps23
    go_wp2_with fail
    go_quiet (fail)
    go_wp2
    go_ret
    exact ⟨rfl, _, rfl⟩
  · rw [decide_eq_false hlt, Bool.false_or]
    have d1 : decide (best < 0) = false := decide_eq_false hlt
    obtain ⟨m, rfl⟩ : ∃ m : Nat, best = m := ⟨best.toNat, by omega⟩
    obtain ⟨b', off', hb', x2, _⟩ := nbr_len hs m (by omega)
    injection hb' with hb'
    injection hb' with e1 e2
    subst e1 e2
    have hm : m < l.length := by omega
    have i0 : (0 : Int) ≤ (i : Int) := by omega
    have i1 : (i : Int) < (l.length : Int) := by omega
    have j0 : (0 : Int) ≤ (m : Int) := by omega
    have j1 : (m : Int) < (l.length : Int) := by omega
    clear hs hB hL hlt hb
    generalize lenN l i = li at *
    generalize lenN l m = lm at *
    generalize l.length = n at *
    go_enter Tryz.func23, Tryz.ntmps23
    go_wp2_with fail
    go_quiet (fail)
    go_wp2
    go_ret
    exact ⟨rfl, _, rfl⟩
end Go.Proofs.YtmhmcdpadmimlaaGreatDoor
