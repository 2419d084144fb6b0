/- Which bracket a text begins with. -/
import Derived.Test.YtiappobhljiknaaGreatDoorLibP
namespace Go.Proofs.YtiappobhljiknaaGreatDoor
open Go.RowKit
set_option linter.unusedVariables false

def startsB (o : UInt8) (s : List UInt8) : Bool := match s with | x :: _ => x == o | [] => false
def kindOf (s : List UInt8) : Int := match s with
  | x :: _ => if x = 123 then 1 else if x = 60 then 2 else if x = 40 then 3 else if x = 91 then 4 else -1
  | [] => -1
theorem kindOf_bd (s : List UInt8) : kindOf s = -1 ∨ (1 ≤ kindOf s ∧ kindOf s ≤ 4) := by
  unfold kindOf
  split
  · (repeat' split) <;> omega
  · exact .inl rfl
theorem kindOf_at (s : List UInt8) (k : Int) (h1 : 1 ≤ k) (h4 : k ≤ 4) : startsB (opn k) s = true ↔ kindOf s = k := by
  have e1 : k = 1 ∨ k = 2 ∨ k = 3 ∨ k = 4 := by omega
  cases s with
  | nil =>
    refine ⟨fun h => (by cases h), fun h => ?_⟩
    have : kindOf [] = -1 := rfl
    omega
  | cons x t =>
    unfold startsB kindOf
    simp only [beq_iff_eq]
    rcases e1 with rfl | rfl | rfl | rfl
    · rw [show opn 1 = 123 by decide]
      constructor
      · intro h; rw [if_pos h]
      · intro h; split at h
        · assumption
        · (repeat' split at h) <;> omega
    · rw [show opn 2 = 60 by decide]
      constructor
      · intro h; subst h; decide
      · intro h; split at h
        · omega
        · split at h
          · assumption
          · (repeat' split at h) <;> omega
    · rw [show opn 3 = 40 by decide]
      constructor
      · intro h; subst h; decide
      · intro h; split at h
        · omega
        · split at h
          · omega
          · split at h
            · assumption
            · (repeat' split at h) <;> omega
    · rw [show opn 4 = 91 by decide]
      constructor
      · intro h; subst h; decide
      · intro h; split at h
        · omega
        · split at h
          · omega
          · split at h
            · omega
            · split at h
              · assumption
              · omega

set_option maxRecDepth 20000 in
set_option maxHeartbeats 1000000 in
theorem P1_empty (g : Nat) (w : World) :
    Calls Tryz.prog 35 #[.string ⟨#[]⟩, .pointer (some ⟨g, 0, none⟩)] w fun e w' => e = .returned (.bool false) ∧ Drew w w' := by
  have mixed : Tryz.prog.follows Departure.mixedOrders = true := by kernel_rfl
  go_enter Tryz.func35, Tryz.ntmps35
  go_wp2
  go_quiet (fail)
  go_wp2
  go_ret
  exact ⟨rfl, (Drew.refl _).more _⟩
theorem hasPrefix_one (o : UInt8) (s : List UInt8) : Lib.hasPrefix s [o] = startsB o s := by
  unfold Lib.hasPrefix startsB
  cases s with
  | nil => rfl
  | cons x t =>
    simp only [List.isPrefixOf, Bool.and_true]
    exact Bool.eq_iff_iff.2 ⟨fun h => by simpa using (beq_iff_eq.1 h).symm, fun h => by simpa using (beq_iff_eq.1 h).symm⟩
set_option maxRecDepth 20000 in
set_option maxHeartbeats 1000000 in
theorem P1_two (g : Nat) (s : List UInt8) (o c : UInt8) (w : World) (hg : w.cell? ⟨g, 0, none⟩ = some (.string ⟨s.toArray⟩)) :
    Calls Tryz.prog 35 #[.string ⟨#[o, c]⟩, .pointer (some ⟨g, 0, none⟩)] w fun e w' => e = .returned (.bool (startsB o s)) ∧ Drew w w' := by
  have n0 : (ByteArray.mk #[o, c]).size = 2 := rfl
  have n1 : ((ByteArray.mk #[o, c]) == ⟨#[]⟩) = false := rfl
  have n2 : ((ByteArray.mk #[o, c]) != ⟨#[]⟩) = true := rfl
  have hx : (ByteArray.mk #[o, c]).extract 0 1 = ⟨#[o]⟩ := by refine ba_ext ?_; rw [Lib.extract_data]; rfl
  have hp : ∀ W, Calls Tryz.prog 36 #[.string ⟨s.toArray⟩, .string ⟨#[o]⟩] W fun e w' => e = .returned (.bool (startsB o s)) ∧ Drew W w' := fun W => by
    refine (Tryz.strings_HasPrefix ⟨s.toArray⟩ ⟨#[o]⟩ W).mono ?_
    rintro e w' ⟨rfl, rfl⟩
    rw [show (ByteArray.mk s.toArray).data.toList = s by rfl, show (ByteArray.mk #[o]).data.toList = [o] by rfl, hasPrefix_one]
    exact ⟨rfl, Drew.refl _⟩
  have mixed : Tryz.prog.follows Departure.mixedOrders = true := by kernel_rfl
  replace hp := hide hp
  go_enter Tryz.func35, Tryz.ntmps35
  go_wp2
  go_quiet ((go_at_call 36; exact Calls.quiet_of (hp.out _)))
  go_wp2
  go_ret
  exact ⟨rfl, (Drew.refl _).more _⟩

def brkCells : Array Value := #[.string ⟨#[]⟩, .string ⟨#[123, 125]⟩, .string ⟨#[60, 62]⟩, .string ⟨#[40, 41]⟩, .string ⟨#[91, 93]⟩]
set_option maxRecDepth 20000 in
set_option maxHeartbeats 1000000 in
theorem IdxBrk_any (g ga : Nat) (t : TypeId) (s : List UInt8) (w : World) (hg : w.cell? ⟨g, 0, none⟩ = some (.string ⟨s.toArray⟩)) (hB : Blk w ga t brkCells) :
    Calls Tryz.prog 34 #[.slice (some ⟨ga, 0, none⟩) 5 5, .func (Fn.func 35) #[] #[.pointer (some ⟨g, 0, none⟩)]] w fun e w' => e = .returned (.int .i64 (kindOf s)) ∧ Drew w w' := by
  have hk := kindOf_bd s
  have a1 := kindOf_at s 1 (by omega) (by omega)
  have a2 := kindOf_at s 2 (by omega) (by omega)
  have a3 := kindOf_at s 3 (by omega) (by omega)
  have a4 := kindOf_at s 4 (by omega) (by omega)
  replace hg := hide hg
  replace hk := hide hk
  replace a1 := hide a1
  replace a2 := hide a2
  replace a3 := hide a3
  replace a4 := hide a4
  replace hB := hide hB
  go_enter Tryz.func34, Tryz.ntmps34
  go_wp2
  go_loopw [8] (fun i wr => ∃ k : Nat, k ≤ 5 ∧ i = .int .i64 k ∧ Hid (kindOf s = -1 ∨ (k : Int) ≤ kindOf s) ∧ Drew w wr) (fun i _ => 5 - (intOf i).toNat)
  case atStart => exact ⟨0, by omega, rfl, hk.out.imp id (fun h => by omega), Drew.refl _⟩
  case round =>
    obtain ⟨k, hk5, rfl, hn, hd⟩ := hrel
    replace hd := hide hd
    have hgd : ∀ W : World, Drew w W → W.cell? ⟨g, 0, none⟩ = some (.string ⟨s.toArray⟩) := fun W hW => by obtain ⟨n, rfl⟩ := hW; exact hg.out
    replace hgd : Hid (∀ W : World, Drew w W → W.cell? ⟨g, 0, none⟩ = some (.string ⟨s.toArray⟩)) := hgd
    have hB' : Blk wr ga t brkCells := by obtain ⟨n, rfl⟩ := hd.out; exact hB.out
    have b0 : wr.cell? ⟨ga, 0, none⟩ = some (.string ⟨#[]⟩) := hB'.cell 0
    have b1 : wr.cell? ⟨ga, 1, none⟩ = some (.string ⟨#[123, 125]⟩) := hB'.cell 1
    have b2 : wr.cell? ⟨ga, 2, none⟩ = some (.string ⟨#[60, 62]⟩) := hB'.cell 2
    have b3 : wr.cell? ⟨ga, 3, none⟩ = some (.string ⟨#[40, 41]⟩) := hB'.cell 3
    have b4 : wr.cell? ⟨ga, 4, none⟩ = some (.string ⟨#[91, 93]⟩) := hB'.cell 4
    clear hB'
    match k, hk5, hn with
    | 0, hk5, hn =>
      go_wp2_with fail
      refine (P1_empty g _).mono ?_
      rintro e w1 ⟨rfl, hd1⟩
      replace hd1 := hide hd1
      go_wp2
      go_roundw
      case rel => exact ⟨1, by omega, by go_num, hn.out.imp id (fun h => by rcases hk.out with h1 | h1 <;> omega), hd.out.trans hd1.out⟩
      case measure => simp [intOf]
    | 1, hk5, hn =>
      go_wp2_with fail
      refine (P1_two g s 123 125 _ (hgd.out _ hd.out)).mono ?_
      rintro e w1 ⟨rfl, hd1⟩
      replace hd1 := hide hd1
      cases hst : startsB 123 s with
      | true =>
        have hkk := hide (a1.out.1 hst)
        replace hst := hide hst
        go_wp2
        go_ret
        exact ⟨by rw [hkk.out]; rfl, hd.out.trans hd1.out⟩
      | false =>
        have hkk : kindOf s ≠ 1 := fun h => by have := a1.out.2 h; rw [show opn 1 = 123 by decide] at this; rw [this] at hst; cases hst
        replace hkk := hide hkk
        replace hst := hide hst
        go_wp2
        go_roundw
        case rel => exact ⟨2, by omega, by go_num, hn.out.imp id (fun h => by have := hkk.out; omega), hd.out.trans hd1.out⟩
        case measure => simp [intOf]
    | 2, hk5, hn =>
      go_wp2_with fail
      refine (P1_two g s 60 62 _ (hgd.out _ hd.out)).mono ?_
      rintro e w1 ⟨rfl, hd1⟩
      replace hd1 := hide hd1
      cases hst : startsB 60 s with
      | true =>
        have hkk := hide (a2.out.1 hst)
        replace hst := hide hst
        go_wp2
        go_ret
        exact ⟨by rw [hkk.out]; rfl, hd.out.trans hd1.out⟩
      | false =>
        have hkk : kindOf s ≠ 2 := fun h => by have := a2.out.2 h; rw [show opn 2 = 60 by decide] at this; rw [this] at hst; cases hst
        replace hkk := hide hkk
        replace hst := hide hst
        go_wp2
        go_roundw
        case rel => exact ⟨3, by omega, by go_num, hn.out.imp id (fun h => by have := hkk.out; omega), hd.out.trans hd1.out⟩
        case measure => simp [intOf]
    | 3, hk5, hn =>
      go_wp2_with fail
      refine (P1_two g s 40 41 _ (hgd.out _ hd.out)).mono ?_
      rintro e w1 ⟨rfl, hd1⟩
      replace hd1 := hide hd1
      cases hst : startsB 40 s with
      | true =>
        have hkk := hide (a3.out.1 hst)
        replace hst := hide hst
        go_wp2
        go_ret
        exact ⟨by rw [hkk.out]; rfl, hd.out.trans hd1.out⟩
      | false =>
        have hkk : kindOf s ≠ 3 := fun h => by have := a3.out.2 h; rw [show opn 3 = 40 by decide] at this; rw [this] at hst; cases hst
        replace hkk := hide hkk
        replace hst := hide hst
        go_wp2
        go_roundw
        case rel => exact ⟨4, by omega, by go_num, hn.out.imp id (fun h => by have := hkk.out; omega), hd.out.trans hd1.out⟩
        case measure => simp [intOf]
    | 4, hk5, hn =>
      go_wp2_with fail
      refine (P1_two g s 91 93 _ (hgd.out _ hd.out)).mono ?_
      rintro e w1 ⟨rfl, hd1⟩
      replace hd1 := hide hd1
      cases hst : startsB 91 s with
      | true =>
        have hkk := hide (a4.out.1 hst)
        replace hst := hide hst
        go_wp2
        go_ret
        exact ⟨by rw [hkk.out]; rfl, hd.out.trans hd1.out⟩
      | false =>
        have hkk : kindOf s ≠ 4 := fun h => by have := a4.out.2 h; rw [show opn 4 = 91 by decide] at this; rw [this] at hst; cases hst
        replace hkk := hide hkk
        replace hst := hide hst
        go_wp2
        go_roundw
        case rel => exact ⟨5, by omega, by go_num, hn.out.imp id (fun h => by have := hkk.out; omega), hd.out.trans hd1.out⟩
        case measure => simp [intOf]
    | 5, hk5, hn =>
      have hkk : kindOf s = -1 := by rcases hn.out with h | h <;> rcases hk.out with h1 | h1 <;> omega
      replace hkk := hide hkk
      go_wp2
      go_ret
      exact ⟨by rw [hkk.out]; rfl, hd.out⟩
end Go.Proofs.YtiappobhljiknaaGreatDoor
