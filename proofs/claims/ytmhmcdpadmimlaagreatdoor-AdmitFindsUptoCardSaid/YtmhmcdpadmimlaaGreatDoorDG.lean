/- Walks: which one of two connections goes; which address is greater. -/
import Derived.Test.YtmhmcdpadmimlaaGreatDoorDF
import Derived.Test.YtmhmcdpadmimlaaGreatDoorP1
import Derived.Test.YtmhmcdpadmimlaaGreatDoorLib
import Derived.WalkLawsBesides
namespace Go.Proofs.YtmhmcdpadmimlaaGreatDoor
open Go.RowKit
set_option linter.unusedVariables false

theorem cmpStr21_any (x y : List UInt8) (w : World) : Calls Tryz.prog 33 #[.string ⟨x.toArray⟩, .string ⟨y.toArray⟩] w fun e w' => e = .returned (.int .i64 (Lib.compareBytes x y)) ∧ w = w' :=
  (Tryz.strings_Compare ⟨x.toArray⟩ ⟨y.toArray⟩ w).mono fun e w' h => ⟨by rw [h.1], h.2.symm⟩
/-- Which one goes: the old one, the new one. -/
def keepS (old : Int) (g h i : Bool) : Bool × Bool :=
  if old < 1 ∨ 6 < old then (false, false) else if old = 6 then (false, true) else if h = i then (if h = g then (false, true) else (true, false)) else (true, false)
theorem keep_cases (old : Int) (g h i : Bool) : (old < 1 ∧ keepS old g h i = (false, false)) ∨ (1 ≤ old ∧ 6 < old ∧ keepS old g h i = (false, false)) ∨ (old = 6 ∧ keepS old g h i = (false, true)) ∨ (1 ≤ old ∧ old < 6 ∧ keepS old g h i = (if h = i then (if h = g then (false, true) else (true, false)) else (true, false))) := by
  unfold keepS
  by_cases h1 : old < 1
  · exact .inl ⟨h1, if_pos (.inl h1)⟩
  · by_cases h2 : 6 < old
    · exact .inr (.inl ⟨by omega, h2, if_pos (.inr h2)⟩)
    · rw [if_neg (by omega)]
      by_cases h3 : old = 6
      · exact .inr (.inr (.inl ⟨h3, if_pos h3⟩))
      · exact .inr (.inr (.inr ⟨by omega, by omega, if_neg h3⟩))
theorem Wins_any (x y : UInt32) (w : World) : Calls Tryz.prog 16 #[.int .u32 (x.toNat : Int), .int .u32 (y.toNat : Int)] w fun e w' => e = .returned (.bool (decide (y.toNat < x.toNat))) ∧ w = w' := by
  go_enter Tryz.func16, Tryz.ntmps16
  go_wp2
  go_ret
  exact ⟨rfl, rfl⟩
theorem Keep_any (old : Int) (g h i : Bool) (w : World) : Calls Tryz.prog 17 #[.int .i64 old, .bool g, .bool h, .bool i] w fun e w' => e = .returned (.tuple #[.bool (keepS old g h i).1, .bool (keepS old g h i).2]) ∧ w = w' := by
  rcases keep_cases old g h i with ⟨h1, e⟩ | ⟨h1, h2, e⟩ | ⟨rfl, e⟩ | ⟨h1, h2, e⟩
  · rw [e]
    replace e := hide e
    have d1 : decide (old < 1) = true := decide_eq_true h1
    go_enter Tryz.func17, Tryz.ntmps17
    go_wp2
    go_ret2
    exact ⟨rfl, rfl⟩
  · rw [e]
    replace e := hide e
    have d1 : decide (old < 1) = false := decide_eq_false (by omega)
    have d2 : decide (6 < old) = true := decide_eq_true h2
    go_enter Tryz.func17, Tryz.ntmps17
    go_wp2
    go_ret2
    exact ⟨rfl, rfl⟩
  · rw [e]
    replace e := hide e
    go_enter Tryz.func17, Tryz.ntmps17
    go_wp2
    go_ret2
    exact ⟨rfl, rfl⟩
  · rw [e]
    replace e := hide e
    have d1 : decide (old < 1) = false := decide_eq_false (by omega)
    have d2 : decide (6 < old) = false := decide_eq_false (by omega)
    have d3 : (old == 6) = false := by rw [beq_eq_false_iff_ne]; omega
    cases g <;> cases h <;> cases i
    all_goals
      go_enter Tryz.func17, Tryz.ntmps17
      go_wp2
      go_ret2
      exact ⟨rfl, rfl⟩
theorem RKeep_any (old : Int) (g h i : Bool) (w : World) : Calls Tryz.prog 20 #[.int .i64 old, .bool g, .bool h, .bool i] w fun e w' => e = .returned (.tuple #[.bool (keepS old g h i).1, .bool (keepS old g h i).2]) ∧ w = w' := by
  rcases keep_cases old g h i with ⟨h1, e⟩ | ⟨h1, h2, e⟩ | ⟨rfl, e⟩ | ⟨h1, h2, e⟩
  · rw [e]
    replace e := hide e
    have d1 : decide (old < 1) = true := decide_eq_true h1
    go_enter Tryz.func20, Tryz.ntmps20
    go_wp2
    go_ret2
    exact ⟨rfl, rfl⟩
  · rw [e]
    replace e := hide e
    have d1 : decide (old < 1) = false := decide_eq_false (by omega)
    have d2 : decide (6 < old) = true := decide_eq_true h2
    go_enter Tryz.func20, Tryz.ntmps20
    go_wp2
    go_ret2
    exact ⟨rfl, rfl⟩
  · rw [e]
    replace e := hide e
    go_enter Tryz.func20, Tryz.ntmps20
    go_wp2
    go_ret2
    exact ⟨rfl, rfl⟩
  · rw [e]
    replace e := hide e
    have d1 : decide (old < 1) = false := decide_eq_false (by omega)
    have d2 : decide (6 < old) = false := decide_eq_false (by omega)
    have d3 : (old == 6) = false := by rw [beq_eq_false_iff_ne]; omega
    cases g <;> cases h <;> cases i
    all_goals
      go_enter Tryz.func20, Tryz.ntmps20
      go_wp2
      go_ret2
      exact ⟨rfl, rfl⟩
theorem right_any (a : List UInt8) (w : World) (ha : a.length ≤ 1048576) : Calls Tryz.prog 25 #[.string ⟨a.toArray⟩] w fun e w' => e = .returned (.bool (rightA a)) ∧ w = w' := by
  have hz : (ByteArray.mk a.toArray).size = a.length := by simp [ByteArray.size]
  rcases right_cases a with ⟨h, e1, _⟩ | ⟨h, e1, _⟩ | ⟨h4, h16, e1⟩
  · rw [e1]
    have b1 : ((a.length : Int) == 4) = true := by rw [beq_iff_eq]; omega
    replace h := hide h
    replace e1 := hide e1
    go_enter Tryz.func25, Tryz.ntmps25
    go_wp2
    go_ret
    exact ⟨rfl, rfl⟩
  · rw [e1]
    have b1 : ((a.length : Int) == 4) = false := by rw [beq_eq_false_iff_ne]; omega
    have b2 : ((a.length : Int) == 16) = true := by rw [beq_iff_eq]; omega
    replace h := hide h
    replace e1 := hide e1
    go_enter Tryz.func25, Tryz.ntmps25
    go_wp2
    go_ret
    exact ⟨rfl, rfl⟩
  · rw [e1]
    have b1 : ((a.length : Int) == 4) = false := by rw [beq_eq_false_iff_ne]; omega
    have b2 : ((a.length : Int) == 16) = false := by rw [beq_eq_false_iff_ne]; omega
    replace h4 := hide h4
    replace h16 := hide h16
    replace e1 := hide e1
    go_enter Tryz.func25, Tryz.ntmps25
    go_wp2
    go_ret
    exact ⟨rfl, rfl⟩
theorem bl_cb : ∀ (a b : List UInt8), Op.bytesLess a b = decide (Lib.compareBytes a b < 0)
  | [], [] => by simp [Op.bytesLess, Lib.compareBytes]
  | [], y :: t => by simp [Op.bytesLess, Lib.compareBytes]
  | x :: s, [] => by simp [Op.bytesLess, Lib.compareBytes]
  | x :: s, y :: t => by
    have ih := bl_cb s t
    have e : Lib.compareBytes (x :: s) (y :: t) = if x < y then -1 else if y < x then 1 else Lib.compareBytes s t := rfl
    simp only [Op.bytesLess]
    by_cases h1 : x < y
    · rw [e, if_pos h1, decide_eq_true h1]
      rfl
    · rw [e, if_neg h1, decide_eq_false h1]
      by_cases h2 : y < x
      · have hne : (x == y) = false := beq_eq_false_iff_ne.2 fun e => by subst e; exact h1 h2
        rw [if_pos h2, hne]
        rfl
      · have he : x = y := by
          have h1' : ¬ x.toNat < y.toNat := fun h => h1 (UInt8.lt_iff_toNat_lt.2 h)
          have h2' : ¬ y.toNat < x.toNat := fun h => h2 (UInt8.lt_iff_toNat_lt.2 h)
          exact UInt8.toNat_inj.1 (by omega)
        rw [if_neg h2, he, beq_self_eq_true, Bool.false_or, Bool.true_and]
        exact ih
theorem gt_cb (a b : List UInt8) : (!Op.bytesLess a b && !a == b) = decide (0 < Lib.compareBytes a b) := by
  rw [bl_cb]
  rcases cb_cases a b with h | h | h
  · rw [h]; rfl
  · have := (cb_zero a b).1 h
    subst this
    rw [h]
    simp
  · have hne : ¬ a = b := fun e => by
      rw [(cb_zero a b).2 e] at h
      cases h
    rw [h, beq_eq_false_iff_ne.2 hne]
    rfl
/-- Is an address above another? -/
def aboveS (a b : List UInt8) : Bool := rightA a && (rightA b && (if a.length = b.length then decide (0 < Lib.compareBytes a b) else decide (b.length < a.length)))
set_option maxHeartbeats 1000000 in
theorem RAbove_any (a b : List UInt8) (w : World) (ha : a.length ≤ 1048576) (hb : b.length ≤ 1048576) : Calls Tryz.prog 21 #[.string ⟨a.toArray⟩, .string ⟨b.toArray⟩] w fun e w' => e = .returned (.bool (aboveS a b)) ∧ w = w' := by
  have za : (ByteArray.mk a.toArray).size = a.length := by simp [ByteArray.size]
  have zb : (ByteArray.mk b.toArray).size = b.length := by simp [ByteArray.size]
  have q1 := fun W => right_any a W ha
  have q2 := fun W => right_any b W hb
  unfold aboveS
  generalize rightA a = ra at *
  generalize rightA b = rb at *
  cases ra with
  | false =>
    rw [Bool.false_and]
    replace q1 := hide q1
    go_enter Tryz.func21, Tryz.ntmps21
    go_wp2_with fail
    refine (q1.out _).mono ?_
    rintro e w1 ⟨rfl, rfl⟩
    go_wp2
    go_ret
    exact ⟨rfl, rfl⟩
  | true =>
    rw [Bool.true_and]
    cases rb with
    | false =>
      rw [Bool.false_and]
      replace q1 := hide q1
      replace q2 := hide q2
      go_enter Tryz.func21, Tryz.ntmps21
      go_wp2_with fail
      refine (q1.out _).mono ?_
      rintro e w1 ⟨rfl, rfl⟩
      go_wp2_with fail
      refine (q2.out _).mono ?_
      rintro e w1 ⟨rfl, rfl⟩
      go_wp2
      go_ret
      exact ⟨rfl, rfl⟩
    | true =>
      rw [Bool.true_and]
      by_cases hl : a.length = b.length
      · rw [if_pos hl]
        have b1 : ((a.length : Int) != (b.length : Int)) = false := by rw [hl]; simp
        replace hl := hide hl
        replace q1 := hide q1
        replace q2 := hide q2
        go_enter Tryz.func21, Tryz.ntmps21
        go_wp2_with fail
        refine (q1.out _).mono ?_
        rintro e w1 ⟨rfl, rfl⟩
        go_wp2_with fail
        refine (q2.out _).mono ?_
        rintro e w1 ⟨rfl, rfl⟩
        go_wp2
        go_ret
        exact ⟨by rw [← gt_cb]; rfl, rfl⟩
      · rw [if_neg hl]
        have b1 : ((a.length : Int) != (b.length : Int)) = true := by rw [bne_iff_ne]; omega
        replace hl := hide hl
        replace q1 := hide q1
        replace q2 := hide q2
        go_enter Tryz.func21, Tryz.ntmps21
        go_wp2_with fail
        refine (q1.out _).mono ?_
        rintro e w1 ⟨rfl, rfl⟩
        go_wp2_with fail
        refine (q2.out _).mono ?_
        rintro e w1 ⟨rfl, rfl⟩
        go_wp2
        go_ret
        exact ⟨rfl, rfl⟩
set_option maxHeartbeats 1000000 in
theorem Above_any (a b : List UInt8) (w : World) (ha : a.length ≤ 1048576) (hb : b.length ≤ 1048576) : Calls Tryz.prog 19 #[.string ⟨a.toArray⟩, .string ⟨b.toArray⟩] w fun e w' => e = .returned (.bool (aboveS a b)) ∧ Ext w w' := by
  have za : (ByteArray.mk a.toArray).size = a.length := by simp [ByteArray.size]
  have zb : (ByteArray.mk b.toArray).size = b.length := by simp [ByteArray.size]
  have q1 := fun W => host_any a W ha
  have q2 := fun W => host_any b W hb
  have q3 := fun W => cmpStr21_any a b W
  unfold aboveS
  unfold valP at q1 q2
  generalize rightA a = ra at *
  generalize rightA b = rb at *
  generalize hostZ a = xa at *
  generalize hostZ b = xb at *
  obtain ⟨af, ar, aa, al⟩ := xa
  obtain ⟨bf, br, ba, bl⟩ := xb
  dsimp only at q1 q2
  generalize Lib.compareBytes a b = cb at *
  cases ra with
  | false =>
    rw [Bool.false_and]
    replace q1 := hide q1
    replace q2 := hide q2
    replace q3 := hide q3
    go_enter Tryz.func19, Tryz.ntmps19
    go_wp2_with fail
    refine (q1.out _).mono ?_
    rintro e w1 ⟨rfl, hE1⟩
    replace hE1 := hide (hE1.alloc (Obj.cells #[.int .i64 af, .int .u64 (ar : Int), .string ⟨aa.toArray⟩, .int .i64 al] 27))
    go_wp2_with fail
    refine (q2.out _).mono ?_
    rintro e w2 ⟨rfl, hE2⟩
    replace hE1 := hide ((hE1.out.trans hE2).alloc (Obj.cells #[.int .i64 bf, .int .u64 (br : Int), .string ⟨ba.toArray⟩, .int .i64 bl] 27))
    clear hE2
    go_wp2
    go_ret
    exact ⟨rfl, hE1.out⟩
  | true =>
    rw [Bool.true_and]
    cases rb with
    | false =>
      rw [Bool.false_and]
      replace q1 := hide q1
      replace q2 := hide q2
      replace q3 := hide q3
      go_enter Tryz.func19, Tryz.ntmps19
      go_wp2_with fail
      refine (q1.out _).mono ?_
      rintro e w1 ⟨rfl, hE1⟩
      replace hE1 := hide (hE1.alloc (Obj.cells #[.int .i64 af, .int .u64 (ar : Int), .string ⟨aa.toArray⟩, .int .i64 al] 27))
      go_wp2_with fail
      refine (q2.out _).mono ?_
      rintro e w2 ⟨rfl, hE2⟩
      replace hE1 := hide ((hE1.out.trans hE2).alloc (Obj.cells #[.int .i64 bf, .int .u64 (br : Int), .string ⟨ba.toArray⟩, .int .i64 bl] 27))
      clear hE2
      go_wp2
      go_ret
      exact ⟨rfl, hE1.out⟩
    | true =>
      rw [Bool.true_and]
      by_cases hl : a.length = b.length
      · rw [if_pos hl]
        have b1 : ((a.length : Int) != (b.length : Int)) = false := by rw [hl]; simp
        replace hl := hide hl
        replace q1 := hide q1
        replace q2 := hide q2
        replace q3 := hide q3
        go_enter Tryz.func19, Tryz.ntmps19
        go_wp2_with fail
        refine (q1.out _).mono ?_
        rintro e w1 ⟨rfl, hE1⟩
        replace hE1 := hide (hE1.alloc (Obj.cells #[.int .i64 af, .int .u64 (ar : Int), .string ⟨aa.toArray⟩, .int .i64 al] 27))
        go_wp2_with fail
        refine (q2.out _).mono ?_
        rintro e w2 ⟨rfl, hE2⟩
        replace hE1 := hide ((hE1.out.trans hE2).alloc (Obj.cells #[.int .i64 bf, .int .u64 (br : Int), .string ⟨ba.toArray⟩, .int .i64 bl] 27))
        clear hE2
        go_wp2_with fail
        refine (q3.out _).mono ?_
        rintro e w3 ⟨rfl, rfl⟩
        go_wp2
        go_ret
        exact ⟨rfl, hE1.out⟩
      · rw [if_neg hl]
        have b1 : ((a.length : Int) != (b.length : Int)) = true := by rw [bne_iff_ne]; omega
        replace hl := hide hl
        replace q1 := hide q1
        replace q2 := hide q2
        replace q3 := hide q3
        go_enter Tryz.func19, Tryz.ntmps19
        go_wp2_with fail
        refine (q1.out _).mono ?_
        rintro e w1 ⟨rfl, hE1⟩
        replace hE1 := hide (hE1.alloc (Obj.cells #[.int .i64 af, .int .u64 (ar : Int), .string ⟨aa.toArray⟩, .int .i64 al] 27))
        go_wp2_with fail
        refine (q2.out _).mono ?_
        rintro e w2 ⟨rfl, hE2⟩
        replace hE1 := hide ((hE1.out.trans hE2).alloc (Obj.cells #[.int .i64 bf, .int .u64 (br : Int), .string ⟨ba.toArray⟩, .int .i64 bl] 27))
        clear hE2
        go_wp2
        go_ret
        exact ⟨rfl, hE1.out⟩
end Go.Proofs.YtmhmcdpadmimlaaGreatDoor
