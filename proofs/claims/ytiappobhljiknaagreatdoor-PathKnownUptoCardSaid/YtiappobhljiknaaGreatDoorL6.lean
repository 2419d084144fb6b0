/- The walk of the law PathAgain. -/
import Derived.Test.YtiappobhljiknaaGreatDoorL1
import Derived.Test.YtiappobhljiknaaGreatDoorW26
import Derived.Test.YtiappobhljiknaaGreatDoorW27
import Derived.Test.YtiappobhljiknaaGreatDoorW33
namespace Go.Proofs.YtiappobhljiknaaGreatDoor
open Go.RowKit
set_option linter.unusedVariables false

theorem ADecode_any (s : List UInt8) (four : Bool) (w : World) (hs : s.length ≤ 1048576) :
    Calls Tryz.prog 12 #[.string ⟨s.toArray⟩, .bool four] w fun e w' => ∃ v, e = .returned (.tuple #[v, .int .i64 (decS s four).2]) ∧ Ext w w' ∧ Own ESegW 24 w' w.heap.size v (decS s four).1 := by
  cases four
  · exact ADecode_F s w hs
  · exact ADecode_T s w hs
theorem decS_cases (s : List UInt8) (four : Bool) : (∃ l, decS s four = (l, 0) ∧ chk l = true ∧ pathB four l = s) ∨ decS s four = ([], 4) := by
  cases h : bdec (szF four) s with
  | none => exact .inr (decS_none h)
  | some l =>
    cases hc : chk l with
    | true => exact .inl ⟨l, decS_ok h hc, hc, pathB_dec four _ s l (Nat.le_refl _) h⟩
    | false => exact .inr (decS_bad h hc)
theorem parS_cases (s : List UInt8) : (∃ l, parS s = (l, 0) ∧ chk l = true ∧ textS l = ⟨s.toArray⟩) ∨ parS s = ([], 4) := by
  by_cases h : s = [45]
  · subst h
    exact .inl ⟨[], parS_dash, rfl, rfl⟩
  · by_cases he : ∃ l, IsText s l
    · obtain ⟨l, hl⟩ := he
      refine .inl ⟨l, parS_text hl, hl.1, ?_⟩
      unfold textS
      rw [if_pos hl.1, if_neg hl.2.1, hl.2.2]
    · exact .inr (parS_none h (fun l hl => he ⟨l, hl⟩))

end Go.Proofs.YtiappobhljiknaaGreatDoor
