/- Walks: the order of two prefixes: prim.Cmp. -/
import Derived.Test.YtbobpaailmbndaaDoorP9
namespace Go.Proofs.YtbobpaailmbndaaDoor
open Go.RowKit Go.Sort
set_option linter.unusedVariables false

theorem cmpInt_any (x y : Int) (w : World) : Calls Tryd.prog 50 #[.int .i64 x, .int .i64 y] w fun e w' => e = .returned (.int .i64 (Lib.compareInt x y)) ∧ w = w' := by
  rcases ci_cases x y with ⟨h, hl⟩ | ⟨h, rfl⟩ | ⟨h, hl⟩
  all_goals
    rw [h]
    replace h := hide h
    go_enter Tryd.func50, Tryd.ntmps50
    go_wp2
    go_ret
    exact ⟨rfl, rfl⟩
theorem cmpU64_any (x y : Int) (w : World) : Calls Tryd.prog 52 #[.int .u64 x, .int .u64 y] w fun e w' => e = .returned (.int .i64 (Lib.compareInt x y)) ∧ w = w' := by
  rcases ci_cases x y with ⟨h, hl⟩ | ⟨h, rfl⟩ | ⟨h, hl⟩
  all_goals
    rw [h]
    replace h := hide h
    go_enter Tryd.func52, Tryd.ntmps52
    go_wp2
    go_ret
    exact ⟨rfl, rfl⟩
end Go.Proofs.YtbobpaailmbndaaDoor
