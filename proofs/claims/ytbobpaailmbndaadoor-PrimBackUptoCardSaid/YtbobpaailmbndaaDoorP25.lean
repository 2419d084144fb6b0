/- The walk of heraldlaw01.of (printed by genp25.py). -/
import Derived.Test.YtbobpaailmbndaaDoorP25a
import Derived.Test.YtbobpaailmbndaaDoorP25b
import Derived.Test.YtbobpaailmbndaaDoorP25c
import Derived.Test.YtbobpaailmbndaaDoorP25d
import Derived.Test.YtbobpaailmbndaaDoorP25e
namespace Go.Proofs.YtbobpaailmbndaaDoor
open Go.RowKit Go.Sort
set_option linter.unusedVariables false

theorem Of_any (x : Rw) (w : World) : Calls Tryd.prog 21 #[valR x] w fun e w' => e = .returned (valP (rawP x)) ∧ Ext w w' := by
  rcases (show x.fam.toNat % 5 = 0 ∨ x.fam.toNat % 5 = 1 ∨ x.fam.toNat % 5 = 2 ∨ x.fam.toNat % 5 = 3 ∨ x.fam.toNat % 5 = 4 by omega) with h | h | h | h | h
  · exact Of_0 x w h
  · exact Of_1 x w h
  · exact Of_2 x w h
  · exact Of_3 x w h
  · exact Of_4 x w h
end Go.Proofs.YtbobpaailmbndaaDoor
