/- Walks: which prefix covers which. Walks: which prefix covers which: the document's. -/
import Derived.Test.YtljibkfbldjgdaaGreatDoorP9
namespace Go.Proofs.YtljibkfbldjgdaaGreatDoor
open Go.RowKit Go.Sort
set_option linter.unusedVariables false

noncomputable instance (a b : Pfx) : Decidable (Cov a b) := Classical.propDecidable _
noncomputable def covB (a b : Pfx) : Bool := decide (Cov a b)

open Go.RowKit Go.Sort

theorem quiet_RBit (a : List UInt8) (n : Int) (w : World) (ha : a.length ≤ 1048576) (h1 : -9223372036854775808 ≤ n) (h2 : n ≤ 9223372036854775807) (m : Nat) :
    Calls Tryz.prog 176 #[.string ⟨a.toArray⟩, .int .i64 n] (w.drewN m) fun e w'' => e = .returned (.int .i64 (bitV (bitZ a n))) ∧ ∃ m, w'' = w.drewN m :=
  Calls.quiet_of_same ((RBit_any a n _ ha h1 h2).mono fun e w' h => ⟨h.1, h.2.symm⟩)

end Go.Proofs.YtljibkfbldjgdaaGreatDoor
