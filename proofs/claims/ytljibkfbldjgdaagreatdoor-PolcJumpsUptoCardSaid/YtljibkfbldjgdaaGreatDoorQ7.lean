/- Walks: a prefix as a text, by the program. -/
import Derived.Test.YtljibkfbldjgdaaGreatDoorQ6
import Derived.Test.YtljibkfbldjgdaaGreatDoorPG
namespace Go.Proofs.YtljibkfbldjgdaaGreatDoor
open Go.RowKit Go.Sort
set_option linter.unusedVariables false

theorem addrT_ok {p : Pfx} (h : MayP p) : (addrT p.addr).2 = 0 := by
  unfold addrT
  rcases may_size h with h | h
  · rw [if_pos h]
  · rw [if_neg (by omega), if_pos h]
theorem dec_dig (u : Nat) : dec u = ⟨(digS 10 u).toArray⟩ := by unfold dec; rw [digS_dec]
end Go.Proofs.YtljibkfbldjgdaaGreatDoor
