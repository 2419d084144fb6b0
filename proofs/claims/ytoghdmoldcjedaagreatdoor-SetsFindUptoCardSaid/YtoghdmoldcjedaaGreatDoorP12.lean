/- Walks: may a prefix be: the document's, any. -/
import Derived.Test.YtoghdmoldcjedaaGreatDoorP10
import Derived.Test.YtoghdmoldcjedaaGreatDoorP9
namespace Go.Proofs.YtoghdmoldcjedaaGreatDoor
open Go.RowKit Go.Sort
set_option linter.unusedVariables false

set_option maxRecDepth 20000 in
set_option maxHeartbeats 1000000 in
theorem RMay_0 (f R : Int) (rd : Nat) (a : List UInt8) (l : Int) (w : World) (hal : a.length ≤ 1048576) (hS : sizeS f = 0) :
    Calls Tryz.prog 84 #[.agg #[.int .i64 f, .int .u64 R, .string ⟨a.toArray⟩, .int .i64 l]] w fun e w' => e = .returned (.bool (mayB ⟨f, rd, a, l⟩)) ∧ Ext w w' := by
  have hz : (ByteArray.mk a.toArray).size = a.length := by simp [ByteArray.size]
  have he : mayB ⟨f, rd, a, l⟩ = false := decide_eq_false (fun h => h.1.1 hS)
  rw [he]
  replace hS := hide hS
  replace he := hide he
  go_enter Tryz.func84, Tryz.ntmps84
  go_wp2_with fail
  refine (RSize_any _ _).mono ?_
  rw [hS.out]
  rintro e w1 ⟨rfl, rfl⟩
  go_wp2
  go_ret
  exact ⟨rfl, (Ext.refl _).alloc _⟩
theorem RMay_any (p : Pfx) (w : World) (hal : p.addr.length ≤ 1048576) :
    Calls Tryz.prog 84 #[valP p] w fun e w' => e = .returned (.bool (mayB p)) ∧ Ext w w' := by
  obtain ⟨f, rd, a, l⟩ := p
  rcases sizeS_cases f with hS | hS | hS
  · exact RMay_0 f _ rd a l w hal hS
  · exact RMay_4 f _ rd rfl a l w hal hS
  · exact RMay_16 f _ rd rfl a l w hal hS
end Go.Proofs.YtoghdmoldcjedaaGreatDoor
