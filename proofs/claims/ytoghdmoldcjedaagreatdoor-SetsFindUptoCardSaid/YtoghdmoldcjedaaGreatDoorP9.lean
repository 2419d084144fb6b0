/- Walks: may a prefix be: prim.Check, any. -/
import Derived.Test.YtoghdmoldcjedaaGreatDoorP7
import Derived.Test.YtoghdmoldcjedaaGreatDoorP8
namespace Go.Proofs.YtoghdmoldcjedaaGreatDoor
open Go.RowKit Go.Sort
set_option linter.unusedVariables false

set_option maxRecDepth 20000 in
set_option maxHeartbeats 1000000 in
theorem ACheck_0 (f R : Int) (rd : Nat) (a : List UInt8) (l : Int) (w : World) (hal : a.length ≤ 1048576) (hS : sizeS f = 0) :
    Calls Tryz.prog 76 #[.agg #[.int .i64 f, .int .u64 R, .string ⟨a.toArray⟩, .int .i64 l]] w fun e w' => e = .returned (.int .i64 (errP (MayP ⟨f, rd, a, l⟩))) ∧ Ext w w' := by
  have mixed : Tryz.prog.follows Departure.mixedOrders = true := by kernel_rfl
  have hz : (ByteArray.mk a.toArray).size = a.length := by simp [ByteArray.size]
  have he : errP (MayP ⟨f, rd, a, l⟩) = 2 := if_neg (fun h => h.1.1 hS)
  rw [he]
  replace hS := hide hS
  replace he := hide he
  go_enter Tryz.func76, Tryz.ntmps76
  go_wp2_with fail
  refine (ASize_any _ _).mono ?_
  rw [hS.out]
  rintro e w1 ⟨rfl, rfl⟩
  go_wp2
  go_quiet (fail)
  go_wp2
  go_ret
  exact ⟨rfl, ((Ext.refl _).alloc _).drewN _⟩
/-- A prefix as a value. -/
def valP (p : Pfx) : Value := .agg #[.int .i64 p.fam, .int .u64 (p.rd : Int), .string ⟨p.addr.toArray⟩, .int .i64 p.len]
theorem ACheck_any (p : Pfx) (w : World) (hal : p.addr.length ≤ 1048576) :
    Calls Tryz.prog 76 #[valP p] w fun e w' => e = .returned (.int .i64 (errP (MayP p))) ∧ Ext w w' := by
  obtain ⟨f, rd, a, l⟩ := p
  rcases sizeS_cases f with hS | hS | hS
  · exact ACheck_0 f _ rd a l w hal hS
  · exact ACheck_4 f _ rd rfl a l w hal hS
  · exact ACheck_16 f _ rd rfl a l w hal hS
end Go.Proofs.YtoghdmoldcjedaaGreatDoor
