/- Walks: may a prefix be: prim.Check, any. Walks: may a prefix be: the document's, any. Walks: a prefix cut: prim.Cut. -/
import Derived.Test.YtljibkfbldjgdaaGreatDoorP7
import Derived.Test.YtljibkfbldjgdaaGreatDoorP8
import Derived.Test.YtljibkfbldjgdaaGreatDoorP10
namespace Go.Proofs.YtljibkfbldjgdaaGreatDoor
open Go.RowKit Go.Sort
set_option linter.unusedVariables false

set_option maxRecDepth 20000 in
set_option maxHeartbeats 1000000 in
theorem ACheck_0 (f R : Int) (rd : Nat) (a : List UInt8) (l : Int) (w : World) (hal : a.length ≤ 1048576) (hS : sizeS f = 0) :
    Calls Tryz.prog 144 #[.agg #[.int .i64 f, .int .u64 R, .string ⟨a.toArray⟩, .int .i64 l]] w fun e w' => e = .returned (.int .i64 (errP (MayP ⟨f, rd, a, l⟩))) ∧ Ext w w' := by
  have mixed : Tryz.prog.follows Departure.mixedOrders = true := by kernel_rfl
  have hz : (ByteArray.mk a.toArray).size = a.length := by simp [ByteArray.size]
  have he : errP (MayP ⟨f, rd, a, l⟩) = 2 := if_neg (fun h => h.1.1 hS)
  rw [he]
  replace hS := hide hS
  replace he := hide he
  go_enter Tryz.func144, Tryz.ntmps144
  go_wp2_with fail
  refine (ASize_any _ _).mono ?_
  rw [hS.out]
  rintro e w1 ⟨rfl, rfl⟩
  go_wp2
  go_quiet (fail)
  go_wp2
  go_ret
  exact ⟨rfl, ((Ext.refl _).alloc _).drewN _⟩
/-- A prefix as a value. -/
def valP (p : Pfx) : Value := .agg #[.int .i64 p.fam, .int .u64 (p.rd : Int), .string ⟨p.addr.toArray⟩, .int .i64 p.len]
theorem ACheck_any (p : Pfx) (w : World) (hal : p.addr.length ≤ 1048576) :
    Calls Tryz.prog 144 #[valP p] w fun e w' => e = .returned (.int .i64 (errP (MayP p))) ∧ Ext w w' := by
  obtain ⟨f, rd, a, l⟩ := p
  rcases sizeS_cases f with hS | hS | hS
  · exact ACheck_0 f _ rd a l w hal hS
  · exact ACheck_4 f _ rd rfl a l w hal hS
  · exact ACheck_16 f _ rd rfl a l w hal hS
open Go.RowKit Go.Sort

set_option maxRecDepth 20000 in
set_option maxHeartbeats 1000000 in
theorem RMay_0 (f R : Int) (rd : Nat) (a : List UInt8) (l : Int) (w : World) (hal : a.length ≤ 1048576) (hS : sizeS f = 0) :
    Calls Tryz.prog 152 #[.agg #[.int .i64 f, .int .u64 R, .string ⟨a.toArray⟩, .int .i64 l]] w fun e w' => e = .returned (.bool (mayB ⟨f, rd, a, l⟩)) ∧ Ext w w' := by
  have hz : (ByteArray.mk a.toArray).size = a.length := by simp [ByteArray.size]
  have he : mayB ⟨f, rd, a, l⟩ = false := decide_eq_false (fun h => h.1.1 hS)
  rw [he]
  replace hS := hide hS
  replace he := hide he
  go_enter Tryz.func152, Tryz.ntmps152
  go_wp2_with fail
  refine (RSize_any _ _).mono ?_
  rw [hS.out]
  rintro e w1 ⟨rfl, rfl⟩
  go_wp2
  go_ret
  exact ⟨rfl, (Ext.refl _).alloc _⟩
theorem RMay_any (p : Pfx) (w : World) (hal : p.addr.length ≤ 1048576) :
    Calls Tryz.prog 152 #[valP p] w fun e w' => e = .returned (.bool (mayB p)) ∧ Ext w w' := by
  obtain ⟨f, rd, a, l⟩ := p
  rcases sizeS_cases f with hS | hS | hS
  · exact RMay_0 f _ rd a l w hal hS
  · exact RMay_4 f _ rd rfl a l w hal hS
  · exact RMay_16 f _ rd rfl a l w hal hS
open Go.RowKit Go.Sort

theorem errP_cases (p : Pfx) : (MayP p ∧ errP (MayP p) = 0) ∨ (¬ MayP p ∧ errP (MayP p) = 2) := by
  by_cases h : MayP p
  · exact .inl ⟨h, if_pos h⟩
  · exact .inr ⟨h, if_neg h⟩
theorem Blk.set4 {w : World} {g : Nat} {T : TypeId} {a b c d : Value} (h : Blk w g T #[a, b, c, d]) (u0 u1 u2 u3 : Value) :
    Blk ((((w.setCell ⟨g, 0, none⟩ u0).setCell ⟨g, 1, none⟩ u1).setCell ⟨g, 2, none⟩ u2).setCell ⟨g, 3, none⟩ u3) g T #[u0, u1, u2, u3] := by
  simpa using (((h.set_ 0 u0).set_ 1 u1).set_ 2 u2).set_ 3 u3
theorem Ext.set4 {a w : World} (h : Ext a w) {g : Nat} (hg : a.heap.size ≤ g) (u0 u1 u2 u3 : Value) :
    Ext a ((((w.setCell ⟨g, 0, none⟩ u0).setCell ⟨g, 1, none⟩ u1).setCell ⟨g, 2, none⟩ u2).setCell ⟨g, 3, none⟩ u3) :=
  (((h.setCell hg _).setCell hg _).setCell hg _).setCell hg _
/-- What a cut answers. -/
noncomputable instance (p : Pfx) (n : Int) : Decidable (cutOk p n) := Classical.propDecidable _
noncomputable def cutS (p : Pfx) (n : Int) : Pfx × Int := if cutOk p n then (cutOf p n, 0) else (zeroP, 2)

end Go.Proofs.YtljibkfbldjgdaaGreatDoor
