/- Rows of bytes: one byte stored; a new row of zeros. -/
import Derived.Test.YtoghdmoldcjedaaGreatDoorBytes
namespace Go.Proofs.YtoghdmoldcjedaaGreatDoor
open Go.RowKit
set_option linter.unusedVariables false

theorem OwnB.set {e : TypeId} {w : World} {B g n c : Nat} {l : List UInt8} (h : OwnB e w B (.slice (some ⟨g, 0, none⟩) n c) l) (j : Nat) (x : UInt8) :
    OwnB e (w.setCell ⟨g, j, none⟩ (.int .u8 (x.toNat : Int))) B (.slice (some ⟨g, 0, none⟩) n c) (l.set j x) := by
  rcases h with ⟨hv, _⟩ | ⟨g', cap, cur, fz, hv, hb, hg, hfz, hlc, hm, hcs, htk⟩
  · cases hv
  · injection hv with e1 e2 e3
    injection e1 with e1
    injection e1 with e1
    subst e1 e2 e3
    refine .inr ⟨g, c, cur.setIfInBounds j (.int .u8 (x.toNat : Int)), fz, by rw [List.length_set], hb, by simp [World.setCell, Array.getElem?_modify, hg], hfz, by simpa using hlc, hm, by simpa using hcs, ?_⟩
    rw [List.length_set, Array.toList_setIfInBounds, List.take_set, htk]
    simp [encB, List.map_set]
theorem OwnB.setExt {a w : World} (h : Ext a w) {g : Nat} (hg : a.heap.size ≤ g) (j : Nat) (u : Value) : Ext a (w.setCell ⟨g, j, none⟩ u) := h.setCell hg u
/-- The row's address. -/
theorem OwnB.formNe {e : TypeId} {w : World} {B : Nat} {v : Value} {l : List UInt8} (h : OwnB e w B v l) (hl : l ≠ []) : ∃ g c, v = .slice (some ⟨g, 0, none⟩) l.length c ∧ B ≤ g := by
  rcases h with ⟨_, h⟩ | ⟨g, cap, cur, fz, rfl, hb, _⟩
  · exact absurd h hl
  · exact ⟨g, cap, rfl, hb⟩
/-- A block of zeros as a row of bytes. -/
theorem OwnB.zeros {e : TypeId} (w : World) (n : Nat) (hn : n ≤ maxLen) : OwnB e (w.alloc (.cells (Array.replicate n (.int .u8 0)) e)) w.heap.size (.slice (some ⟨w.heap.size, 0, none⟩) n n) (List.replicate n 0) := by
  refine .inr ⟨w.heap.size, n, _, (0, 0), by rw [List.length_replicate], Nat.le_refl _, heap_alloc_new w _, .inr rfl, by simp, hn, by simp, ?_⟩
  simp [encB]
end Go.Proofs.YtoghdmoldcjedaaGreatDoor
