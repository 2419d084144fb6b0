/- Walks: may a prefix be: the document's, any. -/
import Derived.Test.YtbobpaailmbndaaDoorP10
import Derived.Test.YtbobpaailmbndaaDoorP11
import Derived.Test.YtbobpaailmbndaaDoorP9
namespace Go.Proofs.YtbobpaailmbndaaDoor
open Go.RowKit Go.Sort
set_option linter.unusedVariables false

set_option maxRecDepth 20000 in
set_option maxHeartbeats 1000000 in
theorem RMay_0 (f R : Int) (rd : Nat) (a : List UInt8) (l : Int) (w : World) (hal : a.length ≤ 1048576) (hS : sizeS f = 0) :
    Calls Tryd.prog 33 #[.agg #[.int .i64 f, .int .u64 R, .string ⟨a.toArray⟩, .int .i64 l]] w fun e w' => e = .returned (.bool (mayB ⟨f, rd, a, l⟩)) ∧ Ext w w' := by
  have hz : (ByteArray.mk a.toArray).size = a.length := by simp [ByteArray.size]
  have he : mayB ⟨f, rd, a, l⟩ = false := decide_eq_false (fun h => h.1.1 hS)
  rw [he]
  replace hS := hide hS
  replace he := hide he
  go_enter Tryd.func33, Tryd.ntmps33
  go_wp2_with fail
  refine (RSize_any _ _).mono ?_
  rw [hS.out]
  rintro e w1 ⟨rfl, rfl⟩
  go_wp2
  go_ret
  exact ⟨rfl, (Ext.refl _).alloc _⟩
theorem RMay_any (p : Pfx) (w : World) (hal : p.addr.length ≤ 1048576) :
    Calls Tryd.prog 33 #[valP p] w fun e w' => e = .returned (.bool (mayB p)) ∧ Ext w w' := by
  obtain ⟨f, rd, a, l⟩ := p
  rcases sizeS_cases f with hS | hS | hS
  · exact RMay_0 f _ rd a l w hal hS
  · exact RMay_4 f _ rd rfl a l w hal hS
  · exact RMay_16 f _ rd rfl a l w hal hS
set_option maxRecDepth 20000 in
theorem RCheck_any (p : Pfx) (w : World) (hal : p.addr.length ≤ 1048576) :
    Calls Tryd.prog 24 #[valP p] w fun e w' => e = .returned (.int .i64 (errP (MayP p))) ∧ Ext w w' := by
  have hm := fun W => RMay_any p W hal
  have he : (mayB p = true ∧ errP (MayP p) = 0) ∨ (mayB p = false ∧ errP (MayP p) = 2) := by
    by_cases h : MayP p
    · exact .inl ⟨decide_eq_true h, if_pos h⟩
    · exact .inr ⟨decide_eq_false h, if_neg h⟩
  simp only [valP] at hm ⊢
  rcases he with ⟨h1, h2⟩ | ⟨h1, h2⟩
  all_goals
    simp only [h1] at hm
    rw [h2]
    replace hm := hide hm
    replace h1 := hide h1
    replace h2 := hide h2
    go_enter Tryd.func24, Tryd.ntmps24
    go_wp2_with fail
    refine (hm.out _).mono ?_
    rintro e w1 ⟨rfl, he1⟩
    replace he1 := hide he1
    go_wp2
    go_ret
    exact ⟨rfl, ((Ext.refl _).alloc _).trans he1.out⟩
end Go.Proofs.YtbobpaailmbndaaDoor
