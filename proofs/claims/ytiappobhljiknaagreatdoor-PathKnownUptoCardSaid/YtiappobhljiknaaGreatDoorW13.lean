/- Walks: all ASs of a path. -/
import Derived.Test.YtiappobhljiknaaGreatDoorW5
namespace Go.Proofs.YtiappobhljiknaaGreatDoor
open Go.RowKit
set_option linter.unusedVariables false

theorem flatS_succ (l : List Seg) (k : Nat) (hk : k < l.length) : flatS (l.take (k + 1)) = flatS (l.take k) ++ l[k].as := by
  unfold flatS
  rw [List.take_succ_eq_append_getElem hk, List.flatMap_append]; simp
theorem flatS_le (l : List Seg) (h : ∀ s ∈ l, s.as.length ≤ 16777216) : (flatS l).length ≤ 16777216 * l.length := by
  induction l with
  | nil => simp [flatS]
  | cons s l ih =>
    have h1 := ih fun s' h' => h s' (List.mem_cons_of_mem _ h')
    have h2 := h s List.mem_cons_self
    simp only [flatS, List.flatMap_cons, List.length_append, List.length_cons, Nat.mul_add] at *
    omega
theorem flatS_take_le (l : List Seg) (k : Nat) (hl : l.length ≤ 64) (h : ∀ s ∈ l, s.as.length ≤ 16777216) : (flatS (l.take k)).length ≤ 1073741824 := by
  have := flatS_le (l.take k) fun s hs => h s (List.mem_of_mem_take hs)
  simp only [List.length_take] at this
  omega

set_option maxRecDepth 20000 in
set_option maxHeartbeats 2000000 in
theorem AFlat_any (a : Option Addr) (c : Nat) (l : List Seg) (w : World) (hl : l.length ≤ 64) (hs : Path w a l) :
    Calls Tryz.prog 7 #[.slice a l.length c] w fun e w' => ∃ v, e = .returned v ∧ Ext w w' ∧ Own EU32 26 w' w.heap.size v (flatS l) := by
  replace hs := hide hs
  go_enter Tryz.func7, Tryz.ntmps7
  go_wp2
  go_loopw [3, 8] (fun v i wr => ∃ k : Nat, k ≤ l.length ∧ i = .int .i64 k ∧ Own EU32 26 wr w.heap.size v (flatS (l.take k)) ∧ Ext w wr) (fun _ i _ => l.length - (intOf i).toNat)
  case atStart => exact ⟨0, Nat.zero_le _, rfl, Own.nil, Ext.refl _⟩
  case round =>
    obtain ⟨k, hk, rfl, hown, hE⟩ := hrel
    have hsz := hE.size
    have hfl := flatS_take_le l k hl hs.out.as_le
    replace hE := hide hE
    replace hown := hide hown
    by_cases hlt : k < l.length
    · obtain ⟨b1, o1, a1, c1, rfl, _, h0, h1, hm1, hs1, hk1, hk2⟩ := ESeg.at (hs.out.ext hE.out) k hlt
      replace hs1 := hide hs1
      have hsu := hide (flatS_succ l k hlt)
      go_wp2_with (at_builtin
                   have hox := hown.out.alloc (Obj.cells #[.int .i64 l[k].kind, .slice a1 l[k].as.length c1] 24)
                   refine wpList_pushes (B := w.heap.size) rfl _ _ _ rfl okU32 (by decide) rfl hox (by simp; omega) rfl (by omega) (hs1.out.ext ((Ext.refl _).alloc _)) ?_
                   intro v' w2 hown' hg hat)
      go_roundw
      case rel => exact ⟨k + 1, by omega, by go_num, by rw [hsu.out]; exact hown', (hE.out.alloc _).push (fun j hj => (hown.out.lt j hj).1) hg⟩
      case measure => simp [intOf]; omega
    · have hkl : k = l.length := by omega
      have ho := hown.out
      rw [hkl, List.take_length] at ho
      replace ho := hide ho
      go_wp2
      go_ret
      exact ⟨_, rfl, hE.out, ho.out⟩

theorem hasS_flat (l : List Seg) (x : UInt32) : hasS l x = (flatS l).contains x := by
  unfold hasS flatS
  induction l with
  | nil => rfl
  | cons s l ih => simp only [List.any_cons, List.flatMap_cons, ih]; rw [Bool.eq_iff_iff]; simp

end Go.Proofs.YtiappobhljiknaaGreatDoor
