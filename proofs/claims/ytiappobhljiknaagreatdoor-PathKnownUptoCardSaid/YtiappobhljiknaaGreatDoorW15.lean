/- A path's copy, in rows that may be written; the path without the confederation's; how long (the document's); the spoiler. -/
import Derived.Test.YtiappobhljiknaaGreatDoorW14
namespace Go.Proofs.YtiappobhljiknaaGreatDoor
open Go.RowKit
set_option linter.unusedVariables false

set_option maxRecDepth 20000 in
set_option maxHeartbeats 1000000 in
theorem cloneW_any (a : Option Addr) (c : Nat) (l : List Seg) (w : World) (hl : l.length ≤ 16777216) (hs : Path w a l) :
    Calls Tryz.prog 20 #[.slice a l.length c] w fun e w' => ∃ v, e = .returned v ∧ Ext w w' ∧ Own ESegW 24 w' w.heap.size v l := by
  replace hs := hide hs
  go_enter Tryz.func20, Tryz.ntmps20
  go_wp2
  go_loopw [3, 8] (fun v i wr => ∃ k : Nat, k ≤ l.length ∧ i = .int .i64 k ∧ Own ESegW 24 wr w.heap.size v (l.take k) ∧ Ext w wr) (fun _ i _ => l.length - (intOf i).toNat)
  case atStart => exact ⟨0, Nat.zero_le _, rfl, Own.nil, Ext.refl _⟩
  case round =>
    obtain ⟨k, hk, rfl, hown, hE⟩ := hrel
    have hsz := hE.size
    replace hE := hide hE
    replace hown := hide hown
    by_cases hlt : k < l.length
    · obtain ⟨b1, o1, a1, c1, rfl, _, h0, h1, hm1, hs1, hk1, hk2⟩ := ESeg.at (hs.out.ext hE.out) k hlt
      replace hs1 := hide hs1
      go_wp2
      go_region_held3 (fun w' => w'.cell? ⟨wr.heap.size, 0, none⟩ = some (.int .i64 l[k].kind) ∧ w'.cell? ⟨wr.heap.size, 1, none⟩ = some (.slice a1 l[k].as.length c1))
        (go_keep)
        (first
          | (go_at_call 45; refine (Clone_any _ _ l[k].as _ hm1 ?_).mono ?_; exact hs1.out.ext ((Ext.refl _).alloc _).drew; rintro e w1 ⟨v1, rfl, he1, hv1⟩; obtain ⟨b2, d2, rfl, hsl⟩ := hv1.sl
             have hsf := hv1.soft
             replace hsl := hsl.mono (S' := fun b => wr.heap.size ≤ b ∧ b < w1.heap.size) fun b hb => ⟨by have := hb.1; simp at this; omega, hb.2⟩
             have hsz1 : wr.heap.size ≤ w1.heap.size := by have := he1.size; simp at this; omega
             have j0 : w1.cell? ⟨wr.heap.size, 0, none⟩ = some (.int .i64 l[k].kind) := ((Blk.new wr 24 #[.int .i64 l[k].kind, .slice a1 l[k].as.length c1]).drew.ext he1).cell 0
             have j1 : w1.cell? ⟨wr.heap.size, 1, none⟩ = some (.slice a1 l[k].as.length c1) := ((Blk.new wr 24 #[.int .i64 l[k].kind, .slice a1 l[k].as.length c1]).drew.ext he1).cell 1
             replace he1 := hide he1; replace hv1 := hide hv1; replace hsl := hide hsl; replace hsf := hide hsf)
          | (refine step_push (E := ESegW) (B := w.heap.size) (v := u3) (l := l.take k) rfl _ _ _ (by rfl) okSegW' (by decide) (by decide) (by rfl) ((hown.out.ext (((Ext.refl _).alloc _).drew.trans he1.out)).alloc _) (by simp; omega) (by simp; omega) (by rfl)
              (segRW (C := wr.heap.size) (fun j hj => (hown.out.lt j hj).2) hsz hk1 hk2 hm1 hsl.out hsf.out) (cells_new w1 #[.int .i64 l[k].kind, .slice b2 l[k].as.length d2] _) ?_
             intro v' w2 hown' hg hat
             have k0 := hg.cell ((((Blk.new wr 24 #[.int .i64 l[k].kind, .slice a1 l[k].as.length c1]).drew.ext he1.out).alloc _).cell 0) (fun h => Nat.lt_irrefl _ (hown.out.lt _ h.symm).2)
             have k1 := hg.cell ((((Blk.new wr 24 #[.int .i64 l[k].kind, .slice a1 l[k].as.length c1]).drew.ext he1.out).alloc _).cell 1) (fun h => Nat.lt_irrefl _ (hown.out.lt _ h.symm).2)))
      go_wp2
      go_roundw
      case rel => exact ⟨k + 1, by omega, by go_num, by rw [take_snoc' _ _ hlt]; exact hown', ((hE.out.trans (((Ext.refl _).alloc _).drew.trans he1.out)).alloc _).push (fun j hj => (hown.out.lt j hj).1) hg⟩
      case measure => simp [intOf]; omega
    · obtain rfl : k = l.length := by omega
      go_wp2
      go_ret
      refine ⟨_, rfl, hE.out, ?_⟩
      have := hown.out
      rwa [List.take_length] at this

set_option maxHeartbeats 1000000 in
theorem ABare_any (a : Option Addr) (c : Nat) (l : List Seg) (w : World) (hl : l.length ≤ 16777216) (hs : Path w a l) :
    Calls Tryz.prog 8 #[.slice a l.length c] w fun e w' => ∃ v, e = .returned v ∧ Ext w w' ∧ Own ESegW 24 w' w.heap.size v (bareS l) := by
  replace hs := hide hs
  go_enter Tryz.func8, Tryz.ntmps8
  go_wp2_with fail
  refine (cloneW_any a c l w hl hs.out).mono ?_
  rintro e w1 ⟨v1, rfl, he1, o1⟩
  replace he1 := hide he1
  replace o1 := hide o1
  go_wp2_with fail
  refine (DeleteFunc_any v1 w.heap.size l w1 hl he1.out.size o1.out).mono ?_
  rintro e w2 ⟨v2, rfl, o2, b2⟩
  replace o2 := hide o2
  replace b2 := hide b2
  go_wp2_with fail
  go_ret
  exact ⟨_, rfl, Below.trans he1.out b2.out, o2.out⟩

end Go.Proofs.YtiappobhljiknaaGreatDoor
