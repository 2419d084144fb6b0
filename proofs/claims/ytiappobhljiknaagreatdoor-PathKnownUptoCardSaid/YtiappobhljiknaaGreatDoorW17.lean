/- A path's copy, each segment's own row in a block of its own. -/
import Derived.Test.YtiappobhljiknaaGreatDoorA9
import Derived.Test.YtiappobhljiknaaGreatDoorW1
namespace Go.Proofs.YtiappobhljiknaaGreatDoor
open Go.RowKit
set_option linter.unusedVariables false

set_option maxRecDepth 20000 in
set_option maxHeartbeats 1000000 in
theorem cloneB_any (a : Option Addr) (c : Nat) (l : List Seg) (w : World) (hl : l.length ≤ 16777216) (hs : Path w a l) :
    Calls Tryz.prog 20 #[.slice a l.length c] w fun e w' => ∃ v ls, e = .returned v ∧ Ext w w' ∧ Own ESegB 24 w' w.heap.size v ls ∧ ls.map (·.1) = l ∧ (ls.map (·.2)).Pairwise (· < ·) := by
  replace hs := hide hs
  go_enter Tryz.func20, Tryz.ntmps20
  go_wp2
  go_loopw [3, 8] (fun v i wr => ∃ k : Nat, k ≤ l.length ∧ i = .int .i64 k ∧ (∃ ls : List (Seg × Nat), Own ESegB 24 wr w.heap.size v ls ∧ ls.map (·.1) = l.take k ∧ (ls.map (·.2)).Pairwise (· < ·) ∧ (∀ p ∈ ls, p.2 < wr.heap.size)) ∧ Ext w wr) (fun _ i _ => l.length - (intOf i).toNat)
  case atStart => exact ⟨0, Nat.zero_le _, rfl, ⟨[], Own.nil, rfl, List.Pairwise.nil, fun p hp => by cases hp⟩, Ext.refl _⟩
  case round =>
    obtain ⟨k, hk, rfl, ⟨ls, hown, hl1, hl2, hl3⟩, hE⟩ := hrel
    have hls : ls.length = k := by have := congrArg List.length hl1; rw [List.length_map, List.length_take] at this; omega
    replace hl1 := hide hl1
    replace hl2 := hide hl2
    replace hl3 := hide hl3
    have hsz := hE.size
    replace hE := hide hE
    replace hown := hide hown
    by_cases hlt : k < l.length
    · obtain ⟨b1, o1, a1, c1, rfl, _, h0, h1, hm1, hs1, hk1, hk2⟩ := ESeg.at (hs.out.ext hE.out) k hlt
      replace hs1 := hide hs1
      go_wp2
      go_region_held3 (fun w' => w'.cell? ⟨wr.heap.size, 0, none⟩ = some (.int .i64 l[k].kind) ∧ w'.cell? ⟨wr.heap.size, 1, none⟩ = some (.slice a1 l[k].as.length c1))
        (go_keep)
        (first
          | (go_at_call 45; refine (Clone_any _ _ l[k].as _ hm1 ?_).mono ?_; exact hs1.out.ext ((Ext.refl _).alloc _).drew; rintro e w1 ⟨v1, rfl, he1, hv1⟩; obtain ⟨b2, d2, rfl, hsl⟩ := hv1.sl
             replace hsl := hsl.mono (S' := fun b => wr.heap.size ≤ b ∧ b < w1.heap.size) fun b hb => ⟨by have := hb.1; simp at this; omega, hb.2⟩
             have hsz1 : wr.heap.size ≤ w1.heap.size := by have := he1.size; simp at this; omega
             have j0 : w1.cell? ⟨wr.heap.size, 0, none⟩ = some (.int .i64 l[k].kind) := ((Blk.new wr 24 #[.int .i64 l[k].kind, .slice a1 l[k].as.length c1]).drew.ext he1).cell 0
             have j1 : w1.cell? ⟨wr.heap.size, 1, none⟩ = some (.slice a1 l[k].as.length c1) := ((Blk.new wr 24 #[.int .i64 l[k].kind, .slice a1 l[k].as.length c1]).drew.ext he1).cell 1
             obtain ⟨hb, hb1, hb2, hbr⟩ := segRB (B := w.heap.size) (T := 24) (cs := #[.int .i64 l[k].kind, .slice b2 l[k].as.length d2]) (fun j hj => (hown.out.lt j hj).2) hsz hsz1 hk1 hk2 hm1 (hv1.low (B' := wr.heap.size) (by simp))
             replace hbr := hide hbr; replace he1 := hide he1; replace hv1 := hide hv1; replace hsl := hide hsl)
          | (refine step_push (E := ESegB) (B := w.heap.size) (v := u3) (l := ls) (y := (l[k], hb)) rfl _ _ _ (by rfl) okSegB' (by decide) (by decide) (by rfl) ((hown.out.ext (((Ext.refl _).alloc _).drew.trans he1.out)).alloc _) (by omega) (by simp; omega) (by rfl)
              (hbr.out) (cells_new w1 #[.int .i64 l[k].kind, .slice b2 l[k].as.length d2] _) ?_
             intro v' w2 hown' hg hat
             have k0 := hg.cell ((((Blk.new wr 24 #[.int .i64 l[k].kind, .slice a1 l[k].as.length c1]).drew.ext he1.out).alloc _).cell 0) (fun h => Nat.lt_irrefl _ (hown.out.lt _ h.symm).2)
             have k1 := hg.cell ((((Blk.new wr 24 #[.int .i64 l[k].kind, .slice a1 l[k].as.length c1]).drew.ext he1.out).alloc _).cell 1) (fun h => Nat.lt_irrefl _ (hown.out.lt _ h.symm).2)))
      go_wp2
      have hpw : ((ls ++ [(l[k], hb)]).map (·.2)).Pairwise (· < ·) := by
        rw [List.map_append, List.pairwise_append]
        refine ⟨hl2.out, List.pairwise_singleton _ _, fun x hx y hy => ?_⟩
        obtain ⟨p, hp, rfl⟩ := List.mem_map.1 hx
        have := hl3.out p hp
        simp at hy
        subst hy
        omega
      have hbd : ∀ p ∈ ls ++ [(l[k], hb)], p.2 < w2.heap.size := by
        intro p hp
        have h9 := hg.size
        simp at h9
        rcases List.mem_append.1 hp with h | h
        · have := hl3.out p h
          omega
        · simp at h
          subst h
          show hb < _
          omega
      replace hpw := hide hpw
      replace hbd := hide hbd
      go_roundw
      case rel => exact ⟨k + 1, by omega, by go_num, ⟨ls ++ [(l[k], hb)], hown', by rw [take_snoc' _ _ hlt, List.map_append, hl1.out]; rfl, hpw.out, hbd.out⟩, ((hE.out.trans (((Ext.refl _).alloc _).drew.trans he1.out)).alloc _).push (fun j hj => (hown.out.lt j hj).1) hg⟩
      case measure => simp [intOf]; omega
    · obtain rfl : k = l.length := by omega
      go_wp2
      go_ret
      exact ⟨_, ls, rfl, hE.out, hown.out, by rw [hl1.out, List.take_length], hl2.out⟩
end Go.Proofs.YtiappobhljiknaaGreatDoor
