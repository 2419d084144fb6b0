/- Walks: paths in memory of one's own. -/
import Derived.Test.YtiappobhljiknaaDoorW3
namespace Go.Proofs.YtiappobhljiknaaDoor
open Go.RowKit
set_option linter.unusedVariables false

theorem okU32 : ElemOk Tryd.prog 37 31 1 4 := elemOk (z := .int .u32 0) Tryd.underlying37 (by kernel_rfl) rfl
theorem okSeg : ElemOk Tryd.prog 22 48 2 32 := elemOk (z := .agg #[.int .i64 0, .slice none 0 0]) Tryd.underlying22 (by kernel_rfl) rfl
theorem okU32' : ElemOk Tryd.prog 37 31 EU32.sz 4 := okU32
theorem okSeg' : ElemOk Tryd.prog 22 48 ESeg.sz 32 := okSeg
theorem take_snoc' {α : Type} (l : List α) (k : Nat) (hk : k < l.length) : l.take (k + 1) = l.take k ++ [l[k]] := List.take_succ_eq_append_getElem hk

set_option maxHeartbeats 1000000 in
theorem ROwn_any (a : Option Addr) (c : Nat) (x : Seg) (w : World) (hx : x.as.length ≤ 16777216) (hs : Sl EU32 w (· < w.heap.size) a x.as) :
    Calls Tryd.prog 41 #[.agg #[.int .i64 x.kind, .slice a x.as.length c]] w fun e w' => ∃ b d, e = .returned (.agg #[.int .i64 x.kind, .slice b x.as.length d]) ∧ Ext w w' ∧ Sl EU32 w' (fun k => w.heap.size ≤ k ∧ k < w'.heap.size) b x.as := by
  replace hs := hide hs
  go_enter Tryd.func41, Tryd.ntmps41
  go_wp2
  have hA : Blk ((w.alloc (Obj.cells #[.int .i64 x.kind, .slice a x.as.length c] 48)).alloc (Obj.cells #[.int .i64 0, .slice none 0 0] 48)) w.heap.size 48 #[.int .i64 x.kind, .slice a x.as.length c] := (Blk.new _ _ _).alloc _
  have hB : Blk ((w.alloc (Obj.cells #[.int .i64 x.kind, .slice a x.as.length c] 48)).alloc (Obj.cells #[.int .i64 0, .slice none 0 0] 48)) (w.heap.size + 1) 48 #[.int .i64 0, .slice none 0 0] := by simpa using Blk.new (w.alloc (Obj.cells #[.int .i64 x.kind, .slice a x.as.length c] 48)) 48 #[.int .i64 0, .slice none 0 0]
  replace hA := hide hA
  replace hB := hide hB
  go_loopw [3, 4] (fun v i wr => ∃ k : Nat, k ≤ x.as.length ∧ i = .int .i64 k ∧ Own EU32 31 wr (w.heap.size + 2) v (x.as.take k) ∧ Below (w.heap.size + 2) ((w.alloc (Obj.cells #[.int .i64 x.kind, .slice a x.as.length c] 48)).alloc (Obj.cells #[.int .i64 0, .slice none 0 0] 48)) wr) (fun _ i _ => x.as.length - (intOf i).toNat)
  case atStart => exact ⟨0, Nat.zero_le _, rfl, Own.nil, Below.refl _ _⟩
  case round =>
    obtain ⟨k, hk, rfl, hown, hbe⟩ := hrel
    have cA := (hA.out.below hbe (by omega)).cell 0
    have cA1 := (hA.out.below hbe (by omega)).cell 1
    simp only [List.getElem?_toArray, List.getElem?_cons_zero, List.getElem?_cons_succ] at cA cA1
    have hsz : w.heap.size + 2 ≤ wr.heap.size := by have := hbe.size; simp at this; omega
    have hE : Ext w wr := (((Ext.refl w).alloc _).alloc _).trans ⟨hbe.os, hbe.tape, hbe.output, hbe.size, fun k hk => hbe.block k (by simpa using hk)⟩
    replace hE := hide hE
    replace hown := hide hown
    by_cases hlt : k < x.as.length
    · obtain ⟨b1, o1, rfl, _, h0⟩ := EU32.at (hs.out.ext hE.out) k hlt
      replace hbe := hide hbe
      go_wp2_with (at_builtin; refine wpList_push rfl _ _ _ rfl okU32' (by decide) (by decide) rfl (hown.out.alloc _) (by simp; omega) (by simp; omega) rfl (y := x.as[k]) (cs := [.int .u32 (x.as[k].toNat : Int)]) ⟨rfl, trivial⟩ (cell_one_new _ _ _) ?_; intro v' w1 hown' hg hat)
      go_roundw
      case rel => exact ⟨k + 1, by omega, by go_num, by rw [take_snoc' _ _ hlt]; exact hown', (hbe.out.alloc hsz _).grown hg (by simp; omega) fun j hj => (hown.out.lt j hj).1⟩
      case measure => simp [intOf]; omega
    · obtain rfl : k = x.as.length := by omega
      have cB := (hB.out.below hbe (by omega)).cell 0
      have cB1 := (hB.out.below hbe (by omega)).cell 1
      have fB := (hB.out.below hbe (by omega)).frozen 0
      have fB1 := (hB.out.below hbe (by omega)).frozen 1
      simp only [List.getElem?_toArray, List.getElem?_cons_zero, List.getElem?_cons_succ] at cB cB1
      replace hbe := hide hbe
      have hown1 := hown.out
      rw [List.take_length] at hown1
      obtain ⟨b, d, rfl, hsl⟩ := hown1.sl
      replace hsl := hide hsl
      clear hown1
      go_wp2
      refine bodyPost_ret (v := .agg #[.int .i64 x.kind, .slice b x.as.length d]) (by simp [results, Tryd.results41, go_sem, cB, cB1]) rfl ⟨b, d, rfl, (hE.out.setCell (by simp) _).setCell (by simp) _, ?_⟩
      refine (hsl.out.frame fun k hk => ?_).mono fun k hk => ?_
      · rw [Below.heap_setCell _ _ _ _ (by simp; omega), Below.heap_setCell _ _ _ _ (by simp; omega)]
      · simp [World.setCell]; omega

/-- One way to read the own row: a path in memory of the call's own. -/
theorem Own.path {w w' : World} {v : Value} {B : Nat} {l : List Seg} (h : Own ESeg 48 w B v l) : ∃ a c, v = .slice a l.length c ∧ Path w a l := by
  obtain ⟨a, c, rfl, hs⟩ := h.sl
  exact ⟨a, c, rfl, hs.mono fun _ hb => hb.2⟩

set_option maxRecDepth 20000 in
set_option maxHeartbeats 1000000 in
theorem ROwnAll_any (a : Option Addr) (c : Nat) (l : List Seg) (w : World) (hl : l.length ≤ 16777216) (hs : Path w a l) :
    Calls Tryd.prog 12 #[.slice a l.length c] w fun e w' => ∃ v, e = .returned v ∧ Ext w w' ∧ Own ESeg 48 w' w.heap.size v l := by
  replace hs := hide hs
  go_enter Tryd.func12, Tryd.ntmps12
  go_wp2
  go_loopw [3, 4] (fun v i wr => ∃ k : Nat, k ≤ l.length ∧ i = .int .i64 k ∧ Own ESeg 48 wr w.heap.size v (l.take k) ∧ Ext w wr) (fun _ i _ => l.length - (intOf i).toNat)
  case atStart => exact ⟨0, Nat.zero_le _, rfl, Own.nil, Ext.refl _⟩
  case round =>
    obtain ⟨k, hk, rfl, hown, hE⟩ := hrel
    have hsz := hE.size
    replace hE := hide hE
    replace hown := hide hown
    by_cases hlt : k < l.length
    · obtain ⟨b1, o1, a1, c1, rfl, _, h0, h1, hm1, hs1, hk1, hk2⟩ := ESeg.at (hs.out.ext hE.out) k hlt
      replace hs1 := hide hs1
      go_wp2_with (first
        | (go_at_call 41; refine (ROwn_any _ _ l[k] _ hm1 hs1.out).mono ?_; rintro e w1 ⟨b2, d2, rfl, he1, hsl⟩; have hsz1 := he1.size; replace he1 := hide he1; replace hsl := hide hsl)
        | (at_builtin
           have hox := (hown.out.ext he1.out).alloc (Obj.cells #[.int .i64 l[k].kind, .slice b2 l[k].as.length d2] 48)
           have hsp : ESeg.R (w1.alloc (.cells #[.int .i64 l[k].kind, .slice b2 l[k].as.length d2] 48)) (fun b => w.heap.size ≤ b ∧ b < (w1.alloc (.cells #[.int .i64 l[k].kind, .slice b2 l[k].as.length d2] 48)).heap.size ∧ some b ≠ u3.ownBlock) l[k] [.int .i64 l[k].kind, .slice b2 l[k].as.length d2] := by
             refine ⟨[.int .i64 l[k].kind], [.slice b2 l[k].as.length d2], rfl, ⟨rfl, hk1, hk2⟩, b2, d2, rfl, hm1, ?_⟩
             refine (hsl.out.frame fun b hb => Below.heap_alloc _ _ _ hb.2).mono fun b hb => ⟨by omega, by simp; omega, fun he => ?_⟩
             have := (hown.out.lt b he.symm).2
             omega
           have hlk : (l.take k).length ≤ 17179869184 := by simp; omega
           have hwb : w.heap.size ≤ (w1.alloc (.cells #[.int .i64 l[k].kind, .slice b2 l[k].as.length d2] 48)).heap.size := by simp; omega
           go_must (refine wpList_push (E := ESeg) rfl _ _ _ rfl okSeg' (by decide) (by decide) rfl hox hlk hwb rfl hsp (cells_new w1 #[.int .i64 l[k].kind, .slice b2 l[k].as.length d2] _) ?_)
           intro v' w2 hown' hg hat))
      go_roundw
      case rel => exact ⟨k + 1, by omega, by go_num, by rw [take_snoc' _ _ hlt]; exact hown', ((hE.out.trans he1.out).alloc _).push (fun j hj => (hown.out.lt j hj).1) hg⟩
      case measure => simp [intOf]; omega
    · obtain rfl : k = l.length := by omega
      go_wp2
      go_ret
      refine ⟨_, rfl, hE.out, ?_⟩
      have := hown.out
      rwa [List.take_length] at this

set_option maxHeartbeats 1000000 in
theorem Clone_any (a : Option Addr) (c : Nat) (l : List UInt32) (w : World) (hl : l.length ≤ 16777216) (hs : Sl EU32 w (· < w.heap.size) a l) :
    Calls Tryd.prog 80 #[.slice a l.length c] w fun e w' => ∃ v, e = .returned v ∧ Ext w w' ∧ Own EU32 31 w' w.heap.size v l := by
  replace hs := hide hs
  have q1 := fun (w : World) (a : Option Addr) (n c : Nat) => Lib.run_eql_slice_nil (P := Tryd.prog) w 37 31 a n c 0 0 Tryd.underlying37
  rcases a with _ | ad
  · have hn : l = [] := by
      rcases hs.out with h2 | ⟨_, _, h2, _⟩
      · exact h2
      · cases h2
    subst hn
    go_enter Tryd.func80, Tryd.ntmps80
    go_wp2
    go_ret
    exact ⟨_, rfl, Ext.refl _, Own.nil⟩
  · go_enter Tryd.func80, Tryd.ntmps80
    go_wp2_with (at_builtin; go_must (refine wpList_pushes (B := w.heap.size) rfl _ _ _ rfl okU32 (by decide) rfl (Own.empty (Nat.le_refl _)) (by simp) rfl (by simp; omega) (hs.out.ext ((Ext.refl _).alloc _)) ?_); intro v' w1 hown hg hat)
    go_ret
    refine ⟨_, rfl, ((Ext.refl _).alloc _).push (fun j hj => ?_) hg, by rw [List.nil_append] at hown; exact hown⟩
    have : w.heap.size = j := Option.some.inj hj
    omega

theorem segR {w1 : World} {B : Nat} {v : Value} {x : Seg} {b : Option Addr} {d C : Nat} {T : TypeId} {cs : Array Value} (hv : ∀ k, v.ownBlock = some k → k < C) (hC : B ≤ C) (hk1 : -9223372036854775808 ≤ x.kind) (hk2 : x.kind ≤ 9223372036854775807) (hm : x.as.length ≤ 16777216)
    (hsl : Sl EU32 w1 (fun k => C ≤ k ∧ k < w1.heap.size) b x.as) :
    ESeg.R (w1.alloc (.cells cs T)) (fun b => B ≤ b ∧ b < (w1.alloc (.cells cs T)).heap.size ∧ some b ≠ v.ownBlock) x [.int .i64 x.kind, .slice b x.as.length d] := by
  refine ⟨[.int .i64 x.kind], [.slice b x.as.length d], rfl, ⟨rfl, hk1, hk2⟩, b, d, rfl, hm, ?_⟩
  refine (hsl.frame fun b hb => Below.heap_alloc _ _ _ hb.2).mono fun b hb => ⟨by omega, by simp; omega, fun he => ?_⟩
  have := hv b he.symm
  omega

set_option maxRecDepth 20000 in
set_option maxHeartbeats 1000000 in
theorem clone_any (a : Option Addr) (c : Nat) (l : List Seg) (w : World) (hl : l.length ≤ 16777216) (hs : Path w a l) :
    Calls Tryd.prog 57 #[.slice a l.length c] w fun e w' => ∃ v, e = .returned v ∧ Ext w w' ∧ Own ESeg 48 w' w.heap.size v l := by
  replace hs := hide hs
  go_enter Tryd.func57, Tryd.ntmps57
  go_wp2
  go_loopw [3, 8] (fun v i wr => ∃ k : Nat, k ≤ l.length ∧ i = .int .i64 k ∧ Own ESeg 48 wr w.heap.size v (l.take k) ∧ Ext w wr) (fun _ i _ => l.length - (intOf i).toNat)
  case atStart => exact ⟨0, Nat.zero_le _, rfl, Own.nil, Ext.refl _⟩
  case round =>
    obtain ⟨k, hk, rfl, hown, hE⟩ := hrel
    have hsz := hE.size
    replace hE := hide hE
    replace hown := hide hown
    by_cases hlt : k < l.length
    · obtain ⟨b1, o1, a1, c1, rfl, _, h0, h1, hm1, hs1, hk1, hk2⟩ := ESeg.at (hs.out.ext hE.out) k hlt
      replace hs1 := hide hs1
      go_wp2
      go_region_held3 (fun w' => w'.cell? ⟨wr.heap.size, 0, none⟩ = some (.int .i64 l[k].kind) ∧ w'.cell? ⟨wr.heap.size, 1, none⟩ = some (.slice a1 l[k].as.length c1))
        (go_keep)
        (first
          | (go_at_call 80; refine (Clone_any _ _ l[k].as _ hm1 ?_).mono ?_; exact hs1.out.ext ((Ext.refl _).alloc _).drew; rintro e w1 ⟨v1, rfl, he1, hv1⟩; obtain ⟨b2, d2, rfl, hsl⟩ := hv1.sl
             replace hsl := hsl.mono (S' := fun b => wr.heap.size ≤ b ∧ b < w1.heap.size) fun b hb => ⟨by have := hb.1; simp at this; omega, hb.2⟩
             have hsz1 : wr.heap.size ≤ w1.heap.size := by have := he1.size; simp at this; omega
             have j0 : w1.cell? ⟨wr.heap.size, 0, none⟩ = some (.int .i64 l[k].kind) := ((Blk.new wr 48 #[.int .i64 l[k].kind, .slice a1 l[k].as.length c1]).drew.ext he1).cell 0
             have j1 : w1.cell? ⟨wr.heap.size, 1, none⟩ = some (.slice a1 l[k].as.length c1) := ((Blk.new wr 48 #[.int .i64 l[k].kind, .slice a1 l[k].as.length c1]).drew.ext he1).cell 1
             replace he1 := hide he1; replace hv1 := hide hv1; replace hsl := hide hsl)
          | (refine step_push (E := ESeg) (B := w.heap.size) (v := u3) (l := l.take k) rfl _ _ _ (by rfl) okSeg' (by decide) (by decide) (by rfl) ((hown.out.ext (((Ext.refl _).alloc _).drew.trans he1.out)).alloc _) (by simp; omega) (by simp; omega) (by rfl)
              (segR (C := wr.heap.size) (fun j hj => (hown.out.lt j hj).2) hsz hk1 hk2 hm1 hsl.out) (cells_new w1 #[.int .i64 l[k].kind, .slice b2 l[k].as.length d2] _) ?_
             intro v' w2 hown' hg hat
             have k0 := hg.cell ((((Blk.new wr 48 #[.int .i64 l[k].kind, .slice a1 l[k].as.length c1]).drew.ext he1.out).alloc _).cell 0) (fun h => Nat.lt_irrefl _ (hown.out.lt _ h.symm).2)
             have k1 := hg.cell ((((Blk.new wr 48 #[.int .i64 l[k].kind, .slice a1 l[k].as.length c1]).drew.ext he1.out).alloc _).cell 1) (fun h => Nat.lt_irrefl _ (hown.out.lt _ h.symm).2)))
      go_wp2
      go_roundw
      case rel => exact ⟨k + 1, by omega, by go_num, by rw [take_snoc' _ _ hlt]; exact hown', ((hE.out.trans (((Ext.refl _).alloc _).drew.trans he1.out)).alloc _).push (fun j hj => (hown.out.lt j hj).1) hg⟩
      case measure => simp [intOf]; omega
    · obtain rfl : k = l.length := by omega
      go_wp2
      go_ret
      refine ⟨_, rfl, hE.out, ?_⟩
      have := hown.out
      rwa [List.take_length] at this
end Go.Proofs.YtiappobhljiknaaDoor
