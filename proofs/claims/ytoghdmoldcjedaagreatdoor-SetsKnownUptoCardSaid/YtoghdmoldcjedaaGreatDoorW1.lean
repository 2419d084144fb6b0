/- Walks: slices.Index, slices.Contains at uint32; aspath.Check and its answer by the document; lengths. Walks: aspath.Check, lengths. Walks: are two the same? slices.Equal, slices.EqualFunc, aspath.Same; the document's Same. Walks: paths in memory of one's own. -/
import Derived.Test.YtoghdmoldcjedaaGreatDoorLib
import Derived.Test.YtoghdmoldcjedaaGreatDoorA4
namespace Go.Proofs.YtoghdmoldcjedaaGreatDoor
open Go.RowKit


set_option maxHeartbeats 1000000 in
theorem Index_any (a : Option Addr) (c : Nat) (l : List UInt32) (x : UInt32) (w : World) (S : Nat → Prop) (hl : l.length ≤ 16777216) (hs : Sl EU32 w S a l) :
    Calls Tryz.prog 108 #[.slice a l.length c, .int .u32 (x.toNat : Int)] w fun e w' => e = .returned (.int .i64 (idxU l x)) ∧ w = w' := by
  replace hs := hide hs
  go_enter Tryz.func108, Tryz.ntmps108
  go_wp2
  go_loop [5, 8] (fun _ i => ∃ k : Nat, k ≤ l.length ∧ i = .int .i64 k ∧ ∀ j, j < k → l[j]? ≠ some x) (fun _ i => l.length - (intOf i).toNat)
  case atStart => exact ⟨0, Nat.zero_le _, rfl, fun j h => by omega⟩
  case round =>
    obtain ⟨k, hk, rfl, hj⟩ := hrel
    replace hj := hide hj
    by_cases hlt : k < l.length
    · obtain ⟨b, off, rfl, _, h0⟩ := EU32.at hs.out k hlt
      have hb := u32_beq x l[k]
      by_cases hq : x = l[k]
      · rw [show (x == l[k]) = true by simpa using hq] at hb
        replace hq := hide hq
        go_wp2
        go_ret
        exact ⟨ret_int (idxU_at l x k hlt hq.out.symm hj.out).symm, rfl⟩
      · rw [show (x == l[k]) = false by simpa using hq] at hb
        replace hq := hide hq
        go_wp2
        go_round
        case rel => exact ⟨k + 1, by omega, by go_num, fun j hjk => by
          rcases Nat.lt_or_ge j k with h | h
          · exact hj.out j h
          · obtain rfl : j = k := by omega
            rw [List.getElem?_eq_getElem hlt]
            intro he; injection he with he; exact hq.out he.symm⟩
        case measure => simp [intOf]; omega
    · go_wp2
      go_ret
      exact ⟨ret_int (idxU_none l x fun j hj' => hj.out j (by omega)).symm, rfl⟩

set_option maxHeartbeats 1000000 in
theorem Contains_any (a : Option Addr) (c : Nat) (l : List UInt32) (x : UInt32) (w : World) (S : Nat → Prop) (hl : l.length ≤ 16777216) (hs : Sl EU32 w S a l) :
    Calls Tryz.prog 90 #[.slice a l.length c, .int .u32 (x.toNat : Int)] w fun e w' => e = .returned (.bool (l.contains x)) ∧ w = w' := by
  replace hs := hide hs
  have hi := hide (idxU_bd l x)
  go_enter Tryz.func90, Tryz.ntmps90
  go_wp2_with (go_at_call 108; refine (Index_any a c l x _ S hl hs.out).mono ?_; rintro e w' ⟨rfl, rfl⟩)
  go_ret
  refine ⟨ret_bool ?_, rfl⟩
  rw [Bool.eq_iff_iff]
  simpa using hi.out.2

/-- A path at an address in a world, all below its heap's end. -/
def Path (w : World) (a : Option Addr) (l : List Seg) : Prop := Sl ESeg w (· < w.heap.size) a l
theorem Path.ext {w w' : World} {a : Option Addr} {l : List Seg} (h : Path w a l) (he : Ext w w') : Path w' a l := Sl.ext h he
theorem Path.take {w : World} {a : Option Addr} {l : List Seg} (h : Path w a l) (n : Nat) : Path w a (l.take n) := Sl.take h n

theorem errOf_t : errOf true = 0 := rfl
theorem errOf_f : errOf false = 2 := rfl
theorem all_take_succ (l : List Seg) (k : Nat) (hk : k < l.length) (f : Seg → Bool) : (l.take (k + 1)).all f = ((l.take k).all f && f l[k]) := by
  rw [List.take_succ_eq_append_getElem hk, List.all_append]; simp
theorem all_false (l : List Seg) (k : Nat) (hk : k < l.length) (f : Seg → Bool) (h : f l[k] = false) : l.all f = false := by
  rw [List.all_eq_false]; exact ⟨l[k], List.getElem_mem hk, by simp [h]⟩

theorem chk_bad (l : List Seg) (k : Nat) (hk : k < l.length) (h : segOk l[k] = false) : errOf (chk l) = 2 := by
  have : chk l = false := by simp [chk, all_false l k hk segOk h]
  rw [this]; rfl
theorem lenS_bd_take (l : List Seg) (k : Nat) (hk : k ≤ l.length) (hl : l.length ≤ 16777216) (h : ∀ s ∈ l, s.as.length ≤ 16777216) : 0 ≤ lenS (l.take k) ∧ lenS (l.take k) ≤ 281474976710656 := by
  have := lenS_bd (l.take k) fun s hs => h s (List.mem_of_mem_take hs)
  simp only [List.length_take] at this
  omega
theorem Path.as_le {w : World} {a : Option Addr} {l : List Seg} (h : Path w a l) : ∀ s ∈ l, s.as.length ≤ 16777216 := by
  intro s hs
  obtain ⟨k, hk, rfl⟩ := List.getElem_of_mem hs
  obtain ⟨_, _, _, _, _, _, _, _, hm, _⟩ := ESeg.at h k hk
  exact hm

set_option linter.unusedVariables false

def sameU (x y : List UInt32) : Bool := decide (x = y)
theorem sameU_ne {x y : List UInt32} (h : x.length ≠ y.length) : sameU x y = false := by
  simp only [sameU, decide_eq_false_iff_not]; rintro rfl; exact h rfl
theorem sameU_at {x y : List UInt32} {k : Nat} (hx : k < x.length) (hy : k < y.length) (h : x[k] ≠ y[k]) : sameU x y = false := by
  simp only [sameU, decide_eq_false_iff_not]; rintro rfl; exact h rfl
theorem sameU_end {x y : List UInt32} {k : Nat} (hx : ¬ k < x.length) (hl : x.length = y.length) (h : x.take k = y.take k) : sameU x y = true := by
  simp only [sameU, decide_eq_true_eq]
  rwa [List.take_of_length_le (by omega), List.take_of_length_le (by omega)] at h
theorem take_same {α : Type} {x y : List α} {k : Nat} (hx : k < x.length) (hy : k < y.length) (h : x.take k = y.take k) (he : x[k] = y[k]) : x.take (k + 1) = y.take (k + 1) := by
  rw [List.take_succ_eq_append_getElem hx, List.take_succ_eq_append_getElem hy, h, he]
def sameSeg (x y : Seg) : Bool := x.kind == y.kind && sameU x.as y.as
theorem sameSeg_iff (x y : Seg) : sameSeg x y = true ↔ x = y := by
  cases x; cases y; simp [sameSeg, sameU]
def sameP (x y : List Seg) : Bool := decide (x = y)
theorem sameP_ne {x y : List Seg} (h : x.length ≠ y.length) : sameP x y = false := by
  simp only [sameP, decide_eq_false_iff_not]; rintro rfl; exact h rfl
theorem sameP_at {x y : List Seg} {k : Nat} (hx : k < x.length) (hy : k < y.length) (h : sameSeg x[k] y[k] = false) : sameP x y = false := by
  simp only [sameP, decide_eq_false_iff_not]; rintro rfl
  have := (sameSeg_iff x[k] x[k]).2 rfl
  rw [h] at this; cases this
theorem sameP_end {x y : List Seg} {k : Nat} (hx : ¬ k < x.length) (hl : x.length = y.length) (h : x.take k = y.take k) : sameP x y = true := by
  simp only [sameP, decide_eq_true_eq]
  rwa [List.take_of_length_le (by omega), List.take_of_length_le (by omega)] at h

theorem okU32 : ElemOk Tryz.prog 24 37 1 4 := elemOk (z := .int .u32 0) Tryz.underlying24 (by kernel_rfl) rfl
theorem okSeg : ElemOk Tryz.prog 43 48 2 32 := elemOk (z := .agg #[.int .i64 0, .slice none 0 0]) Tryz.underlying43 (by kernel_rfl) rfl
theorem okU32q : ElemOk Tryz.prog 24 37 EU32.sz 4 := okU32
theorem okSeg' : ElemOk Tryz.prog 43 48 ESeg.sz 32 := okSeg
theorem take_snoc' {α : Type} (l : List α) (k : Nat) (hk : k < l.length) : l.take (k + 1) = l.take k ++ [l[k]] := List.take_succ_eq_append_getElem hk

set_option maxHeartbeats 1000000 in
theorem ROwn_any (a : Option Addr) (c : Nat) (x : Seg) (w : World) (hx : x.as.length ≤ 16777216) (hs : Sl EU32 w (· < w.heap.size) a x.as) :
    Calls Tryz.prog 42 #[.agg #[.int .i64 x.kind, .slice a x.as.length c]] w fun e w' => ∃ b d, e = .returned (.agg #[.int .i64 x.kind, .slice b x.as.length d]) ∧ Ext w w' ∧ Sl EU32 w' (fun k => w.heap.size ≤ k ∧ k < w'.heap.size) b x.as := by
  replace hs := hide hs
  go_enter Tryz.func42, Tryz.ntmps42
  go_wp2
  have hA : Blk ((w.alloc (Obj.cells #[.int .i64 x.kind, .slice a x.as.length c] 48)).alloc (Obj.cells #[.int .i64 0, .slice none 0 0] 48)) w.heap.size 48 #[.int .i64 x.kind, .slice a x.as.length c] := (Blk.new _ _ _).alloc _
  have hB : Blk ((w.alloc (Obj.cells #[.int .i64 x.kind, .slice a x.as.length c] 48)).alloc (Obj.cells #[.int .i64 0, .slice none 0 0] 48)) (w.heap.size + 1) 48 #[.int .i64 0, .slice none 0 0] := by simpa using Blk.new (w.alloc (Obj.cells #[.int .i64 x.kind, .slice a x.as.length c] 48)) 48 #[.int .i64 0, .slice none 0 0]
  replace hA := hide hA
  replace hB := hide hB
  go_loopw [3, 4] (fun v i wr => ∃ k : Nat, k ≤ x.as.length ∧ i = .int .i64 k ∧ Own EU32 37 wr (w.heap.size + 2) v (x.as.take k) ∧ Below (w.heap.size + 2) ((w.alloc (Obj.cells #[.int .i64 x.kind, .slice a x.as.length c] 48)).alloc (Obj.cells #[.int .i64 0, .slice none 0 0] 48)) wr) (fun _ i _ => x.as.length - (intOf i).toNat)
  case atStart => exact ⟨0, Nat.zero_le _, rfl, Own.nil, Below.refl _ _⟩
  case round =>
    obtain ⟨k, hk, rfl, hown, hbe⟩ := hrel
    have cA := (hA.out.below hbe (by omega)).cell 0
    have cA1 := (hA.out.below hbe (by omega)).cell 1
    simp only [List.getElem?_toArray, List.getElem?_cons_zero, List.getElem?_cons_succ] at cA cA1
    have hsz : w.heap.size + 2 ≤ wr.heap.size := by have := hbe.size; simp at this; omega
    have hE : Ext w wr := (((Ext.refl w).alloc _).alloc _).trans ⟨hbe.os, hbe.tape, hbe.output, hbe.size, fun k hk => hbe.block k (by simpa using hk)⟩
    replace hE := hide hE
    replace hown := hide hown
    by_cases hlt : k < x.as.length
    · obtain ⟨b1, o1, rfl, _, h0⟩ := EU32.at (hs.out.ext hE.out) k hlt
      replace hbe := hide hbe
      go_wp2_with (at_builtin; refine wpList_push rfl _ _ _ rfl okU32q (by decide) (by decide) rfl (hown.out.alloc _) (by simp; omega) (by simp; omega) rfl (y := x.as[k]) (cs := [.int .u32 (x.as[k].toNat : Int)]) ⟨rfl, trivial⟩ (cell_one_new _ _ _) ?_; intro v' w1 hown' hg hat)
      go_roundw
      case rel => exact ⟨k + 1, by omega, by go_num, by rw [take_snoc' _ _ hlt]; exact hown', (hbe.out.alloc hsz _).grown hg (by simp; omega) fun j hj => (hown.out.lt j hj).1⟩
      case measure => simp [intOf]; omega
    · obtain rfl : k = x.as.length := by omega
      have cB := (hB.out.below hbe (by omega)).cell 0
      have cB1 := (hB.out.below hbe (by omega)).cell 1
      have fB := (hB.out.below hbe (by omega)).frozen 0
      have fB1 := (hB.out.below hbe (by omega)).frozen 1
      simp only [List.getElem?_toArray, List.getElem?_cons_zero, List.getElem?_cons_succ] at cB cB1
      replace hbe := hide hbe
      have hown1 := hown.out
      rw [List.take_length] at hown1
      obtain ⟨b, d, rfl, hsl⟩ := hown1.sl
      replace hsl := hide hsl
      clear hown1
      go_wp2
      refine bodyPost_ret (v := .agg #[.int .i64 x.kind, .slice b x.as.length d]) (by simp [results, Tryz.results42, go_sem, cB, cB1]) rfl ⟨b, d, rfl, (hE.out.setCell (by simp) _).setCell (by simp) _, ?_⟩
      refine (hsl.out.frame fun k hk => ?_).mono fun k hk => ?_
      · rw [Below.heap_setCell _ _ _ _ (by simp; omega), Below.heap_setCell _ _ _ _ (by simp; omega)]
      · simp [World.setCell]; omega

/-- One way to read the own row: a path in memory of the call's own. -/
theorem Own.path {w w' : World} {v : Value} {B : Nat} {l : List Seg} (h : Own ESeg 48 w B v l) : ∃ a c, v = .slice a l.length c ∧ Path w a l := by
  obtain ⟨a, c, rfl, hs⟩ := h.sl
  exact ⟨a, c, rfl, hs.mono fun _ hb => hb.2⟩

set_option maxRecDepth 20000 in
set_option maxHeartbeats 1000000 in
theorem ROwnAll_any (a : Option Addr) (c : Nat) (l : List Seg) (w : World) (hl : l.length ≤ 16777216) (hs : Path w a l) :
    Calls Tryz.prog 14 #[.slice a l.length c] w fun e w' => ∃ v, e = .returned v ∧ Ext w w' ∧ Own ESeg 48 w' w.heap.size v l := by
  replace hs := hide hs
  go_enter Tryz.func14, Tryz.ntmps14
  go_wp2
  go_loopw [3, 4] (fun v i wr => ∃ k : Nat, k ≤ l.length ∧ i = .int .i64 k ∧ Own ESeg 48 wr w.heap.size v (l.take k) ∧ Ext w wr) (fun _ i _ => l.length - (intOf i).toNat)
  case atStart => exact ⟨0, Nat.zero_le _, rfl, Own.nil, Ext.refl _⟩
  case round =>
    obtain ⟨k, hk, rfl, hown, hE⟩ := hrel
    have hsz := hE.size
    replace hE := hide hE
    replace hown := hide hown
    by_cases hlt : k < l.length
    · obtain ⟨b1, o1, a1, c1, rfl, _, h0, h1, hm1, hs1, hk1, hk2⟩ := ESeg.at (hs.out.ext hE.out) k hlt
      replace hs1 := hide hs1
      go_wp2_with (first
        | (go_at_call 42; refine (ROwn_any _ _ l[k] _ hm1 hs1.out).mono ?_; rintro e w1 ⟨b2, d2, rfl, he1, hsl⟩; have hsz1 := he1.size; replace he1 := hide he1; replace hsl := hide hsl)
        | (at_builtin
           have hox := (hown.out.ext he1.out).alloc (Obj.cells #[.int .i64 l[k].kind, .slice b2 l[k].as.length d2] 48)
           have hsp : ESeg.R (w1.alloc (.cells #[.int .i64 l[k].kind, .slice b2 l[k].as.length d2] 48)) (fun b => w.heap.size ≤ b ∧ b < (w1.alloc (.cells #[.int .i64 l[k].kind, .slice b2 l[k].as.length d2] 48)).heap.size ∧ some b ≠ u3.ownBlock) l[k] [.int .i64 l[k].kind, .slice b2 l[k].as.length d2] := by
             refine ⟨[.int .i64 l[k].kind], [.slice b2 l[k].as.length d2], rfl, ⟨rfl, hk1, hk2⟩, b2, d2, rfl, hm1, ?_⟩
             refine (hsl.out.frame fun b hb => Below.heap_alloc _ _ _ hb.2).mono fun b hb => ⟨by omega, by simp; omega, fun he => ?_⟩
             have := (hown.out.lt b he.symm).2
             omega
           have hlk : (l.take k).length ≤ 17179869184 := by simp; omega
           have hwb : w.heap.size ≤ (w1.alloc (.cells #[.int .i64 l[k].kind, .slice b2 l[k].as.length d2] 48)).heap.size := by simp; omega
           go_must (refine wpList_push (E := ESeg) rfl _ _ _ rfl okSeg' (by decide) (by decide) rfl hox hlk hwb rfl hsp (cells_new w1 #[.int .i64 l[k].kind, .slice b2 l[k].as.length d2] _) ?_)
           intro v' w2 hown' hg hat))
      go_roundw
      case rel => exact ⟨k + 1, by omega, by go_num, by rw [take_snoc' _ _ hlt]; exact hown', ((hE.out.trans he1.out).alloc _).push (fun j hj => (hown.out.lt j hj).1) hg⟩
      case measure => simp [intOf]; omega
    · obtain rfl : k = l.length := by omega
      go_wp2
      go_ret
      refine ⟨_, rfl, hE.out, ?_⟩
      have := hown.out
      rwa [List.take_length] at this

set_option maxHeartbeats 1000000 in
theorem Clone_any (a : Option Addr) (c : Nat) (l : List UInt32) (w : World) (hl : l.length ≤ 16777216) (hs : Sl EU32 w (· < w.heap.size) a l) :
    Calls Tryz.prog 38 #[.slice a l.length c] w fun e w' => ∃ v, e = .returned v ∧ Ext w w' ∧ Own EU32 37 w' w.heap.size v l := by
  replace hs := hide hs
  have q1 := fun (w : World) (a : Option Addr) (n c : Nat) => Lib.run_eql_slice_nil (P := Tryz.prog) w 24 37 a n c 0 0 Tryz.underlying24
  rcases a with _ | ad
  · have hn : l = [] := by
      rcases hs.out with h2 | ⟨_, _, h2, _⟩
      · exact h2
      · cases h2
    subst hn
    go_enter Tryz.func38, Tryz.ntmps38
    go_wp2
    go_ret
    exact ⟨_, rfl, Ext.refl _, Own.nil⟩
  · go_enter Tryz.func38, Tryz.ntmps38
    go_wp2_with (at_builtin; go_must (refine wpList_pushes (B := w.heap.size) rfl _ _ _ rfl okU32 (by decide) rfl (Own.empty (Nat.le_refl _)) (by simp) rfl (by simp; omega) (hs.out.ext ((Ext.refl _).alloc _)) ?_); intro v' w1 hown hg hat)
    go_ret
    refine ⟨_, rfl, ((Ext.refl _).alloc _).push (fun j hj => ?_) hg, by rw [List.nil_append] at hown; exact hown⟩
    have : w.heap.size = j := Option.some.inj hj
    omega

theorem segR {w1 : World} {B : Nat} {v : Value} {x : Seg} {b : Option Addr} {d C : Nat} {T : TypeId} {cs : Array Value} (hv : ∀ k, v.ownBlock = some k → k < C) (hC : B ≤ C) (hk1 : -9223372036854775808 ≤ x.kind) (hk2 : x.kind ≤ 9223372036854775807) (hm : x.as.length ≤ 16777216)
    (hsl : Sl EU32 w1 (fun k => C ≤ k ∧ k < w1.heap.size) b x.as) :
    ESeg.R (w1.alloc (.cells cs T)) (fun b => B ≤ b ∧ b < (w1.alloc (.cells cs T)).heap.size ∧ some b ≠ v.ownBlock) x [.int .i64 x.kind, .slice b x.as.length d] := by
  refine ⟨[.int .i64 x.kind], [.slice b x.as.length d], rfl, ⟨rfl, hk1, hk2⟩, b, d, rfl, hm, ?_⟩
  refine (hsl.frame fun b hb => Below.heap_alloc _ _ _ hb.2).mono fun b hb => ⟨by omega, by simp; omega, fun he => ?_⟩
  have := hv b he.symm
  omega

end Go.Proofs.YtoghdmoldcjedaaGreatDoor
