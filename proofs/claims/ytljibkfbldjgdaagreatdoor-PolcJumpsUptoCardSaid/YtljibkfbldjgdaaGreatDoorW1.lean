/- Walks: slices.Index, slices.Contains at uint32; aspath.Check and its answer by the document; lengths. Walks: aspath.Check, lengths. Walks: are two the same? slices.Equal, slices.EqualFunc, aspath.Same; the document's Same. Walks: paths in memory of one's own. -/
import Derived.Test.YtljibkfbldjgdaaGreatDoorLib
import Derived.Test.YtljibkfbldjgdaaGreatDoorA4
namespace Go.Proofs.YtljibkfbldjgdaaGreatDoor
open Go.RowKit


/-- A path at an address in a world, all below its heap's end. -/
def Path (w : World) (a : Option Addr) (l : List Seg) : Prop := Sl ESeg w (· < w.heap.size) a l
theorem Path.ext {w w' : World} {a : Option Addr} {l : List Seg} (h : Path w a l) (he : Ext w w') : Path w' a l := Sl.ext h he
theorem Path.take {w : World} {a : Option Addr} {l : List Seg} (h : Path w a l) (n : Nat) : Path w a (l.take n) := Sl.take h n

theorem errOf_t : errOf true = 0 := rfl
theorem errOf_f : errOf false = 2 := rfl
theorem all_take_succ (l : List Seg) (k : Nat) (hk : k < l.length) (f : Seg → Bool) : (l.take (k + 1)).all f = ((l.take k).all f && f l[k]) := by
  rw [List.take_succ_eq_append_getElem hk, List.all_append]; simp
theorem all_false (l : List Seg) (k : Nat) (hk : k < l.length) (f : Seg → Bool) (h : f l[k] = false) : l.all f = false := by
  rw [List.all_eq_false]; exact ⟨l[k], List.getElem_mem hk, by simp [h]⟩

theorem chk_bad (l : List Seg) (k : Nat) (hk : k < l.length) (h : segOk l[k] = false) : errOf (chk l) = 2 := by
  have : chk l = false := by simp [chk, all_false l k hk segOk h]
  rw [this]; rfl
theorem lenS_bd_take (l : List Seg) (k : Nat) (hk : k ≤ l.length) (hl : l.length ≤ 16777216) (h : ∀ s ∈ l, s.as.length ≤ 16777216) : 0 ≤ lenS (l.take k) ∧ lenS (l.take k) ≤ 281474976710656 := by
  have := lenS_bd (l.take k) fun s hs => h s (List.mem_of_mem_take hs)
  simp only [List.length_take] at this
  omega
theorem Path.as_le {w : World} {a : Option Addr} {l : List Seg} (h : Path w a l) : ∀ s ∈ l, s.as.length ≤ 16777216 := by
  intro s hs
  obtain ⟨k, hk, rfl⟩ := List.getElem_of_mem hs
  obtain ⟨_, _, _, _, _, _, _, _, hm, _⟩ := ESeg.at h k hk
  exact hm

set_option linter.unusedVariables false

def sameU (x y : List UInt32) : Bool := decide (x = y)
theorem sameU_ne {x y : List UInt32} (h : x.length ≠ y.length) : sameU x y = false := by
  simp only [sameU, decide_eq_false_iff_not]; rintro rfl; exact h rfl
theorem sameU_at {x y : List UInt32} {k : Nat} (hx : k < x.length) (hy : k < y.length) (h : x[k] ≠ y[k]) : sameU x y = false := by
  simp only [sameU, decide_eq_false_iff_not]; rintro rfl; exact h rfl
theorem sameU_end {x y : List UInt32} {k : Nat} (hx : ¬ k < x.length) (hl : x.length = y.length) (h : x.take k = y.take k) : sameU x y = true := by
  simp only [sameU, decide_eq_true_eq]
  rwa [List.take_of_length_le (by omega), List.take_of_length_le (by omega)] at h
theorem take_same {α : Type} {x y : List α} {k : Nat} (hx : k < x.length) (hy : k < y.length) (h : x.take k = y.take k) (he : x[k] = y[k]) : x.take (k + 1) = y.take (k + 1) := by
  rw [List.take_succ_eq_append_getElem hx, List.take_succ_eq_append_getElem hy, h, he]
def sameSeg (x y : Seg) : Bool := x.kind == y.kind && sameU x.as y.as
theorem sameSeg_iff (x y : Seg) : sameSeg x y = true ↔ x = y := by
  cases x; cases y; simp [sameSeg, sameU]
def sameP (x y : List Seg) : Bool := decide (x = y)
theorem sameP_ne {x y : List Seg} (h : x.length ≠ y.length) : sameP x y = false := by
  simp only [sameP, decide_eq_false_iff_not]; rintro rfl; exact h rfl
theorem sameP_at {x y : List Seg} {k : Nat} (hx : k < x.length) (hy : k < y.length) (h : sameSeg x[k] y[k] = false) : sameP x y = false := by
  simp only [sameP, decide_eq_false_iff_not]; rintro rfl
  have := (sameSeg_iff x[k] x[k]).2 rfl
  rw [h] at this; cases this
theorem sameP_end {x y : List Seg} {k : Nat} (hx : ¬ k < x.length) (hl : x.length = y.length) (h : x.take k = y.take k) : sameP x y = true := by
  simp only [sameP, decide_eq_true_eq]
  rwa [List.take_of_length_le (by omega), List.take_of_length_le (by omega)] at h

theorem okU32 : ElemOk Tryz.prog 64 49 1 4 := elemOk (z := .int .u32 0) Tryz.underlying64 (by kernel_rfl) rfl
theorem okU32q : ElemOk Tryz.prog 64 49 EU32.sz 4 := okU32
theorem take_snoc' {α : Type} (l : List α) (k : Nat) (hk : k < l.length) : l.take (k + 1) = l.take k ++ [l[k]] := List.take_succ_eq_append_getElem hk

set_option maxHeartbeats 1000000 in
theorem Clone_any (a : Option Addr) (c : Nat) (l : List UInt32) (w : World) (hl : l.length ≤ 16777216) (hs : Sl EU32 w (· < w.heap.size) a l) :
    Calls Tryz.prog 60 #[.slice a l.length c] w fun e w' => ∃ v, e = .returned v ∧ Ext w w' ∧ Own EU32 49 w' w.heap.size v l := by
  replace hs := hide hs
  have q1 := fun (w : World) (a : Option Addr) (n c : Nat) => Lib.run_eql_slice_nil (P := Tryz.prog) w 64 49 a n c 0 0 Tryz.underlying64
  rcases a with _ | ad
  · have hn : l = [] := by
      rcases hs.out with h2 | ⟨_, _, h2, _⟩
      · exact h2
      · cases h2
    subst hn
    go_enter Tryz.func60, Tryz.ntmps60
    go_wp2
    go_ret
    exact ⟨_, rfl, Ext.refl _, Own.nil⟩
  · go_enter Tryz.func60, Tryz.ntmps60
    go_wp2_with (at_builtin; go_must (refine wpList_pushes (B := w.heap.size) rfl _ _ _ rfl okU32 (by decide) rfl (Own.empty (Nat.le_refl _)) (by simp) rfl (by simp; omega) (hs.out.ext ((Ext.refl _).alloc _)) ?_); intro v' w1 hown hg hat)
    go_ret
    refine ⟨_, rfl, ((Ext.refl _).alloc _).push (fun j hj => ?_) hg, by rw [List.nil_append] at hown; exact hown⟩
    have : w.heap.size = j := Option.some.inj hj
    omega

theorem segR {w1 : World} {B : Nat} {v : Value} {x : Seg} {b : Option Addr} {d C : Nat} {T : TypeId} {cs : Array Value} (hv : ∀ k, v.ownBlock = some k → k < C) (hC : B ≤ C) (hk1 : -9223372036854775808 ≤ x.kind) (hk2 : x.kind ≤ 9223372036854775807) (hm : x.as.length ≤ 16777216)
    (hsl : Sl EU32 w1 (fun k => C ≤ k ∧ k < w1.heap.size) b x.as) :
    ESeg.R (w1.alloc (.cells cs T)) (fun b => B ≤ b ∧ b < (w1.alloc (.cells cs T)).heap.size ∧ some b ≠ v.ownBlock) x [.int .i64 x.kind, .slice b x.as.length d] := by
  refine ⟨[.int .i64 x.kind], [.slice b x.as.length d], rfl, ⟨rfl, hk1, hk2⟩, b, d, rfl, hm, ?_⟩
  refine (hsl.frame fun b hb => Below.heap_alloc _ _ _ hb.2).mono fun b hb => ⟨by omega, by simp; omega, fun he => ?_⟩
  have := hv b he.symm
  omega

end Go.Proofs.YtljibkfbldjgdaaGreatDoor
