/- Walks: an item that may be; the first item of which a function says yes. Walks: may an item be; a name; a pattern (as functions that are handed on). Walks: a name. Walks: communities laid as bytes, or refused (comm.Encode). Walks: communities laid as bytes, or refused (comm.Encode), whole. Walks: what sets.Check calls: comm.Encode, the functions over items and patterns. Chapter 16, walks: may a name, a condition, an action be? Chapter 16, walks: may a condition be? Chapter 16, walks: may an action be? Printed by genmaya.py. Chapter 16, walks: a test over conditions, over actions; may a term be? -/
import Derived.Lib.SplitLaws
import Derived.Lib.ParseIntB
import Derived.Lib.ParseIntBCases
import Derived.Lib.ItoaNum
import Derived.Lib.Join
import Derived.WalkKit
import Derived.Below
import Derived.Outline
import Derived.LoopTactic
import Derived.Laws.OwnMore
import Derived.Deep.AppendLies
import Derived.Deep.Draws
import Derived.Lib.Hide
import Derived.BigQuiet
import Derived.Deep.QuietTactic
import Derived.WalkSpells
import Derived.WalkLawsBesides
import Derived.Deep.RegionHeld3
import Derived.Deep.DrawnRows
import Derived.Deep.RegionLaw
import Derived.Lib.ConvBytes
import Derived.Lib.Bytealg
import Derived.Lib.Small
import Derived.Test.YtljibkfbldjgdaaGreatDoorRows
import Derived.ProofKit
import Derived.Deep.Slices
import Derived.Shelf.GgClosure.StringsRunes
import Derived.Test.YtljibkfbldjgdaaGreatDoorProg
import Derived.Test.YtljibkfbldjgdaaGreatDoorShelf
import Derived.Test.YtljibkfbldjgdaaGreatDoorShelf2
import Derived.Lib.UnsafeStr
import Derived.Shelf.RegionOpenPlain
import Derived.Laws.StructEq
import Derived.Lib.QuietBelow
import Derived.Lib.ItoaMem
import Derived.Lib.ItoaLen
import Derived.Deep.DeepCutAuto
import Derived.Orders
import Derived.StillTail
import Derived.Defers
import Derived.Recover
import Derived.Maps.OwnSet
import Derived.Maps.Views
import Derived.Maps.Range
import Derived.DeepKeys5
import Derived.Deep.Cut
import Derived.Test.YtljibkfbldjgdaaGreatDoorPY01
import Derived.Test.YtljibkfbldjgdaaGreatDoorPY02
import Derived.Test.YtljibkfbldjgdaaGreatDoorPY03
import Derived.Test.YtljibkfbldjgdaaGreatDoorPY04
import Derived.Test.YtljibkfbldjgdaaGreatDoorPY05
namespace Go.Proofs.YtljibkfbldjgdaaGreatDoor
section
open Go.RowKit Go.Sort
set_option linter.unusedVariables false
/-- The place of the first element of which a test says yes; -1: there is none. -/
def idxT {α : Type} (pr : α → Bool) (l : List α) : Int := match l.findIdx? pr with | some i => i | none => -1
theorem idxT_at {α : Type} {pr : α → Bool} {l : List α} {k : Nat} (hk : k < l.length) (h : pr l[k] = true) (hn : (l.take k).any pr = false) : idxT pr l = k := by
 unfold idxT
 have : l.findIdx? pr = some k := by
  rw [List.findIdx?_eq_some_iff_getElem]
  refine ⟨hk, h, fun j hj => ?_⟩
  rw [List.any_eq_false] at hn
  have h1 : l[j] ∈ l.take k := by
   rw [List.mem_take_iff_getElem]
   exact ⟨j, by omega, rfl⟩
  simpa using hn _ h1
 rw [this]
theorem idxT_none {α : Type} {pr : α → Bool} {l : List α} (hn : l.any pr = false) : idxT pr l = -1 := by
 unfold idxT
 have : l.findIdx? pr = none := by
  rw [List.findIdx?_eq_none_iff]
  intro x hx
  rw [List.any_eq_false] at hn
  simpa using hn x hx
 rw [this]
theorem idxT_any {α : Type} (pr : α → Bool) (l : List α) : decide (0 ≤ idxT pr l) = l.any pr := by
  unfold idxT
  cases h : l.findIdx? pr with
  | none =>
    rw [List.findIdx?_eq_none_iff] at h
    rw [decide_eq_false (by decide)]
    exact (List.any_eq_false.2 fun x hx => by rw [h x hx]; decide).symm
  | some i =>
    rw [List.findIdx?_eq_some_iff_getElem] at h
    obtain ⟨hi, h, _⟩ := h
    rw [decide_eq_true (by show (0 : Int) ≤ (i : Int); omega)]
    exact (List.any_eq_true.2 ⟨l[i], List.getElem_mem hi, h⟩).symm
theorem any_take {α : Type} {pr : α → Bool} {l : List α} {k : Nat} (hk : k < l.length) (h : pr l[k] = false) (hn : (l.take k).any pr = false) : (l.take (k + 1)).any pr = false := by
 rw [List.take_succ_eq_append_getElem hk, List.any_append, hn, List.any_cons, h]
 rfl
set_option maxHeartbeats 1000000 in
theorem IdxItm_any (g : Nat) (lb : Array Value) (eg : ∀ args w, (callFunc g args).run Tryz.prog w = .ok (.enter g args) w) (pr : Itm → Bool) (a : Option Addr) (c : Nat) (l : List Itm) (w : World) (hl : l.length ≤ 16777216) (hs : Sl EItm w (· < w.heap.size) a l)
  (hq : ∀ x ∈ l, ItmIn x → ∀ W, Ext w W → Calls Tryz.prog g (#[.agg #[.int .i64 x.p.fam, .int .u64 (x.p.rd : Int), .string ⟨x.p.addr.toArray⟩, .int .i64 x.p.len, .int .i64 x.low, .int .i64 x.high]] ++ lb) W fun e w' => e = .returned (.bool (pr x)) ∧ Ext W w') :
  Calls Tryz.prog 143 #[.slice a l.length c, .func (.func g) #[] lb] w fun e w' => e = .returned (.int .i64 (idxT pr l)) ∧ Ext w w' := by
 replace hs := hide hs
 replace hq := hide hq
 go_enter Tryz.func143, Tryz.ntmps143
 go_wp2
 go_loopw [8] (fun i wr => ∃ k : Nat, k ≤ l.length ∧ i = .int .i64 k ∧ Ext w wr ∧ (l.take k).any pr = false) (fun i _ => l.length - (intOf i).toNat)
 case atStart => exact ⟨0, Nat.zero_le _, rfl, Ext.refl _, rfl⟩
 case round =>
  obtain ⟨k, hk, rfl, he, ha⟩ := hrel
  replace ha := hide ha
  replace he := hide he
  by_cases hlt : k < l.length
  ·obtain ⟨b, off, rfl, _, hin, hc⟩ := EItm.at (hs.out.ext he.out) k hlt
   have x0 : wr.cell? ⟨b, off + k * 6, none⟩ = some (.int .i64 l[k].p.fam) := hc 0 _ rfl
   have x1 : wr.cell? ⟨b, off + k * 6 + 1, none⟩ = some (.int .u64 (l[k].p.rd : Int)) := hc 1 _ rfl
   have x2 : wr.cell? ⟨b, off + k * 6 + 2, none⟩ = some (.string ⟨l[k].p.addr.toArray⟩) := hc 2 _ rfl
   have x3 : wr.cell? ⟨b, off + k * 6 + 3, none⟩ = some (.int .i64 l[k].p.len) := hc 3 _ rfl
   have x4 : wr.cell? ⟨b, off + k * 6 + 4, none⟩ = some (.int .i64 l[k].low) := hc 4 _ rfl
   have x5 : wr.cell? ⟨b, off + k * 6 + 5, none⟩ = some (.int .i64 l[k].high) := hc 5 _ rfl
   have q := hq.out l[k] (List.getElem_mem hlt) hin wr he.out
   have hyes := fun h => idxT_at (pr := pr) hlt h ha.out
   have hno := fun h => any_take (pr := pr) hlt h ha.out
   clear hc hin
   generalize pr l[k] = r at q hyes hno
   generalize l[k] = x at *
   obtain ⟨⟨f, rd, ad, ln⟩, lo, hi⟩ := x
   dsimp only at x0 x1 x2 x3 x4 x5 q
   replace q := hide q
   replace hyes := hide hyes
   replace hno := hide hno
   go_wp2_with (go_at_fn g; refine q.out.mono ?_; rintro e W1 ⟨rfl, he1⟩; replace he1 := hide (he.out.trans he1); cases r)
   case roundEnd =>
    go_roundw
    case rel => exact ⟨k + 1, by omega, by go_num, he1.out, hno.out (by trivial)⟩
    case measure => simp [intOf]; omega
   all_goals
    go_ret
    exact ⟨ret_int (hyes.out (by trivial)).symm, he1.out⟩
  ·have hend : idxT pr l = -1 := idxT_none (by
    obtain rfl : k = l.length := by omega
    have := ha.out
    rwa [List.take_length] at this)
   replace hend := hide hend
   go_wp2
   go_ret
   exact ⟨ret_int hend.out.symm, he.out⟩
set_option maxHeartbeats 1000000 in
theorem HasItm_any (g : Nat) (lb : Array Value) (eg : ∀ args w, (callFunc g args).run Tryz.prog w = .ok (.enter g args) w) (pr : Itm → Bool) (a : Option Addr) (c : Nat) (l : List Itm) (w : World) (hl : l.length ≤ 16777216) (hs : Sl EItm w (· < w.heap.size) a l)
  (hq : ∀ x ∈ l, ItmIn x → ∀ W, Ext w W → Calls Tryz.prog g (#[.agg #[.int .i64 x.p.fam, .int .u64 (x.p.rd : Int), .string ⟨x.p.addr.toArray⟩, .int .i64 x.p.len, .int .i64 x.low, .int .i64 x.high]] ++ lb) W fun e w' => e = .returned (.bool (pr x)) ∧ Ext W w') :
  Calls Tryz.prog 114 #[.slice a l.length c, .func (.func g) #[] lb] w fun e w' => e = .returned (.bool (l.any pr)) ∧ Ext w w' := by
 have q := IdxItm_any g lb eg pr a c l w hl hs hq
 have hd := idxT_any pr l
 generalize idxT pr l = r at q hd
 generalize l.any pr = y at hd ⊢
 clear hs hq
 replace q := hide q
 go_enter Tryz.func114, Tryz.ntmps114
 go_wp2_with fail
 refine q.out.mono ?_
 rintro e W1 ⟨rfl, he⟩
 replace he := hide he
 go_wp2
 go_ret
 exact ⟨rfl, he.out⟩
open Go.RowKit Go.Sort
set_option maxRecDepth 20000 in
set_option maxHeartbeats 1000000 in
theorem Item_any (x : Itm) (hx : x.p.addr.length ≤ 1048576) (w : World) :
  Calls Tryz.prog 116 #[.agg #[.int .i64 x.p.fam, .int .u64 (x.p.rd : Int), .string ⟨x.p.addr.toArray⟩, .int .i64 x.p.len, .int .i64 x.low, .int .i64 x.high]] w fun e w' => e = .returned (.bool (decide (itmOk x))) ∧ Ext w w' := by
 have mixed : Tryz.prog.follows Departure.mixedOrders = true := by kernel_rfl
 have qck := fun W => ACheck_any x.p W hx
 have qsz := fun W => ASize_any x.p.fam W
 have hcs : (errP (MayP x.p) = 2 ∧ decide (itmOk x) = false) ∨ (errP (MayP x.p) = 0 ∧ decide (x.p.len ≤ x.low) = false ∧ decide (itmOk x) = false) ∨ (errP (MayP x.p) = 0 ∧ decide (x.p.len ≤ x.low) = true ∧ decide (x.low ≤ x.high) = false ∧ decide (itmOk x) = false) ∨
   (errP (MayP x.p) = 0 ∧ decide (x.p.len ≤ x.low) = true ∧ decide (x.low ≤ x.high) = true ∧ decide (x.high ≤ 8 * sizeS x.p.fam) = decide (itmOk x)) := by
  rcases errP_cases x.p with ⟨h, he⟩ | ⟨h, he⟩
  ·by_cases h1 : x.p.len ≤ x.low
   ·by_cases h2 : x.low ≤ x.high
    ·exact .inr (.inr (.inr ⟨he, decide_eq_true h1, decide_eq_true h2, decide_eq_decide.2 ⟨fun h3 => ⟨h, h1, h2, h3⟩, fun h3 => h3.2.2.2⟩⟩))
    ·exact .inr (.inr (.inl ⟨he, decide_eq_true h1, decide_eq_false h2, decide_eq_false fun h3 => h2 h3.2.2.1⟩))
   ·exact .inr (.inl ⟨he, decide_eq_false h1, decide_eq_false fun h3 => h1 h3.2.1⟩)
  ·exact .inl ⟨he, decide_eq_false fun h3 => h h3.1⟩
 have hz : 0 ≤ sizeS x.p.fam ∧ sizeS x.p.fam ≤ 16 := by rcases sizeS_cases x.p.fam with h | h | h <;> omega
 obtain ⟨⟨f, rd, ad, ln⟩, lo, hi⟩ := x
 simp only [valP] at qck
 dsimp only at *
 generalize decide (itmOk ⟨⟨f, rd, ad, ln⟩, lo, hi⟩) = r at hcs ⊢
 generalize errP (MayP ⟨f, rd, ad, ln⟩) = ec at qck hcs
 generalize sizeS f = sz at qsz hcs hz
 obtain ⟨hz1, hz2⟩ := hz
 replace qck := hide qck
 replace qsz := hide qsz
 go_enter Tryz.func116, Tryz.ntmps116
 have S := Blk.new w 72 #[.int .i64 f, .int .u64 (rd : Int), .string ⟨ad.toArray⟩, .int .i64 ln, .int .i64 lo, .int .i64 hi]
 have E := (Ext.refl w).alloc (Obj.cells #[.int .i64 f, .int .u64 (rd : Int), .string ⟨ad.toArray⟩, .int .i64 ln, .int .i64 lo, .int .i64 hi] 72)
 generalize hW0 : w.alloc (Obj.cells #[.int .i64 f, .int .u64 (rd : Int), .string ⟨ad.toArray⟩, .int .i64 ln, .int .i64 lo, .int .i64 hi] 72) = W0 at S E
 generalize hg0 : w.heap.size = g0 at S
 replace S := hide S
 replace E := hide E
 go_upto_region 1 with fail
 clear hW0 hg0
 rcases hcs with ⟨rfl, rfl⟩ | ⟨rfl, e2, rfl⟩ | ⟨rfl, e2, e3, rfl⟩ | ⟨rfl, e2, e3, e4⟩
 ·
  have S_0 : ∀ d os, (grow (redrawn W0 d) os).cell? ⟨g0, 0, none⟩ = some (.int .i64 f) := cell_regrown (S.out.cell 0)
  have S_1 : ∀ d os, (grow (redrawn W0 d) os).cell? ⟨g0, 1, none⟩ = some (.int .u64 (rd : Int)) := cell_regrown (S.out.cell 1)
  have S_2 : ∀ d os, (grow (redrawn W0 d) os).cell? ⟨g0, 2, none⟩ = some (.string ⟨ad.toArray⟩) := cell_regrown (S.out.cell 2)
  have S_3 : ∀ d os, (grow (redrawn W0 d) os).cell? ⟨g0, 3, none⟩ = some (.int .i64 ln) := cell_regrown (S.out.cell 3)
  have S_4 : ∀ d os, (grow (redrawn W0 d) os).cell? ⟨g0, 4, none⟩ = some (.int .i64 lo) := cell_regrown (S.out.cell 4)
  have S_5 : ∀ d os, (grow (redrawn W0 d) os).cell? ⟨g0, 5, none⟩ = some (.int .i64 hi) := cell_regrown (S.out.cell 5)
  have cq0 := Calls.regr qck.out W0
  have cq1 := Calls.regrS qsz.out W0
  refine wp_region_quiet_below (by assumption) (by kernel_rfl) ?_
  repeat (go_big_quiet_step (first | (with_reducible exact cq0 _ _) | (with_reducible exact cq1 _ _)))
  refine wpQuiet_nil ?_
  intro _ hw_
  obtain ⟨⟨dq_, osq_⟩, hw_'⟩ := hw_
  subst hw_'
  replace E := hide (E.out.trans (below_regrown _ dq_ osq_))
  replace S := hide (S.out.ext (below_regrown _ dq_ osq_))
  clear S_0 S_1 S_2 S_3 S_4 S_5
  clear cq0 cq1
  generalize grow (redrawn W0 dq_) osq_ = W1 at E S ⊢
  have S_0 : W1.cell? ⟨g0, 0, none⟩ = some (.int .i64 f) := S.out.cell 0
  have S_1 : W1.cell? ⟨g0, 1, none⟩ = some (.int .u64 (rd : Int)) := S.out.cell 1
  have S_2 : W1.cell? ⟨g0, 2, none⟩ = some (.string ⟨ad.toArray⟩) := S.out.cell 2
  have S_3 : W1.cell? ⟨g0, 3, none⟩ = some (.int .i64 ln) := S.out.cell 3
  have S_4 : W1.cell? ⟨g0, 4, none⟩ = some (.int .i64 lo) := S.out.cell 4
  have S_5 : W1.cell? ⟨g0, 5, none⟩ = some (.int .i64 hi) := S.out.cell 5
  go_wp2
  go_ret
  exact ⟨rfl, E.out⟩
 ·
  have S_0 : ∀ d os, (grow (redrawn W0 d) os).cell? ⟨g0, 0, none⟩ = some (.int .i64 f) := cell_regrown (S.out.cell 0)
  have S_1 : ∀ d os, (grow (redrawn W0 d) os).cell? ⟨g0, 1, none⟩ = some (.int .u64 (rd : Int)) := cell_regrown (S.out.cell 1)
  have S_2 : ∀ d os, (grow (redrawn W0 d) os).cell? ⟨g0, 2, none⟩ = some (.string ⟨ad.toArray⟩) := cell_regrown (S.out.cell 2)
  have S_3 : ∀ d os, (grow (redrawn W0 d) os).cell? ⟨g0, 3, none⟩ = some (.int .i64 ln) := cell_regrown (S.out.cell 3)
  have S_4 : ∀ d os, (grow (redrawn W0 d) os).cell? ⟨g0, 4, none⟩ = some (.int .i64 lo) := cell_regrown (S.out.cell 4)
  have S_5 : ∀ d os, (grow (redrawn W0 d) os).cell? ⟨g0, 5, none⟩ = some (.int .i64 hi) := cell_regrown (S.out.cell 5)
  have cq0 := Calls.regr qck.out W0
  have cq1 := Calls.regrS qsz.out W0
  refine wp_region_quiet_below (by assumption) (by kernel_rfl) ?_
  repeat (go_big_quiet_step (first | (with_reducible exact cq0 _ _) | (with_reducible exact cq1 _ _)))
  refine wpQuiet_nil ?_
  intro _ hw_
  obtain ⟨⟨dq_, osq_⟩, hw_'⟩ := hw_
  subst hw_'
  replace E := hide (E.out.trans (below_regrown _ dq_ osq_))
  replace S := hide (S.out.ext (below_regrown _ dq_ osq_))
  clear S_0 S_1 S_2 S_3 S_4 S_5
  clear cq0 cq1
  generalize grow (redrawn W0 dq_) osq_ = W1 at E S ⊢
  have S_0 : W1.cell? ⟨g0, 0, none⟩ = some (.int .i64 f) := S.out.cell 0
  have S_1 : W1.cell? ⟨g0, 1, none⟩ = some (.int .u64 (rd : Int)) := S.out.cell 1
  have S_2 : W1.cell? ⟨g0, 2, none⟩ = some (.string ⟨ad.toArray⟩) := S.out.cell 2
  have S_3 : W1.cell? ⟨g0, 3, none⟩ = some (.int .i64 ln) := S.out.cell 3
  have S_4 : W1.cell? ⟨g0, 4, none⟩ = some (.int .i64 lo) := S.out.cell 4
  have S_5 : W1.cell? ⟨g0, 5, none⟩ = some (.int .i64 hi) := S.out.cell 5
  go_wp2
  go_ret
  exact ⟨rfl, E.out⟩
 ·
  have S_0 : ∀ d os, (grow (redrawn W0 d) os).cell? ⟨g0, 0, none⟩ = some (.int .i64 f) := cell_regrown (S.out.cell 0)
  have S_1 : ∀ d os, (grow (redrawn W0 d) os).cell? ⟨g0, 1, none⟩ = some (.int .u64 (rd : Int)) := cell_regrown (S.out.cell 1)
  have S_2 : ∀ d os, (grow (redrawn W0 d) os).cell? ⟨g0, 2, none⟩ = some (.string ⟨ad.toArray⟩) := cell_regrown (S.out.cell 2)
  have S_3 : ∀ d os, (grow (redrawn W0 d) os).cell? ⟨g0, 3, none⟩ = some (.int .i64 ln) := cell_regrown (S.out.cell 3)
  have S_4 : ∀ d os, (grow (redrawn W0 d) os).cell? ⟨g0, 4, none⟩ = some (.int .i64 lo) := cell_regrown (S.out.cell 4)
  have S_5 : ∀ d os, (grow (redrawn W0 d) os).cell? ⟨g0, 5, none⟩ = some (.int .i64 hi) := cell_regrown (S.out.cell 5)
  have cq0 := Calls.regr qck.out W0
  have cq1 := Calls.regrS qsz.out W0
  refine wp_region_quiet_below (by assumption) (by kernel_rfl) ?_
  repeat (go_big_quiet_step (first | (with_reducible exact cq0 _ _) | (with_reducible exact cq1 _ _)))
  refine wpQuiet_nil ?_
  intro _ hw_
  obtain ⟨⟨dq_, osq_⟩, hw_'⟩ := hw_
  subst hw_'
  replace E := hide (E.out.trans (below_regrown _ dq_ osq_))
  replace S := hide (S.out.ext (below_regrown _ dq_ osq_))
  clear S_0 S_1 S_2 S_3 S_4 S_5
  clear cq0 cq1
  generalize grow (redrawn W0 dq_) osq_ = W1 at E S ⊢
  have S_0 : W1.cell? ⟨g0, 0, none⟩ = some (.int .i64 f) := S.out.cell 0
  have S_1 : W1.cell? ⟨g0, 1, none⟩ = some (.int .u64 (rd : Int)) := S.out.cell 1
  have S_2 : W1.cell? ⟨g0, 2, none⟩ = some (.string ⟨ad.toArray⟩) := S.out.cell 2
  have S_3 : W1.cell? ⟨g0, 3, none⟩ = some (.int .i64 ln) := S.out.cell 3
  have S_4 : W1.cell? ⟨g0, 4, none⟩ = some (.int .i64 lo) := S.out.cell 4
  have S_5 : W1.cell? ⟨g0, 5, none⟩ = some (.int .i64 hi) := S.out.cell 5
  go_wp2
  go_ret
  exact ⟨rfl, E.out⟩
 ·
  have e5 : decide (hi ≤ 8 * sz) = r := e4
  have S_0 : ∀ d os, (grow (redrawn W0 d) os).cell? ⟨g0, 0, none⟩ = some (.int .i64 f) := cell_regrown (S.out.cell 0)
  have S_1 : ∀ d os, (grow (redrawn W0 d) os).cell? ⟨g0, 1, none⟩ = some (.int .u64 (rd : Int)) := cell_regrown (S.out.cell 1)
  have S_2 : ∀ d os, (grow (redrawn W0 d) os).cell? ⟨g0, 2, none⟩ = some (.string ⟨ad.toArray⟩) := cell_regrown (S.out.cell 2)
  have S_3 : ∀ d os, (grow (redrawn W0 d) os).cell? ⟨g0, 3, none⟩ = some (.int .i64 ln) := cell_regrown (S.out.cell 3)
  have S_4 : ∀ d os, (grow (redrawn W0 d) os).cell? ⟨g0, 4, none⟩ = some (.int .i64 lo) := cell_regrown (S.out.cell 4)
  have S_5 : ∀ d os, (grow (redrawn W0 d) os).cell? ⟨g0, 5, none⟩ = some (.int .i64 hi) := cell_regrown (S.out.cell 5)
  have cq0 := Calls.regr qck.out W0
  have cq1 := Calls.regrS qsz.out W0
  refine wp_region_quiet_below (by assumption) (by kernel_rfl) ?_
  repeat (go_big_quiet_step (first | (with_reducible exact cq0 _ _) | (with_reducible exact cq1 _ _)))
  refine wpQuiet_nil ?_
  intro _ hw_
  obtain ⟨⟨dq_, osq_⟩, hw_'⟩ := hw_
  subst hw_'
  replace E := hide (E.out.trans (below_regrown _ dq_ osq_))
  replace S := hide (S.out.ext (below_regrown _ dq_ osq_))
  clear S_0 S_1 S_2 S_3 S_4 S_5
  clear cq0 cq1
  generalize grow (redrawn W0 dq_) osq_ = W1 at E S ⊢
  have S_0 : W1.cell? ⟨g0, 0, none⟩ = some (.int .i64 f) := S.out.cell 0
  have S_1 : W1.cell? ⟨g0, 1, none⟩ = some (.int .u64 (rd : Int)) := S.out.cell 1
  have S_2 : W1.cell? ⟨g0, 2, none⟩ = some (.string ⟨ad.toArray⟩) := S.out.cell 2
  have S_3 : W1.cell? ⟨g0, 3, none⟩ = some (.int .i64 ln) := S.out.cell 3
  have S_4 : W1.cell? ⟨g0, 4, none⟩ = some (.int .i64 lo) := S.out.cell 4
  have S_5 : W1.cell? ⟨g0, 5, none⟩ = some (.int .i64 hi) := S.out.cell 5
  go_wp2
  go_ret
  exact ⟨rfl, E.out⟩
open Go.RowKit Go.Sort
def runeZ (z : Int) : Bool := (decide (97 ≤ z) && decide (z ≤ 122)) || ((decide (48 ≤ z) && decide (z ≤ 57)) || decide (z = 45))
theorem runeZ_nat (x : Nat) : runeZ (x : Int) = runeOk x := by
 unfold runeZ runeOk
 rw [show decide ((97 : Int) ≤ (x : Int)) = decide (97 ≤ x) from decide_eq_decide.2 (by omega), show decide ((x : Int) ≤ 122) = decide (x ≤ 122) from decide_eq_decide.2 (by omega), show decide ((48 : Int) ≤ (x : Int)) = decide (48 ≤ x) from decide_eq_decide.2 (by omega), show decide ((x : Int) ≤ 57) = decide (x ≤ 57) from decide_eq_decide.2 (by omega), show decide ((x : Int) = 45) = decide (x = 45) from decide_eq_decide.2 (by omega)]
theorem rune_cases (z : Int) : ∃ b1 b2 b3 b4 b5 r : Bool, decide (z < 97) = b1 ∧ decide (122 < z) = b2 ∧ decide (z < 48) = b3 ∧ decide (57 < z) = b4 ∧ (z != 45) = b5 ∧ (!runeZ z) = r ∧ (((b1 || b2) && ((b3 || b4) && b5)) = r) := by
 refine ⟨_, _, _, _, _, _, rfl, rfl, rfl, rfl, rfl, rfl, ?_⟩
 unfold runeZ
 rw [show decide (97 ≤ z) = !decide (z < 97) by rw [Bool.eq_iff_iff]; simp, show decide (z ≤ 122) = !decide (122 < z) by rw [Bool.eq_iff_iff]; simp, show decide (48 ≤ z) = !decide (z < 48) by rw [Bool.eq_iff_iff]; simp, show decide (z ≤ 57) = !decide (57 < z) by rw [Bool.eq_iff_iff]; simp, show (z != 45) = !decide (z = 45) from rfl]
 generalize decide (z < 97) = a
 generalize decide (122 < z) = b
 generalize decide (z < 48) = c
 generalize decide (57 < z) = d
 generalize decide (z = 45) = e
 revert a b c d e
 decide
set_option maxHeartbeats 1000000 in
theorem Named1_any (z : Int) (w : World) : Calls Tryz.prog 142 #[.int .i32 z] w fun e w' => e = .returned (.bool (!runeZ z)) ∧ w' = w := by
 obtain ⟨b1, b2, b3, b4, b5, r, e1, e2, e3, e4, e5, e6, e7⟩ := rune_cases z
 rw [e6]
 clear e6
 go_enter Tryz.func142, Tryz.ntmps142
 cases b1 <;> cases b2 <;> cases b3 <;> cases b4 <;> subst e7 <;> (go_wp2; go_ret; exact ⟨rfl, rfl⟩)
theorem ba_index0 (s : List UInt8) (x : UInt8) (t : List UInt8) (hs : s = x :: t) (W : World) : (Instr.index 9 (.string ⟨s.toArray⟩) (.int .i64 0)).run Tryz.prog W = .ok (.int .u8 (x.toNat : Int)) W := by
 subst hs
 have h2 : 0 < (ByteArray.mk (x :: t).toArray).size := by simp [ByteArray.size]
 go_simp
 rfl
theorem name_cases (s : List UInt8) : (s = [] ∧ nameOk s = false) ∨ ∃ x t, s = x :: t ∧ ((16 < s.length ∧ nameOk s = false) ∨ (s.length ≤ 16 ∧ s.all nameCh = false ∧ nameOk s = false) ∨ (s.length ≤ 16 ∧ s.all nameCh = true ∧ decide (97 ≤ x.toNat) = nameOk s)) := by
  cases s with
  | nil => exact .inl ⟨rfl, by decide⟩
  | cons x t =>
    refine .inr ⟨x, t, rfl, ?_⟩
    unfold nameOk
    rw [decide_eq_true (p := 1 ≤ (x :: t).length) (by simp), Bool.true_and]
    by_cases h : 16 < (x :: t).length
    · exact .inl ⟨h, by rw [decide_eq_false (by omega), Bool.false_and]⟩
    · rw [decide_eq_true (p := (x :: t).length ≤ 16) (by omega), Bool.true_and]
      cases ha : (x :: t).all nameCh with
      | false => exact .inr (.inl ⟨by omega, rfl, by rw [Bool.and_false]⟩)
      | true => exact .inr (.inr ⟨by omega, rfl, by rw [Bool.and_true]; rfl⟩)
set_option maxRecDepth 20000 in
set_option maxHeartbeats 1000000 in
theorem Named_any (s : List UInt8) (w : World) : Calls Tryz.prog 113 #[.string ⟨s.toArray⟩] w fun e w' => e = .returned (.bool (nameOk s)) ∧ Ext w w' := by
 have mixed : Tryz.prog.follows Departure.mixedOrders = true := by kernel_rfl
 have q : ∀ W, Calls Tryz.prog 141 #[.string ⟨s.toArray⟩, .func (.func 142) #[] #[]] W fun e w' => e = .returned (.int .i64 (Lib.idxFunc (fun x => !runeOk x) true ⟨s.toArray⟩)) ∧ Ext W w' := fun W =>
  Tryz.strings_IndexFunc_runes 142 #[] (fun _ _ => rfl) (fun x => !runeOk x) ⟨s.toArray⟩ W fun W' x hx hb => by
   refine (Named1_any (x : Int) W').mono ?_
   rintro e w' ⟨rfl, rfl⟩
   exact ⟨by rw [runeZ_nat], 0, rfl⟩
 have hi := name_idx s
 have hcs := name_cases s
 generalize Lib.idxFunc (fun x => !runeOk x) true ⟨s.toArray⟩ = z at q hi
 generalize nameOk s = r at hcs ⊢
 replace q := hide q
 go_enter Tryz.func113, Tryz.ntmps113
 go_wp2_with fail
 refine (q.out _).mono ?_
 rintro e W1 ⟨rfl, he⟩
 replace he := hide he
 rcases hcs with ⟨rfl, rfl⟩ | ⟨x, t, hs, hcs⟩
 ·go_wp2
  go_ret
  exact ⟨rfl, he.out⟩
 ·have e0 : ¬ s = [] := by rw [hs]; simp
  have hie := hide (show s.isEmpty = false by rw [hs]; rfl)
  have hix := ba_index0 s x t hs
  have hsz : (ByteArray.mk s.toArray).size = s.length := by simp [ByteArray.size]
  clear hs
  rcases hcs with ⟨h1, rfl⟩ | ⟨h1, h2, rfl⟩ | ⟨h1, h2, h3⟩
  ·clear hi
   have e1 : decide ((s.length : Int) ≤ 16) = false := decide_eq_false (by omega)
   clear h1
   go_wp2
   go_ret
   exact ⟨rfl, he.out⟩
  ·have e2 : decide (z < 0) = false := decide_eq_false (fun h => by rw [hi.1 h] at h2; cases h2)
   clear hi h2
   have e1 : decide ((s.length : Int) ≤ 16) = true := decide_eq_true (by omega)
   clear h1
   go_wp2
   go_ret
   exact ⟨rfl, he.out⟩
  ·have e2 : decide (z < 0) = true := decide_eq_true (hi.2 h2)
   clear hi h2
   have e1 : decide ((s.length : Int) ≤ 16) = true := decide_eq_true (by omega)
   have e3 : decide ((97 : Int) ≤ (x.toNat : Int)) = r := by rw [← h3]; exact decide_eq_decide.2 (by omega)
   clear h3 h1
   go_wp2
   go_ret
   exact ⟨ret_bool (by rw [hie.out]; rfl), he.out⟩
open Go.RowKit Go.Sort
set_option maxHeartbeats 1000000 in
theorem IsNaNU32_any (x : Int) (w : World) : Calls Tryz.prog 173 #[.int .u32 x] w fun e w' => e = .returned (.bool false) ∧ w' = w := by
 go_enter Tryz.func173, Tryz.ntmps173
 go_wp2
 go_ret
 exact ⟨rfl, rfl⟩
set_option maxHeartbeats 1000000 in
theorem CmpU32_any (x y : Int) (w : World) : Calls Tryz.prog 147 #[.int .u32 x, .int .u32 y] w fun e w' => e = .returned (.int .i64 (Lib.compareInt x y)) ∧ w' = w := by
 have q := IsNaNU32_any
 rcases ci_cases x y with ⟨h, hxy⟩ | ⟨h, hxy⟩ | ⟨h, hxy⟩
 ·have e1 : decide (x < y) = true := decide_eq_true hxy
  rw [h]
  clear h hxy
  replace q := hide q
  go_enter Tryz.func147, Tryz.ntmps147
  go_wp2_with (go_at_call 173; refine (q.out _ _).mono ?_; rintro e w' ⟨rfl, rfl⟩)
  go_ret
  exact ⟨rfl, rfl⟩
 ·have e1 : decide (x < y) = false := decide_eq_false (by omega)
  have e2 : decide (y < x) = false := decide_eq_false (by omega)
  rw [h]
  clear h hxy
  replace q := hide q
  go_enter Tryz.func147, Tryz.ntmps147
  go_wp2_with (go_at_call 173; refine (q.out _ _).mono ?_; rintro e w' ⟨rfl, rfl⟩)
  go_ret
  exact ⟨rfl, rfl⟩
 ·have e1 : decide (x < y) = false := decide_eq_false (by omega)
  have e2 : decide (y < x) = true := decide_eq_true hxy
  rw [h]
  clear h hxy
  replace q := hide q
  go_enter Tryz.func147, Tryz.ntmps147
  go_wp2_with (go_at_call 173; refine (q.out _ _).mono ?_; rintro e w' ⟨rfl, rfl⟩)
  go_ret
  exact ⟨rfl, rfl⟩
theorem put_size (s : ByteArray) (n v : Nat) : (put s n v).size = s.size + n := by
 show ((s.data.toList ++ be n v).toArray).size = s.data.size + n
 rw [List.size_toArray, List.length_append, be_length, Array.length_toList]
set_option maxRecDepth 20000 in
set_option maxHeartbeats 1000000 in
theorem CPut_any (a : Option Addr) (c : Nat) (l : List UInt32) (s : ByteArray) (w : World) (hl : l.length ≤ 64) (hs : s.size ≤ 1048576) (hsl : Sl EU32 w (· < w.heap.size) a l) :
  Calls Tryz.prog 149 #[.string s, .slice a l.length c] w fun e w' => (∃ t : ByteArray, e = .returned (.string t) ∧ t.size = s.size + 4 * l.length) ∧ Ext w w' := by
 replace hsl := hide hsl
 go_enter Tryz.func149, Tryz.ntmps149
 go_wp2
 go_loopw [0, 9] (fun u i wr => ∃ (k : Nat) (t : ByteArray), k ≤ l.length ∧ i = .int .i64 k ∧ u = .string t ∧ t.size = s.size + 4 * k ∧ Ext w wr) (fun _ i _ => l.length - (intOf i).toNat)
 case atStart => exact ⟨0, s, Nat.zero_le _, rfl, rfl, by omega, Ext.refl _⟩
 case round =>
  obtain ⟨k, t, hk, rfl, rfl, ht, he⟩ := hrel
  replace he := hide he
  by_cases hlt : k < l.length
  ·obtain ⟨b, off, rfl, _, x0⟩ := EU32.at (hsl.out.ext he.out) k hlt
   have hx := l[k].toNat_lt
   have hw : IntKind.u64.wrap (l[k].toNat : Int) = (l[k].toNat : Int) := by rw [IntKind.wrap_u64]; omega
   have q := fun W => WPut_any t l[k].toNat 4 W (by omega) (by omega) (by omega) (by omega) (by omega)
   rw [← hw] at q
   clear hx hw
   generalize l[k].toNat = v at x0 q
   have hps := put_size t 4 v
   generalize put t 4 v = t2 at q hps
   replace q := hide q
   replace hps := hide hps
   replace ht := hide ht
   go_wp2_with fail
   refine (q.out _).mono ?_
   rintro e W1 ⟨rfl, he1⟩
   replace he1 := hide (he.out.trans he1)
   go_wp2
   go_roundw
   case rel => exact ⟨k + 1, t2, by omega, by go_num, rfl, by have := hps.out; have := ht.out; omega, he1.out⟩
   case measure => simp [intOf]; omega
  ·obtain rfl : k = l.length := by omega
   replace ht := hide ht
   go_wp2
   go_ret
   exact ⟨⟨t, rfl, ht.out⟩, he.out⟩
open Go.RowKit Go.Sort
theorem risU_iff : ∀ l : List UInt32, risU l = true ↔ ∀ i (h : i + 1 < l.length), l[i].toNat < l[i + 1].toNat
  | [] => by
    constructor
    · intro _ i h; simp at h
    · intro _; rfl
  | [x] => by
    constructor
    · intro _ i h; simp at h
    · intro _; rfl
  | x :: y :: r => by
    show (decide (x.toNat < y.toNat) && risU (y :: r)) = true ↔ _
    rw [Bool.and_eq_true, decide_eq_true_eq, risU_iff (y :: r)]
    constructor
    · rintro ⟨h1, h2⟩ i h
      cases i with
      | zero => exact h1
      | succ i => exact h2 i (by simpa using h)
    · intro h
      exact ⟨h 0 (by simp), fun i hi => h (i + 1) (by simpa using hi)⟩
theorem risU_bad {l : List UInt32} {k : Nat} (hk : k + 1 < l.length) (h : ¬ l[k].toNat < l[k + 1].toNat) : commsOk l = false := by
 unfold commsOk
 rw [Bool.and_eq_false_iff]
 refine .inl ?_
 rw [Bool.eq_false_iff]
 intro hr
 exact h ((risU_iff l).1 hr k hk)
set_option maxRecDepth 20000 in
set_option maxHeartbeats 1000000 in
theorem Enc1_any (s : ByteArray) (x : UInt32) (w : World) (hs : s.size ≤ 1048576) :
    Calls Tryz.prog 148 #[.string s, .int .u32 (x.toNat : Int)] w fun e w' => (∃ t : ByteArray, e = .returned (.string t) ∧ t.size = s.size + 4) ∧ Ext w w' := by
  have q := CPut_any (some ⟨w.heap.size, 0, none⟩) 1 [x] s (w.alloc (Obj.cells #[.int .u32 (x.toNat : Int)] 49)) (by simp) hs (by
    refine .inr ⟨w.heap.size, 0, rfl, by simp, fun k y hy => ?_⟩
    match k, hy with
    | 0, hy =>
      cases hy
      refine ⟨[.int .u32 (x.toNat : Int)], ⟨rfl, trivial⟩, fun j u hu => ?_⟩
      match j, hu with
      | 0, hu => cases hu; exact (Blk.new w 49 #[.int .u32 (x.toNat : Int)]).cell 0)
  have hE := (Ext.refl w).alloc (Obj.cells #[.int .u32 (x.toNat : Int)] 49)
  replace q := hide q
  replace hE := hide hE
  go_enter Tryz.func148, Tryz.ntmps148
  go_wp2_with fail
  refine q.out.mono ?_
  rintro e W1 ⟨⟨t, rfl, ht⟩, he⟩
  replace ht := hide ht
  replace he := hide (hE.out.trans he)
  go_wp2
  go_ret
  exact ⟨⟨t, rfl, ht.out⟩, he.out⟩
set_option maxRecDepth 20000 in
set_option maxHeartbeats 2000000 in
theorem Lay_any (a : Option Addr) (c : Nat) (l : List UInt32) (w : World) (hl : l.length ≤ 16777216) (hsl : Sl EU32 w (· < w.heap.size) a l) :
  Calls Tryz.prog 146 #[.slice a l.length c, .func (.func 147) #[] #[], .func (.func 148) #[] #[]] w fun e w' => (∃ t : ByteArray, e = .returned (.tuple #[.string t, .int .i64 (errOf (commsOk l))])) ∧ Ext w w' := by
 replace hsl := hide hsl
 by_cases h64 : 64 < l.length
 ·have hc : errOf (commsOk l) = 2 := by
   have : commsOk l = false := by unfold commsOk; rw [decide_eq_false (by omega), Bool.and_false]
   rw [this]; rfl
  replace hc := hide hc
  go_enter Tryz.func146, Tryz.ntmps146
  go_wp2
  go_ret2
  exact ⟨⟨⟨#[]⟩, by rw [hc.out]; rfl⟩, Ext.refl _⟩
 ·go_enter Tryz.func146, Tryz.ntmps146
  go_wp2
  go_loopw [8, 16] (fun u i wr => ∃ (k : Nat) (t : ByteArray), k ≤ l.length ∧ i = .int .i64 k ∧ u = .string t ∧ t.size = 4 * k ∧ Ext w wr ∧ (∀ i (h : i + 1 < k) (hk : k ≤ l.length), l[i].toNat < l[i + 1].toNat)) (fun _ i _ => l.length - (intOf i).toNat)
  case atStart => exact ⟨0, ⟨#[]⟩, Nat.zero_le _, rfl, rfl, rfl, Ext.refl _, fun i h _ => by omega⟩
  case round =>
   obtain ⟨k, t, hk, rfl, rfl, ht, he, hris⟩ := hrel
   replace he := hide he
   replace hris := hide hris
   by_cases hlt : k < l.length
   ·have hx := EU32.at (hsl.out.ext he.out) k hlt
    have q2 := fun W => Enc1_any t l[k] W (by omega)
    rcases Nat.eq_zero_or_pos k with rfl | hpos
    ·obtain ⟨b, off, rfl, _, x0⟩ := hx
     rw [Nat.add_zero] at x0
     replace q2 := hide q2
     replace ht := hide ht
     go_wp2_with fail
     refine (q2.out _).mono ?_
     rintro e W1 ⟨⟨t2, rfl, ht2⟩, he1⟩
     replace ht2 := hide ht2
     replace he1 := hide (he.out.trans he1)
     go_wp2
     go_roundw
     case rel => exact ⟨1, t2, by omega, by go_num, rfl, by have := ht2.out; have := ht.out; omega, he1.out, fun i h _ => by omega⟩
     case measure => simp [intOf]; omega
    ·have hy := EU32.at (hsl.out.ext he.out) (k - 1) (by omega)
     obtain ⟨b, off, rfl, _, x0⟩ := hx
     obtain ⟨b', off', hbb, _, y0⟩ := hy
     injection hbb with hbb
     injection hbb with hb1 hb2 _
     subst hb1 hb2
     have hsub : ((k - 1 : Nat) : Int) = (k : Int) - 1 := by omega
     have q1 := fun W => CmpU32_any (l[k - 1].toNat : Int) (l[k].toNat : Int) W
     have hci := ci_cases (l[k - 1].toNat : Int) (l[k].toNat : Int)
     have hbad := risU_bad (l := l) (k := k - 1) (by omega)
     have hk1 : k - 1 + 1 = k := by omega
     simp only [hk1] at hbad
     generalize Lib.compareInt (l[k - 1].toNat : Int) (l[k].toNat : Int) = cz at q1 hci
     by_cases hlt2 : l[k - 1].toNat < l[k].toNat
     ·have e1 : decide (0 ≤ cz) = false := decide_eq_false (by omega)
      have hris2 : ∀ i (h : i + 1 < k + 1) (hk : k + 1 ≤ l.length), l[i].toNat < l[i + 1].toNat := fun i h hkl => by
       by_cases hi : i + 1 < k
       ·exact hris.out i hi (by omega)
       ·obtain rfl : i = k - 1 := by omega
        simp only [hk1]
        exact hlt2
      clear hci hbad
      replace q1 := hide q1
      replace q2 := hide q2
      replace ht := hide ht
      replace hris2 := hide hris2
      clear hlt2
      go_wp2_with fail
      refine (q1.out _).mono ?_
      rintro e W0 ⟨rfl, rfl⟩
      go_wp2_with fail
      refine (q2.out _).mono ?_
      rintro e W1 ⟨⟨t2, rfl, ht2⟩, he1⟩
      replace ht2 := hide ht2
      replace he1 := hide (he.out.trans he1)
      go_wp2
      go_roundw
      case rel => exact ⟨k + 1, t2, by omega, by go_num, rfl, by have := ht2.out; have := ht.out; omega, he1.out, hris2.out⟩
      case measure => simp [intOf]; omega
     ·have e1 : decide (0 ≤ cz) = true := decide_eq_true (by omega)
      have hc : errOf (commsOk l) = 2 := by rw [hbad hlt2]; rfl
      clear hci hbad hlt2
      replace q1 := hide q1
      replace q2 := hide q2
      replace ht := hide ht
      replace hc := hide hc
      go_wp2_with fail
      refine (q1.out _).mono ?_
      rintro e W0 ⟨rfl, rfl⟩
      go_wp2
      go_ret2
      exact ⟨⟨⟨#[]⟩, by rw [hc.out]; rfl⟩, he.out⟩
   ·have hc : errOf (commsOk l) = 0 := by
     obtain rfl : k = l.length := by omega
     have : commsOk l = true := by
      unfold commsOk
      rw [Bool.and_eq_true, decide_eq_true_eq, risU_iff]
      exact ⟨fun i h => hris.out i h (Nat.le_refl _), by omega⟩
     rw [this]; rfl
    replace hc := hide hc
    go_wp2
    go_ret2
    exact ⟨⟨t, by rw [hc.out]; rfl⟩, he.out⟩
open Go.RowKit Go.Sort
set_option maxHeartbeats 1000000 in
theorem Encode_any (a : Option Addr) (c : Nat) (l : List UInt32) (w : World) (hl : l.length ≤ 16777216) (hsl : Sl EU32 w (· < w.heap.size) a l) :
  Calls Tryz.prog 117 #[.slice a l.length c] w fun e w' => (∃ t : ByteArray, e = .returned (.tuple #[.string t, .int .i64 (errOf (commsOk l))])) ∧ Ext w w' := by
 have q := Lay_any a c l w hl hsl
 generalize errOf (commsOk l) = r at q ⊢
 replace q := hide q
 go_enter Tryz.func117, Tryz.ntmps117
 go_wp2_with fail
 refine q.out.mono ?_
 rintro e W1 ⟨⟨t, rfl⟩, he⟩
 replace he := hide he
 go_wp2
 go_ret2
 exact ⟨⟨t, rfl⟩, he.out⟩
set_option maxHeartbeats 1000000 in
theorem Check1_any (x : Itm) (hx : x.p.addr.length ≤ 1048576) (w : World) :
  Calls Tryz.prog 115 #[.agg #[.int .i64 x.p.fam, .int .u64 (x.p.rd : Int), .string ⟨x.p.addr.toArray⟩, .int .i64 x.p.len, .int .i64 x.low, .int .i64 x.high]] w fun e w' => e = .returned (.bool (!decide (itmOk x))) ∧ Ext w w' := by
 have q := fun W => Item_any x hx W
 obtain ⟨⟨f, rd, ad, ln⟩, lo, hi⟩ := x
 dsimp only at *
 generalize decide (itmOk ⟨⟨f, rd, ad, ln⟩, lo, hi⟩) = r at q ⊢
 replace q := hide q
 go_enter Tryz.func115, Tryz.ntmps115
 have S := Blk.new w 72 #[.int .i64 f, .int .u64 (rd : Int), .string ⟨ad.toArray⟩, .int .i64 ln, .int .i64 lo, .int .i64 hi]
 have E := (Ext.refl w).alloc (Obj.cells #[.int .i64 f, .int .u64 (rd : Int), .string ⟨ad.toArray⟩, .int .i64 ln, .int .i64 lo, .int .i64 hi] 72)
 generalize hW0 : w.alloc (Obj.cells #[.int .i64 f, .int .u64 (rd : Int), .string ⟨ad.toArray⟩, .int .i64 ln, .int .i64 lo, .int .i64 hi] 72) = W0 at S E
 generalize hg0 : w.heap.size = g0 at S
 replace S := hide S
 replace E := hide E
 have S_0 : W0.cell? ⟨g0, 0, none⟩ = some (.int .i64 f) := S.out.cell 0
 have S_1 : W0.cell? ⟨g0, 1, none⟩ = some (.int .u64 (rd : Int)) := S.out.cell 1
 have S_2 : W0.cell? ⟨g0, 2, none⟩ = some (.string ⟨ad.toArray⟩) := S.out.cell 2
 have S_3 : W0.cell? ⟨g0, 3, none⟩ = some (.int .i64 ln) := S.out.cell 3
 have S_4 : W0.cell? ⟨g0, 4, none⟩ = some (.int .i64 lo) := S.out.cell 4
 have S_5 : W0.cell? ⟨g0, 5, none⟩ = some (.int .i64 hi) := S.out.cell 5
 go_wp2_with fail
 refine (q.out _).mono ?_
 rintro e W1 ⟨rfl, he_⟩
 clear S_0 S_1 S_2 S_3 S_4 S_5
 replace E := hide (E.out.trans he_)
 clear he_
 go_wp2
 go_ret
 exact ⟨rfl, E.out⟩
set_option maxHeartbeats 1000000 in
theorem Check2_any (a : Option Addr) (c : Nat) (l : List Atm) (w : World) (hl : l.length ≤ 16777216) (hs : Sl EAtm w (· < w.heap.size) a l) :
  Calls Tryz.prog 119 #[.slice a l.length c] w fun e w' => e = .returned (.bool (!atmsOk l)) ∧ Ext w w' := by
 have q := Atoms_any a c l w hl hs
 generalize atmsOk l = r at q ⊢
 replace q := hide q
 go_enter Tryz.func119, Tryz.ntmps119
 go_wp2_with fail
 refine q.out.mono ?_
 rintro e W1 ⟨rfl, he⟩
 replace he := hide he
 go_wp2
 go_ret
 exact ⟨rfl, he.out⟩
set_option maxHeartbeats 1000000 in
theorem IdxPat_any (g : Nat) (lb : Array Value) (eg : ∀ args w, (callFunc g args).run Tryz.prog w = .ok (.enter g args) w) (pr : List Atm → Bool) (a : Option Addr) (c : Nat) (l : List (List Atm)) (w : World) (hl : l.length ≤ 16777216) (hs : Sl EAtm.slice w (· < w.heap.size) a l)
  (hq : ∀ x ∈ l, ∀ W b d, Ext w W → x.length ≤ 16777216 → Sl EAtm W (· < W.heap.size) b x → Calls Tryz.prog g (#[.slice b x.length d] ++ lb) W fun e w' => e = .returned (.bool (pr x)) ∧ Ext W w') :
  Calls Tryz.prog 150 #[.slice a l.length c, .func (.func g) #[] lb] w fun e w' => e = .returned (.int .i64 (idxT pr l)) ∧ Ext w w' := by
 replace hs := hide hs
 replace hq := hide hq
 go_enter Tryz.func150, Tryz.ntmps150
 go_wp2
 go_loopw [8] (fun i wr => ∃ k : Nat, k ≤ l.length ∧ i = .int .i64 k ∧ Ext w wr ∧ (l.take k).any pr = false) (fun i _ => l.length - (intOf i).toNat)
 case atStart => exact ⟨0, Nat.zero_le _, rfl, Ext.refl _, rfl⟩
 case round =>
  obtain ⟨k, hk, rfl, he, ha⟩ := hrel
  replace ha := hide ha
  replace he := hide he
  by_cases hlt : k < l.length
  ·obtain ⟨b, off, ak, ck, rfl, _, x0, hm, hsk⟩ := EPat.at (hs.out.ext he.out) k hlt
   have q := hq.out l[k] (List.getElem_mem hlt) wr ak ck he.out hm hsk
   have hyes := fun h => idxT_at (pr := pr) hlt h ha.out
   have hno := fun h => any_take (pr := pr) hlt h ha.out
   clear hsk hm
   generalize pr l[k] = r at q hyes hno
   generalize l[k].length = n at *
   replace q := hide q
   replace hyes := hide hyes
   replace hno := hide hno
   go_wp2_with (go_at_fn g; refine q.out.mono ?_; rintro e W1 ⟨rfl, he1⟩; replace he1 := hide (he.out.trans he1); cases r)
   case roundEnd =>
    go_roundw
    case rel => exact ⟨k + 1, by omega, by go_num, he1.out, hno.out (by trivial)⟩
    case measure => simp [intOf]; omega
   all_goals
    go_ret
    exact ⟨ret_int (hyes.out (by trivial)).symm, he1.out⟩
  ·have hend : idxT pr l = -1 := idxT_none (by
    obtain rfl : k = l.length := by omega
    have := ha.out
    rwa [List.take_length] at this)
   replace hend := hide hend
   go_wp2
   go_ret
   exact ⟨ret_int hend.out.symm, he.out⟩
set_option maxHeartbeats 1000000 in
theorem HasPat_any (g : Nat) (lb : Array Value) (eg : ∀ args w, (callFunc g args).run Tryz.prog w = .ok (.enter g args) w) (pr : List Atm → Bool) (a : Option Addr) (c : Nat) (l : List (List Atm)) (w : World) (hl : l.length ≤ 16777216) (hs : Sl EAtm.slice w (· < w.heap.size) a l)
  (hq : ∀ x ∈ l, ∀ W b d, Ext w W → x.length ≤ 16777216 → Sl EAtm W (· < W.heap.size) b x → Calls Tryz.prog g (#[.slice b x.length d] ++ lb) W fun e w' => e = .returned (.bool (pr x)) ∧ Ext W w') :
  Calls Tryz.prog 118 #[.slice a l.length c, .func (.func g) #[] lb] w fun e w' => e = .returned (.bool (l.any pr)) ∧ Ext w w' := by
 have q := IdxPat_any g lb eg pr a c l w hl hs hq
 have hd := idxT_any pr l
 generalize idxT pr l = r at q hd
 generalize l.any pr = y at hd ⊢
 clear hs hq
 replace q := hide q
 go_enter Tryz.func118, Tryz.ntmps118
 go_wp2_with fail
 refine q.out.mono ?_
 rintro e W1 ⟨rfl, he⟩
 replace he := hide he
 go_wp2
 go_ret
 exact ⟨rfl, he.out⟩
end
section
section
open Go.RowKit
set_option linter.unusedVariables false
set_option maxHeartbeats 1000000 in
theorem IsName1_any (z : Int) (w : World) : Calls Tryz.prog 111 #[.int .i32 z] w fun e w' => e = .returned (.bool (!runeZ z)) ∧ w' = w := by
 obtain ⟨b1, b2, b3, b4, b5, r, e1, e2, e3, e4, e5, e6, e7⟩ := rune_cases z
 rw [e6]
 clear e6
 go_enter Tryz.func111, Tryz.ntmps111
 cases b1 <;> cases b2 <;> cases b3 <;> cases b4 <;> subst e7 <;> (go_wp2; go_ret; exact ⟨rfl, rfl⟩)
theorem pname_cases (s : List UInt8) : (s = [] ∧ nameOk s = false) ∨ ∃ x t, s = x :: t ∧ ((16 < s.length ∧ nameOk s = false) ∨ (s.length ≤ 16 ∧ x.toNat < 97 ∧ nameOk s = false) ∨ (s.length ≤ 16 ∧ 97 ≤ x.toNat ∧ 122 < x.toNat ∧ nameOk s = false) ∨ (s.length ≤ 16 ∧ 97 ≤ x.toNat ∧ x.toNat ≤ 122 ∧ s.all nameCh = nameOk s)) := by
  cases s with
  | nil => exact .inl ⟨rfl, by decide⟩
  | cons x t =>
    refine .inr ⟨x, t, rfl, ?_⟩
    have hh : ((x :: t).headD 0).toNat = x.toNat := rfl
    unfold nameOk
    rw [hh, decide_eq_true (p := 1 ≤ (x :: t).length) (by simp), Bool.true_and]
    by_cases h : 16 < (x :: t).length
    · exact .inl ⟨h, by rw [decide_eq_false (by omega), Bool.false_and]⟩
    · rw [decide_eq_true (p := (x :: t).length ≤ 16) (by omega), Bool.true_and]
      by_cases h1 : x.toNat < 97
      · exact .inr (.inl ⟨by omega, h1, by rw [decide_eq_false (by omega), Bool.false_and]⟩)
      · rw [decide_eq_true (p := 97 ≤ x.toNat) (by omega), Bool.true_and]
        by_cases h2 : 122 < x.toNat
        · refine .inr (.inr (.inl ⟨by omega, by omega, h2, ?_⟩))
          rw [List.all_cons]
          have : nameCh x = false := by
            unfold nameCh runeOk
            simp
            omega
          rw [this, Bool.false_and]
        · exact .inr (.inr (.inr ⟨by omega, by omega, by omega, rfl⟩))
set_option maxRecDepth 20000 in
set_option maxHeartbeats 1000000 in
theorem IsName_any (s : List UInt8) (w : World) : Calls Tryz.prog 65 #[.string ⟨s.toArray⟩] w fun e w' => e = .returned (.bool (nameOk s)) ∧ Ext w w' := by
 have q : ∀ W, Calls Tryz.prog 110 #[.string ⟨s.toArray⟩, .func (.func 111) #[] #[]] W fun e w' => e = .returned (.bool (!s.all nameCh)) ∧ Ext W w' := fun W => by
  refine (Tryz.strings_ContainsFunc_runes 111 #[] (fun _ _ => rfl) (fun x => !runeOk x) ⟨s.toArray⟩ W fun W' x hx hb => by
   refine (IsName1_any (x : Int) W').mono ?_
   rintro e w' ⟨rfl, rfl⟩
   exact ⟨by rw [runeZ_nat], 0, rfl⟩).mono ?_
  rintro e w' ⟨rfl, he⟩
  refine ⟨?_, he⟩
  have := name_idx s
  generalize Lib.idxFunc (fun x => !runeOk x) true ⟨s.toArray⟩ = z at this
  cases ha : s.all nameCh with
  | true => rw [decide_eq_false (by have := this.2 ha; omega)]; rfl
  | false => rw [decide_eq_true (by rw [ha] at this; have h2 := mt this.1 (by decide); omega)]; rfl
 have hcs := pname_cases s
 generalize nameOk s = r at hcs ⊢
 generalize s.all nameCh = al at hcs q
 have hsz : (ByteArray.mk s.toArray).size = s.length := ba_size s
 replace q := hide q
 rcases hcs with ⟨rfl, rfl⟩ | ⟨x, t, hs, hcs⟩
 ·go_enter Tryz.func65, Tryz.ntmps65
  go_wp2
  go_ret
  exact ⟨rfl, Ext.refl _⟩
 ·have hix := ba_index0 s x t hs
  have h1 : ¬ s.length = 0 := by rw [hs]; simp
  have hie := hide (show s.isEmpty = false by rw [hs]; rfl)
  have e0 : ¬ s = [] := by rw [hs]; simp
  clear hs
  have g1 : decide ((s.length : Int) < 1) = false := decide_eq_false (by omega)
  have g1' : decide (s.length < 1) = false := decide_eq_false (by omega)
  rcases hcs with ⟨h2, rfl⟩ | ⟨h2, h3, rfl⟩ | ⟨h2, h3, h4, rfl⟩ | ⟨h2, h3, h4, rfl⟩
  ·have g2 : decide ((16 : Int) < (s.length : Int)) = true := decide_eq_true (by omega)
   clear h1 h2
   go_enter Tryz.func65, Tryz.ntmps65
   go_wp2
   go_ret
   exact ⟨rfl, Ext.refl _⟩
  ·have g2 : decide ((16 : Int) < (s.length : Int)) = false := decide_eq_false (by omega)
   have g3 : decide ((x.toNat : Int) < 97) = true := decide_eq_true (by omega)
   clear h1 h2 h3
   go_enter Tryz.func65, Tryz.ntmps65
   go_wp2
   go_ret
   exact ⟨rfl, Ext.refl _⟩
  ·have g2 : decide ((16 : Int) < (s.length : Int)) = false := decide_eq_false (by omega)
   have g3 : decide ((x.toNat : Int) < 97) = false := decide_eq_false (by omega)
   have g4 : decide ((122 : Int) < (x.toNat : Int)) = true := decide_eq_true (by omega)
   clear h1 h2 h3 h4
   go_enter Tryz.func65, Tryz.ntmps65
   go_wp2
   go_ret
   exact ⟨rfl, Ext.refl _⟩
  ·have g2 : decide ((16 : Int) < (s.length : Int)) = false := decide_eq_false (by omega)
   have g3 : decide ((x.toNat : Int) < 97) = false := decide_eq_false (by omega)
   have g4 : decide ((122 : Int) < (x.toNat : Int)) = false := decide_eq_false (by omega)
   clear h1 h2 h3 h4
   go_enter Tryz.func65, Tryz.ntmps65
   go_wp2_with fail
   (with_reducible refine (q.out _).mono ?_)
   rintro e w1 ⟨rfl, he⟩
   replace he := hide he
   go_wp2
   go_ret
   exact ⟨by simp, he.out⟩
end
section
open Go.RowKit
set_option linter.unusedVariables false
attribute [local go_sem ↓] Go.wp_at_zero Go.wp_at_succ
theorem mayc_start (k : Int) (neg : Bool) (name : List UInt8) (n : Int) (w : World) :
  Blk ((w.alloc (Obj.cells #[.int .i64 k, .bool neg, .string ⟨name.toArray⟩, .int .i64 n] 48)).alloc (Obj.cells #[.int .i64 k, .bool neg, .string ⟨#[]⟩, .int .i64 0] 48)) w.heap.size 48 #[.int .i64 k, .bool neg, .string ⟨name.toArray⟩, .int .i64 n] ∧ Blk ((w.alloc (Obj.cells #[.int .i64 k, .bool neg, .string ⟨name.toArray⟩, .int .i64 n] 48)).alloc (Obj.cells #[.int .i64 k, .bool neg, .string ⟨#[]⟩, .int .i64 0] 48)) (w.heap.size + 1) 48 #[.int .i64 k, .bool neg, .string ⟨#[]⟩, .int .i64 0] ∧ Ext w ((w.alloc (Obj.cells #[.int .i64 k, .bool neg, .string ⟨name.toArray⟩, .int .i64 n] 48)).alloc (Obj.cells #[.int .i64 k, .bool neg, .string ⟨#[]⟩, .int .i64 0] 48)) := by
 refine ⟨(Blk.new w 48 #[.int .i64 k, .bool neg, .string ⟨name.toArray⟩, .int .i64 n]).alloc _, ?_, ((Ext.refl w).alloc _).alloc _⟩
 have := Blk.new (w.alloc (Obj.cells #[.int .i64 k, .bool neg, .string ⟨name.toArray⟩, .int .i64 n] 48)) 48 #[.int .i64 k, .bool neg, .string ⟨#[]⟩, .int .i64 0]
 simpa using this
set_option maxRecDepth 20000 in
set_option maxHeartbeats 4000000 in
theorem PMayCond1 (neg : Bool) (name : List UInt8) (n : Int) (w : World) :
    Calls Tryz.prog 79 #[.agg #[.int .i64 1, .bool neg, .string ⟨name.toArray⟩, .int .i64 n]] w fun e w' => e = .returned (.bool (nameOk name && decide (n = 0))) ∧ Ext w w' := by
  have q := fun W => IsName_any name W
  generalize nameOk name = nk at *
  obtain ⟨R, O, E⟩ := mayc_start 1 neg name n w
  replace q := hide q
  replace R := hide R
  replace O := hide O
  replace E := hide E
  go_enter Tryz.func79, Tryz.ntmps79
  go_upto_region 8 with fail
  generalize (w.alloc (Obj.cells #[.int .i64 1, .bool neg, .string ⟨name.toArray⟩, .int .i64 n] 48)).alloc (Obj.cells #[.int .i64 1, .bool neg, .string ⟨#[]⟩, .int .i64 0] 48) = W8 at R O E ⊢
  generalize hg : w.heap.size = rb at R O ⊢
  have r2 : W8.cell? ⟨rb, 2, none⟩ = some (.string ⟨name.toArray⟩) := R.out.cell 2
  have o2 : W8.cell? ⟨rb + 1, 2, none⟩ = some (.string ⟨#[]⟩) := O.out.cell 2
  have of := fun i => O.out.frozen i
  go_region_held3 (fun w' => w'.cell? ⟨rb, 2, none⟩ = some (.string ⟨name.toArray⟩)) (go_keep)
    ((go_at_call 65; refine (q.out _).mono ?_; rintro e w9 ⟨rfl, he⟩
      have E9 := E.out.drew.trans he
      have R9 := R.out.drew.ext he
      have O9 := O.out.drew.ext he
      clear he
      have r92 : w9.cell? ⟨rb, 2, none⟩ = some (.string ⟨name.toArray⟩) := R9.cell 2
      have o92 : w9.cell? ⟨rb + 1, 2, none⟩ = some (.string ⟨#[]⟩) := O9.cell 2
      have of9 := fun i => O9.frozen i
      replace E9 := hide E9
      replace R9 := hide R9
      replace O9 := hide O9))
  clear r2 o2 of R O E
  have R10 := hide (R9.out.far (p := ⟨rb + 1, 2, none⟩) (show rb ≠ rb + 1 by omega) (.string ⟨name.toArray⟩))
  have O10 : Blk (w9.setCell ⟨rb + 1, 2, none⟩ (.string ⟨name.toArray⟩)) (rb + 1) 48 #[.int .i64 1, .bool neg, .string ⟨name.toArray⟩, .int .i64 0] := O9.out.set_ 2 _
  have E10 := hide (E9.out.setCell (show w.heap.size ≤ rb + 1 by omega) (.string ⟨name.toArray⟩) (p := ⟨rb + 1, 2, none⟩))
  replace O10 := hide O10
  clear r92 o92 of9 R9 O9 E9
  generalize w9.setCell ⟨rb + 1, 2, none⟩ (.string ⟨name.toArray⟩) = W9 at R10 O10 E10 ⊢
  have r0 : W9.cell? ⟨rb, 0, none⟩ = some (.int .i64 1) := R10.out.cell 0
  have r1 : W9.cell? ⟨rb, 1, none⟩ = some (.bool neg) := R10.out.cell 1
  have r2 : W9.cell? ⟨rb, 2, none⟩ = some (.string ⟨name.toArray⟩) := R10.out.cell 2
  have r3 : W9.cell? ⟨rb, 3, none⟩ = some (.int .i64 n) := R10.out.cell 3
  have o0 : W9.cell? ⟨rb + 1, 0, none⟩ = some (.int .i64 1) := O10.out.cell 0
  have o1 : W9.cell? ⟨rb + 1, 1, none⟩ = some (.bool neg) := O10.out.cell 1
  have o2 : W9.cell? ⟨rb + 1, 2, none⟩ = some (.string ⟨name.toArray⟩) := O10.out.cell 2
  have o3 : W9.cell? ⟨rb + 1, 3, none⟩ = some (.int .i64 0) := O10.out.cell 3
  cases nk with
  | false =>
    go_wp2_with fail
    go_ret
    exact ⟨by simp, E10.out⟩
  | true =>
    by_cases hn : n = 0
    · subst hn
      go_wp2_with fail
      go_ret
      exact ⟨by simp, E10.out⟩
    · have hnb : (n == 0) = false := by simpa using hn
      go_wp2_with fail
      go_ret
      exact ⟨by first | (simp; done) | simp [hn], E10.out⟩
set_option maxRecDepth 20000 in
set_option maxHeartbeats 4000000 in
theorem PMayCond2 (neg : Bool) (name : List UInt8) (n : Int) (w : World) :
    Calls Tryz.prog 79 #[.agg #[.int .i64 2, .bool neg, .string ⟨name.toArray⟩, .int .i64 n]] w fun e w' => e = .returned (.bool (nameOk name && decide (n = 0))) ∧ Ext w w' := by
  have q := fun W => IsName_any name W
  generalize nameOk name = nk at *
  obtain ⟨R, O, E⟩ := mayc_start 2 neg name n w
  replace q := hide q
  replace R := hide R
  replace O := hide O
  replace E := hide E
  go_enter Tryz.func79, Tryz.ntmps79
  go_upto_region 8 with fail
  generalize (w.alloc (Obj.cells #[.int .i64 2, .bool neg, .string ⟨name.toArray⟩, .int .i64 n] 48)).alloc (Obj.cells #[.int .i64 2, .bool neg, .string ⟨#[]⟩, .int .i64 0] 48) = W8 at R O E ⊢
  generalize hg : w.heap.size = rb at R O ⊢
  have r2 : W8.cell? ⟨rb, 2, none⟩ = some (.string ⟨name.toArray⟩) := R.out.cell 2
  have o2 : W8.cell? ⟨rb + 1, 2, none⟩ = some (.string ⟨#[]⟩) := O.out.cell 2
  have of := fun i => O.out.frozen i
  go_region_held3 (fun w' => w'.cell? ⟨rb, 2, none⟩ = some (.string ⟨name.toArray⟩)) (go_keep)
    ((go_at_call 65; refine (q.out _).mono ?_; rintro e w9 ⟨rfl, he⟩
      have E9 := E.out.drew.trans he
      have R9 := R.out.drew.ext he
      have O9 := O.out.drew.ext he
      clear he
      have r92 : w9.cell? ⟨rb, 2, none⟩ = some (.string ⟨name.toArray⟩) := R9.cell 2
      have o92 : w9.cell? ⟨rb + 1, 2, none⟩ = some (.string ⟨#[]⟩) := O9.cell 2
      have of9 := fun i => O9.frozen i
      replace E9 := hide E9
      replace R9 := hide R9
      replace O9 := hide O9))
  clear r2 o2 of R O E
  have R10 := hide (R9.out.far (p := ⟨rb + 1, 2, none⟩) (show rb ≠ rb + 1 by omega) (.string ⟨name.toArray⟩))
  have O10 : Blk (w9.setCell ⟨rb + 1, 2, none⟩ (.string ⟨name.toArray⟩)) (rb + 1) 48 #[.int .i64 2, .bool neg, .string ⟨name.toArray⟩, .int .i64 0] := O9.out.set_ 2 _
  have E10 := hide (E9.out.setCell (show w.heap.size ≤ rb + 1 by omega) (.string ⟨name.toArray⟩) (p := ⟨rb + 1, 2, none⟩))
  replace O10 := hide O10
  clear r92 o92 of9 R9 O9 E9
  generalize w9.setCell ⟨rb + 1, 2, none⟩ (.string ⟨name.toArray⟩) = W9 at R10 O10 E10 ⊢
  have r0 : W9.cell? ⟨rb, 0, none⟩ = some (.int .i64 2) := R10.out.cell 0
  have r1 : W9.cell? ⟨rb, 1, none⟩ = some (.bool neg) := R10.out.cell 1
  have r2 : W9.cell? ⟨rb, 2, none⟩ = some (.string ⟨name.toArray⟩) := R10.out.cell 2
  have r3 : W9.cell? ⟨rb, 3, none⟩ = some (.int .i64 n) := R10.out.cell 3
  have o0 : W9.cell? ⟨rb + 1, 0, none⟩ = some (.int .i64 2) := O10.out.cell 0
  have o1 : W9.cell? ⟨rb + 1, 1, none⟩ = some (.bool neg) := O10.out.cell 1
  have o2 : W9.cell? ⟨rb + 1, 2, none⟩ = some (.string ⟨name.toArray⟩) := O10.out.cell 2
  have o3 : W9.cell? ⟨rb + 1, 3, none⟩ = some (.int .i64 0) := O10.out.cell 3
  cases nk with
  | false =>
    go_wp2_with fail
    go_ret
    exact ⟨by simp, E10.out⟩
  | true =>
    by_cases hn : n = 0
    · subst hn
      go_wp2_with fail
      go_ret
      exact ⟨by simp, E10.out⟩
    · have hnb : (n == 0) = false := by simpa using hn
      go_wp2_with fail
      go_ret
      exact ⟨by first | (simp; done) | simp [hn], E10.out⟩
set_option maxRecDepth 20000 in
set_option maxHeartbeats 4000000 in
theorem PMayCond3 (neg : Bool) (name : List UInt8) (n : Int) (w : World) :
    Calls Tryz.prog 79 #[.agg #[.int .i64 3, .bool neg, .string ⟨name.toArray⟩, .int .i64 n]] w fun e w' => e = .returned (.bool (nameOk name && decide (n = 0))) ∧ Ext w w' := by
  have q := fun W => IsName_any name W
  generalize nameOk name = nk at *
  obtain ⟨R, O, E⟩ := mayc_start 3 neg name n w
  replace q := hide q
  replace R := hide R
  replace O := hide O
  replace E := hide E
  go_enter Tryz.func79, Tryz.ntmps79
  go_upto_region 8 with fail
  generalize (w.alloc (Obj.cells #[.int .i64 3, .bool neg, .string ⟨name.toArray⟩, .int .i64 n] 48)).alloc (Obj.cells #[.int .i64 3, .bool neg, .string ⟨#[]⟩, .int .i64 0] 48) = W8 at R O E ⊢
  generalize hg : w.heap.size = rb at R O ⊢
  have r2 : W8.cell? ⟨rb, 2, none⟩ = some (.string ⟨name.toArray⟩) := R.out.cell 2
  have o2 : W8.cell? ⟨rb + 1, 2, none⟩ = some (.string ⟨#[]⟩) := O.out.cell 2
  have of := fun i => O.out.frozen i
  go_region_held3 (fun w' => w'.cell? ⟨rb, 2, none⟩ = some (.string ⟨name.toArray⟩)) (go_keep)
    ((go_at_call 65; refine (q.out _).mono ?_; rintro e w9 ⟨rfl, he⟩
      have E9 := E.out.drew.trans he
      have R9 := R.out.drew.ext he
      have O9 := O.out.drew.ext he
      clear he
      have r92 : w9.cell? ⟨rb, 2, none⟩ = some (.string ⟨name.toArray⟩) := R9.cell 2
      have o92 : w9.cell? ⟨rb + 1, 2, none⟩ = some (.string ⟨#[]⟩) := O9.cell 2
      have of9 := fun i => O9.frozen i
      replace E9 := hide E9
      replace R9 := hide R9
      replace O9 := hide O9))
  clear r2 o2 of R O E
  have R10 := hide (R9.out.far (p := ⟨rb + 1, 2, none⟩) (show rb ≠ rb + 1 by omega) (.string ⟨name.toArray⟩))
  have O10 : Blk (w9.setCell ⟨rb + 1, 2, none⟩ (.string ⟨name.toArray⟩)) (rb + 1) 48 #[.int .i64 3, .bool neg, .string ⟨name.toArray⟩, .int .i64 0] := O9.out.set_ 2 _
  have E10 := hide (E9.out.setCell (show w.heap.size ≤ rb + 1 by omega) (.string ⟨name.toArray⟩) (p := ⟨rb + 1, 2, none⟩))
  replace O10 := hide O10
  clear r92 o92 of9 R9 O9 E9
  generalize w9.setCell ⟨rb + 1, 2, none⟩ (.string ⟨name.toArray⟩) = W9 at R10 O10 E10 ⊢
  have r0 : W9.cell? ⟨rb, 0, none⟩ = some (.int .i64 3) := R10.out.cell 0
  have r1 : W9.cell? ⟨rb, 1, none⟩ = some (.bool neg) := R10.out.cell 1
  have r2 : W9.cell? ⟨rb, 2, none⟩ = some (.string ⟨name.toArray⟩) := R10.out.cell 2
  have r3 : W9.cell? ⟨rb, 3, none⟩ = some (.int .i64 n) := R10.out.cell 3
  have o0 : W9.cell? ⟨rb + 1, 0, none⟩ = some (.int .i64 3) := O10.out.cell 0
  have o1 : W9.cell? ⟨rb + 1, 1, none⟩ = some (.bool neg) := O10.out.cell 1
  have o2 : W9.cell? ⟨rb + 1, 2, none⟩ = some (.string ⟨name.toArray⟩) := O10.out.cell 2
  have o3 : W9.cell? ⟨rb + 1, 3, none⟩ = some (.int .i64 0) := O10.out.cell 3
  cases nk with
  | false =>
    go_wp2_with fail
    go_ret
    exact ⟨by simp, E10.out⟩
  | true =>
    by_cases hn : n = 0
    · subst hn
      go_wp2_with fail
      go_ret
      exact ⟨by simp, E10.out⟩
    · have hnb : (n == 0) = false := by simpa using hn
      go_wp2_with fail
      go_ret
      exact ⟨by first | (simp; done) | simp [hn], E10.out⟩
set_option maxRecDepth 20000 in
set_option maxHeartbeats 4000000 in
theorem PMayCond4 (neg : Bool) (name : List UInt8) (n : Int) (w : World) :
    Calls Tryz.prog 79 #[.agg #[.int .i64 4, .bool neg, .string ⟨name.toArray⟩, .int .i64 n]] w fun e w' => e = .returned (.bool (nameOk name && decide (n = 0))) ∧ Ext w w' := by
  have q := fun W => IsName_any name W
  generalize nameOk name = nk at *
  obtain ⟨R, O, E⟩ := mayc_start 4 neg name n w
  replace q := hide q
  replace R := hide R
  replace O := hide O
  replace E := hide E
  go_enter Tryz.func79, Tryz.ntmps79
  go_upto_region 8 with fail
  generalize (w.alloc (Obj.cells #[.int .i64 4, .bool neg, .string ⟨name.toArray⟩, .int .i64 n] 48)).alloc (Obj.cells #[.int .i64 4, .bool neg, .string ⟨#[]⟩, .int .i64 0] 48) = W8 at R O E ⊢
  generalize hg : w.heap.size = rb at R O ⊢
  have r2 : W8.cell? ⟨rb, 2, none⟩ = some (.string ⟨name.toArray⟩) := R.out.cell 2
  have o2 : W8.cell? ⟨rb + 1, 2, none⟩ = some (.string ⟨#[]⟩) := O.out.cell 2
  have of := fun i => O.out.frozen i
  go_region_held3 (fun w' => w'.cell? ⟨rb, 2, none⟩ = some (.string ⟨name.toArray⟩)) (go_keep)
    ((go_at_call 65; refine (q.out _).mono ?_; rintro e w9 ⟨rfl, he⟩
      have E9 := E.out.drew.trans he
      have R9 := R.out.drew.ext he
      have O9 := O.out.drew.ext he
      clear he
      have r92 : w9.cell? ⟨rb, 2, none⟩ = some (.string ⟨name.toArray⟩) := R9.cell 2
      have o92 : w9.cell? ⟨rb + 1, 2, none⟩ = some (.string ⟨#[]⟩) := O9.cell 2
      have of9 := fun i => O9.frozen i
      replace E9 := hide E9
      replace R9 := hide R9
      replace O9 := hide O9))
  clear r2 o2 of R O E
  have R10 := hide (R9.out.far (p := ⟨rb + 1, 2, none⟩) (show rb ≠ rb + 1 by omega) (.string ⟨name.toArray⟩))
  have O10 : Blk (w9.setCell ⟨rb + 1, 2, none⟩ (.string ⟨name.toArray⟩)) (rb + 1) 48 #[.int .i64 4, .bool neg, .string ⟨name.toArray⟩, .int .i64 0] := O9.out.set_ 2 _
  have E10 := hide (E9.out.setCell (show w.heap.size ≤ rb + 1 by omega) (.string ⟨name.toArray⟩) (p := ⟨rb + 1, 2, none⟩))
  replace O10 := hide O10
  clear r92 o92 of9 R9 O9 E9
  generalize w9.setCell ⟨rb + 1, 2, none⟩ (.string ⟨name.toArray⟩) = W9 at R10 O10 E10 ⊢
  have r0 : W9.cell? ⟨rb, 0, none⟩ = some (.int .i64 4) := R10.out.cell 0
  have r1 : W9.cell? ⟨rb, 1, none⟩ = some (.bool neg) := R10.out.cell 1
  have r2 : W9.cell? ⟨rb, 2, none⟩ = some (.string ⟨name.toArray⟩) := R10.out.cell 2
  have r3 : W9.cell? ⟨rb, 3, none⟩ = some (.int .i64 n) := R10.out.cell 3
  have o0 : W9.cell? ⟨rb + 1, 0, none⟩ = some (.int .i64 4) := O10.out.cell 0
  have o1 : W9.cell? ⟨rb + 1, 1, none⟩ = some (.bool neg) := O10.out.cell 1
  have o2 : W9.cell? ⟨rb + 1, 2, none⟩ = some (.string ⟨name.toArray⟩) := O10.out.cell 2
  have o3 : W9.cell? ⟨rb + 1, 3, none⟩ = some (.int .i64 0) := O10.out.cell 3
  cases nk with
  | false =>
    go_wp2_with fail
    go_ret
    exact ⟨by simp, E10.out⟩
  | true =>
    by_cases hn : n = 0
    · subst hn
      go_wp2_with fail
      go_ret
      exact ⟨by simp, E10.out⟩
    · have hnb : (n == 0) = false := by simpa using hn
      go_wp2_with fail
      go_ret
      exact ⟨by first | (simp; done) | simp [hn], E10.out⟩
set_option maxRecDepth 20000 in
set_option maxHeartbeats 4000000 in
theorem PMayCond5 (neg : Bool) (name : List UInt8) (n : Int) (w : World) :
  Calls Tryz.prog 79 #[.agg #[.int .i64 5, .bool neg, .string ⟨name.toArray⟩, .int .i64 n]] w fun e w' => e = .returned (.bool (decide (0 ≤ n ∧ n ≤ 2) && decide (name = []))) ∧ Ext w w' := by
 obtain ⟨R, O, E⟩ := mayc_start 5 neg name n w
 have hcs : (¬ 0 ≤ n ∧ decide (0 ≤ n ∧ n ≤ 2) = false) ∨ (0 ≤ n ∧ ¬ n ≤ 2 ∧ decide (0 ≤ n ∧ n ≤ 2) = false) ∨ (0 ≤ n ∧ n ≤ 2 ∧ decide (0 ≤ n ∧ n ≤ 2) = true) := by
  by_cases h1 : 0 ≤ n
  ·by_cases h2 : n ≤ 2
   ·exact .inr (.inr ⟨h1, h2, decide_eq_true ⟨h1, h2⟩⟩)
   ·exact .inr (.inl ⟨h1, h2, decide_eq_false fun h => h2 h.2⟩)
  ·exact .inl ⟨h1, decide_eq_false fun h => h1 h.1⟩
 generalize decide (0 ≤ n ∧ n ≤ 2) = r at *
 replace R := hide R
 replace O := hide O
 replace E := hide E
 rcases hcs with ⟨h1, rfl⟩ | ⟨h1, h2, rfl⟩ | ⟨h1, h2, rfl⟩
 all_goals
  go_enter Tryz.func79, Tryz.ntmps79
  go_upto_region 10 with fail
  generalize (w.alloc (Obj.cells #[.int .i64 5, .bool neg, .string ⟨name.toArray⟩, .int .i64 n] 48)).alloc (Obj.cells #[.int .i64 5, .bool neg, .string ⟨#[]⟩, .int .i64 0] 48) = W8 at R O E ⊢
  generalize hg : w.heap.size = rb at R O ⊢
  have r3 : W8.cell? ⟨rb, 3, none⟩ = some (.int .i64 n) := R.out.cell 3
  have o3 : W8.cell? ⟨rb + 1, 3, none⟩ = some (.int .i64 0) := O.out.cell 3
  have of := fun i => O.out.frozen i
  go_region
  clear r3 o3 of
  have R10 := hide (R.out.far (p := ⟨rb + 1, 3, none⟩) (show rb ≠ rb + 1 by omega) (.int .i64 n)).drew
  have O10 : Blk (W8.setCell ⟨rb + 1, 3, none⟩ (.int .i64 n)).drew (rb + 1) 48 #[.int .i64 5, .bool neg, .string ⟨#[]⟩, .int .i64 n] := O.out.set_ 3 _
  have E10 := hide (E.out.setCell (show w.heap.size ≤ rb + 1 by omega) (.int .i64 n) (p := ⟨rb + 1, 3, none⟩)).drew
  replace O10 := hide O10
  clear R O E
  generalize (W8.setCell ⟨rb + 1, 3, none⟩ (.int .i64 n)).drew = W9 at R10 O10 E10 ⊢
  have r0 : W9.cell? ⟨rb, 0, none⟩ = some (.int .i64 5) := R10.out.cell 0
  have r1 : W9.cell? ⟨rb, 1, none⟩ = some (.bool neg) := R10.out.cell 1
  have r2 : W9.cell? ⟨rb, 2, none⟩ = some (.string ⟨name.toArray⟩) := R10.out.cell 2
  have r3 : W9.cell? ⟨rb, 3, none⟩ = some (.int .i64 n) := R10.out.cell 3
  have o0 : W9.cell? ⟨rb + 1, 0, none⟩ = some (.int .i64 5) := O10.out.cell 0
  have o1 : W9.cell? ⟨rb + 1, 1, none⟩ = some (.bool neg) := O10.out.cell 1
  have o2 : W9.cell? ⟨rb + 1, 2, none⟩ = some (.string ⟨#[]⟩) := O10.out.cell 2
  have o3 : W9.cell? ⟨rb + 1, 3, none⟩ = some (.int .i64 n) := O10.out.cell 3
 ·go_wp2_with fail
  go_ret
  exact ⟨by simp, E10.out⟩
 ·go_wp2_with fail
  go_ret
  exact ⟨by simp, E10.out⟩
 ·by_cases hn : name = []
  ·subst hn
   go_wp2_with fail
   go_ret
   exact ⟨by simp, E10.out⟩
  ·have hnb : (name == []) = false := by simpa using hn
   go_wp2_with fail
   go_ret
   exact ⟨by first | (simp; done) | simp [hn], E10.out⟩
set_option maxRecDepth 20000 in
set_option maxHeartbeats 4000000 in
theorem PMayCond6 (neg : Bool) (name : List UInt8) (n : Int) (w : World) :
  Calls Tryz.prog 79 #[.agg #[.int .i64 6, .bool neg, .string ⟨name.toArray⟩, .int .i64 n]] w fun e w' => e = .returned (.bool (decide (0 ≤ n ∧ n ≤ 65535) && decide (name = []))) ∧ Ext w w' := by
 obtain ⟨R, O, E⟩ := mayc_start 6 neg name n w
 have hcs : (¬ 0 ≤ n ∧ decide (0 ≤ n ∧ n ≤ 65535) = false) ∨ (0 ≤ n ∧ ¬ n ≤ 65535 ∧ decide (0 ≤ n ∧ n ≤ 65535) = false) ∨ (0 ≤ n ∧ n ≤ 65535 ∧ decide (0 ≤ n ∧ n ≤ 65535) = true) := by
  by_cases h1 : 0 ≤ n
  ·by_cases h2 : n ≤ 65535
   ·exact .inr (.inr ⟨h1, h2, decide_eq_true ⟨h1, h2⟩⟩)
   ·exact .inr (.inl ⟨h1, h2, decide_eq_false fun h => h2 h.2⟩)
  ·exact .inl ⟨h1, decide_eq_false fun h => h1 h.1⟩
 generalize decide (0 ≤ n ∧ n ≤ 65535) = r at *
 replace R := hide R
 replace O := hide O
 replace E := hide E
 rcases hcs with ⟨h1, rfl⟩ | ⟨h1, h2, rfl⟩ | ⟨h1, h2, rfl⟩
 all_goals
  go_enter Tryz.func79, Tryz.ntmps79
  go_upto_region 12 with fail
  generalize (w.alloc (Obj.cells #[.int .i64 6, .bool neg, .string ⟨name.toArray⟩, .int .i64 n] 48)).alloc (Obj.cells #[.int .i64 6, .bool neg, .string ⟨#[]⟩, .int .i64 0] 48) = W8 at R O E ⊢
  generalize hg : w.heap.size = rb at R O ⊢
  have r3 : W8.cell? ⟨rb, 3, none⟩ = some (.int .i64 n) := R.out.cell 3
  have o3 : W8.cell? ⟨rb + 1, 3, none⟩ = some (.int .i64 0) := O.out.cell 3
  have of := fun i => O.out.frozen i
  go_region
  clear r3 o3 of
  have R10 := hide (R.out.far (p := ⟨rb + 1, 3, none⟩) (show rb ≠ rb + 1 by omega) (.int .i64 n)).drew
  have O10 : Blk (W8.setCell ⟨rb + 1, 3, none⟩ (.int .i64 n)).drew (rb + 1) 48 #[.int .i64 6, .bool neg, .string ⟨#[]⟩, .int .i64 n] := O.out.set_ 3 _
  have E10 := hide (E.out.setCell (show w.heap.size ≤ rb + 1 by omega) (.int .i64 n) (p := ⟨rb + 1, 3, none⟩)).drew
  replace O10 := hide O10
  clear R O E
  generalize (W8.setCell ⟨rb + 1, 3, none⟩ (.int .i64 n)).drew = W9 at R10 O10 E10 ⊢
  have r0 : W9.cell? ⟨rb, 0, none⟩ = some (.int .i64 6) := R10.out.cell 0
  have r1 : W9.cell? ⟨rb, 1, none⟩ = some (.bool neg) := R10.out.cell 1
  have r2 : W9.cell? ⟨rb, 2, none⟩ = some (.string ⟨name.toArray⟩) := R10.out.cell 2
  have r3 : W9.cell? ⟨rb, 3, none⟩ = some (.int .i64 n) := R10.out.cell 3
  have o0 : W9.cell? ⟨rb + 1, 0, none⟩ = some (.int .i64 6) := O10.out.cell 0
  have o1 : W9.cell? ⟨rb + 1, 1, none⟩ = some (.bool neg) := O10.out.cell 1
  have o2 : W9.cell? ⟨rb + 1, 2, none⟩ = some (.string ⟨#[]⟩) := O10.out.cell 2
  have o3 : W9.cell? ⟨rb + 1, 3, none⟩ = some (.int .i64 n) := O10.out.cell 3
 ·go_wp2_with fail
  go_ret
  exact ⟨by simp, E10.out⟩
 ·go_wp2_with fail
  go_ret
  exact ⟨by simp, E10.out⟩
 ·by_cases hn : name = []
  ·subst hn
   go_wp2_with fail
   go_ret
   exact ⟨by simp, E10.out⟩
  ·have hnb : (name == []) = false := by simpa using hn
   go_wp2_with fail
   go_ret
   exact ⟨by first | (simp; done) | simp [hn], E10.out⟩
set_option maxRecDepth 20000 in
set_option maxHeartbeats 4000000 in
theorem PMayCond7 (neg : Bool) (name : List UInt8) (n : Int) (w : World) :
  Calls Tryz.prog 79 #[.agg #[.int .i64 7, .bool neg, .string ⟨name.toArray⟩, .int .i64 n]] w fun e w' => e = .returned (.bool (decide (1 ≤ n ∧ n ≤ 5) && decide (name = []))) ∧ Ext w w' := by
 obtain ⟨R, O, E⟩ := mayc_start 7 neg name n w
 have hcs : (¬ 1 ≤ n ∧ decide (1 ≤ n ∧ n ≤ 5) = false) ∨ (1 ≤ n ∧ ¬ n ≤ 5 ∧ decide (1 ≤ n ∧ n ≤ 5) = false) ∨ (1 ≤ n ∧ n ≤ 5 ∧ decide (1 ≤ n ∧ n ≤ 5) = true) := by
  by_cases h1 : 1 ≤ n
  ·by_cases h2 : n ≤ 5
   ·exact .inr (.inr ⟨h1, h2, decide_eq_true ⟨h1, h2⟩⟩)
   ·exact .inr (.inl ⟨h1, h2, decide_eq_false fun h => h2 h.2⟩)
  ·exact .inl ⟨h1, decide_eq_false fun h => h1 h.1⟩
 generalize decide (1 ≤ n ∧ n ≤ 5) = r at *
 replace R := hide R
 replace O := hide O
 replace E := hide E
 rcases hcs with ⟨h1, rfl⟩ | ⟨h1, h2, rfl⟩ | ⟨h1, h2, rfl⟩
 all_goals
  go_enter Tryz.func79, Tryz.ntmps79
  go_upto_region 14 with fail
  generalize (w.alloc (Obj.cells #[.int .i64 7, .bool neg, .string ⟨name.toArray⟩, .int .i64 n] 48)).alloc (Obj.cells #[.int .i64 7, .bool neg, .string ⟨#[]⟩, .int .i64 0] 48) = W8 at R O E ⊢
  generalize hg : w.heap.size = rb at R O ⊢
  have r3 : W8.cell? ⟨rb, 3, none⟩ = some (.int .i64 n) := R.out.cell 3
  have o3 : W8.cell? ⟨rb + 1, 3, none⟩ = some (.int .i64 0) := O.out.cell 3
  have of := fun i => O.out.frozen i
  go_region
  clear r3 o3 of
  have R10 := hide (R.out.far (p := ⟨rb + 1, 3, none⟩) (show rb ≠ rb + 1 by omega) (.int .i64 n)).drew
  have O10 : Blk (W8.setCell ⟨rb + 1, 3, none⟩ (.int .i64 n)).drew (rb + 1) 48 #[.int .i64 7, .bool neg, .string ⟨#[]⟩, .int .i64 n] := O.out.set_ 3 _
  have E10 := hide (E.out.setCell (show w.heap.size ≤ rb + 1 by omega) (.int .i64 n) (p := ⟨rb + 1, 3, none⟩)).drew
  replace O10 := hide O10
  clear R O E
  generalize (W8.setCell ⟨rb + 1, 3, none⟩ (.int .i64 n)).drew = W9 at R10 O10 E10 ⊢
  have r0 : W9.cell? ⟨rb, 0, none⟩ = some (.int .i64 7) := R10.out.cell 0
  have r1 : W9.cell? ⟨rb, 1, none⟩ = some (.bool neg) := R10.out.cell 1
  have r2 : W9.cell? ⟨rb, 2, none⟩ = some (.string ⟨name.toArray⟩) := R10.out.cell 2
  have r3 : W9.cell? ⟨rb, 3, none⟩ = some (.int .i64 n) := R10.out.cell 3
  have o0 : W9.cell? ⟨rb + 1, 0, none⟩ = some (.int .i64 7) := O10.out.cell 0
  have o1 : W9.cell? ⟨rb + 1, 1, none⟩ = some (.bool neg) := O10.out.cell 1
  have o2 : W9.cell? ⟨rb + 1, 2, none⟩ = some (.string ⟨#[]⟩) := O10.out.cell 2
  have o3 : W9.cell? ⟨rb + 1, 3, none⟩ = some (.int .i64 n) := O10.out.cell 3
 ·go_wp2_with fail
  go_ret
  exact ⟨by simp, E10.out⟩
 ·go_wp2_with fail
  go_ret
  exact ⟨by simp, E10.out⟩
 ·by_cases hn : name = []
  ·subst hn
   go_wp2_with fail
   go_ret
   exact ⟨by simp, E10.out⟩
  ·have hnb : (name == []) = false := by simpa using hn
   go_wp2_with fail
   go_ret
   exact ⟨by first | (simp; done) | simp [hn], E10.out⟩
set_option maxRecDepth 20000 in
set_option maxHeartbeats 4000000 in
theorem PMayCond0 (k : Int) (neg : Bool) (name : List UInt8) (n : Int) (w : World) (h1 : ¬ k = 1) (h2 : ¬ k = 2) (h3 : ¬ k = 3) (h4 : ¬ k = 4) (h5 : ¬ k = 5) (h6 : ¬ k = 6) (h7 : ¬ k = 7) :
  Calls Tryz.prog 79 #[.agg #[.int .i64 k, .bool neg, .string ⟨name.toArray⟩, .int .i64 n]] w fun e w' => e = .returned (.bool false) ∧ Ext w w' := by
 obtain ⟨R, O, E⟩ := mayc_start k neg name n w
 have g1 : (k == 1) = false := by simpa using h1
 have g2 : (k == 2) = false := by simpa using h2
 have g3 : (k == 3) = false := by simpa using h3
 have g4 : (k == 4) = false := by simpa using h4
 have g5 : (k == 5) = false := by simpa using h5
 have g6 : (k == 6) = false := by simpa using h6
 have g7 : (k == 7) = false := by simpa using h7
 clear h1 h2 h3 h4 h5 h6 h7
 replace R := hide R
 replace O := hide O
 replace E := hide E
 go_enter Tryz.func79, Tryz.ntmps79
 go_wp2_with fail
 go_ret
 exact ⟨rfl, E.out⟩
theorem PMayCond_any (c : CondS) (w : World) :
  Calls Tryz.prog 79 #[.agg (condCs c).toArray] w fun e w' => e = .returned (.bool (condOk c)) ∧ Ext w w' := by
 obtain ⟨k, neg, name, n⟩ := c
 unfold condOk
 dsimp only
 by_cases h : k = 1 ∨ k = 2 ∨ k = 3 ∨ k = 4
 ·rw [if_pos h]
  rcases h with rfl | rfl | rfl | rfl
  ·exact PMayCond1 neg name n w
  ·exact PMayCond2 neg name n w
  ·exact PMayCond3 neg name n w
  ·exact PMayCond4 neg name n w
 rw [if_neg h]
 by_cases h5 : k = 5
 ·rw [if_pos h5]
  subst h5
  exact PMayCond5 neg name n w
 rw [if_neg h5]
 by_cases h6 : k = 6
 ·rw [if_pos h6]
  subst h6
  exact PMayCond6 neg name n w
 rw [if_neg h6]
 by_cases h7 : k = 7
 ·rw [if_pos h7]
  subst h7
  exact PMayCond7 neg name n w
 rw [if_neg h7]
 exact PMayCond0 k neg name n w (fun e => h (.inl e)) (fun e => h (.inr (.inl e))) (fun e => h (.inr (.inr (.inl e)))) (fun e => h (.inr (.inr (.inr e)))) h5 h6 h7
end
section
open Go.RowKit
set_option linter.unusedVariables false
attribute [local go_sem ↓] Go.wp_at_zero Go.wp_at_succ
theorem maya_start (k : Int) (name : List UInt8) (n : UInt32) (addr : List UInt8) (w : World) :
  Blk ((w.alloc (Obj.cells #[.int .i64 k, .string ⟨name.toArray⟩, .int .u32 (n.toNat : Int), .string ⟨addr.toArray⟩] 51)).alloc (Obj.cells #[.int .i64 k, .string ⟨#[]⟩, .int .u32 0, .string ⟨#[]⟩] 51)) w.heap.size 51 #[.int .i64 k, .string ⟨name.toArray⟩, .int .u32 (n.toNat : Int), .string ⟨addr.toArray⟩] ∧ Blk ((w.alloc (Obj.cells #[.int .i64 k, .string ⟨name.toArray⟩, .int .u32 (n.toNat : Int), .string ⟨addr.toArray⟩] 51)).alloc (Obj.cells #[.int .i64 k, .string ⟨#[]⟩, .int .u32 0, .string ⟨#[]⟩] 51)) (w.heap.size + 1) 51 #[.int .i64 k, .string ⟨#[]⟩, .int .u32 0, .string ⟨#[]⟩] ∧ Ext w ((w.alloc (Obj.cells #[.int .i64 k, .string ⟨name.toArray⟩, .int .u32 (n.toNat : Int), .string ⟨addr.toArray⟩] 51)).alloc (Obj.cells #[.int .i64 k, .string ⟨#[]⟩, .int .u32 0, .string ⟨#[]⟩] 51)) := by
 refine ⟨(Blk.new w 51 #[.int .i64 k, .string ⟨name.toArray⟩, .int .u32 (n.toNat : Int), .string ⟨addr.toArray⟩]).alloc _, ?_, ((Ext.refl w).alloc _).alloc _⟩
 have := Blk.new (w.alloc (Obj.cells #[.int .i64 k, .string ⟨name.toArray⟩, .int .u32 (n.toNat : Int), .string ⟨addr.toArray⟩] 51)) 51 #[.int .i64 k, .string ⟨#[]⟩, .int .u32 0, .string ⟨#[]⟩]
 simpa using this
set_option maxRecDepth 20000 in
set_option maxHeartbeats 8000000 in
theorem PMayAct1 (name : List UInt8) (n : UInt32) (addr : List UInt8) (w : World) :
  Calls Tryz.prog 82 #[.agg #[.int .i64 1, .string ⟨name.toArray⟩, .int .u32 (n.toNat : Int), .string ⟨addr.toArray⟩]] w fun e w' => e = .returned (.bool (decide (name = []) && (decide (n = 0) && decide (addr = [])))) ∧ Ext w w' := by
 obtain ⟨R, O, E⟩ := maya_start 1 name n addr w
 replace R := hide R
 replace O := hide O
 replace E := hide E
 go_enter Tryz.func82, Tryz.ntmps82
 go_upto_region 20 with fail
 generalize (w.alloc (Obj.cells #[.int .i64 1, .string ⟨name.toArray⟩, .int .u32 (n.toNat : Int), .string ⟨addr.toArray⟩] 51)).alloc (Obj.cells #[.int .i64 1, .string ⟨#[]⟩, .int .u32 0, .string ⟨#[]⟩] 51) = W9 at R O E ⊢
 generalize hg : w.heap.size = rb at R O ⊢
 have r0 : W9.cell? ⟨rb, 0, none⟩ = some (.int .i64 1) := R.out.cell 0
 have r1 : W9.cell? ⟨rb, 1, none⟩ = some (.string ⟨name.toArray⟩) := R.out.cell 1
 have r2 : W9.cell? ⟨rb, 2, none⟩ = some (.int .u32 (n.toNat : Int)) := R.out.cell 2
 have r3 : W9.cell? ⟨rb, 3, none⟩ = some (.string ⟨addr.toArray⟩) := R.out.cell 3
 have o0 : W9.cell? ⟨rb + 1, 0, none⟩ = some (.int .i64 1) := O.out.cell 0
 have o1 : W9.cell? ⟨rb + 1, 1, none⟩ = some (.string ⟨#[]⟩) := O.out.cell 1
 have o2 : W9.cell? ⟨rb + 1, 2, none⟩ = some (.int .u32 0) := O.out.cell 2
 have o3 : W9.cell? ⟨rb + 1, 3, none⟩ = some (.string ⟨#[]⟩) := O.out.cell 3
 by_cases hname : name = []
 ·subst hname
  by_cases hn : n = 0
  ·subst hn
   have hz0 : ((0 : UInt32).toNat : Int) = 0 := rfl
   by_cases haddr : addr = []
   ·subst haddr
    go_wp2_with fail
    go_ret
    exact ⟨by simp, E.out⟩
   ·have hbaddr : (addr == []) = false := by simpa using haddr
    go_wp2_with fail
    go_ret
    exact ⟨by first | (simp; done) | simp [haddr], E.out⟩
  ·have hnb : ((n.toNat : Int) == 0) = false := by rw [beq_eq_false_iff_ne]; intro h; exact hn (UInt32.toNat_inj.1 (by rw [show (0 : UInt32).toNat = 0 from rfl]; omega))
   have hnb2 : (n.toNat == 0) = false := by rw [beq_eq_false_iff_ne]; intro h; exact hn (UInt32.toNat_inj.1 (by rw [show (0 : UInt32).toNat = 0 from rfl]; omega))
   have hnb3 : ¬ n.toNat = 0 := by simpa using hnb2
   go_wp2_with fail
   go_ret
   exact ⟨by first | (simp; done) | simp [hn], E.out⟩
 ·have hbname : (name == []) = false := by simpa using hname
  go_wp2_with fail
  go_ret
  exact ⟨by first | (simp; done) | simp [hname], E.out⟩
set_option maxRecDepth 20000 in
set_option maxHeartbeats 8000000 in
theorem PMayAct2 (name : List UInt8) (n : UInt32) (addr : List UInt8) (w : World) :
  Calls Tryz.prog 82 #[.agg #[.int .i64 2, .string ⟨name.toArray⟩, .int .u32 (n.toNat : Int), .string ⟨addr.toArray⟩]] w fun e w' => e = .returned (.bool (decide (name = []) && (decide (n = 0) && decide (addr = [])))) ∧ Ext w w' := by
 obtain ⟨R, O, E⟩ := maya_start 2 name n addr w
 replace R := hide R
 replace O := hide O
 replace E := hide E
 go_enter Tryz.func82, Tryz.ntmps82
 go_upto_region 20 with fail
 generalize (w.alloc (Obj.cells #[.int .i64 2, .string ⟨name.toArray⟩, .int .u32 (n.toNat : Int), .string ⟨addr.toArray⟩] 51)).alloc (Obj.cells #[.int .i64 2, .string ⟨#[]⟩, .int .u32 0, .string ⟨#[]⟩] 51) = W9 at R O E ⊢
 generalize hg : w.heap.size = rb at R O ⊢
 have r0 : W9.cell? ⟨rb, 0, none⟩ = some (.int .i64 2) := R.out.cell 0
 have r1 : W9.cell? ⟨rb, 1, none⟩ = some (.string ⟨name.toArray⟩) := R.out.cell 1
 have r2 : W9.cell? ⟨rb, 2, none⟩ = some (.int .u32 (n.toNat : Int)) := R.out.cell 2
 have r3 : W9.cell? ⟨rb, 3, none⟩ = some (.string ⟨addr.toArray⟩) := R.out.cell 3
 have o0 : W9.cell? ⟨rb + 1, 0, none⟩ = some (.int .i64 2) := O.out.cell 0
 have o1 : W9.cell? ⟨rb + 1, 1, none⟩ = some (.string ⟨#[]⟩) := O.out.cell 1
 have o2 : W9.cell? ⟨rb + 1, 2, none⟩ = some (.int .u32 0) := O.out.cell 2
 have o3 : W9.cell? ⟨rb + 1, 3, none⟩ = some (.string ⟨#[]⟩) := O.out.cell 3
 by_cases hname : name = []
 ·subst hname
  by_cases hn : n = 0
  ·subst hn
   have hz0 : ((0 : UInt32).toNat : Int) = 0 := rfl
   by_cases haddr : addr = []
   ·subst haddr
    go_wp2_with fail
    go_ret
    exact ⟨by simp, E.out⟩
   ·have hbaddr : (addr == []) = false := by simpa using haddr
    go_wp2_with fail
    go_ret
    exact ⟨by first | (simp; done) | simp [haddr], E.out⟩
  ·have hnb : ((n.toNat : Int) == 0) = false := by rw [beq_eq_false_iff_ne]; intro h; exact hn (UInt32.toNat_inj.1 (by rw [show (0 : UInt32).toNat = 0 from rfl]; omega))
   have hnb2 : (n.toNat == 0) = false := by rw [beq_eq_false_iff_ne]; intro h; exact hn (UInt32.toNat_inj.1 (by rw [show (0 : UInt32).toNat = 0 from rfl]; omega))
   have hnb3 : ¬ n.toNat = 0 := by simpa using hnb2
   go_wp2_with fail
   go_ret
   exact ⟨by first | (simp; done) | simp [hn], E.out⟩
 ·have hbname : (name == []) = false := by simpa using hname
  go_wp2_with fail
  go_ret
  exact ⟨by first | (simp; done) | simp [hname], E.out⟩
set_option maxRecDepth 20000 in
set_option maxHeartbeats 8000000 in
theorem PMayAct5 (name : List UInt8) (n : UInt32) (addr : List UInt8) (w : World) :
  Calls Tryz.prog 82 #[.agg #[.int .i64 5, .string ⟨name.toArray⟩, .int .u32 (n.toNat : Int), .string ⟨addr.toArray⟩]] w fun e w' => e = .returned (.bool (decide (name = []) && (decide (n = 0) && decide (addr = [])))) ∧ Ext w w' := by
 obtain ⟨R, O, E⟩ := maya_start 5 name n addr w
 replace R := hide R
 replace O := hide O
 replace E := hide E
 go_enter Tryz.func82, Tryz.ntmps82
 go_upto_region 20 with fail
 generalize (w.alloc (Obj.cells #[.int .i64 5, .string ⟨name.toArray⟩, .int .u32 (n.toNat : Int), .string ⟨addr.toArray⟩] 51)).alloc (Obj.cells #[.int .i64 5, .string ⟨#[]⟩, .int .u32 0, .string ⟨#[]⟩] 51) = W9 at R O E ⊢
 generalize hg : w.heap.size = rb at R O ⊢
 have r0 : W9.cell? ⟨rb, 0, none⟩ = some (.int .i64 5) := R.out.cell 0
 have r1 : W9.cell? ⟨rb, 1, none⟩ = some (.string ⟨name.toArray⟩) := R.out.cell 1
 have r2 : W9.cell? ⟨rb, 2, none⟩ = some (.int .u32 (n.toNat : Int)) := R.out.cell 2
 have r3 : W9.cell? ⟨rb, 3, none⟩ = some (.string ⟨addr.toArray⟩) := R.out.cell 3
 have o0 : W9.cell? ⟨rb + 1, 0, none⟩ = some (.int .i64 5) := O.out.cell 0
 have o1 : W9.cell? ⟨rb + 1, 1, none⟩ = some (.string ⟨#[]⟩) := O.out.cell 1
 have o2 : W9.cell? ⟨rb + 1, 2, none⟩ = some (.int .u32 0) := O.out.cell 2
 have o3 : W9.cell? ⟨rb + 1, 3, none⟩ = some (.string ⟨#[]⟩) := O.out.cell 3
 by_cases hname : name = []
 ·subst hname
  by_cases hn : n = 0
  ·subst hn
   have hz0 : ((0 : UInt32).toNat : Int) = 0 := rfl
   by_cases haddr : addr = []
   ·subst haddr
    go_wp2_with fail
    go_ret
    exact ⟨by simp, E.out⟩
   ·have hbaddr : (addr == []) = false := by simpa using haddr
    go_wp2_with fail
    go_ret
    exact ⟨by first | (simp; done) | simp [haddr], E.out⟩
  ·have hnb : ((n.toNat : Int) == 0) = false := by rw [beq_eq_false_iff_ne]; intro h; exact hn (UInt32.toNat_inj.1 (by rw [show (0 : UInt32).toNat = 0 from rfl]; omega))
   have hnb2 : (n.toNat == 0) = false := by rw [beq_eq_false_iff_ne]; intro h; exact hn (UInt32.toNat_inj.1 (by rw [show (0 : UInt32).toNat = 0 from rfl]; omega))
   have hnb3 : ¬ n.toNat = 0 := by simpa using hnb2
   go_wp2_with fail
   go_ret
   exact ⟨by first | (simp; done) | simp [hn], E.out⟩
 ·have hbname : (name == []) = false := by simpa using hname
  go_wp2_with fail
  go_ret
  exact ⟨by first | (simp; done) | simp [hname], E.out⟩
set_option maxRecDepth 20000 in
set_option maxHeartbeats 8000000 in
theorem PMayAct3 (name : List UInt8) (n : UInt32) (addr : List UInt8) (w : World) :
  Calls Tryz.prog 82 #[.agg #[.int .i64 3, .string ⟨name.toArray⟩, .int .u32 (n.toNat : Int), .string ⟨addr.toArray⟩]] w fun e w' => e = .returned (.bool (decide (name = []) && decide (addr = []))) ∧ Ext w w' := by
 obtain ⟨R, O, E⟩ := maya_start 3 name n addr w
 replace R := hide R
 replace O := hide O
 replace E := hide E
 go_enter Tryz.func82, Tryz.ntmps82
 go_upto_region 11 with fail
 generalize (w.alloc (Obj.cells #[.int .i64 3, .string ⟨name.toArray⟩, .int .u32 (n.toNat : Int), .string ⟨addr.toArray⟩] 51)).alloc (Obj.cells #[.int .i64 3, .string ⟨#[]⟩, .int .u32 0, .string ⟨#[]⟩] 51) = W8 at R O E ⊢
 generalize hg : w.heap.size = rb at R O ⊢
 have r0 : W8.cell? ⟨rb, 0, none⟩ = some (.int .i64 3) := R.out.cell 0
 have r1 : W8.cell? ⟨rb, 1, none⟩ = some (.string ⟨name.toArray⟩) := R.out.cell 1
 have r2 : W8.cell? ⟨rb, 2, none⟩ = some (.int .u32 (n.toNat : Int)) := R.out.cell 2
 have r3 : W8.cell? ⟨rb, 3, none⟩ = some (.string ⟨addr.toArray⟩) := R.out.cell 3
 have o0 : W8.cell? ⟨rb + 1, 0, none⟩ = some (.int .i64 3) := O.out.cell 0
 have o1 : W8.cell? ⟨rb + 1, 1, none⟩ = some (.string ⟨#[]⟩) := O.out.cell 1
 have o2 : W8.cell? ⟨rb + 1, 2, none⟩ = some (.int .u32 0) := O.out.cell 2
 have o3 : W8.cell? ⟨rb + 1, 3, none⟩ = some (.string ⟨#[]⟩) := O.out.cell 3
 have of := fun i => O.out.frozen i
 go_upto_region 20 with fail
 clear r0 r1 r2 r3 o0 o1 o2 o3 of
 have R10 := hide (R.out.far (p := ⟨rb + 1, 2, none⟩) (show rb ≠ rb + 1 by omega) (.int .u32 (n.toNat : Int)))
 have O10 : Blk (W8.setCell ⟨rb + 1, 2, none⟩ (.int .u32 (n.toNat : Int))) (rb + 1) 51 #[.int .i64 3, .string ⟨#[]⟩, .int .u32 (n.toNat : Int), .string ⟨#[]⟩] := O.out.set_ 2 _
 have E10 := hide (E.out.setCell (show w.heap.size ≤ rb + 1 by omega) (.int .u32 (n.toNat : Int)) (p := ⟨rb + 1, 2, none⟩))
 replace O10 := hide O10
 clear R O E
 generalize W8.setCell ⟨rb + 1, 2, none⟩ (.int .u32 (n.toNat : Int)) = W9 at R10 O10 E10 ⊢
 have r0 : W9.cell? ⟨rb, 0, none⟩ = some (.int .i64 3) := R10.out.cell 0
 have r1 : W9.cell? ⟨rb, 1, none⟩ = some (.string ⟨name.toArray⟩) := R10.out.cell 1
 have r2 : W9.cell? ⟨rb, 2, none⟩ = some (.int .u32 (n.toNat : Int)) := R10.out.cell 2
 have r3 : W9.cell? ⟨rb, 3, none⟩ = some (.string ⟨addr.toArray⟩) := R10.out.cell 3
 have o0 : W9.cell? ⟨rb + 1, 0, none⟩ = some (.int .i64 3) := O10.out.cell 0
 have o1 : W9.cell? ⟨rb + 1, 1, none⟩ = some (.string ⟨#[]⟩) := O10.out.cell 1
 have o2 : W9.cell? ⟨rb + 1, 2, none⟩ = some (.int .u32 (n.toNat : Int)) := O10.out.cell 2
 have o3 : W9.cell? ⟨rb + 1, 3, none⟩ = some (.string ⟨#[]⟩) := O10.out.cell 3
 by_cases hname : name = []
 ·subst hname
  by_cases haddr : addr = []
  ·subst haddr
   go_wp2_with fail
   go_ret
   exact ⟨by simp, E10.out⟩
  ·have hbaddr : (addr == []) = false := by simpa using haddr
   go_wp2_with fail
   go_ret
   exact ⟨by first | (simp; done) | simp [haddr], E10.out⟩
 ·have hbname : (name == []) = false := by simpa using hname
  go_wp2_with fail
  go_ret
  exact ⟨by first | (simp; done) | simp [hname], E10.out⟩
set_option maxRecDepth 20000 in
set_option maxHeartbeats 8000000 in
theorem PMayAct4 (name : List UInt8) (n : UInt32) (addr : List UInt8) (w : World) :
  Calls Tryz.prog 82 #[.agg #[.int .i64 4, .string ⟨name.toArray⟩, .int .u32 (n.toNat : Int), .string ⟨addr.toArray⟩]] w fun e w' => e = .returned (.bool (decide (name = []) && decide (addr = []))) ∧ Ext w w' := by
 obtain ⟨R, O, E⟩ := maya_start 4 name n addr w
 replace R := hide R
 replace O := hide O
 replace E := hide E
 go_enter Tryz.func82, Tryz.ntmps82
 go_upto_region 11 with fail
 generalize (w.alloc (Obj.cells #[.int .i64 4, .string ⟨name.toArray⟩, .int .u32 (n.toNat : Int), .string ⟨addr.toArray⟩] 51)).alloc (Obj.cells #[.int .i64 4, .string ⟨#[]⟩, .int .u32 0, .string ⟨#[]⟩] 51) = W8 at R O E ⊢
 generalize hg : w.heap.size = rb at R O ⊢
 have r0 : W8.cell? ⟨rb, 0, none⟩ = some (.int .i64 4) := R.out.cell 0
 have r1 : W8.cell? ⟨rb, 1, none⟩ = some (.string ⟨name.toArray⟩) := R.out.cell 1
 have r2 : W8.cell? ⟨rb, 2, none⟩ = some (.int .u32 (n.toNat : Int)) := R.out.cell 2
 have r3 : W8.cell? ⟨rb, 3, none⟩ = some (.string ⟨addr.toArray⟩) := R.out.cell 3
 have o0 : W8.cell? ⟨rb + 1, 0, none⟩ = some (.int .i64 4) := O.out.cell 0
 have o1 : W8.cell? ⟨rb + 1, 1, none⟩ = some (.string ⟨#[]⟩) := O.out.cell 1
 have o2 : W8.cell? ⟨rb + 1, 2, none⟩ = some (.int .u32 0) := O.out.cell 2
 have o3 : W8.cell? ⟨rb + 1, 3, none⟩ = some (.string ⟨#[]⟩) := O.out.cell 3
 have of := fun i => O.out.frozen i
 go_upto_region 20 with fail
 clear r0 r1 r2 r3 o0 o1 o2 o3 of
 have R10 := hide (R.out.far (p := ⟨rb + 1, 2, none⟩) (show rb ≠ rb + 1 by omega) (.int .u32 (n.toNat : Int)))
 have O10 : Blk (W8.setCell ⟨rb + 1, 2, none⟩ (.int .u32 (n.toNat : Int))) (rb + 1) 51 #[.int .i64 4, .string ⟨#[]⟩, .int .u32 (n.toNat : Int), .string ⟨#[]⟩] := O.out.set_ 2 _
 have E10 := hide (E.out.setCell (show w.heap.size ≤ rb + 1 by omega) (.int .u32 (n.toNat : Int)) (p := ⟨rb + 1, 2, none⟩))
 replace O10 := hide O10
 clear R O E
 generalize W8.setCell ⟨rb + 1, 2, none⟩ (.int .u32 (n.toNat : Int)) = W9 at R10 O10 E10 ⊢
 have r0 : W9.cell? ⟨rb, 0, none⟩ = some (.int .i64 4) := R10.out.cell 0
 have r1 : W9.cell? ⟨rb, 1, none⟩ = some (.string ⟨name.toArray⟩) := R10.out.cell 1
 have r2 : W9.cell? ⟨rb, 2, none⟩ = some (.int .u32 (n.toNat : Int)) := R10.out.cell 2
 have r3 : W9.cell? ⟨rb, 3, none⟩ = some (.string ⟨addr.toArray⟩) := R10.out.cell 3
 have o0 : W9.cell? ⟨rb + 1, 0, none⟩ = some (.int .i64 4) := O10.out.cell 0
 have o1 : W9.cell? ⟨rb + 1, 1, none⟩ = some (.string ⟨#[]⟩) := O10.out.cell 1
 have o2 : W9.cell? ⟨rb + 1, 2, none⟩ = some (.int .u32 (n.toNat : Int)) := O10.out.cell 2
 have o3 : W9.cell? ⟨rb + 1, 3, none⟩ = some (.string ⟨#[]⟩) := O10.out.cell 3
 by_cases hname : name = []
 ·subst hname
  by_cases haddr : addr = []
  ·subst haddr
   go_wp2_with fail
   go_ret
   exact ⟨by simp, E10.out⟩
  ·have hbaddr : (addr == []) = false := by simpa using haddr
   go_wp2_with fail
   go_ret
   exact ⟨by first | (simp; done) | simp [haddr], E10.out⟩
 ·have hbname : (name == []) = false := by simpa using hname
  go_wp2_with fail
  go_ret
  exact ⟨by first | (simp; done) | simp [hname], E10.out⟩
set_option maxRecDepth 20000 in
set_option maxHeartbeats 8000000 in
theorem PMayAct6 (name : List UInt8) (n : UInt32) (addr : List UInt8) (w : World) :
  Calls Tryz.prog 82 #[.agg #[.int .i64 6, .string ⟨name.toArray⟩, .int .u32 (n.toNat : Int), .string ⟨addr.toArray⟩]] w fun e w' => e = .returned (.bool (decide (name = []) && decide (addr = []))) ∧ Ext w w' := by
 obtain ⟨R, O, E⟩ := maya_start 6 name n addr w
 replace R := hide R
 replace O := hide O
 replace E := hide E
 go_enter Tryz.func82, Tryz.ntmps82
 go_upto_region 11 with fail
 generalize (w.alloc (Obj.cells #[.int .i64 6, .string ⟨name.toArray⟩, .int .u32 (n.toNat : Int), .string ⟨addr.toArray⟩] 51)).alloc (Obj.cells #[.int .i64 6, .string ⟨#[]⟩, .int .u32 0, .string ⟨#[]⟩] 51) = W8 at R O E ⊢
 generalize hg : w.heap.size = rb at R O ⊢
 have r0 : W8.cell? ⟨rb, 0, none⟩ = some (.int .i64 6) := R.out.cell 0
 have r1 : W8.cell? ⟨rb, 1, none⟩ = some (.string ⟨name.toArray⟩) := R.out.cell 1
 have r2 : W8.cell? ⟨rb, 2, none⟩ = some (.int .u32 (n.toNat : Int)) := R.out.cell 2
 have r3 : W8.cell? ⟨rb, 3, none⟩ = some (.string ⟨addr.toArray⟩) := R.out.cell 3
 have o0 : W8.cell? ⟨rb + 1, 0, none⟩ = some (.int .i64 6) := O.out.cell 0
 have o1 : W8.cell? ⟨rb + 1, 1, none⟩ = some (.string ⟨#[]⟩) := O.out.cell 1
 have o2 : W8.cell? ⟨rb + 1, 2, none⟩ = some (.int .u32 0) := O.out.cell 2
 have o3 : W8.cell? ⟨rb + 1, 3, none⟩ = some (.string ⟨#[]⟩) := O.out.cell 3
 have of := fun i => O.out.frozen i
 go_upto_region 20 with fail
 clear r0 r1 r2 r3 o0 o1 o2 o3 of
 have R10 := hide (R.out.far (p := ⟨rb + 1, 2, none⟩) (show rb ≠ rb + 1 by omega) (.int .u32 (n.toNat : Int)))
 have O10 : Blk (W8.setCell ⟨rb + 1, 2, none⟩ (.int .u32 (n.toNat : Int))) (rb + 1) 51 #[.int .i64 6, .string ⟨#[]⟩, .int .u32 (n.toNat : Int), .string ⟨#[]⟩] := O.out.set_ 2 _
 have E10 := hide (E.out.setCell (show w.heap.size ≤ rb + 1 by omega) (.int .u32 (n.toNat : Int)) (p := ⟨rb + 1, 2, none⟩))
 replace O10 := hide O10
 clear R O E
 generalize W8.setCell ⟨rb + 1, 2, none⟩ (.int .u32 (n.toNat : Int)) = W9 at R10 O10 E10 ⊢
 have r0 : W9.cell? ⟨rb, 0, none⟩ = some (.int .i64 6) := R10.out.cell 0
 have r1 : W9.cell? ⟨rb, 1, none⟩ = some (.string ⟨name.toArray⟩) := R10.out.cell 1
 have r2 : W9.cell? ⟨rb, 2, none⟩ = some (.int .u32 (n.toNat : Int)) := R10.out.cell 2
 have r3 : W9.cell? ⟨rb, 3, none⟩ = some (.string ⟨addr.toArray⟩) := R10.out.cell 3
 have o0 : W9.cell? ⟨rb + 1, 0, none⟩ = some (.int .i64 6) := O10.out.cell 0
 have o1 : W9.cell? ⟨rb + 1, 1, none⟩ = some (.string ⟨#[]⟩) := O10.out.cell 1
 have o2 : W9.cell? ⟨rb + 1, 2, none⟩ = some (.int .u32 (n.toNat : Int)) := O10.out.cell 2
 have o3 : W9.cell? ⟨rb + 1, 3, none⟩ = some (.string ⟨#[]⟩) := O10.out.cell 3
 by_cases hname : name = []
 ·subst hname
  by_cases haddr : addr = []
  ·subst haddr
   go_wp2_with fail
   go_ret
   exact ⟨by simp, E10.out⟩
  ·have hbaddr : (addr == []) = false := by simpa using haddr
   go_wp2_with fail
   go_ret
   exact ⟨by first | (simp; done) | simp [haddr], E10.out⟩
 ·have hbname : (name == []) = false := by simpa using hname
  go_wp2_with fail
  go_ret
  exact ⟨by first | (simp; done) | simp [hname], E10.out⟩
set_option maxRecDepth 20000 in
set_option maxHeartbeats 8000000 in
theorem PMayAct7 (name : List UInt8) (n : UInt32) (addr : List UInt8) (w : World) :
    Calls Tryz.prog 82 #[.agg #[.int .i64 7, .string ⟨name.toArray⟩, .int .u32 (n.toNat : Int), .string ⟨addr.toArray⟩]] w fun e w' => e = .returned (.bool (nameOk name && (decide (n = 0) && decide (addr = [])))) ∧ Ext w w' := by
  have q := fun W => IsName_any name W
  generalize nameOk name = nk at *
  obtain ⟨R, O, E⟩ := maya_start 7 name n addr w
  replace q := hide q
  replace R := hide R
  replace O := hide O
  replace E := hide E
  go_enter Tryz.func82, Tryz.ntmps82
  go_upto_region 13 with fail
  generalize (w.alloc (Obj.cells #[.int .i64 7, .string ⟨name.toArray⟩, .int .u32 (n.toNat : Int), .string ⟨addr.toArray⟩] 51)).alloc (Obj.cells #[.int .i64 7, .string ⟨#[]⟩, .int .u32 0, .string ⟨#[]⟩] 51) = W8 at R O E ⊢
  generalize hg : w.heap.size = rb at R O ⊢
  have r1 : W8.cell? ⟨rb, 1, none⟩ = some (.string ⟨name.toArray⟩) := R.out.cell 1
  have o1 : W8.cell? ⟨rb + 1, 1, none⟩ = some (.string ⟨#[]⟩) := O.out.cell 1
  have of := fun i => O.out.frozen i
  go_region_held3 (fun w' => w'.cell? ⟨rb, 1, none⟩ = some (.string ⟨name.toArray⟩)) (go_keep)
    ((go_at_call 65; refine (q.out _).mono ?_; rintro e w9 ⟨rfl, he⟩
      have E9 := E.out.drew.trans he
      have R9 := R.out.drew.ext he
      have O9 := O.out.drew.ext he
      clear he
      have r91 : w9.cell? ⟨rb, 1, none⟩ = some (.string ⟨name.toArray⟩) := R9.cell 1
      have o91 : w9.cell? ⟨rb + 1, 1, none⟩ = some (.string ⟨#[]⟩) := O9.cell 1
      have of9 := fun i => O9.frozen i
      replace E9 := hide E9
      replace R9 := hide R9
      replace O9 := hide O9))
  clear r1 o1 of R O E
  have R10 := hide (R9.out.far (p := ⟨rb + 1, 1, none⟩) (show rb ≠ rb + 1 by omega) (.string ⟨name.toArray⟩))
  have O10 : Blk (w9.setCell ⟨rb + 1, 1, none⟩ (.string ⟨name.toArray⟩)) (rb + 1) 51 #[.int .i64 7, .string ⟨name.toArray⟩, .int .u32 0, .string ⟨#[]⟩] := O9.out.set_ 1 _
  have E10 := hide (E9.out.setCell (show w.heap.size ≤ rb + 1 by omega) (.string ⟨name.toArray⟩) (p := ⟨rb + 1, 1, none⟩))
  replace O10 := hide O10
  clear r91 o91 of9 R9 O9 E9
  generalize w9.setCell ⟨rb + 1, 1, none⟩ (.string ⟨name.toArray⟩) = W9 at R10 O10 E10 ⊢
  have r0 : W9.cell? ⟨rb, 0, none⟩ = some (.int .i64 7) := R10.out.cell 0
  have r1 : W9.cell? ⟨rb, 1, none⟩ = some (.string ⟨name.toArray⟩) := R10.out.cell 1
  have r2 : W9.cell? ⟨rb, 2, none⟩ = some (.int .u32 (n.toNat : Int)) := R10.out.cell 2
  have r3 : W9.cell? ⟨rb, 3, none⟩ = some (.string ⟨addr.toArray⟩) := R10.out.cell 3
  have o0 : W9.cell? ⟨rb + 1, 0, none⟩ = some (.int .i64 7) := O10.out.cell 0
  have o1 : W9.cell? ⟨rb + 1, 1, none⟩ = some (.string ⟨name.toArray⟩) := O10.out.cell 1
  have o2 : W9.cell? ⟨rb + 1, 2, none⟩ = some (.int .u32 0) := O10.out.cell 2
  have o3 : W9.cell? ⟨rb + 1, 3, none⟩ = some (.string ⟨#[]⟩) := O10.out.cell 3
  cases nk with
  | false =>
    go_wp2_with fail
    go_ret
    exact ⟨by simp, E10.out⟩
  | true =>
    by_cases hn : n = 0
    · subst hn
      have hz0 : ((0 : UInt32).toNat : Int) = 0 := rfl
      by_cases haddr : addr = []
      · subst haddr
        go_wp2_with fail
        go_ret
        exact ⟨by simp, E10.out⟩
      · have hbaddr : (addr == []) = false := by simpa using haddr
        go_wp2_with fail
        go_ret
        exact ⟨by first | (simp; done) | simp [haddr], E10.out⟩
    · have hnb : ((n.toNat : Int) == 0) = false := by rw [beq_eq_false_iff_ne]; intro h; exact hn (UInt32.toNat_inj.1 (by rw [show (0 : UInt32).toNat = 0 from rfl]; omega))
      have hnb2 : (n.toNat == 0) = false := by rw [beq_eq_false_iff_ne]; intro h; exact hn (UInt32.toNat_inj.1 (by rw [show (0 : UInt32).toNat = 0 from rfl]; omega))
      have hnb3 : ¬ n.toNat = 0 := by simpa using hnb2
      go_wp2_with fail
      go_ret
      exact ⟨by first | (simp; done) | simp [hn], E10.out⟩
set_option maxRecDepth 20000 in
set_option maxHeartbeats 8000000 in
theorem PMayAct8 (name : List UInt8) (n : UInt32) (addr : List UInt8) (w : World) :
  Calls Tryz.prog 82 #[.agg #[.int .i64 8, .string ⟨name.toArray⟩, .int .u32 (n.toNat : Int), .string ⟨addr.toArray⟩]] w fun e w' => e = .returned (.bool (decide (1 ≤ n.toNat ∧ n.toNat ≤ 8) && (decide (name = []) && decide (addr = [])))) ∧ Ext w w' := by
 obtain ⟨R, O, E⟩ := maya_start 8 name n addr w
 have hcs : (decide (1 ≤ n.toNat) = false ∧ decide ((1 : Int) ≤ (n.toNat : Int)) = false ∧ decide (1 ≤ n.toNat ∧ n.toNat ≤ 8) = false) ∨ (decide (1 ≤ n.toNat) = true ∧ decide ((1 : Int) ≤ (n.toNat : Int)) = true ∧ decide ((n.toNat : Int) ≤ 8) = false ∧ decide (1 ≤ n.toNat ∧ n.toNat ≤ 8) = false) ∨ (decide (1 ≤ n.toNat) = true ∧ decide ((1 : Int) ≤ (n.toNat : Int)) = true ∧ decide ((n.toNat : Int) ≤ 8) = true ∧ decide (1 ≤ n.toNat ∧ n.toNat ≤ 8) = true) := by
  by_cases h1 : 1 ≤ n.toNat
  ·by_cases h2 : n.toNat ≤ 8
   ·exact .inr (.inr ⟨decide_eq_true h1, decide_eq_true (by omega), decide_eq_true (by omega), decide_eq_true ⟨h1, h2⟩⟩)
   ·exact .inr (.inl ⟨decide_eq_true h1, decide_eq_true (by omega), decide_eq_false (by omega), decide_eq_false fun h => h2 h.2⟩)
  ·exact .inl ⟨decide_eq_false h1, decide_eq_false (by omega), decide_eq_false fun h => h1 h.1⟩
 generalize decide (1 ≤ n.toNat ∧ n.toNat ≤ 8) = r at *
 replace R := hide R
 replace O := hide O
 replace E := hide E
 rcases hcs with ⟨h0, h1, rfl⟩ | ⟨h0, h1, h2, rfl⟩ | ⟨h0, h1, h2, rfl⟩
 all_goals
  go_enter Tryz.func82, Tryz.ntmps82
  go_upto_region 15 with fail
  generalize (w.alloc (Obj.cells #[.int .i64 8, .string ⟨name.toArray⟩, .int .u32 (n.toNat : Int), .string ⟨addr.toArray⟩] 51)).alloc (Obj.cells #[.int .i64 8, .string ⟨#[]⟩, .int .u32 0, .string ⟨#[]⟩] 51) = W8 at R O E ⊢
  generalize hg : w.heap.size = rb at R O ⊢
  have r9 : W8.cell? ⟨rb, 2, none⟩ = some (.int .u32 (n.toNat : Int)) := R.out.cell 2
  have o9 : W8.cell? ⟨rb + 1, 2, none⟩ = some (.int .u32 0) := O.out.cell 2
  have of := fun i => O.out.frozen i
  go_region
  clear r9 o9 of
  have R10 := hide (R.out.far (p := ⟨rb + 1, 2, none⟩) (show rb ≠ rb + 1 by omega) (.int .u32 (n.toNat : Int))).drew
  have O10 : Blk (W8.setCell ⟨rb + 1, 2, none⟩ (.int .u32 (n.toNat : Int))).drew (rb + 1) 51 #[.int .i64 8, .string ⟨#[]⟩, .int .u32 (n.toNat : Int), .string ⟨#[]⟩] := O.out.set_ 2 _
  have E10 := hide (E.out.setCell (show w.heap.size ≤ rb + 1 by omega) (.int .u32 (n.toNat : Int)) (p := ⟨rb + 1, 2, none⟩)).drew
  replace O10 := hide O10
  clear R O E
  generalize (W8.setCell ⟨rb + 1, 2, none⟩ (.int .u32 (n.toNat : Int))).drew = W9 at R10 O10 E10 ⊢
  have r0 : W9.cell? ⟨rb, 0, none⟩ = some (.int .i64 8) := R10.out.cell 0
  have r1 : W9.cell? ⟨rb, 1, none⟩ = some (.string ⟨name.toArray⟩) := R10.out.cell 1
  have r2 : W9.cell? ⟨rb, 2, none⟩ = some (.int .u32 (n.toNat : Int)) := R10.out.cell 2
  have r3 : W9.cell? ⟨rb, 3, none⟩ = some (.string ⟨addr.toArray⟩) := R10.out.cell 3
  have o0 : W9.cell? ⟨rb + 1, 0, none⟩ = some (.int .i64 8) := O10.out.cell 0
  have o1 : W9.cell? ⟨rb + 1, 1, none⟩ = some (.string ⟨#[]⟩) := O10.out.cell 1
  have o2 : W9.cell? ⟨rb + 1, 2, none⟩ = some (.int .u32 (n.toNat : Int)) := O10.out.cell 2
  have o3 : W9.cell? ⟨rb + 1, 3, none⟩ = some (.string ⟨#[]⟩) := O10.out.cell 3
 ·go_wp2_with fail
  go_ret
  exact ⟨by simp, E10.out⟩
 ·go_wp2_with fail
  go_ret
  exact ⟨by simp, E10.out⟩
 ·by_cases hname : name = []
  ·subst hname
   by_cases haddr : addr = []
   ·subst haddr
    go_wp2_with fail
    go_ret
    exact ⟨by simp, E10.out⟩
   ·have hbaddr : (addr == []) = false := by simpa using haddr
    go_wp2_with fail
    go_ret
    exact ⟨by first | (simp; done) | simp [haddr], E10.out⟩
  ·have hbname : (name == []) = false := by simpa using hname
   go_wp2_with fail
   go_ret
   exact ⟨by first | (simp; done) | simp [hname], E10.out⟩
set_option maxRecDepth 20000 in
set_option maxHeartbeats 8000000 in
theorem PMayAct9 (name : List UInt8) (n : UInt32) (addr : List UInt8) (w : World) :
  Calls Tryz.prog 82 #[.agg #[.int .i64 9, .string ⟨name.toArray⟩, .int .u32 (n.toNat : Int), .string ⟨addr.toArray⟩]] w fun e w' => e = .returned (.bool (decide (addr.length = 4 ∨ addr.length = 16) && (decide (name = []) && decide (n = 0)))) ∧ Ext w w' := by
 obtain ⟨R, O, E⟩ := maya_start 9 name n addr w
 have hsz : (ByteArray.mk addr.toArray).size = addr.length := ba_size addr
 have hcs : (((addr.length : Int) == 4) = true ∧ decide (addr.length = 4 ∨ addr.length = 16) = true) ∨ (((addr.length : Int) == 4) = false ∧ ((addr.length : Int) == 16) = true ∧ decide (addr.length = 4 ∨ addr.length = 16) = true) ∨ (((addr.length : Int) == 4) = false ∧ ((addr.length : Int) == 16) = false ∧ decide (addr.length = 4 ∨ addr.length = 16) = false) := by
  by_cases h1 : addr.length = 4
  ·exact .inl ⟨by rw [beq_iff_eq]; omega, decide_eq_true (.inl h1)⟩
  ·by_cases h2 : addr.length = 16
   ·exact .inr (.inl ⟨by rw [beq_eq_false_iff_ne]; omega, by rw [beq_iff_eq]; omega, decide_eq_true (.inr h2)⟩)
   ·exact .inr (.inr ⟨by rw [beq_eq_false_iff_ne]; omega, by rw [beq_eq_false_iff_ne]; omega, decide_eq_false fun h => h.elim h1 h2⟩)
 generalize decide (addr.length = 4 ∨ addr.length = 16) = r at *
 replace R := hide R
 replace O := hide O
 replace E := hide E
 rcases hcs with ⟨h1, rfl⟩ | ⟨h1, h2, rfl⟩ | ⟨h1, h2, rfl⟩
 all_goals
  go_enter Tryz.func82, Tryz.ntmps82
  go_upto_region 17 with fail
  generalize (w.alloc (Obj.cells #[.int .i64 9, .string ⟨name.toArray⟩, .int .u32 (n.toNat : Int), .string ⟨addr.toArray⟩] 51)).alloc (Obj.cells #[.int .i64 9, .string ⟨#[]⟩, .int .u32 0, .string ⟨#[]⟩] 51) = W8 at R O E ⊢
  generalize hg : w.heap.size = rb at R O ⊢
  have r9 : W8.cell? ⟨rb, 3, none⟩ = some (.string ⟨addr.toArray⟩) := R.out.cell 3
  have o9 : W8.cell? ⟨rb + 1, 3, none⟩ = some (.string ⟨#[]⟩) := O.out.cell 3
  have of := fun i => O.out.frozen i
  go_region
  clear r9 o9 of
  have R10 := hide (R.out.far (p := ⟨rb + 1, 3, none⟩) (show rb ≠ rb + 1 by omega) (.string ⟨addr.toArray⟩)).drew
  have O10 : Blk (W8.setCell ⟨rb + 1, 3, none⟩ (.string ⟨addr.toArray⟩)).drew (rb + 1) 51 #[.int .i64 9, .string ⟨#[]⟩, .int .u32 0, .string ⟨addr.toArray⟩] := O.out.set_ 3 _
  have E10 := hide (E.out.setCell (show w.heap.size ≤ rb + 1 by omega) (.string ⟨addr.toArray⟩) (p := ⟨rb + 1, 3, none⟩)).drew
  replace O10 := hide O10
  clear R O E
  generalize (W8.setCell ⟨rb + 1, 3, none⟩ (.string ⟨addr.toArray⟩)).drew = W9 at R10 O10 E10 ⊢
  have r0 : W9.cell? ⟨rb, 0, none⟩ = some (.int .i64 9) := R10.out.cell 0
  have r1 : W9.cell? ⟨rb, 1, none⟩ = some (.string ⟨name.toArray⟩) := R10.out.cell 1
  have r2 : W9.cell? ⟨rb, 2, none⟩ = some (.int .u32 (n.toNat : Int)) := R10.out.cell 2
  have r3 : W9.cell? ⟨rb, 3, none⟩ = some (.string ⟨addr.toArray⟩) := R10.out.cell 3
  have o0 : W9.cell? ⟨rb + 1, 0, none⟩ = some (.int .i64 9) := O10.out.cell 0
  have o1 : W9.cell? ⟨rb + 1, 1, none⟩ = some (.string ⟨#[]⟩) := O10.out.cell 1
  have o2 : W9.cell? ⟨rb + 1, 2, none⟩ = some (.int .u32 0) := O10.out.cell 2
  have o3 : W9.cell? ⟨rb + 1, 3, none⟩ = some (.string ⟨addr.toArray⟩) := O10.out.cell 3
 ·by_cases hname : name = []
  ·subst hname
   by_cases hn : n = 0
   ·subst hn
    have hz0 : ((0 : UInt32).toNat : Int) = 0 := rfl
    go_wp2_with fail
    go_ret
    exact ⟨by simp, E10.out⟩
   ·have hnb : ((n.toNat : Int) == 0) = false := by rw [beq_eq_false_iff_ne]; intro h; exact hn (UInt32.toNat_inj.1 (by rw [show (0 : UInt32).toNat = 0 from rfl]; omega))
    have hnb2 : (n.toNat == 0) = false := by rw [beq_eq_false_iff_ne]; intro h; exact hn (UInt32.toNat_inj.1 (by rw [show (0 : UInt32).toNat = 0 from rfl]; omega))
    have hnb3 : ¬ n.toNat = 0 := by simpa using hnb2
    go_wp2_with fail
    go_ret
    exact ⟨by first | (simp; done) | simp [hn], E10.out⟩
  ·have hbname : (name == []) = false := by simpa using hname
   go_wp2_with fail
   go_ret
   exact ⟨by first | (simp; done) | simp [hname], E10.out⟩
 ·by_cases hname : name = []
  ·subst hname
   by_cases hn : n = 0
   ·subst hn
    have hz0 : ((0 : UInt32).toNat : Int) = 0 := rfl
    go_wp2_with fail
    go_ret
    exact ⟨by simp, E10.out⟩
   ·have hnb : ((n.toNat : Int) == 0) = false := by rw [beq_eq_false_iff_ne]; intro h; exact hn (UInt32.toNat_inj.1 (by rw [show (0 : UInt32).toNat = 0 from rfl]; omega))
    have hnb2 : (n.toNat == 0) = false := by rw [beq_eq_false_iff_ne]; intro h; exact hn (UInt32.toNat_inj.1 (by rw [show (0 : UInt32).toNat = 0 from rfl]; omega))
    have hnb3 : ¬ n.toNat = 0 := by simpa using hnb2
    go_wp2_with fail
    go_ret
    exact ⟨by first | (simp; done) | simp [hn], E10.out⟩
  ·have hbname : (name == []) = false := by simpa using hname
   go_wp2_with fail
   go_ret
   exact ⟨by first | (simp; done) | simp [hname], E10.out⟩
 ·go_wp2_with fail
  go_ret
  exact ⟨by simp, E10.out⟩
set_option maxRecDepth 20000 in
set_option maxHeartbeats 8000000 in
theorem PMayAct10 (name : List UInt8) (n : UInt32) (addr : List UInt8) (w : World) :
  Calls Tryz.prog 82 #[.agg #[.int .i64 10, .string ⟨name.toArray⟩, .int .u32 (n.toNat : Int), .string ⟨addr.toArray⟩]] w fun e w' => e = .returned (.bool (decide (n.toNat ≤ 2) && (decide (name = []) && decide (addr = [])))) ∧ Ext w w' := by
 obtain ⟨R, O, E⟩ := maya_start 10 name n addr w
 have hcs : (decide ((n.toNat : Int) ≤ 2) = true ∧ decide (n.toNat ≤ 2) = true) ∨ (decide ((n.toNat : Int) ≤ 2) = false ∧ decide (n.toNat ≤ 2) = false) := by
  by_cases h1 : n.toNat ≤ 2
  ·exact .inl ⟨decide_eq_true (by omega), decide_eq_true h1⟩
  ·exact .inr ⟨decide_eq_false (by omega), decide_eq_false h1⟩
 generalize decide (n.toNat ≤ 2) = r at *
 replace R := hide R
 replace O := hide O
 replace E := hide E
 rcases hcs with ⟨h1, rfl⟩ | ⟨h1, rfl⟩
 all_goals
  go_enter Tryz.func82, Tryz.ntmps82
  go_upto_region 19 with fail
  generalize (w.alloc (Obj.cells #[.int .i64 10, .string ⟨name.toArray⟩, .int .u32 (n.toNat : Int), .string ⟨addr.toArray⟩] 51)).alloc (Obj.cells #[.int .i64 10, .string ⟨#[]⟩, .int .u32 0, .string ⟨#[]⟩] 51) = W8 at R O E ⊢
  generalize hg : w.heap.size = rb at R O ⊢
  have r9 : W8.cell? ⟨rb, 2, none⟩ = some (.int .u32 (n.toNat : Int)) := R.out.cell 2
  have o9 : W8.cell? ⟨rb + 1, 2, none⟩ = some (.int .u32 0) := O.out.cell 2
  have of := fun i => O.out.frozen i
  go_region
  clear r9 o9 of
  have R10 := hide (R.out.far (p := ⟨rb + 1, 2, none⟩) (show rb ≠ rb + 1 by omega) (.int .u32 (n.toNat : Int))).drew
  have O10 : Blk (W8.setCell ⟨rb + 1, 2, none⟩ (.int .u32 (n.toNat : Int))).drew (rb + 1) 51 #[.int .i64 10, .string ⟨#[]⟩, .int .u32 (n.toNat : Int), .string ⟨#[]⟩] := O.out.set_ 2 _
  have E10 := hide (E.out.setCell (show w.heap.size ≤ rb + 1 by omega) (.int .u32 (n.toNat : Int)) (p := ⟨rb + 1, 2, none⟩)).drew
  replace O10 := hide O10
  clear R O E
  generalize (W8.setCell ⟨rb + 1, 2, none⟩ (.int .u32 (n.toNat : Int))).drew = W9 at R10 O10 E10 ⊢
  have r0 : W9.cell? ⟨rb, 0, none⟩ = some (.int .i64 10) := R10.out.cell 0
  have r1 : W9.cell? ⟨rb, 1, none⟩ = some (.string ⟨name.toArray⟩) := R10.out.cell 1
  have r2 : W9.cell? ⟨rb, 2, none⟩ = some (.int .u32 (n.toNat : Int)) := R10.out.cell 2
  have r3 : W9.cell? ⟨rb, 3, none⟩ = some (.string ⟨addr.toArray⟩) := R10.out.cell 3
  have o0 : W9.cell? ⟨rb + 1, 0, none⟩ = some (.int .i64 10) := O10.out.cell 0
  have o1 : W9.cell? ⟨rb + 1, 1, none⟩ = some (.string ⟨#[]⟩) := O10.out.cell 1
  have o2 : W9.cell? ⟨rb + 1, 2, none⟩ = some (.int .u32 (n.toNat : Int)) := O10.out.cell 2
  have o3 : W9.cell? ⟨rb + 1, 3, none⟩ = some (.string ⟨#[]⟩) := O10.out.cell 3
 ·by_cases hname : name = []
  ·subst hname
   by_cases haddr : addr = []
   ·subst haddr
    go_wp2_with fail
    go_ret
    exact ⟨by simp, E10.out⟩
   ·have hbaddr : (addr == []) = false := by simpa using haddr
    go_wp2_with fail
    go_ret
    exact ⟨by first | (simp; done) | simp [haddr], E10.out⟩
  ·have hbname : (name == []) = false := by simpa using hname
   go_wp2_with fail
   go_ret
   exact ⟨by first | (simp; done) | simp [hname], E10.out⟩
 ·go_wp2_with fail
  go_ret
  exact ⟨by simp, E10.out⟩
set_option maxRecDepth 20000 in
set_option maxHeartbeats 8000000 in
theorem PMayAct0 (k : Int) (name : List UInt8) (n : UInt32) (addr : List UInt8) (w : World) (h1 : ¬ k = 1) (h2 : ¬ k = 2) (h3 : ¬ k = 3) (h4 : ¬ k = 4) (h5 : ¬ k = 5) (h6 : ¬ k = 6) (h7 : ¬ k = 7) (h8 : ¬ k = 8) (h9 : ¬ k = 9) (h10 : ¬ k = 10) :
  Calls Tryz.prog 82 #[.agg #[.int .i64 k, .string ⟨name.toArray⟩, .int .u32 (n.toNat : Int), .string ⟨addr.toArray⟩]] w fun e w' => e = .returned (.bool false) ∧ Ext w w' := by
 obtain ⟨R, O, E⟩ := maya_start k name n addr w
 have g1 : (k == 1) = false := by simpa using h1
 have g2 : (k == 2) = false := by simpa using h2
 have g3 : (k == 3) = false := by simpa using h3
 have g4 : (k == 4) = false := by simpa using h4
 have g5 : (k == 5) = false := by simpa using h5
 have g6 : (k == 6) = false := by simpa using h6
 have g7 : (k == 7) = false := by simpa using h7
 have g8 : (k == 8) = false := by simpa using h8
 have g9 : (k == 9) = false := by simpa using h9
 have g10 : (k == 10) = false := by simpa using h10
 clear h1 h2 h3 h4 h5 h6 h7 h8 h9 h10
 replace R := hide R
 replace O := hide O
 replace E := hide E
 go_enter Tryz.func82, Tryz.ntmps82
 go_wp2_with fail
 go_ret
 exact ⟨rfl, E.out⟩
theorem PMayAct_any (a : ActS) (w : World) :
  Calls Tryz.prog 82 #[.agg (actCs a).toArray] w fun e w' => e = .returned (.bool (actOk a)) ∧ Ext w w' := by
 obtain ⟨k, name, n, addr⟩ := a
 unfold actOk
 dsimp only
 by_cases h : k = 1 ∨ k = 2 ∨ k = 5
 ·rw [if_pos h]
  rcases h with rfl | rfl | rfl
  ·exact PMayAct1 name n addr w
  ·exact PMayAct2 name n addr w
  ·exact PMayAct5 name n addr w
 rw [if_neg h]
 by_cases h3 : k = 3 ∨ k = 4 ∨ k = 6
 ·rw [if_pos h3]
  rcases h3 with rfl | rfl | rfl
  ·exact PMayAct3 name n addr w
  ·exact PMayAct4 name n addr w
  ·exact PMayAct6 name n addr w
 rw [if_neg h3]
 by_cases h7 : k = 7
 ·rw [if_pos h7]; subst h7; exact PMayAct7 name n addr w
 rw [if_neg h7]
 by_cases h8 : k = 8
 ·rw [if_pos h8]; subst h8; exact PMayAct8 name n addr w
 rw [if_neg h8]
 by_cases h9 : k = 9
 ·rw [if_pos h9]; subst h9; exact PMayAct9 name n addr w
 rw [if_neg h9]
 by_cases h10 : k = 10
 ·rw [if_pos h10]; subst h10; exact PMayAct10 name n addr w
 rw [if_neg h10]
 exact PMayAct0 k name n addr w (fun e => h (.inl e)) (fun e => h (.inr (.inl e))) (fun e => h3 (.inl e)) (fun e => h3 (.inr (.inl e))) (fun e => h (.inr (.inr e))) (fun e => h3 (.inr (.inr e))) h7 h8 h9 h10
end
section
open Go.RowKit
set_option linter.unusedVariables false
set_option maxHeartbeats 1000000 in
theorem IdxCond_any (g : Nat) (lb : Array Value) (eg : ∀ args w, (callFunc g args).run Tryz.prog w = .ok (.enter g args) w) (pr : CondS → Bool) (a : Option Addr) (c : Nat) (l : List CondS) (w : World) (hl : l.length ≤ 16777216) (hs : Sl ECond w (· < w.heap.size) a l)
  (hq : ∀ x ∈ l, ∀ W, Ext w W → Calls Tryz.prog g (#[.agg #[.int .i64 x.kind, .bool x.neg, .string ⟨x.name.toArray⟩, .int .i64 x.n]] ++ lb) W fun e w' => e = .returned (.bool (pr x)) ∧ Ext W w') :
  Calls Tryz.prog 125 #[.slice a l.length c, .func (.func g) #[] lb] w fun e w' => e = .returned (.int .i64 (idxT pr l)) ∧ Ext w w' := by
 replace hs := hide hs
 replace hq := hide hq
 go_enter Tryz.func125, Tryz.ntmps125
 go_wp2
 go_loopw [8] (fun i wr => ∃ k : Nat, k ≤ l.length ∧ i = .int .i64 k ∧ Ext w wr ∧ (l.take k).any pr = false) (fun i _ => l.length - (intOf i).toNat)
 case atStart => exact ⟨0, Nat.zero_le _, rfl, Ext.refl _, rfl⟩
 case round =>
  obtain ⟨k, hk, rfl, he, ha⟩ := hrel
  replace ha := hide ha
  replace he := hide he
  by_cases hlt : k < l.length
  ·obtain ⟨b, off, rfl, _, hin, hc⟩ := ECond.at (hs.out.ext he.out) k hlt
   have q := hq.out l[k] (List.getElem_mem hlt) wr he.out
   have hyes := fun h => idxT_at (pr := pr) hlt h ha.out
   have hno := fun h => any_take (pr := pr) hlt h ha.out
   generalize pr l[k] = r at q hyes hno
   generalize l[k] = x at *
   have x0 : wr.cell? ⟨b, off + k * 4, none⟩ = some (.int .i64 x.kind) := hc 0 _ rfl
   have x1 : wr.cell? ⟨b, off + k * 4 + 1, none⟩ = some (.bool x.neg) := hc 1 _ rfl
   have x2 : wr.cell? ⟨b, off + k * 4 + 2, none⟩ = some (.string ⟨x.name.toArray⟩) := hc 2 _ rfl
   have x3 : wr.cell? ⟨b, off + k * 4 + 3, none⟩ = some (.int .i64 x.n) := hc 3 _ rfl
   clear hc hin
   obtain ⟨y0, y1, y2, y3⟩ := x
   dsimp only at x0 x1 x2 x3 q
   replace q := hide q
   replace hyes := hide hyes
   replace hno := hide hno
   go_wp2_with (go_at_fn g; refine q.out.mono ?_; rintro e W1 ⟨rfl, he1⟩; replace he1 := hide (he.out.trans he1); cases r)
   case roundEnd =>
    go_roundw
    case rel => exact ⟨k + 1, by omega, by go_num, he1.out, hno.out (by trivial)⟩
    case measure => simp [intOf]; omega
   all_goals
    go_ret
    exact ⟨ret_int (hyes.out (by trivial)).symm, he1.out⟩
  ·have hend : idxT pr l = -1 := idxT_none (by
    obtain rfl : k = l.length := by omega
    have := ha.out
    rwa [List.take_length] at this)
   replace hend := hide hend
   go_wp2
   go_ret
   exact ⟨ret_int hend.out.symm, he.out⟩
set_option maxHeartbeats 1000000 in
theorem HasCond_any (g : Nat) (lb : Array Value) (eg : ∀ args w, (callFunc g args).run Tryz.prog w = .ok (.enter g args) w) (pr : CondS → Bool) (a : Option Addr) (c : Nat) (l : List CondS) (w : World) (hl : l.length ≤ 16777216) (hs : Sl ECond w (· < w.heap.size) a l)
  (hq : ∀ x ∈ l, ∀ W, Ext w W → Calls Tryz.prog g (#[.agg #[.int .i64 x.kind, .bool x.neg, .string ⟨x.name.toArray⟩, .int .i64 x.n]] ++ lb) W fun e w' => e = .returned (.bool (pr x)) ∧ Ext W w') :
  Calls Tryz.prog 77 #[.slice a l.length c, .func (.func g) #[] lb] w fun e w' => e = .returned (.bool (l.any pr)) ∧ Ext w w' := by
 have q := IdxCond_any g lb eg pr a c l w hl hs hq
 have hd := idxT_any pr l
 generalize idxT pr l = r at q hd
 generalize l.any pr = y at hd ⊢
 clear hs hq
 replace q := hide q
 go_enter Tryz.func77, Tryz.ntmps77
 go_wp2_with fail
 refine q.out.mono ?_
 rintro e W1 ⟨rfl, he⟩
 replace he := hide he
 go_wp2
 go_ret
 exact ⟨rfl, he.out⟩
set_option maxHeartbeats 1000000 in
theorem IdxAct_any (g : Nat) (lb : Array Value) (eg : ∀ args w, (callFunc g args).run Tryz.prog w = .ok (.enter g args) w) (pr : ActS → Bool) (a : Option Addr) (c : Nat) (l : List ActS) (w : World) (hl : l.length ≤ 16777216) (hs : Sl EAct w (· < w.heap.size) a l)
  (hq : ∀ x ∈ l, ∀ W, Ext w W → Calls Tryz.prog g (#[.agg #[.int .i64 x.kind, .string ⟨x.name.toArray⟩, .int .u32 (x.n.toNat : Int), .string ⟨x.addr.toArray⟩]] ++ lb) W fun e w' => e = .returned (.bool (pr x)) ∧ Ext W w') :
  Calls Tryz.prog 126 #[.slice a l.length c, .func (.func g) #[] lb] w fun e w' => e = .returned (.int .i64 (idxT pr l)) ∧ Ext w w' := by
 replace hs := hide hs
 replace hq := hide hq
 go_enter Tryz.func126, Tryz.ntmps126
 go_wp2
 go_loopw [8] (fun i wr => ∃ k : Nat, k ≤ l.length ∧ i = .int .i64 k ∧ Ext w wr ∧ (l.take k).any pr = false) (fun i _ => l.length - (intOf i).toNat)
 case atStart => exact ⟨0, Nat.zero_le _, rfl, Ext.refl _, rfl⟩
 case round =>
  obtain ⟨k, hk, rfl, he, ha⟩ := hrel
  replace ha := hide ha
  replace he := hide he
  by_cases hlt : k < l.length
  ·obtain ⟨b, off, rfl, _, hin, hc⟩ := EAct.at (hs.out.ext he.out) k hlt
   have q := hq.out l[k] (List.getElem_mem hlt) wr he.out
   have hyes := fun h => idxT_at (pr := pr) hlt h ha.out
   have hno := fun h => any_take (pr := pr) hlt h ha.out
   generalize pr l[k] = r at q hyes hno
   generalize l[k] = x at *
   have x0 : wr.cell? ⟨b, off + k * 4, none⟩ = some (.int .i64 x.kind) := hc 0 _ rfl
   have x1 : wr.cell? ⟨b, off + k * 4 + 1, none⟩ = some (.string ⟨x.name.toArray⟩) := hc 1 _ rfl
   have x2 : wr.cell? ⟨b, off + k * 4 + 2, none⟩ = some (.int .u32 (x.n.toNat : Int)) := hc 2 _ rfl
   have x3 : wr.cell? ⟨b, off + k * 4 + 3, none⟩ = some (.string ⟨x.addr.toArray⟩) := hc 3 _ rfl
   clear hc hin
   obtain ⟨y0, y1, y2, y3⟩ := x
   dsimp only at x0 x1 x2 x3 q
   replace q := hide q
   replace hyes := hide hyes
   replace hno := hide hno
   go_wp2_with (go_at_fn g; refine q.out.mono ?_; rintro e W1 ⟨rfl, he1⟩; replace he1 := hide (he.out.trans he1); cases r)
   case roundEnd =>
    go_roundw
    case rel => exact ⟨k + 1, by omega, by go_num, he1.out, hno.out (by trivial)⟩
    case measure => simp [intOf]; omega
   all_goals
    go_ret
    exact ⟨ret_int (hyes.out (by trivial)).symm, he1.out⟩
  ·have hend : idxT pr l = -1 := idxT_none (by
    obtain rfl : k = l.length := by omega
    have := ha.out
    rwa [List.take_length] at this)
   replace hend := hide hend
   go_wp2
   go_ret
   exact ⟨ret_int hend.out.symm, he.out⟩
set_option maxHeartbeats 1000000 in
theorem HasAct_any (g : Nat) (lb : Array Value) (eg : ∀ args w, (callFunc g args).run Tryz.prog w = .ok (.enter g args) w) (pr : ActS → Bool) (a : Option Addr) (c : Nat) (l : List ActS) (w : World) (hl : l.length ≤ 16777216) (hs : Sl EAct w (· < w.heap.size) a l)
  (hq : ∀ x ∈ l, ∀ W, Ext w W → Calls Tryz.prog g (#[.agg #[.int .i64 x.kind, .string ⟨x.name.toArray⟩, .int .u32 (x.n.toNat : Int), .string ⟨x.addr.toArray⟩]] ++ lb) W fun e w' => e = .returned (.bool (pr x)) ∧ Ext W w') :
  Calls Tryz.prog 80 #[.slice a l.length c, .func (.func g) #[] lb] w fun e w' => e = .returned (.bool (l.any pr)) ∧ Ext w w' := by
 have q := IdxAct_any g lb eg pr a c l w hl hs hq
 have hd := idxT_any pr l
 generalize idxT pr l = r at q hd
 generalize l.any pr = y at hd ⊢
 clear hs hq
 replace q := hide q
 go_enter Tryz.func80, Tryz.ntmps80
 go_wp2_with fail
 refine q.out.mono ?_
 rintro e W1 ⟨rfl, he⟩
 replace he := hide he
 go_wp2
 go_ret
 exact ⟨rfl, he.out⟩
set_option maxHeartbeats 1000000 in
theorem MayTerm1_any (x : CondS) (w : World) : Calls Tryz.prog 78 #[.agg (condCs x).toArray] w fun e w' => e = .returned (.bool (!condOk x)) ∧ Ext w w' := by
 have q := fun W => PMayCond_any x W
 obtain ⟨y0, y1, y2, y3⟩ := x
 generalize condOk ⟨y0, y1, y2, y3⟩ = r at *
 dsimp only [condCs] at *
 replace q := hide q
 go_enter Tryz.func78, Tryz.ntmps78
 go_wp2_with fail
 have E := (Ext.refl w).alloc (Obj.cells (condCs ⟨y0, y1, y2, y3⟩).toArray (if 1 = 1 then 48 else 51))
 have E : Ext w (w.alloc (Obj.cells (condCs ⟨y0, y1, y2, y3⟩).toArray (if 1 = 1 then 48 else 51))) := E
 replace E := hide E
 refine (q.out _).mono ?_
 rintro e w1 ⟨rfl, he⟩
 replace he := hide (E.out.trans he)
 go_wp2
 go_ret
 exact ⟨rfl, he.out⟩
set_option maxHeartbeats 1000000 in
theorem MayTerm2_any (x : ActS) (w : World) : Calls Tryz.prog 81 #[.agg (actCs x).toArray] w fun e w' => e = .returned (.bool (!actOk x)) ∧ Ext w w' := by
 have q := fun W => PMayAct_any x W
 obtain ⟨y0, y1, y2, y3⟩ := x
 generalize actOk ⟨y0, y1, y2, y3⟩ = r at *
 dsimp only [actCs] at *
 replace q := hide q
 go_enter Tryz.func81, Tryz.ntmps81
 go_wp2_with fail
 have E := (Ext.refl w).alloc (Obj.cells (actCs ⟨y0, y1, y2, y3⟩).toArray (if 2 = 1 then 48 else 51))
 have E : Ext w (w.alloc (Obj.cells (actCs ⟨y0, y1, y2, y3⟩).toArray (if 2 = 1 then 48 else 51))) := E
 replace E := hide E
 refine (q.out _).mono ?_
 rintro e w1 ⟨rfl, he⟩
 replace he := hide (E.out.trans he)
 go_wp2
 go_ret
 exact ⟨rfl, he.out⟩
set_option maxHeartbeats 1000000 in
theorem Ends_any (x : ActS) (w : World) : Calls Tryz.prog 83 #[.agg (actCs x).toArray] w fun e w' => e = .returned (.bool (endsA x)) ∧ Ext w w' := by
 obtain ⟨k, y1, y2, y3⟩ := x
 unfold endsA
 dsimp only [actCs]
 have E := hide ((Ext.refl w).alloc (Obj.cells #[.int .i64 k, .string ⟨y1.toArray⟩, .int .u32 (y2.toNat : Int), .string ⟨y3.toArray⟩] 51))
 by_cases h1 : k = 1
 ·subst h1
  go_enter Tryz.func83, Tryz.ntmps83
  go_wp2
  go_ret
  exact ⟨by simp, E.out⟩
 ·have g1 : (k == 1) = false := by simpa using h1
  go_enter Tryz.func83, Tryz.ntmps83
  go_wp2
  go_ret
  exact ⟨by simp [h1]; rfl, E.out⟩
theorem term_cases (t : TermS) : (64 < t.conds.length ∧ termOk t = false) ∨ (t.conds.length ≤ 64 ∧ t.acts.length < 1 ∧ termOk t = false) ∨ (t.conds.length ≤ 64 ∧ 1 ≤ t.acts.length ∧ 64 < t.acts.length ∧ termOk t = false) ∨
    (t.conds.length ≤ 64 ∧ 1 ≤ t.acts.length ∧ t.acts.length ≤ 64 ∧ ((t.conds.any (fun x => !condOk x) = true ∧ termOk t = false) ∨ (t.conds.any (fun x => !condOk x) = false ∧ t.acts.any (fun x => !actOk x) = true ∧ termOk t = false) ∨ (t.conds.any (fun x => !condOk x) = false ∧ t.acts.any (fun x => !actOk x) = false ∧ termOk t = !((t.acts.take (t.acts.length - 1)).any endsA)))) := by
  unfold termOk
  by_cases h1 : 64 < t.conds.length
  · exact .inl ⟨h1, by rw [decide_eq_false (by omega), Bool.false_and]⟩
  rw [decide_eq_true (p := t.conds.length ≤ 64) (by omega), Bool.true_and]
  by_cases h2 : t.acts.length < 1
  · exact .inr (.inl ⟨by omega, h2, by rw [decide_eq_false (by omega), Bool.false_and]⟩)
  by_cases h3 : 64 < t.acts.length
  · exact .inr (.inr (.inl ⟨by omega, by omega, h3, by rw [decide_eq_false (by omega), Bool.false_and]⟩))
  rw [decide_eq_true (p := 1 ≤ t.acts.length ∧ t.acts.length ≤ 64) (by omega), Bool.true_and]
  refine .inr (.inr (.inr ⟨by omega, by omega, by omega, ?_⟩))
  have e1 : t.conds.all condOk = !(t.conds.any fun x => !condOk x) := by rw [List.not_any_eq_all_not]; simp
  have e2 : t.acts.all actOk = !(t.acts.any fun x => !actOk x) := by rw [List.not_any_eq_all_not]; simp
  have e3 : (t.acts.dropLast.all fun a => !endsA a) = !((t.acts.take (t.acts.length - 1)).any endsA) := by rw [List.not_any_eq_all_not, List.dropLast_eq_take]
  rw [e1, e2, e3]
  cases t.conds.any fun x => !condOk x with
  | true => exact .inl ⟨rfl, rfl⟩
  | false =>
    cases t.acts.any fun x => !actOk x with
    | true => exact .inr (.inl ⟨rfl, rfl, rfl⟩)
    | false => exact .inr (.inr ⟨rfl, rfl, by simp⟩)
set_option maxRecDepth 20000 in
set_option maxHeartbeats 4000000 in
theorem PMayTerm_any (a1 : Option Addr) (c1 : Nat) (a2 : Option Addr) (c2 : Nat) (t : TermS) (w : World) (h1 : t.conds.length ≤ 16777216) (h2 : t.acts.length ≤ 16777216) (hc2 : t.acts.length ≤ c2) (s1 : Sl ECond w (· < w.heap.size) a1 t.conds) (s2 : Sl EAct w (· < w.heap.size) a2 t.acts) :
  Calls Tryz.prog 33 #[.agg #[.slice a1 t.conds.length c1, .slice a2 t.acts.length c2]] w fun e w' => e = .returned (.bool (termOk t)) ∧ Ext w w' := by
 have hcs := term_cases t
 generalize termOk t = r at hcs ⊢
 have q1 := fun W (h : Ext w W) => HasCond_any 78 #[] (fun _ _ => rfl) (fun x => !condOk x) a1 c1 t.conds W h1 (s1.ext h) fun x _ W _ => MayTerm1_any x W
 have q2 := fun W (h : Ext w W) => HasAct_any 81 #[] (fun _ _ => rfl) (fun x => !actOk x) a2 c2 t.acts W h2 (s2.ext h) fun x _ W _ => MayTerm2_any x W
 have q3 := fun W (h : Ext w W) => HasAct_any 83 #[] (fun _ _ => rfl) endsA a2 c2 (t.acts.take (t.acts.length - 1)) W (by rw [List.length_take]; omega) ((s2.ext h).take _) fun x _ W _ => Ends_any x W
 rw [List.length_take, show min (t.acts.length - 1) t.acts.length = t.acts.length - 1 by omega] at q3
 generalize t.conds.any (fun x => !condOk x) = b1 at *
 generalize t.acts.any (fun x => !actOk x) = b2 at *
 generalize (t.acts.take (t.acts.length - 1)).any endsA = b3 at *
 generalize t.conds.length = n1 at *
 generalize t.acts.length = n2 at *
 have B := Blk.new w 25 #[.slice a1 n1 c1, .slice a2 n2 c2]
 have E := (Ext.refl w).alloc (Obj.cells #[.slice a1 n1 c1, .slice a2 n2 c2] 25)
 clear s1 s2
 replace q1 := hide q1
 replace q2 := hide q2
 replace q3 := hide q3
 rcases hcs with ⟨k1, rfl⟩ | ⟨k1, k2, rfl⟩ | ⟨k1, k2, k3, rfl⟩ | ⟨k1, k2, k3, hcs⟩
 ·have g1 : decide ((64 : Int) < (n1 : Int)) = true := decide_eq_true (by omega)
  have g1' : decide (64 < n1) = true := decide_eq_true (by omega)
  clear B
  replace E := hide E
  clear k1
  go_enter Tryz.func33, Tryz.ntmps33
  go_wp2
  go_ret
  exact ⟨rfl, E.out⟩
 ·obtain rfl : n2 = 0 := by omega
  have g1 : decide ((64 : Int) < (n1 : Int)) = false := decide_eq_false (by omega)
  have g1' : decide (64 < n1) = false := decide_eq_false (by omega)
  clear B
  replace E := hide E
  clear k1 k2
  go_enter Tryz.func33, Tryz.ntmps33
  go_wp2
  go_ret
  exact ⟨rfl, E.out⟩
 ·have g1 : decide ((64 : Int) < (n1 : Int)) = false := decide_eq_false (by omega)
  have g1' : decide (64 < n1) = false := decide_eq_false (by omega)
  have g2 : decide ((n2 : Int) < 1) = false := decide_eq_false (by omega)
  have g2' : decide (n2 < 1) = false := decide_eq_false (by omega)
  have g3 : decide ((64 : Int) < (n2 : Int)) = true := decide_eq_true (by omega)
  have g3' : decide (64 < n2) = true := decide_eq_true (by omega)
  have g4 : ¬ n2 = 0 := by omega
  clear B
  replace E := hide E
  clear k1 k2 k3
  go_enter Tryz.func33, Tryz.ntmps33
  go_wp2
  go_ret
  exact ⟨rfl, E.out⟩
 ·have g1 : decide ((64 : Int) < (n1 : Int)) = false := decide_eq_false (by omega)
  have g1' : decide (64 < n1) = false := decide_eq_false (by omega)
  have g2 : decide ((n2 : Int) < 1) = false := decide_eq_false (by omega)
  have g2' : decide (n2 < 1) = false := decide_eq_false (by omega)
  have g3 : decide ((64 : Int) < (n2 : Int)) = false := decide_eq_false (by omega)
  have g3' : decide (64 < n2) = false := decide_eq_false (by omega)
  have g4 : ¬ n2 = 0 := by omega
  obtain ⟨m, rfl⟩ : ∃ m, n2 = m + 1 := ⟨n2 - 1, by omega⟩
  rw [Nat.add_sub_cancel] at q3
  have g5 : decide ((m : Int) + 1 < 1) = false := decide_eq_false (by omega)
  have g6 : decide ((64 : Int) < (m : Int) + 1) = false := decide_eq_false (by omega)
  have g7 : wrap64 (m : Int) = (m : Int) := wrap64_id _ (by omega) (by omega)
  have c0 := B.cell 0
  have c1 := B.cell 1
  simp at c0 c1
  replace E := hide E
  clear k1 k2 k3 h1 h2
  replace B := hide B
  rcases hcs with ⟨rfl, rfl⟩ | ⟨rfl, rfl, rfl⟩ | ⟨rfl, rfl, rfl⟩
  ·go_enter Tryz.func33, Tryz.ntmps33
   go_wp2_with fail
   (with_reducible refine (q1.out _ E.out).mono ?_)
   rintro e w1 ⟨rfl, he⟩
   replace he := hide (E.out.trans he)
   go_wp2_with fail
   go_ret
   exact ⟨rfl, he.out⟩
  ·go_enter Tryz.func33, Tryz.ntmps33
   go_wp2_with fail
   (with_reducible refine (q1.out _ E.out).mono ?_)
   rintro e w1 ⟨rfl, he⟩
   replace B := hide (B.out.ext he)
   replace he := hide (E.out.trans he)
   have d0 := B.out.cell 0
   have d1 := B.out.cell 1
   simp at d0 d1
   go_wp2_with fail
   (with_reducible refine (q2.out _ he.out).mono ?_)
   rintro e w2 ⟨rfl, he2⟩
   replace he := hide (he.out.trans he2)
   go_wp2_with fail
   go_ret
   exact ⟨rfl, he.out⟩
  ·go_enter Tryz.func33, Tryz.ntmps33
   go_wp2_with fail
   (with_reducible refine (q1.out _ E.out).mono ?_)
   rintro e w1 ⟨rfl, he⟩
   replace B := hide (B.out.ext he)
   replace he := hide (E.out.trans he)
   have d0 := B.out.cell 0
   have d1 := B.out.cell 1
   simp at d0 d1
   go_wp2_with fail
   (with_reducible refine (q2.out _ he.out).mono ?_)
   rintro e w2 ⟨rfl, he2⟩
   replace B := hide (B.out.ext he2)
   replace he := hide (he.out.trans he2)
   clear d0 d1 he2
   have d0 := B.out.cell 0
   have d1 := B.out.cell 1
   simp at d0 d1
   go_wp2_with fail
   (with_reducible refine (q3.out _ he.out).mono ?_)
   rintro e w3 ⟨rfl, he3⟩
   replace he := hide (he.out.trans he3)
   go_wp2_with fail
   go_ret
   exact ⟨rfl, he.out⟩
end
end
end Go.Proofs.YtljibkfbldjgdaaGreatDoor
