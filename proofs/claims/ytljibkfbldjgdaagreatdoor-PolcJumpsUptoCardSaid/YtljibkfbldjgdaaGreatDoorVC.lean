/- Walks: an item that may be; the first item of which a function says yes. Walks: may an item be; a name; a pattern (as functions that are handed on). Walks: a name. Walks: communities laid as bytes, or refused (comm.Encode). Walks: communities laid as bytes, or refused (comm.Encode), whole. Walks: what sets.Check calls: comm.Encode, the functions over items and patterns. -/
import Derived.Test.YtljibkfbldjgdaaGreatDoorVB
import Derived.Test.YtljibkfbldjgdaaGreatDoorP15
import Derived.Test.YtljibkfbldjgdaaGreatDoorPI
import Derived.Test.YtljibkfbldjgdaaGreatDoorShelf
import Derived.Test.YtljibkfbldjgdaaGreatDoorWP
namespace Go.Proofs.YtljibkfbldjgdaaGreatDoor
open Go.RowKit Go.Sort
set_option linter.unusedVariables false

/-- The place of the first element of which a test says yes; -1: there is none. -/
def idxT {α : Type} (pr : α → Bool) (l : List α) : Int := match l.findIdx? pr with | some i => i | none => -1
theorem idxT_at {α : Type} {pr : α → Bool} {l : List α} {k : Nat} (hk : k < l.length) (h : pr l[k] = true) (hn : (l.take k).any pr = false) : idxT pr l = k := by
  unfold idxT
  have : l.findIdx? pr = some k := by
    rw [List.findIdx?_eq_some_iff_getElem]
    refine ⟨hk, h, fun j hj => ?_⟩
    rw [List.any_eq_false] at hn
    have h1 : l[j] ∈ l.take k := by
      rw [List.mem_take_iff_getElem]
      exact ⟨j, by omega, rfl⟩
    simpa using hn _ h1
  rw [this]
theorem idxT_none {α : Type} {pr : α → Bool} {l : List α} (hn : l.any pr = false) : idxT pr l = -1 := by
  unfold idxT
  have : l.findIdx? pr = none := by
    rw [List.findIdx?_eq_none_iff]
    intro x hx
    rw [List.any_eq_false] at hn
    simpa using hn x hx
  rw [this]
theorem idxT_any {α : Type} (pr : α → Bool) (l : List α) : decide (0 ≤ idxT pr l) = l.any pr := by
  unfold idxT
  cases h : l.findIdx? pr with
  | none =>
    rw [List.findIdx?_eq_none_iff] at h
    rw [decide_eq_false (by decide)]
    exact (List.any_eq_false.2 fun x hx => by rw [h x hx]; decide).symm
  | some i =>
    rw [List.findIdx?_eq_some_iff_getElem] at h
    obtain ⟨hi, h, _⟩ := h
    rw [decide_eq_true (by show (0 : Int) ≤ (i : Int); omega)]
    exact (List.any_eq_true.2 ⟨l[i], List.getElem_mem hi, h⟩).symm
theorem any_take {α : Type} {pr : α → Bool} {l : List α} {k : Nat} (hk : k < l.length) (h : pr l[k] = false) (hn : (l.take k).any pr = false) : (l.take (k + 1)).any pr = false := by
  rw [List.take_succ_eq_append_getElem hk, List.any_append, hn, List.any_cons, h]
  rfl
set_option maxHeartbeats 1000000 in
theorem IdxItm_any (g : Nat) (lb : Array Value) (eg : ∀ args w, (callFunc g args).run Tryz.prog w = .ok (.enter g args) w) (pr : Itm → Bool) (a : Option Addr) (c : Nat) (l : List Itm) (w : World) (hl : l.length ≤ 16777216) (hs : Sl EItm w (· < w.heap.size) a l)
    (hq : ∀ x ∈ l, ItmIn x → ∀ W, Ext w W → Calls Tryz.prog g (#[.agg #[.int .i64 x.p.fam, .int .u64 (x.p.rd : Int), .string ⟨x.p.addr.toArray⟩, .int .i64 x.p.len, .int .i64 x.low, .int .i64 x.high]] ++ lb) W fun e w' => e = .returned (.bool (pr x)) ∧ Ext W w') :
    Calls Tryz.prog 143 #[.slice a l.length c, .func (.func g) #[] lb] w fun e w' => e = .returned (.int .i64 (idxT pr l)) ∧ Ext w w' := by
  replace hs := hide hs
  replace hq := hide hq
  go_enter Tryz.func143, Tryz.ntmps143
  go_wp2
  go_loopw [8] (fun i wr => ∃ k : Nat, k ≤ l.length ∧ i = .int .i64 k ∧ Ext w wr ∧ (l.take k).any pr = false) (fun i _ => l.length - (intOf i).toNat)
  case atStart => exact ⟨0, Nat.zero_le _, rfl, Ext.refl _, rfl⟩
  case round =>
    obtain ⟨k, hk, rfl, he, ha⟩ := hrel
    replace ha := hide ha
    replace he := hide he
    by_cases hlt : k < l.length
    · obtain ⟨b, off, rfl, _, hin, hc⟩ := EItm.at (hs.out.ext he.out) k hlt
      have x0 : wr.cell? ⟨b, off + k * 6, none⟩ = some (.int .i64 l[k].p.fam) := hc 0 _ rfl
      have x1 : wr.cell? ⟨b, off + k * 6 + 1, none⟩ = some (.int .u64 (l[k].p.rd : Int)) := hc 1 _ rfl
      have x2 : wr.cell? ⟨b, off + k * 6 + 2, none⟩ = some (.string ⟨l[k].p.addr.toArray⟩) := hc 2 _ rfl
      have x3 : wr.cell? ⟨b, off + k * 6 + 3, none⟩ = some (.int .i64 l[k].p.len) := hc 3 _ rfl
      have x4 : wr.cell? ⟨b, off + k * 6 + 4, none⟩ = some (.int .i64 l[k].low) := hc 4 _ rfl
      have x5 : wr.cell? ⟨b, off + k * 6 + 5, none⟩ = some (.int .i64 l[k].high) := hc 5 _ rfl
      have q := hq.out l[k] (List.getElem_mem hlt) hin wr he.out
      have hyes := fun h => idxT_at (pr := pr) hlt h ha.out
      have hno := fun h => any_take (pr := pr) hlt h ha.out
      clear hc hin
      generalize pr l[k] = r at q hyes hno
      generalize l[k] = x at *
      obtain ⟨⟨f, rd, ad, ln⟩, lo, hi⟩ := x
      dsimp only at x0 x1 x2 x3 x4 x5 q
      replace q := hide q
      replace hyes := hide hyes
      replace hno := hide hno
      go_wp2_with (go_at_fn g; refine q.out.mono ?_; rintro e W1 ⟨rfl, he1⟩; replace he1 := hide (he.out.trans he1); cases r)
      case roundEnd =>
        go_roundw
        case rel => exact ⟨k + 1, by omega, by go_num, he1.out, hno.out (by trivial)⟩
        case measure => simp [intOf]; omega
      all_goals
        go_ret
        exact ⟨ret_int (hyes.out (by trivial)).symm, he1.out⟩
    · have hend : idxT pr l = -1 := idxT_none (by
        obtain rfl : k = l.length := by omega
        have := ha.out
        rwa [List.take_length] at this)
      replace hend := hide hend
      go_wp2
      go_ret
      exact ⟨ret_int hend.out.symm, he.out⟩
set_option maxHeartbeats 1000000 in
theorem HasItm_any (g : Nat) (lb : Array Value) (eg : ∀ args w, (callFunc g args).run Tryz.prog w = .ok (.enter g args) w) (pr : Itm → Bool) (a : Option Addr) (c : Nat) (l : List Itm) (w : World) (hl : l.length ≤ 16777216) (hs : Sl EItm w (· < w.heap.size) a l)
    (hq : ∀ x ∈ l, ItmIn x → ∀ W, Ext w W → Calls Tryz.prog g (#[.agg #[.int .i64 x.p.fam, .int .u64 (x.p.rd : Int), .string ⟨x.p.addr.toArray⟩, .int .i64 x.p.len, .int .i64 x.low, .int .i64 x.high]] ++ lb) W fun e w' => e = .returned (.bool (pr x)) ∧ Ext W w') :
    Calls Tryz.prog 114 #[.slice a l.length c, .func (.func g) #[] lb] w fun e w' => e = .returned (.bool (l.any pr)) ∧ Ext w w' := by
  have q := IdxItm_any g lb eg pr a c l w hl hs hq
  have hd := idxT_any pr l
  generalize idxT pr l = r at q hd
  generalize l.any pr = y at hd ⊢
  clear hs hq
  replace q := hide q
  go_enter Tryz.func114, Tryz.ntmps114
  go_wp2_with fail
  refine q.out.mono ?_
  rintro e W1 ⟨rfl, he⟩
  replace he := hide he
  go_wp2
  go_ret
  exact ⟨rfl, he.out⟩
open Go.RowKit Go.Sort

set_option maxRecDepth 20000 in
set_option maxHeartbeats 1000000 in
theorem Item_any (x : Itm) (hx : x.p.addr.length ≤ 1048576) (w : World) :
    Calls Tryz.prog 116 #[.agg #[.int .i64 x.p.fam, .int .u64 (x.p.rd : Int), .string ⟨x.p.addr.toArray⟩, .int .i64 x.p.len, .int .i64 x.low, .int .i64 x.high]] w fun e w' => e = .returned (.bool (decide (itmOk x))) ∧ Ext w w' := by
  have mixed : Tryz.prog.follows Departure.mixedOrders = true := by kernel_rfl
  have qck := fun W => ACheck_any x.p W hx
  have qsz := fun W => ASize_any x.p.fam W
  have hcs : (errP (MayP x.p) = 2 ∧ decide (itmOk x) = false) ∨ (errP (MayP x.p) = 0 ∧ decide (x.p.len ≤ x.low) = false ∧ decide (itmOk x) = false) ∨ (errP (MayP x.p) = 0 ∧ decide (x.p.len ≤ x.low) = true ∧ decide (x.low ≤ x.high) = false ∧ decide (itmOk x) = false) ∨
      (errP (MayP x.p) = 0 ∧ decide (x.p.len ≤ x.low) = true ∧ decide (x.low ≤ x.high) = true ∧ decide (x.high ≤ 8 * sizeS x.p.fam) = decide (itmOk x)) := by
    rcases errP_cases x.p with ⟨h, he⟩ | ⟨h, he⟩
    · by_cases h1 : x.p.len ≤ x.low
      · by_cases h2 : x.low ≤ x.high
        · exact .inr (.inr (.inr ⟨he, decide_eq_true h1, decide_eq_true h2, decide_eq_decide.2 ⟨fun h3 => ⟨h, h1, h2, h3⟩, fun h3 => h3.2.2.2⟩⟩))
        · exact .inr (.inr (.inl ⟨he, decide_eq_true h1, decide_eq_false h2, decide_eq_false fun h3 => h2 h3.2.2.1⟩))
      · exact .inr (.inl ⟨he, decide_eq_false h1, decide_eq_false fun h3 => h1 h3.2.1⟩)
    · exact .inl ⟨he, decide_eq_false fun h3 => h h3.1⟩
  have hz : 0 ≤ sizeS x.p.fam ∧ sizeS x.p.fam ≤ 16 := by rcases sizeS_cases x.p.fam with h | h | h <;> omega
  obtain ⟨⟨f, rd, ad, ln⟩, lo, hi⟩ := x
  simp only [valP] at qck
  dsimp only at *
  generalize decide (itmOk ⟨⟨f, rd, ad, ln⟩, lo, hi⟩) = r at hcs ⊢
  generalize errP (MayP ⟨f, rd, ad, ln⟩) = ec at qck hcs
  generalize sizeS f = sz at qsz hcs hz
  obtain ⟨hz1, hz2⟩ := hz
  replace qck := hide qck
  replace qsz := hide qsz
  go_enter Tryz.func116, Tryz.ntmps116
  have S := Blk.new w 72 #[.int .i64 f, .int .u64 (rd : Int), .string ⟨ad.toArray⟩, .int .i64 ln, .int .i64 lo, .int .i64 hi]
  have E := (Ext.refl w).alloc (Obj.cells #[.int .i64 f, .int .u64 (rd : Int), .string ⟨ad.toArray⟩, .int .i64 ln, .int .i64 lo, .int .i64 hi] 72)
  generalize hW0 : w.alloc (Obj.cells #[.int .i64 f, .int .u64 (rd : Int), .string ⟨ad.toArray⟩, .int .i64 ln, .int .i64 lo, .int .i64 hi] 72) = W0 at S E
  generalize hg0 : w.heap.size = g0 at S
  replace S := hide S
  replace E := hide E
  go_upto_region 1 with fail
  clear hW0 hg0
  rcases hcs with ⟨rfl, rfl⟩ | ⟨rfl, e2, rfl⟩ | ⟨rfl, e2, e3, rfl⟩ | ⟨rfl, e2, e3, e4⟩
  ·
    have S_0 : ∀ d os, (grow (redrawn W0 d) os).cell? ⟨g0, 0, none⟩ = some (.int .i64 f) := cell_regrown (S.out.cell 0)
    have S_1 : ∀ d os, (grow (redrawn W0 d) os).cell? ⟨g0, 1, none⟩ = some (.int .u64 (rd : Int)) := cell_regrown (S.out.cell 1)
    have S_2 : ∀ d os, (grow (redrawn W0 d) os).cell? ⟨g0, 2, none⟩ = some (.string ⟨ad.toArray⟩) := cell_regrown (S.out.cell 2)
    have S_3 : ∀ d os, (grow (redrawn W0 d) os).cell? ⟨g0, 3, none⟩ = some (.int .i64 ln) := cell_regrown (S.out.cell 3)
    have S_4 : ∀ d os, (grow (redrawn W0 d) os).cell? ⟨g0, 4, none⟩ = some (.int .i64 lo) := cell_regrown (S.out.cell 4)
    have S_5 : ∀ d os, (grow (redrawn W0 d) os).cell? ⟨g0, 5, none⟩ = some (.int .i64 hi) := cell_regrown (S.out.cell 5)
    have cq0 := Calls.regr qck.out W0
    have cq1 := Calls.regrS qsz.out W0
    refine wp_region_quiet_below (by assumption) (by kernel_rfl) ?_
    repeat (go_big_quiet_step (first | (with_reducible exact cq0 _ _) | (with_reducible exact cq1 _ _)))
    refine wpQuiet_nil ?_
    intro _ hw_
    obtain ⟨⟨dq_, osq_⟩, hw_'⟩ := hw_
    subst hw_'
    replace E := hide (E.out.trans (below_regrown _ dq_ osq_))
    replace S := hide (S.out.ext (below_regrown _ dq_ osq_))
    clear S_0 S_1 S_2 S_3 S_4 S_5
    clear cq0 cq1
    generalize grow (redrawn W0 dq_) osq_ = W1 at E S ⊢
    have S_0 : W1.cell? ⟨g0, 0, none⟩ = some (.int .i64 f) := S.out.cell 0
    have S_1 : W1.cell? ⟨g0, 1, none⟩ = some (.int .u64 (rd : Int)) := S.out.cell 1
    have S_2 : W1.cell? ⟨g0, 2, none⟩ = some (.string ⟨ad.toArray⟩) := S.out.cell 2
    have S_3 : W1.cell? ⟨g0, 3, none⟩ = some (.int .i64 ln) := S.out.cell 3
    have S_4 : W1.cell? ⟨g0, 4, none⟩ = some (.int .i64 lo) := S.out.cell 4
    have S_5 : W1.cell? ⟨g0, 5, none⟩ = some (.int .i64 hi) := S.out.cell 5
    go_wp2
    go_ret
    exact ⟨rfl, E.out⟩
  ·
    have S_0 : ∀ d os, (grow (redrawn W0 d) os).cell? ⟨g0, 0, none⟩ = some (.int .i64 f) := cell_regrown (S.out.cell 0)
    have S_1 : ∀ d os, (grow (redrawn W0 d) os).cell? ⟨g0, 1, none⟩ = some (.int .u64 (rd : Int)) := cell_regrown (S.out.cell 1)
    have S_2 : ∀ d os, (grow (redrawn W0 d) os).cell? ⟨g0, 2, none⟩ = some (.string ⟨ad.toArray⟩) := cell_regrown (S.out.cell 2)
    have S_3 : ∀ d os, (grow (redrawn W0 d) os).cell? ⟨g0, 3, none⟩ = some (.int .i64 ln) := cell_regrown (S.out.cell 3)
    have S_4 : ∀ d os, (grow (redrawn W0 d) os).cell? ⟨g0, 4, none⟩ = some (.int .i64 lo) := cell_regrown (S.out.cell 4)
    have S_5 : ∀ d os, (grow (redrawn W0 d) os).cell? ⟨g0, 5, none⟩ = some (.int .i64 hi) := cell_regrown (S.out.cell 5)
    have cq0 := Calls.regr qck.out W0
    have cq1 := Calls.regrS qsz.out W0
    refine wp_region_quiet_below (by assumption) (by kernel_rfl) ?_
    repeat (go_big_quiet_step (first | (with_reducible exact cq0 _ _) | (with_reducible exact cq1 _ _)))
    refine wpQuiet_nil ?_
    intro _ hw_
    obtain ⟨⟨dq_, osq_⟩, hw_'⟩ := hw_
    subst hw_'
    replace E := hide (E.out.trans (below_regrown _ dq_ osq_))
    replace S := hide (S.out.ext (below_regrown _ dq_ osq_))
    clear S_0 S_1 S_2 S_3 S_4 S_5
    clear cq0 cq1
    generalize grow (redrawn W0 dq_) osq_ = W1 at E S ⊢
    have S_0 : W1.cell? ⟨g0, 0, none⟩ = some (.int .i64 f) := S.out.cell 0
    have S_1 : W1.cell? ⟨g0, 1, none⟩ = some (.int .u64 (rd : Int)) := S.out.cell 1
    have S_2 : W1.cell? ⟨g0, 2, none⟩ = some (.string ⟨ad.toArray⟩) := S.out.cell 2
    have S_3 : W1.cell? ⟨g0, 3, none⟩ = some (.int .i64 ln) := S.out.cell 3
    have S_4 : W1.cell? ⟨g0, 4, none⟩ = some (.int .i64 lo) := S.out.cell 4
    have S_5 : W1.cell? ⟨g0, 5, none⟩ = some (.int .i64 hi) := S.out.cell 5
    go_wp2
    go_ret
    exact ⟨rfl, E.out⟩
  ·
    have S_0 : ∀ d os, (grow (redrawn W0 d) os).cell? ⟨g0, 0, none⟩ = some (.int .i64 f) := cell_regrown (S.out.cell 0)
    have S_1 : ∀ d os, (grow (redrawn W0 d) os).cell? ⟨g0, 1, none⟩ = some (.int .u64 (rd : Int)) := cell_regrown (S.out.cell 1)
    have S_2 : ∀ d os, (grow (redrawn W0 d) os).cell? ⟨g0, 2, none⟩ = some (.string ⟨ad.toArray⟩) := cell_regrown (S.out.cell 2)
    have S_3 : ∀ d os, (grow (redrawn W0 d) os).cell? ⟨g0, 3, none⟩ = some (.int .i64 ln) := cell_regrown (S.out.cell 3)
    have S_4 : ∀ d os, (grow (redrawn W0 d) os).cell? ⟨g0, 4, none⟩ = some (.int .i64 lo) := cell_regrown (S.out.cell 4)
    have S_5 : ∀ d os, (grow (redrawn W0 d) os).cell? ⟨g0, 5, none⟩ = some (.int .i64 hi) := cell_regrown (S.out.cell 5)
    have cq0 := Calls.regr qck.out W0
    have cq1 := Calls.regrS qsz.out W0
    refine wp_region_quiet_below (by assumption) (by kernel_rfl) ?_
    repeat (go_big_quiet_step (first | (with_reducible exact cq0 _ _) | (with_reducible exact cq1 _ _)))
    refine wpQuiet_nil ?_
    intro _ hw_
    obtain ⟨⟨dq_, osq_⟩, hw_'⟩ := hw_
    subst hw_'
    replace E := hide (E.out.trans (below_regrown _ dq_ osq_))
    replace S := hide (S.out.ext (below_regrown _ dq_ osq_))
    clear S_0 S_1 S_2 S_3 S_4 S_5
    clear cq0 cq1
    generalize grow (redrawn W0 dq_) osq_ = W1 at E S ⊢
    have S_0 : W1.cell? ⟨g0, 0, none⟩ = some (.int .i64 f) := S.out.cell 0
    have S_1 : W1.cell? ⟨g0, 1, none⟩ = some (.int .u64 (rd : Int)) := S.out.cell 1
    have S_2 : W1.cell? ⟨g0, 2, none⟩ = some (.string ⟨ad.toArray⟩) := S.out.cell 2
    have S_3 : W1.cell? ⟨g0, 3, none⟩ = some (.int .i64 ln) := S.out.cell 3
    have S_4 : W1.cell? ⟨g0, 4, none⟩ = some (.int .i64 lo) := S.out.cell 4
    have S_5 : W1.cell? ⟨g0, 5, none⟩ = some (.int .i64 hi) := S.out.cell 5
    go_wp2
    go_ret
    exact ⟨rfl, E.out⟩
  ·
    have e5 : decide (hi ≤ 8 * sz) = r := e4
    have S_0 : ∀ d os, (grow (redrawn W0 d) os).cell? ⟨g0, 0, none⟩ = some (.int .i64 f) := cell_regrown (S.out.cell 0)
    have S_1 : ∀ d os, (grow (redrawn W0 d) os).cell? ⟨g0, 1, none⟩ = some (.int .u64 (rd : Int)) := cell_regrown (S.out.cell 1)
    have S_2 : ∀ d os, (grow (redrawn W0 d) os).cell? ⟨g0, 2, none⟩ = some (.string ⟨ad.toArray⟩) := cell_regrown (S.out.cell 2)
    have S_3 : ∀ d os, (grow (redrawn W0 d) os).cell? ⟨g0, 3, none⟩ = some (.int .i64 ln) := cell_regrown (S.out.cell 3)
    have S_4 : ∀ d os, (grow (redrawn W0 d) os).cell? ⟨g0, 4, none⟩ = some (.int .i64 lo) := cell_regrown (S.out.cell 4)
    have S_5 : ∀ d os, (grow (redrawn W0 d) os).cell? ⟨g0, 5, none⟩ = some (.int .i64 hi) := cell_regrown (S.out.cell 5)
    have cq0 := Calls.regr qck.out W0
    have cq1 := Calls.regrS qsz.out W0
    refine wp_region_quiet_below (by assumption) (by kernel_rfl) ?_
    repeat (go_big_quiet_step (first | (with_reducible exact cq0 _ _) | (with_reducible exact cq1 _ _)))
    refine wpQuiet_nil ?_
    intro _ hw_
    obtain ⟨⟨dq_, osq_⟩, hw_'⟩ := hw_
    subst hw_'
    replace E := hide (E.out.trans (below_regrown _ dq_ osq_))
    replace S := hide (S.out.ext (below_regrown _ dq_ osq_))
    clear S_0 S_1 S_2 S_3 S_4 S_5
    clear cq0 cq1
    generalize grow (redrawn W0 dq_) osq_ = W1 at E S ⊢
    have S_0 : W1.cell? ⟨g0, 0, none⟩ = some (.int .i64 f) := S.out.cell 0
    have S_1 : W1.cell? ⟨g0, 1, none⟩ = some (.int .u64 (rd : Int)) := S.out.cell 1
    have S_2 : W1.cell? ⟨g0, 2, none⟩ = some (.string ⟨ad.toArray⟩) := S.out.cell 2
    have S_3 : W1.cell? ⟨g0, 3, none⟩ = some (.int .i64 ln) := S.out.cell 3
    have S_4 : W1.cell? ⟨g0, 4, none⟩ = some (.int .i64 lo) := S.out.cell 4
    have S_5 : W1.cell? ⟨g0, 5, none⟩ = some (.int .i64 hi) := S.out.cell 5
    go_wp2
    go_ret
    exact ⟨rfl, E.out⟩
open Go.RowKit Go.Sort

def runeZ (z : Int) : Bool := (decide (97 ≤ z) && decide (z ≤ 122)) || ((decide (48 ≤ z) && decide (z ≤ 57)) || decide (z = 45))
theorem runeZ_nat (x : Nat) : runeZ (x : Int) = runeOk x := by
  unfold runeZ runeOk
  rw [show decide ((97 : Int) ≤ (x : Int)) = decide (97 ≤ x) from decide_eq_decide.2 (by omega), show decide ((x : Int) ≤ 122) = decide (x ≤ 122) from decide_eq_decide.2 (by omega), show decide ((48 : Int) ≤ (x : Int)) = decide (48 ≤ x) from decide_eq_decide.2 (by omega), show decide ((x : Int) ≤ 57) = decide (x ≤ 57) from decide_eq_decide.2 (by omega), show decide ((x : Int) = 45) = decide (x = 45) from decide_eq_decide.2 (by omega)]
theorem rune_cases (z : Int) : ∃ b1 b2 b3 b4 b5 r : Bool, decide (z < 97) = b1 ∧ decide (122 < z) = b2 ∧ decide (z < 48) = b3 ∧ decide (57 < z) = b4 ∧ (z != 45) = b5 ∧ (!runeZ z) = r ∧ (((b1 || b2) && ((b3 || b4) && b5)) = r) := by
  refine ⟨_, _, _, _, _, _, rfl, rfl, rfl, rfl, rfl, rfl, ?_⟩
  unfold runeZ
  rw [show decide (97 ≤ z) = !decide (z < 97) by rw [Bool.eq_iff_iff]; simp, show decide (z ≤ 122) = !decide (122 < z) by rw [Bool.eq_iff_iff]; simp, show decide (48 ≤ z) = !decide (z < 48) by rw [Bool.eq_iff_iff]; simp, show decide (z ≤ 57) = !decide (57 < z) by rw [Bool.eq_iff_iff]; simp, show (z != 45) = !decide (z = 45) from rfl]
  generalize decide (z < 97) = a
  generalize decide (122 < z) = b
  generalize decide (z < 48) = c
  generalize decide (57 < z) = d
  generalize decide (z = 45) = e
  revert a b c d e
  decide
set_option maxHeartbeats 1000000 in
theorem Named1_any (z : Int) (w : World) : Calls Tryz.prog 142 #[.int .i32 z] w fun e w' => e = .returned (.bool (!runeZ z)) ∧ w' = w := by
  obtain ⟨b1, b2, b3, b4, b5, r, e1, e2, e3, e4, e5, e6, e7⟩ := rune_cases z
  rw [e6]
  clear e6
  go_enter Tryz.func142, Tryz.ntmps142
  cases b1 <;> cases b2 <;> cases b3 <;> cases b4 <;> subst e7 <;> (go_wp2; go_ret; exact ⟨rfl, rfl⟩)
theorem ba_index0 (s : List UInt8) (x : UInt8) (t : List UInt8) (hs : s = x :: t) (W : World) : (Instr.index 9 (.string ⟨s.toArray⟩) (.int .i64 0)).run Tryz.prog W = .ok (.int .u8 (x.toNat : Int)) W := by
  subst hs
  have h2 : 0 < (ByteArray.mk (x :: t).toArray).size := by simp [ByteArray.size]
  go_simp
  rfl
theorem name_cases (s : List UInt8) : (s = [] ∧ nameOk s = false) ∨ ∃ x t, s = x :: t ∧ ((16 < s.length ∧ nameOk s = false) ∨ (s.length ≤ 16 ∧ s.all nameCh = false ∧ nameOk s = false) ∨ (s.length ≤ 16 ∧ s.all nameCh = true ∧ decide (97 ≤ x.toNat) = nameOk s)) := by
  cases s with
  | nil => exact .inl ⟨rfl, by decide⟩
  | cons x t =>
    refine .inr ⟨x, t, rfl, ?_⟩
    unfold nameOk
    rw [decide_eq_true (p := 1 ≤ (x :: t).length) (by simp), Bool.true_and]
    by_cases h : 16 < (x :: t).length
    · exact .inl ⟨h, by rw [decide_eq_false (by omega), Bool.false_and]⟩
    · rw [decide_eq_true (p := (x :: t).length ≤ 16) (by omega), Bool.true_and]
      cases ha : (x :: t).all nameCh with
      | false => exact .inr (.inl ⟨by omega, rfl, by rw [Bool.and_false]⟩)
      | true => exact .inr (.inr ⟨by omega, rfl, by rw [Bool.and_true]; rfl⟩)
set_option maxRecDepth 20000 in
set_option maxHeartbeats 1000000 in
theorem Named_any (s : List UInt8) (w : World) : Calls Tryz.prog 113 #[.string ⟨s.toArray⟩] w fun e w' => e = .returned (.bool (nameOk s)) ∧ Ext w w' := by
  have mixed : Tryz.prog.follows Departure.mixedOrders = true := by kernel_rfl
  have q : ∀ W, Calls Tryz.prog 141 #[.string ⟨s.toArray⟩, .func (.func 142) #[] #[]] W fun e w' => e = .returned (.int .i64 (Lib.idxFunc (fun x => !runeOk x) true ⟨s.toArray⟩)) ∧ Ext W w' := fun W =>
    Tryz.strings_IndexFunc_runes 142 #[] (fun _ _ => rfl) (fun x => !runeOk x) ⟨s.toArray⟩ W fun W' x hx hb => by
      refine (Named1_any (x : Int) W').mono ?_
      rintro e w' ⟨rfl, rfl⟩
      exact ⟨by rw [runeZ_nat], 0, rfl⟩
  have hi := name_idx s
  have hcs := name_cases s
  generalize Lib.idxFunc (fun x => !runeOk x) true ⟨s.toArray⟩ = z at q hi
  generalize nameOk s = r at hcs ⊢
  replace q := hide q
  go_enter Tryz.func113, Tryz.ntmps113
  go_wp2_with fail
  refine (q.out _).mono ?_
  rintro e W1 ⟨rfl, he⟩
  replace he := hide he
  rcases hcs with ⟨rfl, rfl⟩ | ⟨x, t, hs, hcs⟩
  · go_wp2
    go_ret
    exact ⟨rfl, he.out⟩
  · have e0 : ¬ s = [] := by rw [hs]; simp
    have hie := hide (show s.isEmpty = false by rw [hs]; rfl)
    have hix := ba_index0 s x t hs
    have hsz : (ByteArray.mk s.toArray).size = s.length := by simp [ByteArray.size]
    clear hs
    rcases hcs with ⟨h1, rfl⟩ | ⟨h1, h2, rfl⟩ | ⟨h1, h2, h3⟩
    · clear hi
      have e1 : decide ((s.length : Int) ≤ 16) = false := decide_eq_false (by omega)
      clear h1
      go_wp2
      go_ret
      exact ⟨rfl, he.out⟩
    · have e2 : decide (z < 0) = false := decide_eq_false (fun h => by rw [hi.1 h] at h2; cases h2)
      clear hi h2
      have e1 : decide ((s.length : Int) ≤ 16) = true := decide_eq_true (by omega)
      clear h1
      go_wp2
      go_ret
      exact ⟨rfl, he.out⟩
    · have e2 : decide (z < 0) = true := decide_eq_true (hi.2 h2)
      clear hi h2
      have e1 : decide ((s.length : Int) ≤ 16) = true := decide_eq_true (by omega)
      have e3 : decide ((97 : Int) ≤ (x.toNat : Int)) = r := by rw [← h3]; exact decide_eq_decide.2 (by omega)
      clear h3 h1
      go_wp2
      go_ret
      exact ⟨ret_bool (by rw [hie.out]; rfl), he.out⟩
open Go.RowKit Go.Sort

set_option maxHeartbeats 1000000 in
theorem IsNaNU32_any (x : Int) (w : World) : Calls Tryz.prog 173 #[.int .u32 x] w fun e w' => e = .returned (.bool false) ∧ w' = w := by
  go_enter Tryz.func173, Tryz.ntmps173
  go_wp2
  go_ret
  exact ⟨rfl, rfl⟩
set_option maxHeartbeats 1000000 in
theorem CmpU32_any (x y : Int) (w : World) : Calls Tryz.prog 147 #[.int .u32 x, .int .u32 y] w fun e w' => e = .returned (.int .i64 (Lib.compareInt x y)) ∧ w' = w := by
  have q := IsNaNU32_any
  rcases ci_cases x y with ⟨h, hxy⟩ | ⟨h, hxy⟩ | ⟨h, hxy⟩
  · have e1 : decide (x < y) = true := decide_eq_true hxy
    rw [h]
    clear h hxy
    replace q := hide q
    go_enter Tryz.func147, Tryz.ntmps147
    go_wp2_with (go_at_call 173; refine (q.out _ _).mono ?_; rintro e w' ⟨rfl, rfl⟩)
    go_ret
    exact ⟨rfl, rfl⟩
  · have e1 : decide (x < y) = false := decide_eq_false (by omega)
    have e2 : decide (y < x) = false := decide_eq_false (by omega)
    rw [h]
    clear h hxy
    replace q := hide q
    go_enter Tryz.func147, Tryz.ntmps147
    go_wp2_with (go_at_call 173; refine (q.out _ _).mono ?_; rintro e w' ⟨rfl, rfl⟩)
    go_ret
    exact ⟨rfl, rfl⟩
  · have e1 : decide (x < y) = false := decide_eq_false (by omega)
    have e2 : decide (y < x) = true := decide_eq_true hxy
    rw [h]
    clear h hxy
    replace q := hide q
    go_enter Tryz.func147, Tryz.ntmps147
    go_wp2_with (go_at_call 173; refine (q.out _ _).mono ?_; rintro e w' ⟨rfl, rfl⟩)
    go_ret
    exact ⟨rfl, rfl⟩
theorem put_size (s : ByteArray) (n v : Nat) : (put s n v).size = s.size + n := by
  show ((s.data.toList ++ be n v).toArray).size = s.data.size + n
  rw [List.size_toArray, List.length_append, be_length, Array.length_toList]
set_option maxRecDepth 20000 in
set_option maxHeartbeats 1000000 in
theorem CPut_any (a : Option Addr) (c : Nat) (l : List UInt32) (s : ByteArray) (w : World) (hl : l.length ≤ 64) (hs : s.size ≤ 1048576) (hsl : Sl EU32 w (· < w.heap.size) a l) :
    Calls Tryz.prog 149 #[.string s, .slice a l.length c] w fun e w' => (∃ t : ByteArray, e = .returned (.string t) ∧ t.size = s.size + 4 * l.length) ∧ Ext w w' := by
  replace hsl := hide hsl
  go_enter Tryz.func149, Tryz.ntmps149
  go_wp2
  go_loopw [0, 9] (fun u i wr => ∃ (k : Nat) (t : ByteArray), k ≤ l.length ∧ i = .int .i64 k ∧ u = .string t ∧ t.size = s.size + 4 * k ∧ Ext w wr) (fun _ i _ => l.length - (intOf i).toNat)
  case atStart => exact ⟨0, s, Nat.zero_le _, rfl, rfl, by omega, Ext.refl _⟩
  case round =>
    obtain ⟨k, t, hk, rfl, rfl, ht, he⟩ := hrel
    replace he := hide he
    by_cases hlt : k < l.length
    · obtain ⟨b, off, rfl, _, x0⟩ := EU32.at (hsl.out.ext he.out) k hlt
      have hx := l[k].toNat_lt
      have hw : IntKind.u64.wrap (l[k].toNat : Int) = (l[k].toNat : Int) := by rw [IntKind.wrap_u64]; omega
      have q := fun W => WPut_any t l[k].toNat 4 W (by omega) (by omega) (by omega) (by omega) (by omega)
      rw [← hw] at q
      clear hx hw
      generalize l[k].toNat = v at x0 q
      have hps := put_size t 4 v
      generalize put t 4 v = t2 at q hps
      replace q := hide q
      replace hps := hide hps
      replace ht := hide ht
      go_wp2_with fail
      refine (q.out _).mono ?_
      rintro e W1 ⟨rfl, he1⟩
      replace he1 := hide (he.out.trans he1)
      go_wp2
      go_roundw
      case rel => exact ⟨k + 1, t2, by omega, by go_num, rfl, by have := hps.out; have := ht.out; omega, he1.out⟩
      case measure => simp [intOf]; omega
    · obtain rfl : k = l.length := by omega
      replace ht := hide ht
      go_wp2
      go_ret
      exact ⟨⟨t, rfl, ht.out⟩, he.out⟩
open Go.RowKit Go.Sort

theorem risU_iff : ∀ l : List UInt32, risU l = true ↔ ∀ i (h : i + 1 < l.length), l[i].toNat < l[i + 1].toNat
  | [] => by
    constructor
    · intro _ i h; simp at h
    · intro _; rfl
  | [x] => by
    constructor
    · intro _ i h; simp at h
    · intro _; rfl
  | x :: y :: r => by
    show (decide (x.toNat < y.toNat) && risU (y :: r)) = true ↔ _
    rw [Bool.and_eq_true, decide_eq_true_eq, risU_iff (y :: r)]
    constructor
    · rintro ⟨h1, h2⟩ i h
      cases i with
      | zero => exact h1
      | succ i => exact h2 i (by simpa using h)
    · intro h
      exact ⟨h 0 (by simp), fun i hi => h (i + 1) (by simpa using hi)⟩
theorem risU_bad {l : List UInt32} {k : Nat} (hk : k + 1 < l.length) (h : ¬ l[k].toNat < l[k + 1].toNat) : commsOk l = false := by
  unfold commsOk
  rw [Bool.and_eq_false_iff]
  refine .inl ?_
  rw [Bool.eq_false_iff]
  intro hr
  exact h ((risU_iff l).1 hr k hk)
set_option maxRecDepth 20000 in
set_option maxHeartbeats 1000000 in
theorem Enc1_any (s : ByteArray) (x : UInt32) (w : World) (hs : s.size ≤ 1048576) :
    Calls Tryz.prog 148 #[.string s, .int .u32 (x.toNat : Int)] w fun e w' => (∃ t : ByteArray, e = .returned (.string t) ∧ t.size = s.size + 4) ∧ Ext w w' := by
  have q := CPut_any (some ⟨w.heap.size, 0, none⟩) 1 [x] s (w.alloc (Obj.cells #[.int .u32 (x.toNat : Int)] 49)) (by simp) hs (by
    refine .inr ⟨w.heap.size, 0, rfl, by simp, fun k y hy => ?_⟩
    match k, hy with
    | 0, hy =>
      cases hy
      refine ⟨[.int .u32 (x.toNat : Int)], ⟨rfl, trivial⟩, fun j u hu => ?_⟩
      match j, hu with
      | 0, hu => cases hu; exact (Blk.new w 49 #[.int .u32 (x.toNat : Int)]).cell 0)
  have hE := (Ext.refl w).alloc (Obj.cells #[.int .u32 (x.toNat : Int)] 49)
  replace q := hide q
  replace hE := hide hE
  go_enter Tryz.func148, Tryz.ntmps148
  go_wp2_with fail
  refine q.out.mono ?_
  rintro e W1 ⟨⟨t, rfl, ht⟩, he⟩
  replace ht := hide ht
  replace he := hide (hE.out.trans he)
  go_wp2
  go_ret
  exact ⟨⟨t, rfl, ht.out⟩, he.out⟩
set_option maxRecDepth 20000 in
set_option maxHeartbeats 2000000 in
theorem Lay_any (a : Option Addr) (c : Nat) (l : List UInt32) (w : World) (hl : l.length ≤ 16777216) (hsl : Sl EU32 w (· < w.heap.size) a l) :
    Calls Tryz.prog 146 #[.slice a l.length c, .func (.func 147) #[] #[], .func (.func 148) #[] #[]] w fun e w' => (∃ t : ByteArray, e = .returned (.tuple #[.string t, .int .i64 (errOf (commsOk l))])) ∧ Ext w w' := by
  replace hsl := hide hsl
  by_cases h64 : 64 < l.length
  · have hc : errOf (commsOk l) = 2 := by
      have : commsOk l = false := by unfold commsOk; rw [decide_eq_false (by omega), Bool.and_false]
      rw [this]; rfl
    replace hc := hide hc
    go_enter Tryz.func146, Tryz.ntmps146
    go_wp2
    go_ret2
    exact ⟨⟨⟨#[]⟩, by rw [hc.out]; rfl⟩, Ext.refl _⟩
  · go_enter Tryz.func146, Tryz.ntmps146
    go_wp2
    go_loopw [8, 16] (fun u i wr => ∃ (k : Nat) (t : ByteArray), k ≤ l.length ∧ i = .int .i64 k ∧ u = .string t ∧ t.size = 4 * k ∧ Ext w wr ∧ (∀ i (h : i + 1 < k) (hk : k ≤ l.length), l[i].toNat < l[i + 1].toNat)) (fun _ i _ => l.length - (intOf i).toNat)
    case atStart => exact ⟨0, ⟨#[]⟩, Nat.zero_le _, rfl, rfl, rfl, Ext.refl _, fun i h _ => by omega⟩
    case round =>
      obtain ⟨k, t, hk, rfl, rfl, ht, he, hris⟩ := hrel
      replace he := hide he
      replace hris := hide hris
      by_cases hlt : k < l.length
      · have hx := EU32.at (hsl.out.ext he.out) k hlt
        have q2 := fun W => Enc1_any t l[k] W (by omega)
        rcases Nat.eq_zero_or_pos k with rfl | hpos
        · obtain ⟨b, off, rfl, _, x0⟩ := hx
          rw [Nat.add_zero] at x0
          replace q2 := hide q2
          replace ht := hide ht
          go_wp2_with fail
          refine (q2.out _).mono ?_
          rintro e W1 ⟨⟨t2, rfl, ht2⟩, he1⟩
          replace ht2 := hide ht2
          replace he1 := hide (he.out.trans he1)
          go_wp2
          go_roundw
          case rel => exact ⟨1, t2, by omega, by go_num, rfl, by have := ht2.out; have := ht.out; omega, he1.out, fun i h _ => by omega⟩
          case measure => simp [intOf]; omega
        · have hy := EU32.at (hsl.out.ext he.out) (k - 1) (by omega)
          obtain ⟨b, off, rfl, _, x0⟩ := hx
          obtain ⟨b', off', hbb, _, y0⟩ := hy
          injection hbb with hbb
          injection hbb with hb1 hb2 _
          subst hb1 hb2
          have hsub : ((k - 1 : Nat) : Int) = (k : Int) - 1 := by omega
          have q1 := fun W => CmpU32_any (l[k - 1].toNat : Int) (l[k].toNat : Int) W
          have hci := ci_cases (l[k - 1].toNat : Int) (l[k].toNat : Int)
          have hbad := risU_bad (l := l) (k := k - 1) (by omega)
          have hk1 : k - 1 + 1 = k := by omega
          simp only [hk1] at hbad
          generalize Lib.compareInt (l[k - 1].toNat : Int) (l[k].toNat : Int) = cz at q1 hci
          by_cases hlt2 : l[k - 1].toNat < l[k].toNat
          · have e1 : decide (0 ≤ cz) = false := decide_eq_false (by omega)
            have hris2 : ∀ i (h : i + 1 < k + 1) (hk : k + 1 ≤ l.length), l[i].toNat < l[i + 1].toNat := fun i h hkl => by
              by_cases hi : i + 1 < k
              · exact hris.out i hi (by omega)
              · obtain rfl : i = k - 1 := by omega
                simp only [hk1]
                exact hlt2
            clear hci hbad
            replace q1 := hide q1
            replace q2 := hide q2
            replace ht := hide ht
            replace hris2 := hide hris2
            clear hlt2
            go_wp2_with fail
            refine (q1.out _).mono ?_
            rintro e W0 ⟨rfl, rfl⟩
            go_wp2_with fail
            refine (q2.out _).mono ?_
            rintro e W1 ⟨⟨t2, rfl, ht2⟩, he1⟩
            replace ht2 := hide ht2
            replace he1 := hide (he.out.trans he1)
            go_wp2
            go_roundw
            case rel => exact ⟨k + 1, t2, by omega, by go_num, rfl, by have := ht2.out; have := ht.out; omega, he1.out, hris2.out⟩
            case measure => simp [intOf]; omega
          · have e1 : decide (0 ≤ cz) = true := decide_eq_true (by omega)
            have hc : errOf (commsOk l) = 2 := by rw [hbad hlt2]; rfl
            clear hci hbad hlt2
            replace q1 := hide q1
            replace q2 := hide q2
            replace ht := hide ht
            replace hc := hide hc
            go_wp2_with fail
            refine (q1.out _).mono ?_
            rintro e W0 ⟨rfl, rfl⟩
            go_wp2
            go_ret2
            exact ⟨⟨⟨#[]⟩, by rw [hc.out]; rfl⟩, he.out⟩
      · have hc : errOf (commsOk l) = 0 := by
          obtain rfl : k = l.length := by omega
          have : commsOk l = true := by
            unfold commsOk
            rw [Bool.and_eq_true, decide_eq_true_eq, risU_iff]
            exact ⟨fun i h => hris.out i h (Nat.le_refl _), by omega⟩
          rw [this]; rfl
        replace hc := hide hc
        go_wp2
        go_ret2
        exact ⟨⟨t, by rw [hc.out]; rfl⟩, he.out⟩
open Go.RowKit Go.Sort

set_option maxHeartbeats 1000000 in
theorem Encode_any (a : Option Addr) (c : Nat) (l : List UInt32) (w : World) (hl : l.length ≤ 16777216) (hsl : Sl EU32 w (· < w.heap.size) a l) :
    Calls Tryz.prog 117 #[.slice a l.length c] w fun e w' => (∃ t : ByteArray, e = .returned (.tuple #[.string t, .int .i64 (errOf (commsOk l))])) ∧ Ext w w' := by
  have q := Lay_any a c l w hl hsl
  generalize errOf (commsOk l) = r at q ⊢
  replace q := hide q
  go_enter Tryz.func117, Tryz.ntmps117
  go_wp2_with fail
  refine q.out.mono ?_
  rintro e W1 ⟨⟨t, rfl⟩, he⟩
  replace he := hide he
  go_wp2
  go_ret2
  exact ⟨⟨t, rfl⟩, he.out⟩
set_option maxHeartbeats 1000000 in
theorem Check1_any (x : Itm) (hx : x.p.addr.length ≤ 1048576) (w : World) :
    Calls Tryz.prog 115 #[.agg #[.int .i64 x.p.fam, .int .u64 (x.p.rd : Int), .string ⟨x.p.addr.toArray⟩, .int .i64 x.p.len, .int .i64 x.low, .int .i64 x.high]] w fun e w' => e = .returned (.bool (!decide (itmOk x))) ∧ Ext w w' := by
  have q := fun W => Item_any x hx W
  obtain ⟨⟨f, rd, ad, ln⟩, lo, hi⟩ := x
  dsimp only at *
  generalize decide (itmOk ⟨⟨f, rd, ad, ln⟩, lo, hi⟩) = r at q ⊢
  replace q := hide q
  go_enter Tryz.func115, Tryz.ntmps115
  have S := Blk.new w 72 #[.int .i64 f, .int .u64 (rd : Int), .string ⟨ad.toArray⟩, .int .i64 ln, .int .i64 lo, .int .i64 hi]
  have E := (Ext.refl w).alloc (Obj.cells #[.int .i64 f, .int .u64 (rd : Int), .string ⟨ad.toArray⟩, .int .i64 ln, .int .i64 lo, .int .i64 hi] 72)
  generalize hW0 : w.alloc (Obj.cells #[.int .i64 f, .int .u64 (rd : Int), .string ⟨ad.toArray⟩, .int .i64 ln, .int .i64 lo, .int .i64 hi] 72) = W0 at S E
  generalize hg0 : w.heap.size = g0 at S
  replace S := hide S
  replace E := hide E
  have S_0 : W0.cell? ⟨g0, 0, none⟩ = some (.int .i64 f) := S.out.cell 0
  have S_1 : W0.cell? ⟨g0, 1, none⟩ = some (.int .u64 (rd : Int)) := S.out.cell 1
  have S_2 : W0.cell? ⟨g0, 2, none⟩ = some (.string ⟨ad.toArray⟩) := S.out.cell 2
  have S_3 : W0.cell? ⟨g0, 3, none⟩ = some (.int .i64 ln) := S.out.cell 3
  have S_4 : W0.cell? ⟨g0, 4, none⟩ = some (.int .i64 lo) := S.out.cell 4
  have S_5 : W0.cell? ⟨g0, 5, none⟩ = some (.int .i64 hi) := S.out.cell 5
  go_wp2_with fail
  refine (q.out _).mono ?_
  rintro e W1 ⟨rfl, he_⟩
  clear S_0 S_1 S_2 S_3 S_4 S_5
  replace E := hide (E.out.trans he_)
  clear he_
  go_wp2
  go_ret
  exact ⟨rfl, E.out⟩
set_option maxHeartbeats 1000000 in
theorem Check2_any (a : Option Addr) (c : Nat) (l : List Atm) (w : World) (hl : l.length ≤ 16777216) (hs : Sl EAtm w (· < w.heap.size) a l) :
    Calls Tryz.prog 119 #[.slice a l.length c] w fun e w' => e = .returned (.bool (!atmsOk l)) ∧ Ext w w' := by
  have q := Atoms_any a c l w hl hs
  generalize atmsOk l = r at q ⊢
  replace q := hide q
  go_enter Tryz.func119, Tryz.ntmps119
  go_wp2_with fail
  refine q.out.mono ?_
  rintro e W1 ⟨rfl, he⟩
  replace he := hide he
  go_wp2
  go_ret
  exact ⟨rfl, he.out⟩
set_option maxHeartbeats 1000000 in
theorem IdxPat_any (g : Nat) (lb : Array Value) (eg : ∀ args w, (callFunc g args).run Tryz.prog w = .ok (.enter g args) w) (pr : List Atm → Bool) (a : Option Addr) (c : Nat) (l : List (List Atm)) (w : World) (hl : l.length ≤ 16777216) (hs : Sl EAtm.slice w (· < w.heap.size) a l)
    (hq : ∀ x ∈ l, ∀ W b d, Ext w W → x.length ≤ 16777216 → Sl EAtm W (· < W.heap.size) b x → Calls Tryz.prog g (#[.slice b x.length d] ++ lb) W fun e w' => e = .returned (.bool (pr x)) ∧ Ext W w') :
    Calls Tryz.prog 150 #[.slice a l.length c, .func (.func g) #[] lb] w fun e w' => e = .returned (.int .i64 (idxT pr l)) ∧ Ext w w' := by
  replace hs := hide hs
  replace hq := hide hq
  go_enter Tryz.func150, Tryz.ntmps150
  go_wp2
  go_loopw [8] (fun i wr => ∃ k : Nat, k ≤ l.length ∧ i = .int .i64 k ∧ Ext w wr ∧ (l.take k).any pr = false) (fun i _ => l.length - (intOf i).toNat)
  case atStart => exact ⟨0, Nat.zero_le _, rfl, Ext.refl _, rfl⟩
  case round =>
    obtain ⟨k, hk, rfl, he, ha⟩ := hrel
    replace ha := hide ha
    replace he := hide he
    by_cases hlt : k < l.length
    · obtain ⟨b, off, ak, ck, rfl, _, x0, hm, hsk⟩ := EPat.at (hs.out.ext he.out) k hlt
      have q := hq.out l[k] (List.getElem_mem hlt) wr ak ck he.out hm hsk
      have hyes := fun h => idxT_at (pr := pr) hlt h ha.out
      have hno := fun h => any_take (pr := pr) hlt h ha.out
      clear hsk hm
      generalize pr l[k] = r at q hyes hno
      generalize l[k].length = n at *
      replace q := hide q
      replace hyes := hide hyes
      replace hno := hide hno
      go_wp2_with (go_at_fn g; refine q.out.mono ?_; rintro e W1 ⟨rfl, he1⟩; replace he1 := hide (he.out.trans he1); cases r)
      case roundEnd =>
        go_roundw
        case rel => exact ⟨k + 1, by omega, by go_num, he1.out, hno.out (by trivial)⟩
        case measure => simp [intOf]; omega
      all_goals
        go_ret
        exact ⟨ret_int (hyes.out (by trivial)).symm, he1.out⟩
    · have hend : idxT pr l = -1 := idxT_none (by
        obtain rfl : k = l.length := by omega
        have := ha.out
        rwa [List.take_length] at this)
      replace hend := hide hend
      go_wp2
      go_ret
      exact ⟨ret_int hend.out.symm, he.out⟩
set_option maxHeartbeats 1000000 in
theorem HasPat_any (g : Nat) (lb : Array Value) (eg : ∀ args w, (callFunc g args).run Tryz.prog w = .ok (.enter g args) w) (pr : List Atm → Bool) (a : Option Addr) (c : Nat) (l : List (List Atm)) (w : World) (hl : l.length ≤ 16777216) (hs : Sl EAtm.slice w (· < w.heap.size) a l)
    (hq : ∀ x ∈ l, ∀ W b d, Ext w W → x.length ≤ 16777216 → Sl EAtm W (· < W.heap.size) b x → Calls Tryz.prog g (#[.slice b x.length d] ++ lb) W fun e w' => e = .returned (.bool (pr x)) ∧ Ext W w') :
    Calls Tryz.prog 118 #[.slice a l.length c, .func (.func g) #[] lb] w fun e w' => e = .returned (.bool (l.any pr)) ∧ Ext w w' := by
  have q := IdxPat_any g lb eg pr a c l w hl hs hq
  have hd := idxT_any pr l
  generalize idxT pr l = r at q hd
  generalize l.any pr = y at hd ⊢
  clear hs hq
  replace q := hide q
  go_enter Tryz.func118, Tryz.ntmps118
  go_wp2_with fail
  refine q.out.mono ?_
  rintro e W1 ⟨rfl, he⟩
  replace he := hide he
  go_wp2
  go_ret
  exact ⟨rfl, he.out⟩
end Go.Proofs.YtljibkfbldjgdaaGreatDoor
