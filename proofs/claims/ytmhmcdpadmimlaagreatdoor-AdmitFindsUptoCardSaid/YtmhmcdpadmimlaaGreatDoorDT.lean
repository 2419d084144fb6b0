/- Walks of the document's side of chapter 21: addresses, hosts; is a neighbour told by a range of the address. -/
import Derived.Test.YtmhmcdpadmimlaaGreatDoorDF
import Derived.Lib.QuietBelow
namespace Go.Proofs.YtmhmcdpadmimlaaGreatDoor
open Go.RowKit Go.Sort
set_option linter.unusedVariables false

set_option maxRecDepth 20000 in
theorem Rright_any (a : List UInt8) (w : World) :
    Calls Tryz.prog 25 #[.string ⟨a.toArray⟩] w fun e w' => e = .returned (.bool (rightA a)) ∧ Ext w w' := by
  rcases right_cases a with ⟨h, e1, _⟩ | ⟨h, e1, _⟩ | ⟨h4, h16, e1⟩
  · have b1 : ((a.length : Int) == 4) = true := by rw [beq_iff_eq]; omega
    rw [e1]
    clear h e1
    go_enter Tryz.func25, Tryz.ntmps25
    go_wp2
    go_ret
    exact ⟨rfl, Ext.refl _⟩
  · have b1 : ((a.length : Int) == 4) = false := by rw [beq_eq_false_iff_ne]; omega
    have b2 : ((a.length : Int) == 16) = true := by rw [beq_iff_eq]; omega
    rw [e1]
    clear h e1
    go_enter Tryz.func25, Tryz.ntmps25
    go_wp2
    go_ret
    exact ⟨rfl, Ext.refl _⟩
  · have b1 : ((a.length : Int) == 4) = false := by rw [beq_eq_false_iff_ne]; omega
    have b2 : ((a.length : Int) == 16) = false := by rw [beq_eq_false_iff_ne]; omega
    rw [e1]
    clear h4 h16 e1
    go_enter Tryz.func25, Tryz.ntmps25
    go_wp2
    go_ret
    exact ⟨rfl, Ext.refl _⟩
set_option maxRecDepth 20000 in
theorem Rhost_any (a : List UInt8) (w : World) :
    Calls Tryz.prog 35 #[.string ⟨a.toArray⟩] w fun e w' => e = .returned (valP (hostS a)) ∧ Ext w w' := by
  unfold valP hostS
  by_cases h : a.length = 4
  · have b1 : ((a.length : Int) == 4) = true := by rw [beq_iff_eq]; omega
    rw [if_pos h]
    clear h
    go_enter Tryz.func35, Tryz.ntmps35
    go_wp2
    exact bodyPost_ret (v := .agg #[.int .i64 1, .int .u64 0, .string ⟨a.toArray⟩, .int .i64 32]) (by simp [results, Tryz.results35, go_sem]) rfl ⟨rfl, (Ext.refl w).alloc _⟩
  · have b1 : ((a.length : Int) == 4) = false := by rw [beq_eq_false_iff_ne]; omega
    rw [if_neg h]
    clear h
    go_enter Tryz.func35, Tryz.ntmps35
    go_wp2
    exact bodyPost_ret (v := .agg #[.int .i64 2, .int .u64 0, .string ⟨a.toArray⟩, .int .i64 128]) (by simp [results, Tryz.results35, go_sem]) rfl ⟨rfl, (Ext.refl w).alloc _⟩
set_option maxRecDepth 20000 in
set_option maxHeartbeats 1000000 in
theorem ROf_any (x : Nbr) (f : Option Addr) (c : Nat) (a : List UInt8) (w : World) (hx : x.range.addr.length ≤ 1048576) (ha : a.length ≤ 1048576) :
    Calls Tryz.prog 26 #[.agg (nbrCs x f c).toArray, .string ⟨a.toArray⟩] w fun e w' => e = .returned (.bool (ofS x a)) ∧ Ext w w' := by
  have mixed : Tryz.prog.follows Departure.mixedOrders = true := by kernel_rfl
  have q10 := fun W => Rright_any a W
  have q20 := fun W => Rhost_any a W
  have q30 := fun W => RCov_any x.range (hostS a) W hx (by unfold hostS; split <;> exact ha)
  have hof : ofS x a = (rightA a && (decide (x.addr = []) && covB x.range (hostS a))) := rfl
  obtain ⟨nm, ad, ⟨rf, rrd, ra, rl⟩, asn, hold, retry, pass, client, confed, fams, send, take, most, gr, time, mrai, pin, pout, vrf, selfN⟩ := x
  dsimp only at *
  rw [hof]
  simp only [nbrCs]
  unfold valP at q20 q30
  dsimp only at q30
  clear hof hx
  generalize covB ⟨rf, rrd, ra, rl⟩ (hostS a) = cv at *
  generalize hostS a = hz at *
  obtain ⟨zf, zr, za, zl⟩ := hz
  dsimp only at q20 q30
  by_cases hne : ad = []
  · subst hne
    have e0 : ((⟨#[]⟩ : ByteArray) == ⟨#[]⟩) = true := rfl
    rw [decide_eq_true rfl, Bool.true_and]
    cases hri : rightA a with
    | false =>
      rw [hri] at q10
      rw [Bool.false_and]
      clear hri q20 q30
      replace q10 := hide q10
      go_enter Tryz.func26, Tryz.ntmps26
      have P := Blk.new w 31 #[.string ⟨nm.toArray⟩, .string ⟨#[]⟩, .int .i64 rf, .int .u64 (rrd : Int), .string ⟨ra.toArray⟩, .int .i64 rl, .int .u32 (asn.toNat : Int), .int .i64 hold, .int .i64 retry, .bool pass, .bool client, .bool confed, .slice f fams.length c, .int .i64 send, .bool take, .int .i64 most, .bool gr, .int .i64 time, .int .i64 mrai, .string ⟨pin.toArray⟩, .string ⟨pout.toArray⟩, .string ⟨vrf.toArray⟩, .bool selfN]
      have E := (Ext.refl w).alloc (Obj.cells #[.string ⟨nm.toArray⟩, .string ⟨#[]⟩, .int .i64 rf, .int .u64 (rrd : Int), .string ⟨ra.toArray⟩, .int .i64 rl, .int .u32 (asn.toNat : Int), .int .i64 hold, .int .i64 retry, .bool pass, .bool client, .bool confed, .slice f fams.length c, .int .i64 send, .bool take, .int .i64 most, .bool gr, .int .i64 time, .int .i64 mrai, .string ⟨pin.toArray⟩, .string ⟨pout.toArray⟩, .string ⟨vrf.toArray⟩, .bool selfN] 31)
      generalize hW0 : w.alloc (Obj.cells #[.string ⟨nm.toArray⟩, .string ⟨#[]⟩, .int .i64 rf, .int .u64 (rrd : Int), .string ⟨ra.toArray⟩, .int .i64 rl, .int .u32 (asn.toNat : Int), .int .i64 hold, .int .i64 retry, .bool pass, .bool client, .bool confed, .slice f fams.length c, .int .i64 send, .bool take, .int .i64 most, .bool gr, .int .i64 time, .int .i64 mrai, .string ⟨pin.toArray⟩, .string ⟨pout.toArray⟩, .string ⟨vrf.toArray⟩, .bool selfN] 31) = W0 at P E
      generalize hg0 : w.heap.size = g0 at P
      replace P := hide P
      replace E := hide E
      go_wp2_with fail
      clear hW0
      have p0 : ∀ d os, (grow (redrawn W0 d) os).cell? ⟨g0, 1, none⟩ = some (.string ⟨#[]⟩) := cell_regrown (P.out.cell 1)
      have p1 : ∀ d os, (grow (redrawn W0 d) os).cell? ⟨g0, 2, none⟩ = some (.int .i64 rf) := cell_regrown (P.out.cell 2)
      have p2 : ∀ d os, (grow (redrawn W0 d) os).cell? ⟨g0, 3, none⟩ = some (.int .u64 (rrd : Int)) := cell_regrown (P.out.cell 3)
      have p3 : ∀ d os, (grow (redrawn W0 d) os).cell? ⟨g0, 4, none⟩ = some (.string ⟨ra.toArray⟩) := cell_regrown (P.out.cell 4)
      have p4 : ∀ d os, (grow (redrawn W0 d) os).cell? ⟨g0, 5, none⟩ = some (.int .i64 rl) := cell_regrown (P.out.cell 5)
      have q1 := Calls.regr q10.out W0
      refine wp_region_quiet_below (by assumption) (by kernel_rfl) ?_
      repeat (quiet_step (first | (with_reducible exact q1 _ _) | fail))
      refine wpQuiet_nil ?_
      intro _ hw'
      obtain ⟨⟨dq, osq⟩, hw''⟩ := hw'
      subst hw''
      replace E := hide (E.out.trans (below_regrown _ dq osq))
      clear p0 p1 p2 p3 p4
      go_wp2
      go_ret
      exact ⟨rfl, E.out⟩
    | true =>
      rw [hri] at q10
      rw [Bool.true_and]
      clear hri
      replace q10 := hide q10
      replace q20 := hide q20
      replace q30 := hide q30
      go_enter Tryz.func26, Tryz.ntmps26
      have P := Blk.new w 31 #[.string ⟨nm.toArray⟩, .string ⟨#[]⟩, .int .i64 rf, .int .u64 (rrd : Int), .string ⟨ra.toArray⟩, .int .i64 rl, .int .u32 (asn.toNat : Int), .int .i64 hold, .int .i64 retry, .bool pass, .bool client, .bool confed, .slice f fams.length c, .int .i64 send, .bool take, .int .i64 most, .bool gr, .int .i64 time, .int .i64 mrai, .string ⟨pin.toArray⟩, .string ⟨pout.toArray⟩, .string ⟨vrf.toArray⟩, .bool selfN]
      have E := (Ext.refl w).alloc (Obj.cells #[.string ⟨nm.toArray⟩, .string ⟨#[]⟩, .int .i64 rf, .int .u64 (rrd : Int), .string ⟨ra.toArray⟩, .int .i64 rl, .int .u32 (asn.toNat : Int), .int .i64 hold, .int .i64 retry, .bool pass, .bool client, .bool confed, .slice f fams.length c, .int .i64 send, .bool take, .int .i64 most, .bool gr, .int .i64 time, .int .i64 mrai, .string ⟨pin.toArray⟩, .string ⟨pout.toArray⟩, .string ⟨vrf.toArray⟩, .bool selfN] 31)
      generalize hW0 : w.alloc (Obj.cells #[.string ⟨nm.toArray⟩, .string ⟨#[]⟩, .int .i64 rf, .int .u64 (rrd : Int), .string ⟨ra.toArray⟩, .int .i64 rl, .int .u32 (asn.toNat : Int), .int .i64 hold, .int .i64 retry, .bool pass, .bool client, .bool confed, .slice f fams.length c, .int .i64 send, .bool take, .int .i64 most, .bool gr, .int .i64 time, .int .i64 mrai, .string ⟨pin.toArray⟩, .string ⟨pout.toArray⟩, .string ⟨vrf.toArray⟩, .bool selfN] 31) = W0 at P E
      generalize hg0 : w.heap.size = g0 at P
      replace P := hide P
      replace E := hide E
      go_wp2_with fail
      clear hW0
      have p0 : ∀ d os, (grow (redrawn W0 d) os).cell? ⟨g0, 1, none⟩ = some (.string ⟨#[]⟩) := cell_regrown (P.out.cell 1)
      have p1 : ∀ d os, (grow (redrawn W0 d) os).cell? ⟨g0, 2, none⟩ = some (.int .i64 rf) := cell_regrown (P.out.cell 2)
      have p2 : ∀ d os, (grow (redrawn W0 d) os).cell? ⟨g0, 3, none⟩ = some (.int .u64 (rrd : Int)) := cell_regrown (P.out.cell 3)
      have p3 : ∀ d os, (grow (redrawn W0 d) os).cell? ⟨g0, 4, none⟩ = some (.string ⟨ra.toArray⟩) := cell_regrown (P.out.cell 4)
      have p4 : ∀ d os, (grow (redrawn W0 d) os).cell? ⟨g0, 5, none⟩ = some (.int .i64 rl) := cell_regrown (P.out.cell 5)
      have q1 := Calls.regr q10.out W0
      have q2 := Calls.regr q20.out W0
      have q3 := Calls.regr q30.out W0
      refine wp_region_quiet_below (by assumption) (by kernel_rfl) ?_
      repeat (quiet_step (first | (with_reducible exact q1 _ _) | (with_reducible exact q2 _ _) | (with_reducible exact q3 _ _) | fail))
      refine wpQuiet_nil ?_
      intro _ hw'
      obtain ⟨⟨dq, osq⟩, hw''⟩ := hw'
      subst hw''
      replace E := hide (E.out.trans (below_regrown _ dq osq))
      clear p0 p1 p2 p3 p4
      go_wp2
      go_ret
      exact ⟨rfl, E.out⟩
  · have e0 := str_ne hne
    have e1 : (⟨ad.toArray⟩ : ByteArray).toList.isEmpty = false := by cases h : (⟨ad.toArray⟩ : ByteArray).toList with
      | nil => exact absurd h e0
      | cons x t => rfl
    rw [decide_eq_false hne, Bool.false_and, Bool.and_false]
    clear q10 q20 q30 hne
    generalize (⟨ad.toArray⟩ : ByteArray) = sa at *
    go_enter Tryz.func26, Tryz.ntmps26
    have P := Blk.new w 31 #[.string ⟨nm.toArray⟩, .string sa, .int .i64 rf, .int .u64 (rrd : Int), .string ⟨ra.toArray⟩, .int .i64 rl, .int .u32 (asn.toNat : Int), .int .i64 hold, .int .i64 retry, .bool pass, .bool client, .bool confed, .slice f fams.length c, .int .i64 send, .bool take, .int .i64 most, .bool gr, .int .i64 time, .int .i64 mrai, .string ⟨pin.toArray⟩, .string ⟨pout.toArray⟩, .string ⟨vrf.toArray⟩, .bool selfN]
    have E := (Ext.refl w).alloc (Obj.cells #[.string ⟨nm.toArray⟩, .string sa, .int .i64 rf, .int .u64 (rrd : Int), .string ⟨ra.toArray⟩, .int .i64 rl, .int .u32 (asn.toNat : Int), .int .i64 hold, .int .i64 retry, .bool pass, .bool client, .bool confed, .slice f fams.length c, .int .i64 send, .bool take, .int .i64 most, .bool gr, .int .i64 time, .int .i64 mrai, .string ⟨pin.toArray⟩, .string ⟨pout.toArray⟩, .string ⟨vrf.toArray⟩, .bool selfN] 31)
    generalize hW0 : w.alloc (Obj.cells #[.string ⟨nm.toArray⟩, .string sa, .int .i64 rf, .int .u64 (rrd : Int), .string ⟨ra.toArray⟩, .int .i64 rl, .int .u32 (asn.toNat : Int), .int .i64 hold, .int .i64 retry, .bool pass, .bool client, .bool confed, .slice f fams.length c, .int .i64 send, .bool take, .int .i64 most, .bool gr, .int .i64 time, .int .i64 mrai, .string ⟨pin.toArray⟩, .string ⟨pout.toArray⟩, .string ⟨vrf.toArray⟩, .bool selfN] 31) = W0 at P E
    generalize hg0 : w.heap.size = g0 at P
    replace P := hide P
    replace E := hide E
    go_wp2_with fail
    clear hW0
    have p0 : ∀ d os, (grow (redrawn W0 d) os).cell? ⟨g0, 1, none⟩ = some (.string sa) := cell_regrown (P.out.cell 1)
    have p1 : ∀ d os, (grow (redrawn W0 d) os).cell? ⟨g0, 2, none⟩ = some (.int .i64 rf) := cell_regrown (P.out.cell 2)
    have p2 : ∀ d os, (grow (redrawn W0 d) os).cell? ⟨g0, 3, none⟩ = some (.int .u64 (rrd : Int)) := cell_regrown (P.out.cell 3)
    have p3 : ∀ d os, (grow (redrawn W0 d) os).cell? ⟨g0, 4, none⟩ = some (.string ⟨ra.toArray⟩) := cell_regrown (P.out.cell 4)
    have p4 : ∀ d os, (grow (redrawn W0 d) os).cell? ⟨g0, 5, none⟩ = some (.int .i64 rl) := cell_regrown (P.out.cell 5)
    refine wp_region_quiet_below (by assumption) (by kernel_rfl) ?_
    repeat (quiet_step (first | fail | fail))
    refine wpQuiet_nil ?_
    intro _ hw'
    obtain ⟨⟨dq, osq⟩, hw''⟩ := hw'
    subst hw''
    replace E := hide (E.out.trans (below_regrown _ dq osq))
    clear p0 p1 p2 p3 p4
    go_wp2
    go_ret
    exact ⟨rfl, E.out⟩
end Go.Proofs.YtmhmcdpadmimlaaGreatDoor
