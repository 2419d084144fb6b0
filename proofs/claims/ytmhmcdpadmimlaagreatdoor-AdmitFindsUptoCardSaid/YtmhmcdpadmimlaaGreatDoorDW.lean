/- The walk of the document's Same of two neighbours alike, chapter 21. -/
import Derived.Test.YtmhmcdpadmimlaaGreatDoorDA
namespace Go.Proofs.YtmhmcdpadmimlaaGreatDoor
open Go.RowKit
set_option linter.unusedVariables false

theorem EI64.at {w : World} {S : Nat → Prop} {a : Option Addr} {l : List Int} (h : Sl EI64 w S a l) (k : Nat) (hk : k < l.length) : ∃ b off, a = some ⟨b, off, none⟩ ∧ S b ∧ w.cell? ⟨b, off + k, none⟩ = some (.int .i64 l[k]) := by
  obtain ⟨b, off, cs, rfl, hb, ⟨rfl, _⟩, hc⟩ := h.at k hk
  refine ⟨b, off, rfl, hb, ?_⟩
  have := hc 0 _ rfl
  have e : off + k * EI64.sz + 0 = off + k := by
    show off + k * 1 + 0 = off + k
    omega
  rwa [e] at this
set_option maxRecDepth 20000 in
set_option maxHeartbeats 4000000 in
theorem RSame21_eq (x : Nbr) (f1 : Option Addr) (c1 : Nat) (f2 : Option Addr) (c2 : Nat) (w : World) (hn : x.fams.length ≤ 16777216) (h1 : Sl EI64 w (· < w.heap.size) f1 x.fams) (h2 : Sl EI64 w (· < w.heap.size) f2 x.fams) :
    Calls Tryz.prog 12 #[.agg (nbrCs x f1 c1).toArray, .agg (nbrCs x f2 c2).toArray] w fun e w' => e = .returned (.bool true) ∧ Ext w w' := by
  have mixed : Tryz.prog.follows Departure.mixedOrders = true := by kernel_rfl
  obtain ⟨nm, ad, ⟨rf, rrd, ra, rl⟩, asn, hold, retry, pass, client, confed, fams, send, take, most, gr, time, mrai, pin, pout, vrf, selfN⟩ := x
  simp only [nbrCs]
  dsimp only at hn h1 h2
  have hl1 : ∀ W, Ext w W → ∀ k (hk : k < fams.length), ∃ b off, f1 = some ⟨b, off, none⟩ ∧ W.cell? ⟨b, off + k, none⟩ = some (.int .i64 fams[k]) := fun W h k hk => by
    obtain ⟨b, off, e, _, hc⟩ := EI64.at (h1.ext h) k hk
    exact ⟨b, off, e, hc⟩
  have hl2 : ∀ W, Ext w W → ∀ k (hk : k < fams.length), ∃ b off, f2 = some ⟨b, off, none⟩ ∧ W.cell? ⟨b, off + k, none⟩ = some (.int .i64 fams[k]) := fun W h k hk => by
    obtain ⟨b, off, e, _, hc⟩ := EI64.at (h2.ext h) k hk
    exact ⟨b, off, e, hc⟩
  clear h1 h2
  obtain ⟨F, hF⟩ : ∃ F : Nat → Int, ∀ k (hk : k < fams.length), fams[k] = F k := ⟨fun k => fams.getD k 0, fun k hk => by
    show fams[k] = fams.getD k 0
    rw [List.getD_eq_getElem?_getD, List.getElem?_eq_getElem hk]
    rfl⟩
  replace hl1 : ∀ W, Ext w W → ∀ k, k < fams.length → ∃ b off, f1 = some ⟨b, off, none⟩ ∧ W.cell? ⟨b, off + k, none⟩ = some (.int .i64 (F k)) := fun W h k hk => by rw [← hF k hk]; exact hl1 W h k hk
  replace hl2 : ∀ W, Ext w W → ∀ k, k < fams.length → ∃ b off, f2 = some ⟨b, off, none⟩ ∧ W.cell? ⟨b, off + k, none⟩ = some (.int .i64 (F k)) := fun W h k hk => by rw [← hF k hk]; exact hl2 W h k hk
  clear hF
  generalize fams.length = n at *
  clear fams
  replace hl1 := hide hl1
  replace hl2 := hide hl2
  go_enter Tryz.func12, Tryz.ntmps12
  have P := (Blk.new w 31 #[.string ⟨nm.toArray⟩, .string ⟨ad.toArray⟩, .int .i64 rf, .int .u64 (rrd : Int), .string ⟨ra.toArray⟩, .int .i64 rl, .int .u32 (asn.toNat : Int), .int .i64 hold, .int .i64 retry, .bool pass, .bool client, .bool confed, .slice f1 n c1, .int .i64 send, .bool take, .int .i64 most, .bool gr, .int .i64 time, .int .i64 mrai, .string ⟨pin.toArray⟩, .string ⟨pout.toArray⟩, .string ⟨vrf.toArray⟩, .bool selfN]).alloc (Obj.cells #[.string ⟨nm.toArray⟩, .string ⟨ad.toArray⟩, .int .i64 rf, .int .u64 (rrd : Int), .string ⟨ra.toArray⟩, .int .i64 rl, .int .u32 (asn.toNat : Int), .int .i64 hold, .int .i64 retry, .bool pass, .bool client, .bool confed, .slice f2 n c2, .int .i64 send, .bool take, .int .i64 most, .bool gr, .int .i64 time, .int .i64 mrai, .string ⟨pin.toArray⟩, .string ⟨pout.toArray⟩, .string ⟨vrf.toArray⟩, .bool selfN] 31)
  have R := Blk.new (w.alloc (Obj.cells #[.string ⟨nm.toArray⟩, .string ⟨ad.toArray⟩, .int .i64 rf, .int .u64 (rrd : Int), .string ⟨ra.toArray⟩, .int .i64 rl, .int .u32 (asn.toNat : Int), .int .i64 hold, .int .i64 retry, .bool pass, .bool client, .bool confed, .slice f1 n c1, .int .i64 send, .bool take, .int .i64 most, .bool gr, .int .i64 time, .int .i64 mrai, .string ⟨pin.toArray⟩, .string ⟨pout.toArray⟩, .string ⟨vrf.toArray⟩, .bool selfN] 31)) 31 #[.string ⟨nm.toArray⟩, .string ⟨ad.toArray⟩, .int .i64 rf, .int .u64 (rrd : Int), .string ⟨ra.toArray⟩, .int .i64 rl, .int .u32 (asn.toNat : Int), .int .i64 hold, .int .i64 retry, .bool pass, .bool client, .bool confed, .slice f2 n c2, .int .i64 send, .bool take, .int .i64 most, .bool gr, .int .i64 time, .int .i64 mrai, .string ⟨pin.toArray⟩, .string ⟨pout.toArray⟩, .string ⟨vrf.toArray⟩, .bool selfN]
  rw [show (w.alloc (Obj.cells #[.string ⟨nm.toArray⟩, .string ⟨ad.toArray⟩, .int .i64 rf, .int .u64 (rrd : Int), .string ⟨ra.toArray⟩, .int .i64 rl, .int .u32 (asn.toNat : Int), .int .i64 hold, .int .i64 retry, .bool pass, .bool client, .bool confed, .slice f1 n c1, .int .i64 send, .bool take, .int .i64 most, .bool gr, .int .i64 time, .int .i64 mrai, .string ⟨pin.toArray⟩, .string ⟨pout.toArray⟩, .string ⟨vrf.toArray⟩, .bool selfN] 31)).heap.size = w.heap.size + 1 by simp] at R
  have E := ((Ext.refl w).alloc (Obj.cells #[.string ⟨nm.toArray⟩, .string ⟨ad.toArray⟩, .int .i64 rf, .int .u64 (rrd : Int), .string ⟨ra.toArray⟩, .int .i64 rl, .int .u32 (asn.toNat : Int), .int .i64 hold, .int .i64 retry, .bool pass, .bool client, .bool confed, .slice f1 n c1, .int .i64 send, .bool take, .int .i64 most, .bool gr, .int .i64 time, .int .i64 mrai, .string ⟨pin.toArray⟩, .string ⟨pout.toArray⟩, .string ⟨vrf.toArray⟩, .bool selfN] 31)).alloc (Obj.cells #[.string ⟨nm.toArray⟩, .string ⟨ad.toArray⟩, .int .i64 rf, .int .u64 (rrd : Int), .string ⟨ra.toArray⟩, .int .i64 rl, .int .u32 (asn.toNat : Int), .int .i64 hold, .int .i64 retry, .bool pass, .bool client, .bool confed, .slice f2 n c2, .int .i64 send, .bool take, .int .i64 most, .bool gr, .int .i64 time, .int .i64 mrai, .string ⟨pin.toArray⟩, .string ⟨pout.toArray⟩, .string ⟨vrf.toArray⟩, .bool selfN] 31)
  obtain ⟨W0, hW0⟩ : ∃ W0, W0 = (w.alloc (Obj.cells #[.string ⟨nm.toArray⟩, .string ⟨ad.toArray⟩, .int .i64 rf, .int .u64 (rrd : Int), .string ⟨ra.toArray⟩, .int .i64 rl, .int .u32 (asn.toNat : Int), .int .i64 hold, .int .i64 retry, .bool pass, .bool client, .bool confed, .slice f1 n c1, .int .i64 send, .bool take, .int .i64 most, .bool gr, .int .i64 time, .int .i64 mrai, .string ⟨pin.toArray⟩, .string ⟨pout.toArray⟩, .string ⟨vrf.toArray⟩, .bool selfN] 31)).alloc (Obj.cells #[.string ⟨nm.toArray⟩, .string ⟨ad.toArray⟩, .int .i64 rf, .int .u64 (rrd : Int), .string ⟨ra.toArray⟩, .int .i64 rl, .int .u32 (asn.toNat : Int), .int .i64 hold, .int .i64 retry, .bool pass, .bool client, .bool confed, .slice f2 n c2, .int .i64 send, .bool take, .int .i64 most, .bool gr, .int .i64 time, .int .i64 mrai, .string ⟨pin.toArray⟩, .string ⟨pout.toArray⟩, .string ⟨vrf.toArray⟩, .bool selfN] 31) := ⟨_, rfl⟩
  rw [← hW0] at P R E
  replace hW0 := hW0.symm
  obtain ⟨g1, hg1⟩ : ∃ g1, g1 = w.heap.size + 1 := ⟨_, rfl⟩
  rw [← hg1] at R
  generalize hg0 : w.heap.size = g0 at P hg1
  replace hg1 := hg1.symm
  have p12 : W0.cell? ⟨g0, 12, none⟩ = some (.slice f1 n c1) := P.cell 12
  have r12 : W0.cell? ⟨g1, 12, none⟩ = some (.slice f2 n c2) := R.cell 12
  replace P := hide P
  replace R := hide R
  replace E := hide E
  go_wp2_with fail
  clear hW0 hg0 hg1 p12 r12
  go_loopw [5] (fun i wr => ∃ k : Nat, k ≤ n ∧ i = .int .i64 (k : Int) ∧ Ext W0 wr) (fun i _ => n - (intOf i).toNat)
  case atStart => exact ⟨0, Nat.zero_le _, rfl, Ext.refl _⟩
  case round =>
    obtain ⟨k, hk, rfl, hE⟩ := hrel
    rename World => W1
    have P1 := P.out.ext hE
    have R1 := R.out.ext hE
    have p12 : W1.cell? ⟨g0, 12, none⟩ = some (.slice f1 n c1) := P1.cell 12
    have r12 : W1.cell? ⟨g1, 12, none⟩ = some (.slice f2 n c2) := R1.cell 12
    by_cases hlt : k < n
    · obtain ⟨b, off, rfl, y1⟩ := hl1.out W1 (E.out.trans hE) k hlt
      obtain ⟨b2, off2, rfl, y2⟩ := hl2.out W1 (E.out.trans hE) k hlt
      have d1 : decide ((k : Int) < (n : Int)) = true := decide_eq_true (by omega)
      clear P1 R1
      replace hE := hide hE
      go_wp2_with fail
      go_quiet (fail)
      clear p12 r12 y1 y2
      go_wp2_with fail
      go_roundw
      case rel => exact ⟨k + 1, by omega, by go_num, hE.out.drewN _⟩
      case measure => simp [intOf]; omega
    · obtain rfl : k = n := by omega
      replace E := hide (E.out.trans hE)
      clear hE hlt hk hl1 hl2
      have p0 : W1.cell? ⟨g0, 0, none⟩ = some (.string ⟨nm.toArray⟩) := P1.cell 0
      have r0 : W1.cell? ⟨g1, 0, none⟩ = some (.string ⟨nm.toArray⟩) := R1.cell 0
      have p1 : W1.cell? ⟨g0, 1, none⟩ = some (.string ⟨ad.toArray⟩) := P1.cell 1
      have r1 : W1.cell? ⟨g1, 1, none⟩ = some (.string ⟨ad.toArray⟩) := R1.cell 1
      have p2 : W1.cell? ⟨g0, 2, none⟩ = some (.int .i64 rf) := P1.cell 2
      have r2 : W1.cell? ⟨g1, 2, none⟩ = some (.int .i64 rf) := R1.cell 2
      have p3 : W1.cell? ⟨g0, 3, none⟩ = some (.int .u64 (rrd : Int)) := P1.cell 3
      have r3 : W1.cell? ⟨g1, 3, none⟩ = some (.int .u64 (rrd : Int)) := R1.cell 3
      have p4 : W1.cell? ⟨g0, 4, none⟩ = some (.string ⟨ra.toArray⟩) := P1.cell 4
      have r4 : W1.cell? ⟨g1, 4, none⟩ = some (.string ⟨ra.toArray⟩) := R1.cell 4
      have p5 : W1.cell? ⟨g0, 5, none⟩ = some (.int .i64 rl) := P1.cell 5
      have r5 : W1.cell? ⟨g1, 5, none⟩ = some (.int .i64 rl) := R1.cell 5
      have p6 : W1.cell? ⟨g0, 6, none⟩ = some (.int .u32 (asn.toNat : Int)) := P1.cell 6
      have r6 : W1.cell? ⟨g1, 6, none⟩ = some (.int .u32 (asn.toNat : Int)) := R1.cell 6
      have p7 : W1.cell? ⟨g0, 7, none⟩ = some (.int .i64 hold) := P1.cell 7
      have r7 : W1.cell? ⟨g1, 7, none⟩ = some (.int .i64 hold) := R1.cell 7
      have p8 : W1.cell? ⟨g0, 8, none⟩ = some (.int .i64 retry) := P1.cell 8
      have r8 : W1.cell? ⟨g1, 8, none⟩ = some (.int .i64 retry) := R1.cell 8
      have p9 : W1.cell? ⟨g0, 9, none⟩ = some (.bool pass) := P1.cell 9
      have r9 : W1.cell? ⟨g1, 9, none⟩ = some (.bool pass) := R1.cell 9
      have p10 : W1.cell? ⟨g0, 10, none⟩ = some (.bool client) := P1.cell 10
      have r10 : W1.cell? ⟨g1, 10, none⟩ = some (.bool client) := R1.cell 10
      have p11 : W1.cell? ⟨g0, 11, none⟩ = some (.bool confed) := P1.cell 11
      have r11 : W1.cell? ⟨g1, 11, none⟩ = some (.bool confed) := R1.cell 11
      have p13 : W1.cell? ⟨g0, 13, none⟩ = some (.int .i64 send) := P1.cell 13
      have r13 : W1.cell? ⟨g1, 13, none⟩ = some (.int .i64 send) := R1.cell 13
      have p14 : W1.cell? ⟨g0, 14, none⟩ = some (.bool take) := P1.cell 14
      have r14 : W1.cell? ⟨g1, 14, none⟩ = some (.bool take) := R1.cell 14
      have p15 : W1.cell? ⟨g0, 15, none⟩ = some (.int .i64 most) := P1.cell 15
      have r15 : W1.cell? ⟨g1, 15, none⟩ = some (.int .i64 most) := R1.cell 15
      have p16 : W1.cell? ⟨g0, 16, none⟩ = some (.bool gr) := P1.cell 16
      have r16 : W1.cell? ⟨g1, 16, none⟩ = some (.bool gr) := R1.cell 16
      have p17 : W1.cell? ⟨g0, 17, none⟩ = some (.int .i64 time) := P1.cell 17
      have r17 : W1.cell? ⟨g1, 17, none⟩ = some (.int .i64 time) := R1.cell 17
      have p18 : W1.cell? ⟨g0, 18, none⟩ = some (.int .i64 mrai) := P1.cell 18
      have r18 : W1.cell? ⟨g1, 18, none⟩ = some (.int .i64 mrai) := R1.cell 18
      have p19 : W1.cell? ⟨g0, 19, none⟩ = some (.string ⟨pin.toArray⟩) := P1.cell 19
      have r19 : W1.cell? ⟨g1, 19, none⟩ = some (.string ⟨pin.toArray⟩) := R1.cell 19
      have p20 : W1.cell? ⟨g0, 20, none⟩ = some (.string ⟨pout.toArray⟩) := P1.cell 20
      have r20 : W1.cell? ⟨g1, 20, none⟩ = some (.string ⟨pout.toArray⟩) := R1.cell 20
      have p21 : W1.cell? ⟨g0, 21, none⟩ = some (.string ⟨vrf.toArray⟩) := P1.cell 21
      have r21 : W1.cell? ⟨g1, 21, none⟩ = some (.string ⟨vrf.toArray⟩) := R1.cell 21
      have p22 : W1.cell? ⟨g0, 22, none⟩ = some (.bool selfN) := P1.cell 22
      have r22 : W1.cell? ⟨g1, 22, none⟩ = some (.bool selfN) := R1.cell 22
      clear P1 R1 P R
      go_wp2
      go_ret
      exact ⟨rfl, E.out⟩
end Go.Proofs.YtmhmcdpadmimlaaGreatDoor
