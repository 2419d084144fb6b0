/- Walks: what a set holds, by the document (heraldref15.Prefix, Comm, Path); sets.Path. -/
import Derived.Test.YtoghdmoldcjedaaGreatDoorVQ
import Derived.Test.YtoghdmoldcjedaaGreatDoorW13
namespace Go.Proofs.YtoghdmoldcjedaaGreatDoor
open Go.RowKit Go.Sort
set_option linter.unusedVariables false

theorem has_split (q : Pfx) (x : Itm) : ∃ (cb r : Bool), covB x.p q = cb ∧ itmHas q x = r ∧ ((cb = false ∧ r = false) ∨ (cb = true ∧ decide (x.low ≤ q.len) = false ∧ r = false) ∨ (cb = true ∧ decide (x.low ≤ q.len) = true ∧ decide (q.len ≤ x.high) = r)) := by
  refine ⟨_, _, rfl, rfl, ?_⟩
  have hd : itmHas q x = (decide (x.low ≤ q.len) && (decide (q.len ≤ x.high) && covB x.p q)) := rfl
  rw [hd]
  cases covB x.p q with
  | false => exact .inl ⟨rfl, by simp⟩
  | true =>
    cases decide (x.low ≤ q.len) with
    | false => exact .inr (.inl ⟨rfl, rfl, rfl⟩)
    | true => exact .inr (.inr ⟨rfl, rfl, by simp⟩)
theorem anyI_at {α : Type} {f : α → Bool} {l : List α} {k : Nat} (hk : k < l.length) (h : f l[k] = true) : l.any f = true := List.any_eq_true.2 ⟨l[k], List.getElem_mem hk, h⟩

set_option maxRecDepth 20000 in
set_option maxHeartbeats 4000000 in
theorem RPrefix15_any (s : StS) (q : Pfx) (hq : q.addr.length ≤ 1048576) (a1 : Option Addr) (c1 : Nat) (a2 : Option Addr) (c2 : Nat) (a3 : Option Addr) (c3 : Nat) (w : World) (hs : SetIn w (· < w.heap.size) s a1 a2 a3) :
    Calls Tryz.prog 18 #[.agg #[.string ⟨s.name.toArray⟩, .int .i64 s.kind, .slice a1 s.items.length c1, .slice a2 s.comms.length c2, .slice a3 s.paths.length c3], .agg #[.int .i64 q.fam, .int .u64 (q.rd : Int), .string ⟨q.addr.toArray⟩, .int .i64 q.len]] w fun e w' => e = .returned (.bool (setPfx s q)) ∧ Ext w w' := by
  have mixed : Tryz.prog.follows Departure.mixedOrders = true := by kernel_rfl
  have qm := fun W (h : Ext w W) => RMay15_any s a1 c1 a2 c2 a3 c3 W (hs.ext h)
  have hit : ∀ W, Ext w W → Sl EItm W (· < W.heap.size) a1 s.items := fun W h => hs.items.ext h
  have hni := hs.nItems
  have hcs : ∃ ok r : Bool, setOk s = ok ∧ setPfx s q = r ∧ (ok && (decide (s.kind = 1) && s.items.any (itmHas q))) = r := ⟨_, _, rfl, rfl, rfl⟩
  obtain ⟨ok, r, e1, e2, hr⟩ := hcs
  rw [e1] at qm
  rw [e2]
  clear e1 e2 hs
  have hsp := fun x => has_split q x
  have qcv := fun (x : Itm) (hx : x.p.addr.length ≤ 1048576) W => RCov_any x.p q W hx hq
  generalize itmHas q = ih at *
  obtain ⟨nm0, kd, items, comms, paths⟩ := s
  obtain ⟨q', hqq⟩ : ∃ q', q = q' := ⟨q, rfl⟩
  rw [hqq] at hsp qcv
  obtain ⟨qf, qrd, qad, qln⟩ := q
  dsimp only at *
  generalize comms.length = n2 at *
  generalize paths.length = n3 at *
  replace qm := hide qm
  replace hit := hide hit
  replace hsp := hide hsp
  replace qcv := hide qcv
  replace hr := hide hr
  replace hqq := hide hqq
  go_enter Tryz.func18, Tryz.ntmps18
  have S := (Blk.new w 27 #[.string ⟨nm0.toArray⟩, .int .i64 kd, .slice a1 items.length c1, .slice a2 n2 c2, .slice a3 n3 c3]).alloc (Obj.cells #[.int .i64 qf, .int .u64 (qrd : Int), .string ⟨qad.toArray⟩, .int .i64 qln] 34)
  have E := ((Ext.refl w).alloc (Obj.cells #[.string ⟨nm0.toArray⟩, .int .i64 kd, .slice a1 items.length c1, .slice a2 n2 c2, .slice a3 n3 c3] 27)).alloc (Obj.cells #[.int .i64 qf, .int .u64 (qrd : Int), .string ⟨qad.toArray⟩, .int .i64 qln] 34)
  have B := Blk.new (w.alloc (Obj.cells #[.string ⟨nm0.toArray⟩, .int .i64 kd, .slice a1 items.length c1, .slice a2 n2 c2, .slice a3 n3 c3] 27)) 34 #[.int .i64 qf, .int .u64 (qrd : Int), .string ⟨qad.toArray⟩, .int .i64 qln]
  rw [show (w.alloc (Obj.cells #[.string ⟨nm0.toArray⟩, .int .i64 kd, .slice a1 items.length c1, .slice a2 n2 c2, .slice a3 n3 c3] 27)).heap.size = w.heap.size + 1 by simp] at B
  generalize hW0 : (w.alloc (Obj.cells #[.string ⟨nm0.toArray⟩, .int .i64 kd, .slice a1 items.length c1, .slice a2 n2 c2, .slice a3 n3 c3] 27)).alloc (Obj.cells #[.int .i64 qf, .int .u64 (qrd : Int), .string ⟨qad.toArray⟩, .int .i64 qln] 34) = W0 at S E B
  generalize hg0 : w.heap.size = g0 at S B
  replace S := hide S
  replace E := hide E
  replace B := hide B
  have S_0 : W0.cell? ⟨g0, 0, none⟩ = some (.string ⟨nm0.toArray⟩) := S.out.cell 0
  have S_1 : W0.cell? ⟨g0, 1, none⟩ = some (.int .i64 kd) := S.out.cell 1
  have S_2 : W0.cell? ⟨g0, 2, none⟩ = some (.slice a1 items.length c1) := S.out.cell 2
  have S_3 : W0.cell? ⟨g0, 3, none⟩ = some (.slice a2 n2 c2) := S.out.cell 3
  have S_4 : W0.cell? ⟨g0, 4, none⟩ = some (.slice a3 n3 c3) := S.out.cell 4
  have B_0 : W0.cell? ⟨g0 + 1, 0, none⟩ = some (.int .i64 qf) := B.out.cell 0
  have B_1 : W0.cell? ⟨g0 + 1, 1, none⟩ = some (.int .u64 (qrd : Int)) := B.out.cell 1
  have B_2 : W0.cell? ⟨g0 + 1, 2, none⟩ = some (.string ⟨qad.toArray⟩) := B.out.cell 2
  have B_3 : W0.cell? ⟨g0 + 1, 3, none⟩ = some (.int .i64 qln) := B.out.cell 3
  go_wp2_with fail
  refine (qm.out _ E.out).mono ?_
  rintro e W1 ⟨rfl, he_⟩
  clear S_0 S_1 S_2 S_3 S_4 B_0 B_1 B_2 B_3
  replace E := hide (E.out.trans he_)
  replace S := hide (S.out.ext he_)
  replace B := hide (B.out.ext he_)
  clear he_
  have S_0 : W1.cell? ⟨g0, 0, none⟩ = some (.string ⟨nm0.toArray⟩) := S.out.cell 0
  have S_1 : W1.cell? ⟨g0, 1, none⟩ = some (.int .i64 kd) := S.out.cell 1
  have S_2 : W1.cell? ⟨g0, 2, none⟩ = some (.slice a1 items.length c1) := S.out.cell 2
  have S_3 : W1.cell? ⟨g0, 3, none⟩ = some (.slice a2 n2 c2) := S.out.cell 3
  have S_4 : W1.cell? ⟨g0, 4, none⟩ = some (.slice a3 n3 c3) := S.out.cell 4
  have B_0 : W1.cell? ⟨g0 + 1, 0, none⟩ = some (.int .i64 qf) := B.out.cell 0
  have B_1 : W1.cell? ⟨g0 + 1, 1, none⟩ = some (.int .u64 (qrd : Int)) := B.out.cell 1
  have B_2 : W1.cell? ⟨g0 + 1, 2, none⟩ = some (.string ⟨qad.toArray⟩) := B.out.cell 2
  have B_3 : W1.cell? ⟨g0 + 1, 3, none⟩ = some (.int .i64 qln) := B.out.cell 3
  clear hW0 hg0
  cases ok with
  | false =>
    go_wp2
    go_ret
    exact ⟨ret_bool (by rw [← hr.out]; rfl), E.out⟩
  | true =>
    by_cases hk1 : kd = 1
    · subst hk1
      go_wp2_with fail
      go_loopw [5] (fun i wr => ∃ k : Nat, k ≤ items.length ∧ i = .int .i64 k ∧ Ext W1 wr ∧ (items.take k).any ih = false) (fun i _ => items.length - (intOf i).toNat)
      case atStart => exact ⟨0, Nat.zero_le _, rfl, Ext.refl _, rfl⟩
      case round =>
        clear S_0 S_1 S_2 S_3 S_4 B_0 B_1 B_2 B_3
        obtain ⟨k, hk, rfl, hE, ha⟩ := hrel
        have S : Blk wr (g0) 27 #[.string ⟨nm0.toArray⟩, .int .i64 1, .slice a1 items.length c1, .slice a2 n2 c2, .slice a3 n3 c3] := S.out.ext hE
        replace S := hide S
        have B : Blk wr (g0 + 1) 34 #[.int .i64 qf, .int .u64 (qrd : Int), .string ⟨qad.toArray⟩, .int .i64 qln] := B.out.ext hE
        replace B := hide B
        have E1 := hide (E.out.trans hE)
        have S_0 : wr.cell? ⟨g0, 0, none⟩ = some (.string ⟨nm0.toArray⟩) := S.out.cell 0
        have S_1 : wr.cell? ⟨g0, 1, none⟩ = some (.int .i64 1) := S.out.cell 1
        have S_2 : wr.cell? ⟨g0, 2, none⟩ = some (.slice a1 items.length c1) := S.out.cell 2
        have S_3 : wr.cell? ⟨g0, 3, none⟩ = some (.slice a2 n2 c2) := S.out.cell 3
        have S_4 : wr.cell? ⟨g0, 4, none⟩ = some (.slice a3 n3 c3) := S.out.cell 4
        have B_0 : wr.cell? ⟨g0 + 1, 0, none⟩ = some (.int .i64 qf) := B.out.cell 0
        have B_1 : wr.cell? ⟨g0 + 1, 1, none⟩ = some (.int .u64 (qrd : Int)) := B.out.cell 1
        have B_2 : wr.cell? ⟨g0 + 1, 2, none⟩ = some (.string ⟨qad.toArray⟩) := B.out.cell 2
        have B_3 : wr.cell? ⟨g0 + 1, 3, none⟩ = some (.int .i64 qln) := B.out.cell 3
        by_cases hlt : k < items.length
        · obtain ⟨b, off, rfl, _, hin, hc⟩ := EItm.at (hit.out wr E1.out) k hlt
          have x0 : wr.cell? ⟨b, off + k * 6, none⟩ = some (.int .i64 items[k].p.fam) := hc 0 _ rfl
          have x1 : wr.cell? ⟨b, off + k * 6 + 1, none⟩ = some (.int .u64 (items[k].p.rd : Int)) := hc 1 _ rfl
          have x2 : wr.cell? ⟨b, off + k * 6 + 2, none⟩ = some (.string ⟨items[k].p.addr.toArray⟩) := hc 2 _ rfl
          have x3 : wr.cell? ⟨b, off + k * 6 + 3, none⟩ = some (.int .i64 items[k].p.len) := hc 3 _ rfl
          have x4 : wr.cell? ⟨b, off + k * 6 + 4, none⟩ = some (.int .i64 items[k].low) := hc 4 _ rfl
          have x5 : wr.cell? ⟨b, off + k * 6 + 5, none⟩ = some (.int .i64 items[k].high) := hc 5 _ rfl
          have hno := fun h => any_take (pr := ih) hlt h ha
          have hyes := fun h => anyI_at (f := ih) hlt h
          have qck := qcv.out items[k] hin.p.addr
          obtain ⟨cb, rr, ec, er, hsp'⟩ := hsp.out items[k]
          rw [er] at hno hyes
          rw [ec] at qck
          clear hc hin er ec ha
          rw [← hqq.out] at qck hsp'
          generalize items[k] = x at *
          obtain ⟨⟨f, rd, ad, ln⟩, lo, hi⟩ := x
          simp only [valP] at qck
          dsimp only at *
          have hE4 := hide hE
          clear hE
          replace qck := hide qck
          replace hno := hide hno
          replace hyes := hide hyes
          go_wp2_with fail
          clear S_0 S_1 S_2 S_3 S_4 B_0 B_1 B_2 B_3
          replace x0 := fun d os => cell_regrown x0 d os
          replace x1 := fun d os => cell_regrown x1 d os
          replace x2 := fun d os => cell_regrown x2 d os
          replace x3 := fun d os => cell_regrown x3 d os
          replace x4 := fun d os => cell_regrown x4 d os
          replace x5 := fun d os => cell_regrown x5 d os
          rcases hsp' with ⟨rfl, rfl⟩ | ⟨rfl, e2, rfl⟩ | ⟨rfl, e2, e3⟩
          ·
            have S_0 : ∀ d os, (grow (redrawn wr d) os).cell? ⟨g0, 0, none⟩ = some (.string ⟨nm0.toArray⟩) := cell_regrown (S.out.cell 0)
            have S_1 : ∀ d os, (grow (redrawn wr d) os).cell? ⟨g0, 1, none⟩ = some (.int .i64 1) := cell_regrown (S.out.cell 1)
            have S_2 : ∀ d os, (grow (redrawn wr d) os).cell? ⟨g0, 2, none⟩ = some (.slice (some ⟨b, off, none⟩) items.length c1) := cell_regrown (S.out.cell 2)
            have S_3 : ∀ d os, (grow (redrawn wr d) os).cell? ⟨g0, 3, none⟩ = some (.slice a2 n2 c2) := cell_regrown (S.out.cell 3)
            have S_4 : ∀ d os, (grow (redrawn wr d) os).cell? ⟨g0, 4, none⟩ = some (.slice a3 n3 c3) := cell_regrown (S.out.cell 4)
            have B_0 : ∀ d os, (grow (redrawn wr d) os).cell? ⟨g0 + 1, 0, none⟩ = some (.int .i64 qf) := cell_regrown (B.out.cell 0)
            have B_1 : ∀ d os, (grow (redrawn wr d) os).cell? ⟨g0 + 1, 1, none⟩ = some (.int .u64 (qrd : Int)) := cell_regrown (B.out.cell 1)
            have B_2 : ∀ d os, (grow (redrawn wr d) os).cell? ⟨g0 + 1, 2, none⟩ = some (.string ⟨qad.toArray⟩) := cell_regrown (B.out.cell 2)
            have B_3 : ∀ d os, (grow (redrawn wr d) os).cell? ⟨g0 + 1, 3, none⟩ = some (.int .i64 qln) := cell_regrown (B.out.cell 3)
            have cq0 := Calls.regr qck.out wr
            refine wp_region_quiet_below (by assumption) (by kernel_rfl) ?_
            repeat (go_big_quiet_step (first | (with_reducible exact cq0 _ _)))
            refine wpQuiet_nil ?_
            intro _ hw_
            obtain ⟨⟨dq_, osq_⟩, hw_'⟩ := hw_
            subst hw_'
            replace hE4 := hide (hE4.out.trans (below_regrown _ dq_ osq_))
            replace S := hide (S.out.ext (below_regrown _ dq_ osq_))
            replace B := hide (B.out.ext (below_regrown _ dq_ osq_))
            clear S_0 S_1 S_2 S_3 S_4 B_0 B_1 B_2 B_3
            clear cq0
            generalize grow (redrawn wr dq_) osq_ = W5 at hE4 S B ⊢
            have S_0 : W5.cell? ⟨g0, 0, none⟩ = some (.string ⟨nm0.toArray⟩) := S.out.cell 0
            have S_1 : W5.cell? ⟨g0, 1, none⟩ = some (.int .i64 1) := S.out.cell 1
            have S_2 : W5.cell? ⟨g0, 2, none⟩ = some (.slice (some ⟨b, off, none⟩) items.length c1) := S.out.cell 2
            have S_3 : W5.cell? ⟨g0, 3, none⟩ = some (.slice a2 n2 c2) := S.out.cell 3
            have S_4 : W5.cell? ⟨g0, 4, none⟩ = some (.slice a3 n3 c3) := S.out.cell 4
            have B_0 : W5.cell? ⟨g0 + 1, 0, none⟩ = some (.int .i64 qf) := B.out.cell 0
            have B_1 : W5.cell? ⟨g0 + 1, 1, none⟩ = some (.int .u64 (qrd : Int)) := B.out.cell 1
            have B_2 : W5.cell? ⟨g0 + 1, 2, none⟩ = some (.string ⟨qad.toArray⟩) := B.out.cell 2
            have B_3 : W5.cell? ⟨g0 + 1, 3, none⟩ = some (.int .i64 qln) := B.out.cell 3
            clear x0 x1 x2 x3 x4 x5
            have hn := hide (hno.out rfl)
            go_wp2
            go_roundw
            case rel => exact ⟨k + 1, by omega, by go_num, hE4.out, hn.out⟩
            case measure => simp [intOf]; omega
          ·
            have S_0 : ∀ d os, (grow (redrawn wr d) os).cell? ⟨g0, 0, none⟩ = some (.string ⟨nm0.toArray⟩) := cell_regrown (S.out.cell 0)
            have S_1 : ∀ d os, (grow (redrawn wr d) os).cell? ⟨g0, 1, none⟩ = some (.int .i64 1) := cell_regrown (S.out.cell 1)
            have S_2 : ∀ d os, (grow (redrawn wr d) os).cell? ⟨g0, 2, none⟩ = some (.slice (some ⟨b, off, none⟩) items.length c1) := cell_regrown (S.out.cell 2)
            have S_3 : ∀ d os, (grow (redrawn wr d) os).cell? ⟨g0, 3, none⟩ = some (.slice a2 n2 c2) := cell_regrown (S.out.cell 3)
            have S_4 : ∀ d os, (grow (redrawn wr d) os).cell? ⟨g0, 4, none⟩ = some (.slice a3 n3 c3) := cell_regrown (S.out.cell 4)
            have B_0 : ∀ d os, (grow (redrawn wr d) os).cell? ⟨g0 + 1, 0, none⟩ = some (.int .i64 qf) := cell_regrown (B.out.cell 0)
            have B_1 : ∀ d os, (grow (redrawn wr d) os).cell? ⟨g0 + 1, 1, none⟩ = some (.int .u64 (qrd : Int)) := cell_regrown (B.out.cell 1)
            have B_2 : ∀ d os, (grow (redrawn wr d) os).cell? ⟨g0 + 1, 2, none⟩ = some (.string ⟨qad.toArray⟩) := cell_regrown (B.out.cell 2)
            have B_3 : ∀ d os, (grow (redrawn wr d) os).cell? ⟨g0 + 1, 3, none⟩ = some (.int .i64 qln) := cell_regrown (B.out.cell 3)
            have cq0 := Calls.regr qck.out wr
            refine wp_region_quiet_below (by assumption) (by kernel_rfl) ?_
            repeat (go_big_quiet_step (first | (with_reducible exact cq0 _ _)))
            refine wpQuiet_nil ?_
            intro _ hw_
            obtain ⟨⟨dq_, osq_⟩, hw_'⟩ := hw_
            subst hw_'
            replace hE4 := hide (hE4.out.trans (below_regrown _ dq_ osq_))
            replace S := hide (S.out.ext (below_regrown _ dq_ osq_))
            replace B := hide (B.out.ext (below_regrown _ dq_ osq_))
            clear S_0 S_1 S_2 S_3 S_4 B_0 B_1 B_2 B_3
            clear cq0
            generalize grow (redrawn wr dq_) osq_ = W5 at hE4 S B ⊢
            have S_0 : W5.cell? ⟨g0, 0, none⟩ = some (.string ⟨nm0.toArray⟩) := S.out.cell 0
            have S_1 : W5.cell? ⟨g0, 1, none⟩ = some (.int .i64 1) := S.out.cell 1
            have S_2 : W5.cell? ⟨g0, 2, none⟩ = some (.slice (some ⟨b, off, none⟩) items.length c1) := S.out.cell 2
            have S_3 : W5.cell? ⟨g0, 3, none⟩ = some (.slice a2 n2 c2) := S.out.cell 3
            have S_4 : W5.cell? ⟨g0, 4, none⟩ = some (.slice a3 n3 c3) := S.out.cell 4
            have B_0 : W5.cell? ⟨g0 + 1, 0, none⟩ = some (.int .i64 qf) := B.out.cell 0
            have B_1 : W5.cell? ⟨g0 + 1, 1, none⟩ = some (.int .u64 (qrd : Int)) := B.out.cell 1
            have B_2 : W5.cell? ⟨g0 + 1, 2, none⟩ = some (.string ⟨qad.toArray⟩) := B.out.cell 2
            have B_3 : W5.cell? ⟨g0 + 1, 3, none⟩ = some (.int .i64 qln) := B.out.cell 3
            clear x0 x1 x2 x3 x4 x5
            have hn := hide (hno.out rfl)
            go_wp2
            go_roundw
            case rel => exact ⟨k + 1, by omega, by go_num, hE4.out, hn.out⟩
            case measure => simp [intOf]; omega
          · cases rr with
            | false =>
              have S_0 : ∀ d os, (grow (redrawn wr d) os).cell? ⟨g0, 0, none⟩ = some (.string ⟨nm0.toArray⟩) := cell_regrown (S.out.cell 0)
              have S_1 : ∀ d os, (grow (redrawn wr d) os).cell? ⟨g0, 1, none⟩ = some (.int .i64 1) := cell_regrown (S.out.cell 1)
              have S_2 : ∀ d os, (grow (redrawn wr d) os).cell? ⟨g0, 2, none⟩ = some (.slice (some ⟨b, off, none⟩) items.length c1) := cell_regrown (S.out.cell 2)
              have S_3 : ∀ d os, (grow (redrawn wr d) os).cell? ⟨g0, 3, none⟩ = some (.slice a2 n2 c2) := cell_regrown (S.out.cell 3)
              have S_4 : ∀ d os, (grow (redrawn wr d) os).cell? ⟨g0, 4, none⟩ = some (.slice a3 n3 c3) := cell_regrown (S.out.cell 4)
              have B_0 : ∀ d os, (grow (redrawn wr d) os).cell? ⟨g0 + 1, 0, none⟩ = some (.int .i64 qf) := cell_regrown (B.out.cell 0)
              have B_1 : ∀ d os, (grow (redrawn wr d) os).cell? ⟨g0 + 1, 1, none⟩ = some (.int .u64 (qrd : Int)) := cell_regrown (B.out.cell 1)
              have B_2 : ∀ d os, (grow (redrawn wr d) os).cell? ⟨g0 + 1, 2, none⟩ = some (.string ⟨qad.toArray⟩) := cell_regrown (B.out.cell 2)
              have B_3 : ∀ d os, (grow (redrawn wr d) os).cell? ⟨g0 + 1, 3, none⟩ = some (.int .i64 qln) := cell_regrown (B.out.cell 3)
              have cq0 := Calls.regr qck.out wr
              refine wp_region_quiet_below (by assumption) (by kernel_rfl) ?_
              repeat (go_big_quiet_step (first | (with_reducible exact cq0 _ _)))
              refine wpQuiet_nil ?_
              intro _ hw_
              obtain ⟨⟨dq_, osq_⟩, hw_'⟩ := hw_
              subst hw_'
              replace hE4 := hide (hE4.out.trans (below_regrown _ dq_ osq_))
              replace S := hide (S.out.ext (below_regrown _ dq_ osq_))
              replace B := hide (B.out.ext (below_regrown _ dq_ osq_))
              clear S_0 S_1 S_2 S_3 S_4 B_0 B_1 B_2 B_3
              clear cq0
              generalize grow (redrawn wr dq_) osq_ = W5 at hE4 S B ⊢
              have S_0 : W5.cell? ⟨g0, 0, none⟩ = some (.string ⟨nm0.toArray⟩) := S.out.cell 0
              have S_1 : W5.cell? ⟨g0, 1, none⟩ = some (.int .i64 1) := S.out.cell 1
              have S_2 : W5.cell? ⟨g0, 2, none⟩ = some (.slice (some ⟨b, off, none⟩) items.length c1) := S.out.cell 2
              have S_3 : W5.cell? ⟨g0, 3, none⟩ = some (.slice a2 n2 c2) := S.out.cell 3
              have S_4 : W5.cell? ⟨g0, 4, none⟩ = some (.slice a3 n3 c3) := S.out.cell 4
              have B_0 : W5.cell? ⟨g0 + 1, 0, none⟩ = some (.int .i64 qf) := B.out.cell 0
              have B_1 : W5.cell? ⟨g0 + 1, 1, none⟩ = some (.int .u64 (qrd : Int)) := B.out.cell 1
              have B_2 : W5.cell? ⟨g0 + 1, 2, none⟩ = some (.string ⟨qad.toArray⟩) := B.out.cell 2
              have B_3 : W5.cell? ⟨g0 + 1, 3, none⟩ = some (.int .i64 qln) := B.out.cell 3
              clear x0 x1 x2 x3 x4 x5
              have hn := hide (hno.out rfl)
              go_wp2
              go_roundw
              case rel => exact ⟨k + 1, by omega, by go_num, hE4.out, hn.out⟩
              case measure => simp [intOf]; omega
            | true =>
              have S_0 : ∀ d os, (grow (redrawn wr d) os).cell? ⟨g0, 0, none⟩ = some (.string ⟨nm0.toArray⟩) := cell_regrown (S.out.cell 0)
              have S_1 : ∀ d os, (grow (redrawn wr d) os).cell? ⟨g0, 1, none⟩ = some (.int .i64 1) := cell_regrown (S.out.cell 1)
              have S_2 : ∀ d os, (grow (redrawn wr d) os).cell? ⟨g0, 2, none⟩ = some (.slice (some ⟨b, off, none⟩) items.length c1) := cell_regrown (S.out.cell 2)
              have S_3 : ∀ d os, (grow (redrawn wr d) os).cell? ⟨g0, 3, none⟩ = some (.slice a2 n2 c2) := cell_regrown (S.out.cell 3)
              have S_4 : ∀ d os, (grow (redrawn wr d) os).cell? ⟨g0, 4, none⟩ = some (.slice a3 n3 c3) := cell_regrown (S.out.cell 4)
              have B_0 : ∀ d os, (grow (redrawn wr d) os).cell? ⟨g0 + 1, 0, none⟩ = some (.int .i64 qf) := cell_regrown (B.out.cell 0)
              have B_1 : ∀ d os, (grow (redrawn wr d) os).cell? ⟨g0 + 1, 1, none⟩ = some (.int .u64 (qrd : Int)) := cell_regrown (B.out.cell 1)
              have B_2 : ∀ d os, (grow (redrawn wr d) os).cell? ⟨g0 + 1, 2, none⟩ = some (.string ⟨qad.toArray⟩) := cell_regrown (B.out.cell 2)
              have B_3 : ∀ d os, (grow (redrawn wr d) os).cell? ⟨g0 + 1, 3, none⟩ = some (.int .i64 qln) := cell_regrown (B.out.cell 3)
              have cq0 := Calls.regr qck.out wr
              refine wp_region_quiet_below (by assumption) (by kernel_rfl) ?_
              repeat (go_big_quiet_step (first | (with_reducible exact cq0 _ _)))
              refine wpQuiet_nil ?_
              intro _ hw_
              obtain ⟨⟨dq_, osq_⟩, hw_'⟩ := hw_
              subst hw_'
              replace hE4 := hide (hE4.out.trans (below_regrown _ dq_ osq_))
              replace S := hide (S.out.ext (below_regrown _ dq_ osq_))
              replace B := hide (B.out.ext (below_regrown _ dq_ osq_))
              clear S_0 S_1 S_2 S_3 S_4 B_0 B_1 B_2 B_3
              clear cq0
              generalize grow (redrawn wr dq_) osq_ = W5 at hE4 S B ⊢
              have S_0 : W5.cell? ⟨g0, 0, none⟩ = some (.string ⟨nm0.toArray⟩) := S.out.cell 0
              have S_1 : W5.cell? ⟨g0, 1, none⟩ = some (.int .i64 1) := S.out.cell 1
              have S_2 : W5.cell? ⟨g0, 2, none⟩ = some (.slice (some ⟨b, off, none⟩) items.length c1) := S.out.cell 2
              have S_3 : W5.cell? ⟨g0, 3, none⟩ = some (.slice a2 n2 c2) := S.out.cell 3
              have S_4 : W5.cell? ⟨g0, 4, none⟩ = some (.slice a3 n3 c3) := S.out.cell 4
              have B_0 : W5.cell? ⟨g0 + 1, 0, none⟩ = some (.int .i64 qf) := B.out.cell 0
              have B_1 : W5.cell? ⟨g0 + 1, 1, none⟩ = some (.int .u64 (qrd : Int)) := B.out.cell 1
              have B_2 : W5.cell? ⟨g0 + 1, 2, none⟩ = some (.string ⟨qad.toArray⟩) := B.out.cell 2
              have B_3 : W5.cell? ⟨g0 + 1, 3, none⟩ = some (.int .i64 qln) := B.out.cell 3
              clear x0 x1 x2 x3 x4 x5
              have hy := hide (hyes.out rfl)
              go_wp2
              go_ret
              exact ⟨ret_bool (by rw [← hr.out, hy.out]; rfl), E.out.trans hE4.out⟩
        · obtain rfl : k = items.length := by omega
          rw [List.take_length] at ha
          replace ha := hide ha
          replace hE := hide hE
          go_wp2
          go_ret
          exact ⟨ret_bool (by rw [← hr.out, ha.out]; rfl), E1.out⟩
    · have hb : (kd != 1) = true := bne_iff_ne.2 hk1
      replace hk1 := hide hk1
      go_wp2
      go_ret
      exact ⟨ret_bool (by rw [← hr.out, decide_eq_false hk1.out]; rfl), E.out⟩

set_option maxRecDepth 20000 in
set_option maxHeartbeats 4000000 in
theorem RComm15_any (s : StS) (b : Option Addr) (d : Nat) (l : List UInt32) (a1 : Option Addr) (c1 : Nat) (a2 : Option Addr) (c2 : Nat) (a3 : Option Addr) (c3 : Nat) (w : World) (hs : SetIn w (· < w.heap.size) s a1 a2 a3) (hl : l.length ≤ 16777216) (hsl : Sl EU32 w (· < w.heap.size) b l) :
    Calls Tryz.prog 20 #[.agg #[.string ⟨s.name.toArray⟩, .int .i64 s.kind, .slice a1 s.items.length c1, .slice a2 s.comms.length c2, .slice a3 s.paths.length c3], .slice b l.length d] w fun e w' => e = .returned (.bool (setCom s l)) ∧ Ext w w' := by
  have mixed : Tryz.prog.follows Departure.mixedOrders = true := by kernel_rfl
  have qm := fun W (h : Ext w W) => RMay15_any s a1 c1 a2 c2 a3 c3 W (hs.ext h)
  have qh := fun x W (h : Ext w W) => RHasC_any a2 c2 s.comms x W hs.nComms (hs.comms.ext h)
  have hcs : ∃ ok r : Bool, setOk s = ok ∧ setCom s l = r ∧ (ok && (decide (s.kind = 2) && l.any (fun c => s.comms.contains c))) = r := ⟨_, _, rfl, rfl, rfl⟩
  obtain ⟨ok, r, e1, e2, hr⟩ := hcs
  rw [e1] at qm
  rw [e2]
  clear e1 e2 hs
  obtain ⟨nm0, kd, items, comms, paths⟩ := s
  dsimp only at *
  generalize hhas : (fun c => comms.contains c) = ih at *
  have hhas' := fun x => congrFun hhas x
  clear hhas
  try dsimp only at hhas'
  simp only [hhas'] at qh
  clear hhas'
  generalize items.length = n1 at *
  generalize comms.length = n2 at *
  generalize paths.length = n3 at *
  replace qm := hide qm
  replace qh := hide qh
  replace hr := hide hr
  replace hsl := hide hsl
  go_enter Tryz.func20, Tryz.ntmps20
  have S := Blk.new w 27 #[.string ⟨nm0.toArray⟩, .int .i64 kd, .slice a1 n1 c1, .slice a2 n2 c2, .slice a3 n3 c3]
  have E := (Ext.refl w).alloc (Obj.cells #[.string ⟨nm0.toArray⟩, .int .i64 kd, .slice a1 n1 c1, .slice a2 n2 c2, .slice a3 n3 c3] 27)
  generalize hW0 : w.alloc (Obj.cells #[.string ⟨nm0.toArray⟩, .int .i64 kd, .slice a1 n1 c1, .slice a2 n2 c2, .slice a3 n3 c3] 27) = W0 at S E
  generalize hg0 : w.heap.size = g0 at S
  replace S := hide S
  replace E := hide E
  have S_0 : W0.cell? ⟨g0, 0, none⟩ = some (.string ⟨nm0.toArray⟩) := S.out.cell 0
  have S_1 : W0.cell? ⟨g0, 1, none⟩ = some (.int .i64 kd) := S.out.cell 1
  have S_2 : W0.cell? ⟨g0, 2, none⟩ = some (.slice a1 n1 c1) := S.out.cell 2
  have S_3 : W0.cell? ⟨g0, 3, none⟩ = some (.slice a2 n2 c2) := S.out.cell 3
  have S_4 : W0.cell? ⟨g0, 4, none⟩ = some (.slice a3 n3 c3) := S.out.cell 4
  go_wp2_with fail
  refine (qm.out _ E.out).mono ?_
  rintro e W1 ⟨rfl, he_⟩
  clear S_0 S_1 S_2 S_3 S_4
  replace E := hide (E.out.trans he_)
  replace S := hide (S.out.ext he_)
  clear he_
  have S_0 : W1.cell? ⟨g0, 0, none⟩ = some (.string ⟨nm0.toArray⟩) := S.out.cell 0
  have S_1 : W1.cell? ⟨g0, 1, none⟩ = some (.int .i64 kd) := S.out.cell 1
  have S_2 : W1.cell? ⟨g0, 2, none⟩ = some (.slice a1 n1 c1) := S.out.cell 2
  have S_3 : W1.cell? ⟨g0, 3, none⟩ = some (.slice a2 n2 c2) := S.out.cell 3
  have S_4 : W1.cell? ⟨g0, 4, none⟩ = some (.slice a3 n3 c3) := S.out.cell 4
  clear hW0 hg0
  cases ok with
  | false =>
    go_wp2
    go_ret
    exact ⟨ret_bool (by rw [← hr.out]; rfl), E.out⟩
  | true =>
    by_cases hk1 : kd = 2
    · subst hk1
      go_wp2_with fail
      go_loopw [5] (fun i wr => ∃ k : Nat, k ≤ l.length ∧ i = .int .i64 k ∧ Ext W1 wr ∧ (l.take k).any ih = false) (fun i _ => l.length - (intOf i).toNat)
      case atStart => exact ⟨0, Nat.zero_le _, rfl, Ext.refl _, rfl⟩
      case round =>
        clear S_0 S_1 S_2 S_3 S_4
        obtain ⟨k, hk, rfl, hE, ha⟩ := hrel
        have S : Blk wr (g0) 27 #[.string ⟨nm0.toArray⟩, .int .i64 2, .slice a1 n1 c1, .slice a2 n2 c2, .slice a3 n3 c3] := S.out.ext hE
        replace S := hide S
        have E1 := hide (E.out.trans hE)
        have S_0 : wr.cell? ⟨g0, 0, none⟩ = some (.string ⟨nm0.toArray⟩) := S.out.cell 0
        have S_1 : wr.cell? ⟨g0, 1, none⟩ = some (.int .i64 2) := S.out.cell 1
        have S_2 : wr.cell? ⟨g0, 2, none⟩ = some (.slice a1 n1 c1) := S.out.cell 2
        have S_3 : wr.cell? ⟨g0, 3, none⟩ = some (.slice a2 n2 c2) := S.out.cell 3
        have S_4 : wr.cell? ⟨g0, 4, none⟩ = some (.slice a3 n3 c3) := S.out.cell 4
        by_cases hlt : k < l.length
        · obtain ⟨b1, off, rfl, _, x0⟩ := EU32.at (hsl.out.ext E1.out) k hlt
          have hno := fun h => any_take (pr := ih) hlt h ha
          have hyes := fun h => anyI_at (f := ih) hlt h
          have qk := qh.out l[k]
          clear ha
          generalize ih l[k] = rr at *
          generalize l[k].toNat = y at *
          have hE4 := hide hE
          clear hE
          replace qk := hide qk
          replace hno := hide hno
          replace hyes := hide hyes
          go_wp2_with fail
          clear S_0 S_1 S_2 S_3 S_4
          replace x0 := fun d os => cell_regrown x0 d os
          cases rr with
          | false =>
            have S_0 : ∀ d os, (grow (redrawn wr d) os).cell? ⟨g0, 0, none⟩ = some (.string ⟨nm0.toArray⟩) := cell_regrown (S.out.cell 0)
            have S_1 : ∀ d os, (grow (redrawn wr d) os).cell? ⟨g0, 1, none⟩ = some (.int .i64 2) := cell_regrown (S.out.cell 1)
            have S_2 : ∀ d os, (grow (redrawn wr d) os).cell? ⟨g0, 2, none⟩ = some (.slice a1 n1 c1) := cell_regrown (S.out.cell 2)
            have S_3 : ∀ d os, (grow (redrawn wr d) os).cell? ⟨g0, 3, none⟩ = some (.slice a2 n2 c2) := cell_regrown (S.out.cell 3)
            have S_4 : ∀ d os, (grow (redrawn wr d) os).cell? ⟨g0, 4, none⟩ = some (.slice a3 n3 c3) := cell_regrown (S.out.cell 4)
            have cq0 := Calls.regrE qk.out E1.out
            refine wp_region_quiet_below (by assumption) (by kernel_rfl) ?_
            repeat (go_big_quiet_step (first | (with_reducible exact cq0 _ _)))
            refine wpQuiet_nil ?_
            intro _ hw_
            obtain ⟨⟨dq_, osq_⟩, hw_'⟩ := hw_
            subst hw_'
            replace hE4 := hide (hE4.out.trans (below_regrown _ dq_ osq_))
            replace S := hide (S.out.ext (below_regrown _ dq_ osq_))
            clear S_0 S_1 S_2 S_3 S_4
            clear cq0
            generalize grow (redrawn wr dq_) osq_ = W5 at hE4 S ⊢
            have S_0 : W5.cell? ⟨g0, 0, none⟩ = some (.string ⟨nm0.toArray⟩) := S.out.cell 0
            have S_1 : W5.cell? ⟨g0, 1, none⟩ = some (.int .i64 2) := S.out.cell 1
            have S_2 : W5.cell? ⟨g0, 2, none⟩ = some (.slice a1 n1 c1) := S.out.cell 2
            have S_3 : W5.cell? ⟨g0, 3, none⟩ = some (.slice a2 n2 c2) := S.out.cell 3
            have S_4 : W5.cell? ⟨g0, 4, none⟩ = some (.slice a3 n3 c3) := S.out.cell 4
            clear x0
            have hn := hide (hno.out rfl)
            go_wp2
            go_roundw
            case rel => exact ⟨k + 1, by omega, by go_num, hE4.out, hn.out⟩
            case measure => simp [intOf]; omega
          | true =>
            have S_0 : ∀ d os, (grow (redrawn wr d) os).cell? ⟨g0, 0, none⟩ = some (.string ⟨nm0.toArray⟩) := cell_regrown (S.out.cell 0)
            have S_1 : ∀ d os, (grow (redrawn wr d) os).cell? ⟨g0, 1, none⟩ = some (.int .i64 2) := cell_regrown (S.out.cell 1)
            have S_2 : ∀ d os, (grow (redrawn wr d) os).cell? ⟨g0, 2, none⟩ = some (.slice a1 n1 c1) := cell_regrown (S.out.cell 2)
            have S_3 : ∀ d os, (grow (redrawn wr d) os).cell? ⟨g0, 3, none⟩ = some (.slice a2 n2 c2) := cell_regrown (S.out.cell 3)
            have S_4 : ∀ d os, (grow (redrawn wr d) os).cell? ⟨g0, 4, none⟩ = some (.slice a3 n3 c3) := cell_regrown (S.out.cell 4)
            have cq0 := Calls.regrE qk.out E1.out
            refine wp_region_quiet_below (by assumption) (by kernel_rfl) ?_
            repeat (go_big_quiet_step (first | (with_reducible exact cq0 _ _)))
            refine wpQuiet_nil ?_
            intro _ hw_
            obtain ⟨⟨dq_, osq_⟩, hw_'⟩ := hw_
            subst hw_'
            replace hE4 := hide (hE4.out.trans (below_regrown _ dq_ osq_))
            replace S := hide (S.out.ext (below_regrown _ dq_ osq_))
            clear S_0 S_1 S_2 S_3 S_4
            clear cq0
            generalize grow (redrawn wr dq_) osq_ = W5 at hE4 S ⊢
            have S_0 : W5.cell? ⟨g0, 0, none⟩ = some (.string ⟨nm0.toArray⟩) := S.out.cell 0
            have S_1 : W5.cell? ⟨g0, 1, none⟩ = some (.int .i64 2) := S.out.cell 1
            have S_2 : W5.cell? ⟨g0, 2, none⟩ = some (.slice a1 n1 c1) := S.out.cell 2
            have S_3 : W5.cell? ⟨g0, 3, none⟩ = some (.slice a2 n2 c2) := S.out.cell 3
            have S_4 : W5.cell? ⟨g0, 4, none⟩ = some (.slice a3 n3 c3) := S.out.cell 4
            clear x0
            have hy := hide (hyes.out rfl)
            go_wp2
            go_ret
            exact ⟨ret_bool (by rw [← hr.out, hy.out]; rfl), E.out.trans hE4.out⟩
        · obtain rfl : k = l.length := by omega
          rw [List.take_length] at ha
          replace ha := hide ha
          replace hE := hide hE
          go_wp2
          go_ret
          exact ⟨ret_bool (by rw [← hr.out, ha.out]; rfl), E1.out⟩
    · have hb : (kd != 2) = true := bne_iff_ne.2 hk1
      replace hk1 := hide hk1
      go_wp2
      go_ret
      exact ⟨ret_bool (by rw [← hr.out, decide_eq_false hk1.out]; rfl), E.out⟩

set_option maxRecDepth 20000 in
set_option maxHeartbeats 4000000 in
theorem RPath15_any (s : StS) (b : Option Addr) (d : Nat) (l : List Seg) (a1 : Option Addr) (c1 : Nat) (a2 : Option Addr) (c2 : Nat) (a3 : Option Addr) (c3 : Nat) (w : World) (hs : SetIn w (· < w.heap.size) s a1 a2 a3) (hl : l.length ≤ 64) (hfl : (flatS l).length ≤ 16777216) (hsl : Path w b l) :
    Calls Tryz.prog 22 #[.agg #[.string ⟨s.name.toArray⟩, .int .i64 s.kind, .slice a1 s.items.length c1, .slice a2 s.comms.length c2, .slice a3 s.paths.length c3], .slice b l.length d] w fun e w' => e = .returned (.bool (setPath s (flatS l))) ∧ Ext w w' := by
  have qm := fun W (h : Ext w W) => RMay15_any s a1 c1 a2 c2 a3 c3 W (hs.ext h)
  have qf := fun W (h : Ext w W) => RFlat_any b d l W hl (hsl.ext h)
  have hpt : ∀ W, Ext w W → Sl EAtm.slice W (· < W.heap.size) a3 s.paths := fun W h => hs.paths.ext h
  have hnp := hs.nPaths
  generalize flatS l = fl at *
  generalize l.length = nl at *
  have hcs : ∃ ok r : Bool, setOk s = ok ∧ setPath s fl = r ∧ (ok && (decide (s.kind = 3) && s.paths.any (fun x => matchS x fl))) = r := ⟨_, _, rfl, rfl, rfl⟩
  obtain ⟨ok, r, e1, e2, hr⟩ := hcs
  rw [e1] at qm
  rw [e2]
  clear e1 e2 hs hsl
  obtain ⟨nm0, kd, items, comms, paths⟩ := s
  dsimp only at *
  generalize items.length = n1 at *
  generalize comms.length = n2 at *
  replace qm := hide qm
  replace qf := hide qf
  replace hr := hide hr
  replace hpt := hide hpt
  go_enter Tryz.func22, Tryz.ntmps22
  have S := Blk.new w 27 #[.string ⟨nm0.toArray⟩, .int .i64 kd, .slice a1 n1 c1, .slice a2 n2 c2, .slice a3 paths.length c3]
  have E := (Ext.refl w).alloc (Obj.cells #[.string ⟨nm0.toArray⟩, .int .i64 kd, .slice a1 n1 c1, .slice a2 n2 c2, .slice a3 paths.length c3] 27)
  generalize hW0 : w.alloc (Obj.cells #[.string ⟨nm0.toArray⟩, .int .i64 kd, .slice a1 n1 c1, .slice a2 n2 c2, .slice a3 paths.length c3] 27) = W0 at S E
  generalize hg0 : w.heap.size = g0 at S
  replace S := hide S
  replace E := hide E
  have S_0 : W0.cell? ⟨g0, 0, none⟩ = some (.string ⟨nm0.toArray⟩) := S.out.cell 0
  have S_1 : W0.cell? ⟨g0, 1, none⟩ = some (.int .i64 kd) := S.out.cell 1
  have S_2 : W0.cell? ⟨g0, 2, none⟩ = some (.slice a1 n1 c1) := S.out.cell 2
  have S_3 : W0.cell? ⟨g0, 3, none⟩ = some (.slice a2 n2 c2) := S.out.cell 3
  have S_4 : W0.cell? ⟨g0, 4, none⟩ = some (.slice a3 paths.length c3) := S.out.cell 4
  go_wp2_with fail
  refine (qm.out _ E.out).mono ?_
  rintro e W1 ⟨rfl, he_⟩
  clear S_0 S_1 S_2 S_3 S_4
  replace E := hide (E.out.trans he_)
  replace S := hide (S.out.ext he_)
  clear he_
  have S_0 : W1.cell? ⟨g0, 0, none⟩ = some (.string ⟨nm0.toArray⟩) := S.out.cell 0
  have S_1 : W1.cell? ⟨g0, 1, none⟩ = some (.int .i64 kd) := S.out.cell 1
  have S_2 : W1.cell? ⟨g0, 2, none⟩ = some (.slice a1 n1 c1) := S.out.cell 2
  have S_3 : W1.cell? ⟨g0, 3, none⟩ = some (.slice a2 n2 c2) := S.out.cell 3
  have S_4 : W1.cell? ⟨g0, 4, none⟩ = some (.slice a3 paths.length c3) := S.out.cell 4
  clear hW0 hg0
  cases ok with
  | false =>
    go_wp2
    go_ret
    exact ⟨ret_bool (by rw [← hr.out]; rfl), E.out⟩
  | true =>
    by_cases hk1 : kd = 3
    · subst hk1
      go_wp2_with fail
      refine (qf.out _ E.out).mono ?_
      rintro e W2 ⟨v, rfl, he, hown⟩
      have S : Blk W2 (g0) 27 #[.string ⟨nm0.toArray⟩, .int .i64 3, .slice a1 n1 c1, .slice a2 n2 c2, .slice a3 paths.length c3] := S.out.ext he
      replace S := hide S
      replace E := hide (E.out.trans he)
      obtain ⟨af, cf, rfl, hF⟩ := hown.sl
      replace hF := hide (hF.mono (S' := (· < W2.heap.size)) fun b hb => hb.2)
      clear hown he
      clear S_0 S_1 S_2 S_3 S_4
      have S_0 : W2.cell? ⟨g0, 0, none⟩ = some (.string ⟨nm0.toArray⟩) := S.out.cell 0
      have S_1 : W2.cell? ⟨g0, 1, none⟩ = some (.int .i64 3) := S.out.cell 1
      have S_2 : W2.cell? ⟨g0, 2, none⟩ = some (.slice a1 n1 c1) := S.out.cell 2
      have S_3 : W2.cell? ⟨g0, 3, none⟩ = some (.slice a2 n2 c2) := S.out.cell 3
      have S_4 : W2.cell? ⟨g0, 4, none⟩ = some (.slice a3 paths.length c3) := S.out.cell 4
      go_wp2_with fail
      go_loopw [6] (fun i wr => ∃ k : Nat, k ≤ paths.length ∧ i = .int .i64 k ∧ Ext W2 wr ∧ (paths.take k).any (fun x => matchS x fl) = false) (fun i _ => paths.length - (intOf i).toNat)
      case atStart => exact ⟨0, Nat.zero_le _, rfl, Ext.refl _, rfl⟩
      case round =>
        clear S_0 S_1 S_2 S_3 S_4
        obtain ⟨k, hk, rfl, hE, ha⟩ := hrel
        have S : Blk wr (g0) 27 #[.string ⟨nm0.toArray⟩, .int .i64 3, .slice a1 n1 c1, .slice a2 n2 c2, .slice a3 paths.length c3] := S.out.ext hE
        replace S := hide S
        have E1 := hide (E.out.trans hE)
        have S_0 : wr.cell? ⟨g0, 0, none⟩ = some (.string ⟨nm0.toArray⟩) := S.out.cell 0
        have S_1 : wr.cell? ⟨g0, 1, none⟩ = some (.int .i64 3) := S.out.cell 1
        have S_2 : wr.cell? ⟨g0, 2, none⟩ = some (.slice a1 n1 c1) := S.out.cell 2
        have S_3 : wr.cell? ⟨g0, 3, none⟩ = some (.slice a2 n2 c2) := S.out.cell 3
        have S_4 : wr.cell? ⟨g0, 4, none⟩ = some (.slice a3 paths.length c3) := S.out.cell 4
        by_cases hlt : k < paths.length
        · obtain ⟨b1, off, ak, ck, rfl, _, x0, hm, hsk⟩ := EPat.at (hpt.out wr E1.out) k hlt
          have qa := RMatch_any ak ck paths[k] af cf fl wr hm hfl hsk (hF.out.ext hE)
          have hno := fun h => any_take (pr := fun x => matchS x fl) hlt h ha
          have hyes := fun h => anyI_at (f := fun x => matchS x fl) hlt h
          clear ha hsk hm
          try dsimp only at hno hyes
          generalize matchS paths[k] fl = rr at *
          generalize paths[k].length = nk at *
          replace qa := hide qa
          replace hno := hide hno
          replace hyes := hide hyes
          replace hE := hide hE
          go_wp2_with fail
          refine qa.out.mono ?_
          rintro e W3 ⟨rfl, he⟩
          replace hE := hide (hE.out.trans he)
          clear he qa x0
          clear S_0 S_1 S_2 S_3 S_4
          cases rr with
          | false =>
            have hn := hide (hno.out rfl)
            go_wp2_with fail
            go_roundw
            case rel => exact ⟨k + 1, by omega, by go_num, hE.out, hn.out⟩
            case measure => simp [intOf]; omega
          | true =>
            have hy := hide (hyes.out rfl)
            go_wp2
            go_ret
            exact ⟨ret_bool (by rw [← hr.out, hy.out]; rfl), E.out.trans hE.out⟩
        · obtain rfl : k = paths.length := by omega
          rw [List.take_length] at ha
          replace ha := hide ha
          replace hE := hide hE
          have S_0 : wr.cell? ⟨g0, 0, none⟩ = some (.string ⟨nm0.toArray⟩) := S.out.cell 0
          have S_1 : wr.cell? ⟨g0, 1, none⟩ = some (.int .i64 3) := S.out.cell 1
          have S_2 : wr.cell? ⟨g0, 2, none⟩ = some (.slice a1 n1 c1) := S.out.cell 2
          have S_3 : wr.cell? ⟨g0, 3, none⟩ = some (.slice a2 n2 c2) := S.out.cell 3
          have S_4 : wr.cell? ⟨g0, 4, none⟩ = some (.slice a3 paths.length c3) := S.out.cell 4
          go_wp2
          go_ret
          exact ⟨ret_bool (by rw [← hr.out, ha.out]; rfl), E1.out⟩
    · have hb : (kd != 3) = true := bne_iff_ne.2 hk1
      replace hk1 := hide hk1
      go_wp2
      go_ret
      exact ⟨ret_bool (by rw [← hr.out, decide_eq_false hk1.out]; rfl), E.out⟩

set_option maxRecDepth 20000 in
set_option maxHeartbeats 1000000 in
theorem Path1_any (fl : List UInt32) (hfl : fl.length ≤ 16777216) (af : Option Addr) (cf gp : Nat) (a : Option Addr) (c : Nat) (p : List Atm) (w : World) (hp : p.length ≤ 16777216) (hsp : Sl EAtm w (· < w.heap.size) a p) (hsf : Sl EU32 w (· < w.heap.size) af fl) (hB : Blk w gp 24 #[.slice af fl.length cf]) :
    Calls Tryz.prog 61 #[.slice a p.length c, .pointer (some ⟨gp, 0, none⟩)] w fun e w' => e = .returned (.bool (matchS p fl)) ∧ Ext w w' := by
  have q := Match_any a af c cf p fl w hp hfl hsp hsf
  have b0 : w.cell? ⟨gp, 0, none⟩ = some (.slice af fl.length cf) := hB.cell 0
  generalize matchS p fl = r at q ⊢
  generalize p.length = n at *
  generalize fl.length = m at *
  clear hsp hsf hB
  replace q := hide q
  go_enter Tryz.func61, Tryz.ntmps61
  go_wp2_with fail
  refine q.out.mono ?_
  rintro e W1 ⟨rfl, E⟩
  clear b0
  replace E := hide E
  go_wp2
  go_ret
  exact ⟨rfl, E.out⟩
set_option maxRecDepth 20000 in
set_option maxHeartbeats 4000000 in
theorem SPath_any (s : StS) (b : Option Addr) (d : Nat) (l : List Seg) (a1 : Option Addr) (c1 : Nat) (a2 : Option Addr) (c2 : Nat) (a3 : Option Addr) (c3 : Nat) (w : World) (hs : SetIn w (· < w.heap.size) s a1 a2 a3) (hl : l.length ≤ 64) (hfl : (flatS l).length ≤ 16777216) (hsl : Path w b l) :
    Calls Tryz.prog 21 #[.agg #[.string ⟨s.name.toArray⟩, .int .i64 s.kind, .slice a1 s.items.length c1, .slice a2 s.comms.length c2, .slice a3 s.paths.length c3], .slice b l.length d] w fun e w' => e = .returned (.bool (setPath s (flatS l))) ∧ Ext w w' := by
  have qi := fun W (h : Ext w W) => Is_any s 3 a1 c1 a2 c2 a3 c3 W (hs.ext h)
  have qf := fun W (h : Ext w W) => AFlat_any b d l W hl (hsl.ext h)
  generalize flatS l = fl at *
  generalize l.length = nl at *
  have qh := fun af cf gp W (h : Ext w W) (hF : Sl EU32 W (· < W.heap.size) af fl) (hB : Blk W gp 24 #[.slice af fl.length cf]) => HasPat_any 61 #[.pointer (some ⟨gp, 0, none⟩)] (fun _ _ => rfl) (fun x => matchS x fl) a3 c3 s.paths W hs.nPaths (hs.paths.ext h) (fun x _ W' b' d' hW hx hsx => Path1_any fl hfl af cf gp b' d' x W' hx hsx (hF.ext hW) (hB.ext hW))
  have hcs : ∃ ok b r : Bool, (decide (s.kind = 3) && setOk s) = ok ∧ (s.paths.any fun x => matchS x fl) = b ∧ setPath s fl = r ∧ (ok && b) = r := ⟨_, _, _, rfl, rfl, rfl, by unfold setPath; rw [Bool.and_comm (decide (s.kind = 3)), Bool.and_assoc]⟩
  obtain ⟨ok, bb, r, e1, e2, e3, hr⟩ := hcs
  rw [e1] at qi
  rw [e2] at qh
  rw [e3]
  clear e1 e2 e3 hs hsl
  obtain ⟨nm0, kd, items, comms, paths⟩ := s
  dsimp only at *
  generalize items.length = n1 at *
  generalize comms.length = n2 at *
  generalize paths.length = n3 at *
  subst hr
  replace qi := hide qi
  replace qh := hide qh
  replace qf := hide qf
  go_enter Tryz.func21, Tryz.ntmps21
  have S := Blk.new w 27 #[.string ⟨nm0.toArray⟩, .int .i64 kd, .slice a1 n1 c1, .slice a2 n2 c2, .slice a3 n3 c3]
  have E := (Ext.refl w).alloc (Obj.cells #[.string ⟨nm0.toArray⟩, .int .i64 kd, .slice a1 n1 c1, .slice a2 n2 c2, .slice a3 n3 c3] 27)
  generalize hW0 : w.alloc (Obj.cells #[.string ⟨nm0.toArray⟩, .int .i64 kd, .slice a1 n1 c1, .slice a2 n2 c2, .slice a3 n3 c3] 27) = W0 at S E
  generalize hg0 : w.heap.size = g0 at S
  replace S := hide S
  replace E := hide E
  have S_0 : W0.cell? ⟨g0, 0, none⟩ = some (.string ⟨nm0.toArray⟩) := S.out.cell 0
  have S_1 : W0.cell? ⟨g0, 1, none⟩ = some (.int .i64 kd) := S.out.cell 1
  have S_2 : W0.cell? ⟨g0, 2, none⟩ = some (.slice a1 n1 c1) := S.out.cell 2
  have S_3 : W0.cell? ⟨g0, 3, none⟩ = some (.slice a2 n2 c2) := S.out.cell 3
  have S_4 : W0.cell? ⟨g0, 4, none⟩ = some (.slice a3 n3 c3) := S.out.cell 4
  go_wp2_with fail
  refine (qf.out _ E.out).mono ?_
  rintro e W2 ⟨v, rfl, he, hown⟩
  clear hW0 hg0
  clear S_0 S_1 S_2 S_3 S_4
  replace S := S.out.ext he
  replace E := E.out.trans he
  obtain ⟨af, cf, rfl, hF⟩ := hown.sl
  replace hF := hF.mono (S' := (· < W2.heap.size)) fun b hb => hb.2
  clear hown he
  have F := Blk.new W2 24 #[.slice af fl.length cf]
  replace S := S.alloc (Obj.cells #[.slice af fl.length cf] 24)
  replace E := E.alloc (Obj.cells #[.slice af fl.length cf] 24)
  replace hF := hF.ext ((Ext.refl W2).alloc (Obj.cells #[.slice af fl.length cf] 24))
  generalize hW3 : W2.alloc (Obj.cells #[.slice af fl.length cf] 24) = W3 at *
  generalize hg3 : W2.heap.size = g3 at *
  replace S := hide S
  replace E := hide E
  replace F := hide F
  replace hF := hide hF
  have S_0 : W3.cell? ⟨g0, 0, none⟩ = some (.string ⟨nm0.toArray⟩) := S.out.cell 0
  have S_1 : W3.cell? ⟨g0, 1, none⟩ = some (.int .i64 kd) := S.out.cell 1
  have S_2 : W3.cell? ⟨g0, 2, none⟩ = some (.slice a1 n1 c1) := S.out.cell 2
  have S_3 : W3.cell? ⟨g0, 3, none⟩ = some (.slice a2 n2 c2) := S.out.cell 3
  have S_4 : W3.cell? ⟨g0, 4, none⟩ = some (.slice a3 n3 c3) := S.out.cell 4
  have F_0 : W3.cell? ⟨g3, 0, none⟩ = some (.slice af fl.length cf) := F.out.cell 0
  go_wp2_with fail
  refine (qi.out _ E.out).mono ?_
  rintro e W4 ⟨rfl, he⟩
  clear hW3 hg3
  replace E := hide (E.out.trans he)
  replace hF := hide (hF.out.ext he)
  have F : Blk W4 (g3) 24 #[.slice af fl.length cf] := F.out.ext he
  replace F := hide F
  have S : Blk W4 (g0) 27 #[.string ⟨nm0.toArray⟩, .int .i64 kd, .slice a1 n1 c1, .slice a2 n2 c2, .slice a3 n3 c3] := S.out.ext he
  replace S := hide S
  clear he
  clear S_0 S_1 S_2 S_3 S_4 F_0
  have S_0 : W4.cell? ⟨g0, 0, none⟩ = some (.string ⟨nm0.toArray⟩) := S.out.cell 0
  have S_1 : W4.cell? ⟨g0, 1, none⟩ = some (.int .i64 kd) := S.out.cell 1
  have S_2 : W4.cell? ⟨g0, 2, none⟩ = some (.slice a1 n1 c1) := S.out.cell 2
  have S_3 : W4.cell? ⟨g0, 3, none⟩ = some (.slice a2 n2 c2) := S.out.cell 3
  have S_4 : W4.cell? ⟨g0, 4, none⟩ = some (.slice a3 n3 c3) := S.out.cell 4
  have F_0 : W4.cell? ⟨g3, 0, none⟩ = some (.slice af fl.length cf) := F.out.cell 0
  cases ok with
  | false =>
    go_wp2
    go_ret
    exact ⟨rfl, E.out⟩
  | true =>
    go_wp2_with fail
    refine (qh.out _ _ _ _ E.out hF.out F.out).mono ?_
    rintro e W5 ⟨rfl, he⟩
    replace E := hide (E.out.trans he)
    go_wp2
    go_ret
    exact ⟨rfl, E.out⟩
end Go.Proofs.YtoghdmoldcjedaaGreatDoor
