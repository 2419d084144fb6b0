/- Walks: the order of two prefixes: the document's. -/
import Derived.Test.YtbobpaailmbndaaDoorP17
namespace Go.Proofs.YtbobpaailmbndaaDoor
open Go.RowKit Go.Sort
set_option linter.unusedVariables false

theorem ROrder_any (x y : Int) (w : World) : Calls Tryd.prog 56 #[.int .i64 x, .int .i64 y] w fun e w' => e = .returned (.int .i64 (Lib.compareInt x y)) ∧ w = w' := by
  rcases ci_cases x y with ⟨h, hl⟩ | ⟨h, rfl⟩ | ⟨h, hl⟩
  all_goals
    rw [h]
    replace h := hide h
    go_enter Tryd.func56, Tryd.ntmps56
    go_wp2
    go_ret
    exact ⟨rfl, rfl⟩
theorem cb_eq (a b : List UInt8) (h1 : a.length = b.length) (h2 : a.take a.length = b.take a.length) : Lib.compareBytes a b = 0 := by
  rw [cb_zero]
  rw [List.take_length, h1, List.take_length] at h2
  exact h2

theorem quiet_order (x y : Int) (w : World) (n : Nat) : Calls Tryd.prog 56 #[.int .i64 x, .int .i64 y] (w.drewN n) fun e w'' => e = .returned (.int .i64 (Lib.compareInt x y)) ∧ ∃ m, w'' = w.drewN m :=
  Calls.quiet_of_same ((ROrder_any x y _).mono fun e w' h => ⟨h.1, h.2.symm⟩)

set_option maxRecDepth 20000 in
set_option maxHeartbeats 2000000 in
theorem RCmp_any (a b : Pfx) (w : World) (ha : a.addr.length ≤ 1048576) (hb : b.addr.length ≤ 1048576) : Calls Tryd.prog 25 #[valP a, valP b] w fun e w' => e = .returned (.int .i64 (cmpP a b)) ∧ Ext w w' := by
  have za : (ByteArray.mk a.addr.toArray).size = a.addr.length := by simp [ByteArray.size]
  have zb : (ByteArray.mk b.addr.toArray).size = b.addr.length := by simp [ByteArray.size]
  have mixed : Tryd.prog.follows Departure.mixedOrders = true := by kernel_rfl
  unfold valP
  by_cases c1 : a.fam = b.fam
  case neg =>
    have hc : cmpP a b = Lib.compareInt a.fam b.fam := by unfold cmpP; rw [if_pos c1]
    have b1 : (a.fam != b.fam) = true := bne_iff_ne.2 c1
    rw [hc]
    replace hc := hide hc
    replace c1 := hide c1
    go_enter Tryd.func25, Tryd.ntmps25
    go_wp2_with fail
    refine (ROrder_any _ _ _).mono ?_
    rintro e w1 ⟨rfl, rfl⟩
    go_wp2
    go_ret
    exact ⟨rfl, ((Ext.refl _).alloc _).alloc _⟩
  have b1 : (a.fam != b.fam) = false := by rw [c1]; exact bne_self_eq_false _
  by_cases c2 : a.rd = b.rd
  case neg =>
    have hc : cmpP a b = Lib.compareInt (a.rd : Int) (b.rd : Int) := by unfold cmpP; rw [if_neg (by simp [c1]), if_pos c2]
    have b2 : ((a.rd : Int) != (b.rd : Int)) = true := bne_iff_ne.2 (by omega)
    rcases ci_cases (a.rd : Int) (b.rd : Int) with ⟨h, hl⟩ | ⟨h, hl⟩ | ⟨h, hl⟩
    case inr.inl => omega
    all_goals
      rw [hc, h]
      have b3 : decide ((a.rd : Int) < (b.rd : Int)) = decide ((a.rd : Int) < (b.rd : Int)) := rfl
      replace h := hide h
      replace hc := hide hc
      replace c1 := hide c1
      replace c2 := hide c2
      go_enter Tryd.func25, Tryd.ntmps25
      go_wp2
      go_ret
      exact ⟨rfl, ((Ext.refl _).alloc _).alloc _⟩
  have b2 : ((a.rd : Int) != (b.rd : Int)) = false := by rw [c2]; exact bne_self_eq_false _
  have hc : cmpP a b = if Lib.compareBytes a.addr b.addr ≠ 0 then Lib.compareBytes a.addr b.addr else Lib.compareInt a.len b.len := by unfold cmpP; rw [if_neg (by simp [c1]), if_neg (by simp [c2])]
  rw [hc]
  replace hc := hide hc
  replace c1 := hide c1
  replace c2 := hide c2
  obtain ⟨R, hR⟩ : ∃ R, (if Lib.compareBytes a.addr b.addr ≠ 0 then Lib.compareBytes a.addr b.addr else Lib.compareInt a.len b.len) = R := ⟨_, rfl⟩
  rw [hR]
  replace hR := hide hR
  go_enter Tryd.func25, Tryd.ntmps25
  go_wp2_with fail
  go_loopw [5] (fun q wr => ∃ k : Nat, k ≤ a.addr.length ∧ k ≤ b.addr.length ∧ q = .int .i64 k ∧ Hid (a.addr.take k = b.addr.take k) ∧ Ext ((w.alloc (Obj.cells #[.int .i64 a.fam, .int .u64 (a.rd : Int), .string ⟨a.addr.toArray⟩, .int .i64 a.len] 24)).alloc (Obj.cells #[.int .i64 b.fam, .int .u64 (b.rd : Int), .string ⟨b.addr.toArray⟩, .int .i64 b.len] 24)) wr) (fun q _ => a.addr.length - (intOf q).toNat)
  case atStart => exact ⟨0, by omega, by omega, rfl, rfl, Ext.refl _⟩
  case round =>
    obtain ⟨k, hka, hkb, rfl, hz, hE⟩ := hrel
    have hA1 := ((Blk.new w 24 #[.int .i64 a.fam, .int .u64 (a.rd : Int), .string ⟨a.addr.toArray⟩, .int .i64 a.len]).alloc (Obj.cells #[.int .i64 b.fam, .int .u64 (b.rd : Int), .string ⟨b.addr.toArray⟩, .int .i64 b.len] 24)).ext hE
    have hA2 := (Blk.new (w.alloc (Obj.cells #[.int .i64 a.fam, .int .u64 (a.rd : Int), .string ⟨a.addr.toArray⟩, .int .i64 a.len] 24)) 24 #[.int .i64 b.fam, .int .u64 (b.rd : Int), .string ⟨b.addr.toArray⟩, .int .i64 b.len]).ext hE
    rw [show (w.alloc (Obj.cells #[.int .i64 a.fam, .int .u64 (a.rd : Int), .string ⟨a.addr.toArray⟩, .int .i64 a.len] 24)).heap.size = w.heap.size + 1 by simp] at hA2
    have u2 : wr.cell? ⟨w.heap.size, 2, none⟩ = some (.string ⟨a.addr.toArray⟩) := hA1.cell 2
    have u3 : wr.cell? ⟨w.heap.size, 3, none⟩ = some (.int .i64 a.len) := hA1.cell 3
    have v2 : wr.cell? ⟨w.heap.size + 1, 2, none⟩ = some (.string ⟨b.addr.toArray⟩) := hA2.cell 2
    have v3 : wr.cell? ⟨w.heap.size + 1, 3, none⟩ = some (.int .i64 b.len) := hA2.cell 3
    have hEw : Ext w wr := (((Ext.refl w).alloc _).alloc _).trans hE
    replace hE := hide hE
    replace hEw := hide hEw
    replace hA1 := hide hA1
    replace hA2 := hide hA2
    by_cases hend : k < a.addr.length ∧ k < b.addr.length
    · obtain ⟨h1, h2⟩ := hend
      have e1 : (ByteArray.mk a.addr.toArray)[k]'(by omega) = a.addr[k] := rfl
      have e2 : (ByteArray.mk b.addr.toArray)[k]'(by omega) = b.addr[k] := rfl
      have h1I : (k : Int) < (a.addr.length : Int) := by omega
      have h2I : (k : Int) < (b.addr.length : Int) := by omega
      have d1 : decide ((k : Int) < (a.addr.length : Int)) = true := by simp; omega
      have d2 : decide ((k : Int) < (b.addr.length : Int)) = true := by simp; omega
      by_cases hb3 : a.addr[k] = b.addr[k]
      · have hnx := take_next h1 h2 hz.out hb3
        have b3 : ((a.addr[k].toNat : Int) != (b.addr[k].toNat : Int)) = false := by rw [hb3]; exact bne_self_eq_false _
        replace hb3 := hide hb3
        replace hnx := hide hnx
        go_wp2_with fail
        go_quiet (fail)
        go_wp2
        go_roundw
        case rel => exact ⟨k + 1, by omega, by omega, by go_num, hnx, hE.out.drewN _⟩
        case measure => simp [intOf]; omega
      · have hr := cb_at h1 h2 hz.out hb3
        have hne : Lib.compareBytes a.addr b.addr ≠ 0 := by
          rw [hr]
          intro h0
          exact hb3 (UInt8.toNat_inj.1 (by have := (ci_zero _ _).1 h0; omega))
        have hRv : R = Lib.compareInt (a.addr[k].toNat : Int) (b.addr[k].toNat : Int) := by rw [← hR.out, if_pos hne, hr]
        have b3 : ((a.addr[k].toNat : Int) != (b.addr[k].toNat : Int)) = true := bne_iff_ne.2 (fun h => hb3 (UInt8.toNat_inj.1 (by omega)))
        have ho := fun W => ROrder_any (a.addr[k].toNat : Int) (b.addr[k].toNat : Int) W
        have w8 : ∀ x : UInt8, IntKind.i64.wrap (x.toNat : Int) = (x.toNat : Int) := fun x => by have := x.toNat_lt; rw [IntKind.wrap_i64]; omega
        replace hb3 := hide hb3
        replace hr := hide hr
        replace hne := hide hne
        replace hRv := hide hRv
        replace ho := hide ho
        go_wp2_with fail
        go_quiet (fail)
        go_wp2_with fail
        have u2' : (wr.drewN nq).cell? ⟨w.heap.size, 2, none⟩ = some (.string ⟨a.addr.toArray⟩) := u2
        have v2' : (wr.drewN nq).cell? ⟨w.heap.size + 1, 2, none⟩ = some (.string ⟨b.addr.toArray⟩) := v2
        have hE9 : Ext w (wr.drewN nq) := hEw.out.drewN _
        generalize wr.drewN nq = W9 at u2' v2' hE9 ⊢
        replace hE9 := hide hE9
        clear u2 v2
        go_quiet ((go_at_call 56; exact quiet_order _ _ _ _))
        go_wp2
        go_ret
        exact ⟨by rw [hRv.out]; rfl, hE9.out.drewN _⟩
    · have he : k = a.addr.length ∨ k = b.addr.length := by omega
      have hr := cb_end hka hkb he hz.out
      have d1 : decide ((k : Int) < (a.addr.length : Int)) = decide (k < a.addr.length) := by simp
      by_cases hl : a.addr.length = b.addr.length
      · have hl0 : Lib.compareBytes a.addr b.addr = 0 := by rw [hr]; exact (ci_zero _ _).2 (by rw [hl])
        have hRv : R = Lib.compareInt a.len b.len := by rw [← hR.out, if_neg (by simp [hl0])]
        have hka2 : ¬ ((k : Int) < (a.addr.length : Int)) := by omega
        have e3 : decide ((k : Int) < (a.addr.length : Int)) = false := by simp; omega
        have b3 : ((a.addr.length : Int) != (b.addr.length : Int)) = false := by rw [hl]; exact bne_self_eq_false _
        replace hr := hide hr
        replace hl := hide hl
        replace hl0 := hide hl0
        replace hRv := hide hRv
        clear d1 hend he
        go_wp2_with fail
        refine (ROrder_any _ _ _).mono ?_
        rintro e w5 ⟨rfl, rfl⟩
        go_wp2
        go_ret
        exact ⟨by rw [hRv.out]; rfl, hEw.out⟩
      · have hl0 : Lib.compareBytes a.addr b.addr ≠ 0 := by rw [hr]; intro h; have := (ci_zero _ _).1 h; omega
        have hRv : R = Lib.compareInt (a.addr.length : Int) (b.addr.length : Int) := by rw [← hR.out, if_pos hl0, hr]
        have b3 : ((a.addr.length : Int) != (b.addr.length : Int)) = true := bne_iff_ne.2 (by omega)
        replace hr := hide hr
        replace hl0 := hide hl0
        replace hRv := hide hRv
        clear d1 hend
        rcases (show ¬ ((k : Int) < (a.addr.length : Int)) ∨ ((k : Int) < (a.addr.length : Int) ∧ ¬ ((k : Int) < (b.addr.length : Int))) by omega) with e3 | ⟨e3, e4⟩
        · have e5 : decide ((k : Int) < (a.addr.length : Int)) = false := by simpa using e3
          clear he
          replace hl := hide hl
          go_wp2_with fail
          refine (ROrder_any _ _ _).mono ?_
          rintro e w5 ⟨rfl, rfl⟩
          go_wp2
          go_ret
          exact ⟨by rw [hRv.out]; rfl, hEw.out⟩
        · have e5 : decide ((k : Int) < (a.addr.length : Int)) = true := by simpa using e3
          have e6 : decide ((k : Int) < (b.addr.length : Int)) = false := by simpa using e4
          clear he
          replace hl := hide hl
          go_wp2_with fail
          refine (ROrder_any _ _ _).mono ?_
          rintro e w5 ⟨rfl, rfl⟩
          go_wp2
          go_ret
          exact ⟨by rw [hRv.out]; rfl, hEw.out⟩
end Go.Proofs.YtbobpaailmbndaaDoor
