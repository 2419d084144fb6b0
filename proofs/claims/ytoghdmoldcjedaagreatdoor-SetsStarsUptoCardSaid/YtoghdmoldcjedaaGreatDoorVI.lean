/- Walks: two patterns compared. -/
import Derived.Test.YtoghdmoldcjedaaGreatDoorVH
import Derived.Laws.StructEq
namespace Go.Proofs.YtoghdmoldcjedaaGreatDoor
open Go.RowKit Go.Sort
set_option linter.unusedVariables false

theorem run_eqA (W : World) (f g : Int) (r s : Int) :
    (binOp .eql 40 (.agg #[.int .i64 f, .int .u32 r]) (.agg #[.int .i64 g, .int .u32 s])).run Tryz.prog W = .ok (.bool (decide (f = g ∧ r = s))) W := by
  have hS : Tryz.prog.underlying 40 = some (.struct (Tryz.prog.fieldsOf 40)) := by kernel_rfl
  rw [run_eql_struct, run_equalIn_agg W 9999 _ _ _ hS Tryz.stoodInHeld40]
  simp only [Program.fieldsOf, Tryz.underlying40]
  have e1 : ∀ (a b : Int) (w : World), (Op.equalIn 9999 3 (.int .i64 a) (.int .i64 b)).run Tryz.prog w = .ok (a == b) w := fun a b w => run_equalIn_int w 9998 _ .i64 .i64 a b Tryz.underlying3
  have e2 : ∀ (a b : Int) (w : World), (Op.equalIn 9999 37 (.int .u32 a) (.int .u32 b)).run Tryz.prog w = .ok (a == b) w := fun a b w => run_equalIn_int w 9998 _ .u32 .u32 a b Tryz.underlying37
  by_cases h1 : f = g <;> by_cases h2 : r = s <;> simp [Op.eqFields, part, e1, e2, h1, h2]
theorem eqA_run (W : World) (a b : Atm) (e : Bool) (h : e = true ↔ a = b) : (binOp .eql 40 (.agg #[.int .i64 a.1, .int .u32 (a.2.toNat : Int)]) (.agg #[.int .i64 b.1, .int .u32 (b.2.toNat : Int)])).run Tryz.prog W = .ok (.bool e) W := by
  rw [run_eqA]
  congr 2
  rw [show e = decide (e = true) by simp, decide_eq_decide, h]
  constructor
  · rintro ⟨e1, e2⟩
    exact Prod.ext e1 (UInt32.toNat_inj.1 (by omega))
  · rintro rfl
    exact ⟨rfl, rfl⟩
theorem neqA_run (W : World) (a b : Atm) (e : Bool) (h : e = true ↔ a = b) : (binOp .neq 40 (.agg #[.int .i64 a.1, .int .u32 (a.2.toNat : Int)]) (.agg #[.int .i64 b.1, .int .u32 (b.2.toNat : Int)])).run Tryz.prog W = .ok (.bool (!e)) W := by
  have h1 := eqA_run W a b e h
  rw [run_eql_struct] at h1
  rw [run_neq_struct]
  generalize (Op.equalIn 10000 40 (.agg #[.int .i64 a.1, .int .u32 (a.2.toNat : Int)]) (.agg #[.int .i64 b.1, .int .u32 (b.2.toNat : Int)])).run Tryz.prog W = r at h1 ⊢
  cases r with
  | ok b w' =>
    simp only [Result.andThen] at h1 ⊢
    injection h1 with e1 e2
    injection e1 with e1
    subst e1
    subst e2
    rfl
  | halt x w' => simp only [Result.andThen] at h1; cases h1

set_option maxRecDepth 20000 in
set_option maxHeartbeats 2000000 in
theorem RSameAtoms_any (a : Option Addr) (c : Nat) (p : List Atm) (b : Option Addr) (d : Nat) (q : List Atm) (w : World) (hp : p.length ≤ 16777216) (hq : q.length ≤ 16777216) (hs : Sl EAtm w (· < w.heap.size) a p) (hs2 : Sl EAtm w (· < w.heap.size) b q) :
    Calls Tryz.prog 29 #[.slice a p.length c, .slice b q.length d] w fun e w' => e = .returned (.bool (decide (p = q))) ∧ Ext w w' := by
  by_cases hl : p.length = q.length
  · have hlI : (p.length : Int) = (q.length : Int) := by omega
    have hl1 : decide ((p.length : Int) = (q.length : Int)) = true := decide_eq_true hlI
    replace hs := hide hs
    replace hs2 := hide hs2
    go_enter Tryz.func29, Tryz.ntmps29
    go_wp2
    go_loopw [5] (fun i wr => ∃ k : Nat, k ≤ p.length ∧ i = .int .i64 k ∧ Ext w wr ∧ p.take k = q.take k) (fun i _ => p.length - (intOf i).toNat)
    case atStart => exact ⟨0, Nat.zero_le _, rfl, Ext.refl _, rfl⟩
    case round =>
      obtain ⟨k, hk, rfl, E, ht⟩ := hrel
      by_cases hlt : k < p.length
      · have hlt2 : k < q.length := by omega
        obtain ⟨b1, o1, rfl, _, _, x0, x1⟩ := EAtm.at (hs.out.ext E) k hlt
        obtain ⟨b2, o2, rfl, _, _, y0, y1⟩ := EAtm.at (hs2.out.ext E) k hlt2
        have heq := fun (W : World) (e : Bool) (h : e = true ↔ p[k] = q[k]) => neqA_run W p[k] q[k] e h
        have heg : ∀ x y xs ys W, (eqGuard .neq 40 x y (.agg xs) (.agg ys)).run Tryz.prog W = .ok () W := fun x y xs ys W => run_eqGuard_agg W .neq _ x y xs ys Tryz.eqGuardType40
        have hyes : p[k] = q[k] → p.take (k + 1) = q.take (k + 1) := fun h => by rw [List.take_succ_eq_append_getElem hlt, List.take_succ_eq_append_getElem hlt2, ht, h]
        have hno : p[k] ≠ q[k] → decide (p = q) = false := fun h => decide_eq_false fun hh => h (by subst hh; rfl)
        generalize p[k] = x at *
        generalize q[k] = y at *
        by_cases hxy : x = y
        · have he := fun W => heq W true (by simp [hxy])
          replace hyes := hyes hxy
          clear heq hno hxy ht
          replace E := hide E
          replace hyes := hide hyes
          go_wp2_with fail
          go_region
          go_wp2
          go_roundw
          case rel => exact ⟨k + 1, by omega, by go_num, E.out.drew, hyes.out⟩
          case measure => simp [intOf]; omega
        · have he := fun W => heq W false (by simp [hxy])
          replace hno := hno hxy
          clear heq hyes hxy ht
          replace E := hide E
          replace hno := hide hno
          go_wp2_with fail
          go_region
          go_wp2
          go_ret
          exact ⟨ret_bool hno.out.symm, E.out.drew⟩
      · obtain rfl : k = p.length := by omega
        have hend : decide (p = q) = true := decide_eq_true (by rw [List.take_length, hl, List.take_length] at ht; exact ht)
        clear ht
        replace E := hide E
        replace hend := hide hend
        go_wp2
        go_ret
        exact ⟨ret_bool hend.out.symm, E.out⟩
  · have hlI : ¬ ((p.length : Int) = (q.length : Int)) := by omega
    have hend : decide (p = q) = false := decide_eq_false fun h => hl (by rw [h])
    replace hend := hide hend
    replace hs := hide hs
    replace hs2 := hide hs2
    go_enter Tryz.func29, Tryz.ntmps29
    go_wp2
    go_ret
    exact ⟨ret_bool hend.out.symm, Ext.refl _⟩
end Go.Proofs.YtoghdmoldcjedaaGreatDoor
