/- Walks: the document's: may a pattern be, does it match, are two the same. Walks: two patterns compared. -/
import Derived.Test.YtljibkfbldjgdaaGreatDoorVB
import Derived.Test.YtljibkfbldjgdaaGreatDoorVE
import Derived.Laws.OwnMore
import Derived.Laws.StructEq
namespace Go.Proofs.YtljibkfbldjgdaaGreatDoor
open Go.RowKit Go.Sort
set_option linter.unusedVariables false

set_option maxHeartbeats 1000000 in
theorem RMayAtoms_any (a : Option Addr) (c : Nat) (l : List Atm) (w : World) (hl : l.length ≤ 16777216) (hs : Sl EAtm w (· < w.heap.size) a l) :
    Calls Tryz.prog 155 #[.slice a l.length c] w fun e w' => e = .returned (.bool (atmsOk l)) ∧ Ext w w' := by
  replace hs := hide hs
  go_enter Tryz.func155, Tryz.ntmps155
  go_wp2
  go_loopw [3] (fun i wr => ∃ k : Nat, k ≤ l.length ∧ i = .int .i64 k ∧ Ext w wr ∧ (l.take k).all atmOk = true) (fun i _ => l.length - (intOf i).toNat)
  case atStart => exact ⟨0, Nat.zero_le _, rfl, Ext.refl _, rfl⟩
  case round =>
    obtain ⟨k, hk, rfl, he, ha⟩ := hrel
    replace ha := hide ha
    replace he := hide he
    by_cases hlt : k < l.length
    · obtain ⟨b, off, rfl, _, hkd, x0, x1⟩ := EAtm.at (hs.out.ext he.out) k hlt
      have A := Blk.new wr 75 #[.int .i64 l[k].1, .int .u32 (l[k].2.toNat : Int)]
      have he' := hide (he.out.alloc (Obj.cells #[.int .i64 l[k].1, .int .u32 (l[k].2.toNat : Int)] 75))
      generalize hW : wr.alloc (Obj.cells #[.int .i64 l[k].1, .int .u32 (l[k].2.toNat : Int)] 75) = W at A he'
      generalize hg : wr.heap.size = g at A
      have A_0 : W.cell? ⟨g, 0, none⟩ = some (.int .i64 l[k].1) := A.cell 0
      have A_1 : W.cell? ⟨g, 1, none⟩ = some (.int .u32 (l[k].2.toNat : Int)) := A.cell 1
      replace A := hide A
      have hbad := fun h => allA_bad hlt h
      have hok := fun h : atmOk l[k] = true => (allA_succ l k hlt).trans (by rw [ha.out, h, Bool.true_and])
      have hcs := atm_cases l[k]
      generalize atmOk l[k] = ok at hbad hok hcs
      generalize l[k] = x at *
      obtain ⟨kd, av⟩ := x
      dsimp only at *
      replace hbad := hide hbad
      replace hok := hide hok
      rcases hcs with ⟨h1, rfl⟩ | ⟨h1, h3, rfl⟩ | ⟨h1, h3, b3, b4, e3, e4, e5⟩
      · have e1 : decide (kd < 1) = true := decide_eq_true h1
        clear h1
        go_wp2
        go_ret
        exact ⟨ret_bool (hbad.out (by trivial)).symm, he'.out⟩
      · have e1 : decide (kd < 1) = false := decide_eq_false (by omega)
        have e2 : decide (3 < kd) = true := decide_eq_true h3
        clear h1 h3
        go_wp2
        go_ret
        exact ⟨ret_bool (hbad.out (by trivial)).symm, he'.out⟩
      · have e1 : decide (kd < 1) = false := decide_eq_false (by omega)
        have e2 : decide (3 < kd) = false := decide_eq_false (by omega)
        clear h1 h3
        cases ok with
        | true =>
          rw [Bool.not_true] at e5
          cases b3 <;> cases b4 <;> first | exact absurd e5 (by decide) | (go_wp2; go_roundw; (case rel => exact ⟨k + 1, by omega, by go_num, he'.out, hok.out (by trivial)⟩); (case measure => simp [intOf]; omega))
        | false =>
          rw [Bool.not_false] at e5
          cases b3 <;> cases b4 <;> first | exact absurd e5 (by decide) | (go_wp2; go_ret; exact ⟨ret_bool (hbad.out (by trivial)).symm, he'.out⟩)
    · have hend : atmsOk l = decide (l.length ≤ 64) := by
        obtain rfl : k = l.length := by omega
        have := ha.out
        rw [List.take_length] at this
        unfold atmsOk
        rw [this, Bool.true_and]
      have hle : decide ((l.length : Int) ≤ 64) = decide (l.length ≤ 64) := decide_eq_decide.2 (by omega)
      rw [← hend] at hle
      clear hend
      go_wp2
      go_ret
      exact ⟨ret_bool rfl, he.out⟩


def bB (L : List Bool) : Array Value := (L.map fun b => Value.bool b).toArray
theorem bB_set (L : List Bool) (i : Nat) (b : Bool) : (bB L).setIfInBounds i (.bool b) = bB (L.set i b) := by
  unfold bB
  rw [List.setIfInBounds_toArray, ← List.map_set]
theorem bB_at (L : List Bool) (i : Nat) (h : i < L.length) : (bB L)[i]? = some (.bool L[i]) := by
  unfold bB
  rw [List.getElem?_toArray, List.getElem?_map, List.getElem?_eq_getElem h]
  rfl
theorem made_bB (n : Nat) : madeCells #[.bool false] (n * 1) = bB (List.replicate n false) := by
  unfold madeCells bB
  apply Array.ext
  · simp
  · intro i h1 h2
    simp [Nat.mod_one]
open Go.RowKit Go.Sort

theorem run_eqA (W : World) (f g : Int) (r s : Int) :
    (binOp .eql 75 (.agg #[.int .i64 f, .int .u32 r]) (.agg #[.int .i64 g, .int .u32 s])).run Tryz.prog W = .ok (.bool (decide (f = g ∧ r = s))) W := by
  have hS : Tryz.prog.underlying 75 = some (.struct (Tryz.prog.fieldsOf 75)) := by kernel_rfl
  rw [run_eql_struct, run_equalIn_agg W 9999 _ _ _ hS Tryz.stoodInHeld75]
  simp only [Program.fieldsOf, Tryz.underlying75]
  have e1 : ∀ (a b : Int) (w : World), (Op.equalIn 9999 3 (.int .i64 a) (.int .i64 b)).run Tryz.prog w = .ok (a == b) w := fun a b w => run_equalIn_int w 9998 _ .i64 .i64 a b Tryz.underlying3
  have e2 : ∀ (a b : Int) (w : World), (Op.equalIn 9999 49 (.int .u32 a) (.int .u32 b)).run Tryz.prog w = .ok (a == b) w := fun a b w => run_equalIn_int w 9998 _ .u32 .u32 a b Tryz.underlying49
  by_cases h1 : f = g <;> by_cases h2 : r = s <;> simp [Op.eqFields, part, e1, e2, h1, h2]
theorem eqA_run (W : World) (a b : Atm) (e : Bool) (h : e = true ↔ a = b) : (binOp .eql 75 (.agg #[.int .i64 a.1, .int .u32 (a.2.toNat : Int)]) (.agg #[.int .i64 b.1, .int .u32 (b.2.toNat : Int)])).run Tryz.prog W = .ok (.bool e) W := by
  rw [run_eqA]
  congr 2
  rw [show e = decide (e = true) by simp, decide_eq_decide, h]
  constructor
  · rintro ⟨e1, e2⟩
    exact Prod.ext e1 (UInt32.toNat_inj.1 (by omega))
  · rintro rfl
    exact ⟨rfl, rfl⟩
theorem neqA_run (W : World) (a b : Atm) (e : Bool) (h : e = true ↔ a = b) : (binOp .neq 75 (.agg #[.int .i64 a.1, .int .u32 (a.2.toNat : Int)]) (.agg #[.int .i64 b.1, .int .u32 (b.2.toNat : Int)])).run Tryz.prog W = .ok (.bool (!e)) W := by
  have h1 := eqA_run W a b e h
  rw [run_eql_struct] at h1
  rw [run_neq_struct]
  generalize (Op.equalIn 10000 75 (.agg #[.int .i64 a.1, .int .u32 (a.2.toNat : Int)]) (.agg #[.int .i64 b.1, .int .u32 (b.2.toNat : Int)])).run Tryz.prog W = r at h1 ⊢
  cases r with
  | ok b w' =>
    simp only [Result.andThen] at h1 ⊢
    injection h1 with e1 e2
    injection e1 with e1
    subst e1
    subst e2
    rfl
  | halt x w' => simp only [Result.andThen] at h1; cases h1

end Go.Proofs.YtljibkfbldjgdaaGreatDoor
