/- Two prefixes compared, as one step. -/
import Derived.Test.YtbobpaailmbndaaDoorP6
namespace Go.Proofs.YtbobpaailmbndaaDoor
open Go.RowKit Go.Sort
set_option linter.unusedVariables false

theorem eqP_run (W : World) (a b : Pfx) (e : Bool) (h : e = true ↔ a = b) : (binOp .eql 24 (.agg #[.int .i64 a.fam, .int .u64 (a.rd : Int), .string ⟨a.addr.toArray⟩, .int .i64 a.len]) (.agg #[.int .i64 b.fam, .int .u64 (b.rd : Int), .string ⟨b.addr.toArray⟩, .int .i64 b.len])).run Tryd.prog W = .ok (.bool e) W := by
  rw [run_eqP]
  congr 2
  rw [show e = decide (e = true) by simp, decide_eq_decide, h]
  constructor
  · rintro ⟨e1, e2, e3, e4⟩
    exact Pfx.eq e1 (by omega) e3 e4
  · rintro rfl
    exact ⟨rfl, rfl, rfl, rfl⟩
theorem neqP_run (W : World) (a b : Pfx) (e : Bool) (h : e = true ↔ a = b) : (binOp .neq 24 (.agg #[.int .i64 a.fam, .int .u64 (a.rd : Int), .string ⟨a.addr.toArray⟩, .int .i64 a.len]) (.agg #[.int .i64 b.fam, .int .u64 (b.rd : Int), .string ⟨b.addr.toArray⟩, .int .i64 b.len])).run Tryd.prog W = .ok (.bool (!e)) W := by
  have h1 := eqP_run W a b e h
  rw [run_eql_struct] at h1
  rw [run_neq_struct]
  generalize (Op.equalIn 10000 24 (.agg #[.int .i64 a.fam, .int .u64 (a.rd : Int), .string ⟨a.addr.toArray⟩, .int .i64 a.len]) (.agg #[.int .i64 b.fam, .int .u64 (b.rd : Int), .string ⟨b.addr.toArray⟩, .int .i64 b.len])).run Tryd.prog W = r at h1 ⊢
  cases r with
  | ok b w' =>
    simp only [Result.andThen] at h1 ⊢
    injection h1 with e1 e2
    injection e1 with e1
    subst e1
    subst e2
    rfl
  | halt x w' => simp only [Result.andThen] at h1; cases h1
theorem neqF_run (W : World) (a b : Pfx) (h : a = b) : (binOp .neq 24 (.agg #[.int .i64 a.fam, .int .u64 (a.rd : Int), .string ⟨a.addr.toArray⟩, .int .i64 a.len]) (.agg #[.int .i64 b.fam, .int .u64 (b.rd : Int), .string ⟨b.addr.toArray⟩, .int .i64 b.len])).run Tryd.prog W = .ok (.bool false) W := neqP_run W a b true (by simp [h])
end Go.Proofs.YtbobpaailmbndaaDoor
