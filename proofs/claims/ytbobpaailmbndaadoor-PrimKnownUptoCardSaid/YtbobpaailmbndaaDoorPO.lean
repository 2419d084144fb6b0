/- Arguments opened: the bulk of what is read; a prefix given as a value. -/
import Derived.Test.YtbobpaailmbndaaDoorRows
import Derived.Test.YtbobpaailmbndaaDoorP9
import Derived.ProofKit
import Derived.Lib.SmallJoins
namespace Go.Proofs.YtbobpaailmbndaaDoor
open Go.RowKit Go.ChangeShapes Go.WideShapes Go.Deep
set_option linter.unusedVariables false

theorem bulk_one {H : Type} (d : DataW H) : 1 ≤ Rows.uptoBulk d := by
  cases d with
  | lit l => cases l <;> simp [Rows.uptoBulk]
  | nil => simp [Rows.uptoBulk]
  | ptr d => simp [Rows.uptoBulk]
  | slice elems spare => simp [Rows.uptoBulk]
  | agg parts => simp [Rows.uptoBulk]
  | iface t d => simp [Rows.uptoBulk]
  | map entries => simp [Rows.uptoBulk]
  | held h => simp [Rows.uptoBulk]
theorem bulk_part {H : Type} {d : DataW H} {l : List (DataW H)} (h : d ∈ l) : Rows.uptoBulk d ≤ Rows.uptoBulkAll l := by
  induction l with
  | nil => cases h
  | cons x r ih =>
    simp only [Rows.uptoBulkAll]
    rcases List.mem_cons.1 h with e | e
    · subst e; omega
    · have := ih e; omega

set_option maxRecDepth 100000 in
theorem open_pfx {H : Type} {enc : TypeId × Value → H} {W : World} {r : Reach} {b0 : Nat} {v : Value} {d : DataW H} {p : List MemPlace} (hv : Value.okWide Tryd.prog W r b0 24 v) (h : DataW.Trod enc Tryd.prog W 0 (fun _ => true) true 24 v d p) (hb : Rows.uptoBulk d ≤ 1048576) :
    ∃ q : Pfx, v = valP q ∧ q.addr.length ≤ 1048576 := by
  obtain ⟨v0, v1, v2, v3, y0, y1, y2, y3, n, rfl, rfl, _, h0, h1, h2, h3⟩ := Go.Joins.open_agg4 Tryd.underlying24 (by kernel_rfl) (by kernel_rfl) hv h
  obtain ⟨f, e0, _, _⟩ := DataW.trod_int Tryd.underlying3 h0
  obtain ⟨R, e1, _, hw⟩ := DataW.trod_int Tryd.underlying22 h1
  obtain ⟨s, e2, hd, hs⟩ := DataW.trod_string Tryd.underlying9 h2
  obtain ⟨l, e3, _, _⟩ := DataW.trod_int Tryd.underlying3 h3
  have hR : 0 ≤ R := by
    have : 0 ≤ R ∧ R ≤ 18446744073709551615 := by simpa [Lit.wf, IntKind.min, IntKind.max, IntKind.signed, IntKind.bits] using hw
    exact this.1
  cases e0; cases e1; cases e2; cases e3
  refine ⟨⟨f, R.toNat, s.data.toList, l⟩, ?_, ?_⟩
  · unfold valP
    rw [show ((R.toNat : Nat) : Int) = R by omega]
  · have := bulk_part (d := y2.1) (l := [y0.1, y1.1, y2.1, y3.1]) (by simp)
    simp only [Rows.uptoBulk] at hb
    have hd' : Rows.uptoBulk y2.1 = s.data.toList.length + 1 := by rw [hd]; rfl
    show s.data.toList.length ≤ 1048576
    omega
end Go.Proofs.YtbobpaailmbndaaDoor
