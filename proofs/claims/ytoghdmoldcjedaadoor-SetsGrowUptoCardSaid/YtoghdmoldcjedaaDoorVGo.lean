/- Arguments of SetsGrow, opened. -/
import Derived.Test.YtoghdmoldcjedaaDoorVG
import Derived.Test.YtoghdmoldcjedaaDoorO4
import Derived.OpenShut
import Derived.Lib.SmallJoins
namespace Go.Proofs.YtoghdmoldcjedaaDoor
open Go.RowKit Go.ChangeShapes Go.WideShapes Go.Deep
set_option linter.unusedVariables false

set_option maxRecDepth 100000 in
theorem opens_ENet : Opens Tryd.prog 33 ENet :=
  opens_of (opens_struct Tryd.underlying33 (by kernel_rfl) (opensF_cons rfl rfl opens_EU8 (opensF_cons rfl rfl opens_EU8 (opensF_cons rfl rfl opens_EU8 (opensF_last rfl rfl opens_EU8 rfl))))) rfl (fun p => (⟨p.1, p.2.1, p.2.2.1, p.2.2.2⟩ : Net)) (fun h => by
    obtain ⟨c, d, rfl, ⟨rfl, _⟩, c, d, rfl, ⟨rfl, _⟩, c, d, rfl, ⟨rfl, _⟩, ⟨rfl, _⟩⟩ := h
    exact ⟨rfl, trivial⟩)
set_option maxRecDepth 100000 in
theorem open_net {H : Type} {enc : TypeId × Value → H} {W : World} {r : Reach} {b0 : Nat} {v : Value} {d : DataW H} {p : List MemPlace} (hv : Value.okWide Tryd.prog W r b0 33 v) (h : DataW.Trod enc Tryd.prog W 0 (fun _ => true) true 33 v d p) (hb : Rows.uptoBulk d ≤ 1048576) :
    ∃ a l lo hi : UInt8, v = .agg #[.int .u8 (a.toNat : Int), .int .u8 (l.toNat : Int), .int .u8 (lo.toNat : Int), .int .u8 (hi.toNat : Int)] := by
  obtain ⟨v0, v1, v2, v3, y0, y1, y2, y3, n, rfl, rfl, _, h0, h1, h2, h3⟩ := Go.Joins.open_agg4 Tryd.underlying33 (by kernel_rfl) (by kernel_rfl) hv h
  simp only [Rows.uptoBulk] at hb
  have b0 := bulk_part (d := y0.1) (l := [y0.1, y1.1, y2.1, y3.1]) (by simp)
  have b1 := bulk_part (d := y1.1) (l := [y0.1, y1.1, y2.1, y3.1]) (by simp)
  have b2 := bulk_part (d := y2.1) (l := [y0.1, y1.1, y2.1, y3.1]) (by simp)
  have b3 := bulk_part (d := y3.1) (l := [y0.1, y1.1, y2.1, y3.1]) (by simp)
  obtain ⟨x0, h0, _⟩ := opens_EU8.2 enc W n _ _ h0 (by omega)
  obtain ⟨x1, h1, _⟩ := opens_EU8.2 enc W n _ _ h1 (by omega)
  obtain ⟨x2, h2, _⟩ := opens_EU8.2 enc W n _ _ h2 (by omega)
  obtain ⟨x3, h3, _⟩ := opens_EU8.2 enc W n _ _ h3 (by omega)
  simp only [List.cons.injEq, and_true] at h0 h1 h2 h3
  exact ⟨x0, x1, x2, x3, by rw [h0, h1, h2, h3]⟩
end Go.Proofs.YtoghdmoldcjedaaDoor
