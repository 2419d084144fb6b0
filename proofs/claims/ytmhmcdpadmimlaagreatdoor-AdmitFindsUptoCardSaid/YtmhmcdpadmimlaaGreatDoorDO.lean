/- Arguments of chapter 21 by value, opened: arrays of two, a struct of one number and three truths. -/
import Derived.Test.YtmhmcdpadmimlaaGreatDoorDA
import Derived.Test.YtmhmcdpadmimlaaGreatDoorO4
import Derived.OpenShut
import Derived.Lib.SmallJoins
namespace Go.Proofs.YtmhmcdpadmimlaaGreatDoor
open Go.RowKit Go.ChangeShapes Go.WideShapes Go.Deep
set_option linter.unusedVariables false

theorem okWide_array {P : Program} {w : World} {r : Reach} {base : Nat} {t : TypeId} {v : Value} {n : Nat} {e : TypeId} (ht : P.underlying t = some (.array n e)) (h : Value.okWide P w r base t v) : ∃ cs, v = .agg cs ∧ cs.size = P.cellsOf t := by
  simp only [Value.okWide, ht] at h
  obtain ⟨cs, h1, h2, _⟩ := h
  exact ⟨cs, h1, h2⟩
theorem open_array2 {α : Type} {E : Enc α} {P : Program} {T e : TypeId} (hE : Opens P e E) (hs : P.underlying T = some (.array 2 e)) (hc : P.cellsOf e = 1) (hC : P.cellsOf T = 2) {H : Type} {enc : TypeId × Value → H} {W : World} {r : Reach} {b0 : Nat} {v : Value} {d : DataW H} {p : List MemPlace}
    (hv : Value.okWide P W r b0 T v) (h : DataW.Trod enc P W 0 (fun _ => true) true T v d p) (hb : Rows.uptoBulk d ≤ 1048576) : ∃ (x y : α) (c0 c1 : Value), v = .agg #[c0, c1] ∧ E.R W (fun b => b < W.heap.size) x [c0] ∧ E.R W (fun b => b < W.heap.size) y [c1] := by
  obtain ⟨cs, rfl, hsz⟩ := okWide_array hs hv
  rw [hC] at hsz
  obtain ⟨fuel, hf⟩ := h
  obtain ⟨xs, m, _, hx, _, hl, hi⟩ := DataW.trod_array hs hf
  obtain ⟨l⟩ := cs
  match l, hsz, xs, hl with
  | [c0, c1], _, [x0, x1], _ =>
    have h0 := hi 0 (by omega)
    have h1 := hi 1 (by omega)
    rw [hc] at h0 h1
    replace h0 : DataW.trod enc P W 0 (fun _ => true) true m e [c0] = some x0 := h0
    replace h1 : DataW.trod enc P W 0 (fun _ => true) true m e [c1] = some x1 := h1
    have hd : d = .agg [x0.1, x1.1] := congrArg (·.1) hx
    subst hd
    simp only [Rows.uptoBulk] at hb
    have b0 := bulk_part (d := x0.1) (l := [x0.1, x1.1]) (by simp)
    have b1 := bulk_part (d := x1.1) (l := [x0.1, x1.1]) (by simp)
    obtain ⟨x, hx⟩ := hE.2 enc W m _ _ h0 (by omega)
    obtain ⟨y, hy⟩ := hE.2 enc W m _ _ h1 (by omega)
    exact ⟨x, y, c0, c1, rfl, hx, hy⟩
set_option maxRecDepth 100000 in
theorem open_u32s2 {H : Type} {enc : TypeId × Value → H} {W : World} {r : Reach} {b0 : Nat} {v : Value} {d : DataW H} {p : List MemPlace} (hv : Value.okWide Tryz.prog W r b0 47 v) (h : DataW.Trod enc Tryz.prog W 0 (fun _ => true) true 47 v d p) (hb : Rows.uptoBulk d ≤ 1048576) :
    ∃ x y : UInt32, v = .agg #[.int .u32 (x.toNat : Int), .int .u32 (y.toNat : Int)] := by
  obtain ⟨x, y, c0, c1, rfl, h0, h1⟩ := open_array2 opens_u32_ Tryz.underlying47 (by kernel_rfl) (by kernel_rfl) hv h hb
  obtain ⟨h0, _⟩ := h0
  obtain ⟨h1, _⟩ := h1
  simp only [List.cons.injEq, and_true] at h0 h1
  exact ⟨x, y, by rw [h0, h1]⟩
theorem opens_u8_ : Opens Tryz.prog 5 EU8 := opens_u8 Tryz.underlying5 (by kernel_rfl)
set_option maxRecDepth 100000 in
theorem open_u8s2 {H : Type} {enc : TypeId × Value → H} {W : World} {r : Reach} {b0 : Nat} {v : Value} {d : DataW H} {p : List MemPlace} (hv : Value.okWide Tryz.prog W r b0 48 v) (h : DataW.Trod enc Tryz.prog W 0 (fun _ => true) true 48 v d p) (hb : Rows.uptoBulk d ≤ 1048576) :
    ∃ x y : UInt8, v = .agg #[.int .u8 (x.toNat : Int), .int .u8 (y.toNat : Int)] := by
  obtain ⟨x, y, c0, c1, rfl, h0, h1⟩ := open_array2 opens_u8_ Tryz.underlying48 (by kernel_rfl) (by kernel_rfl) hv h hb
  obtain ⟨h0, _⟩ := h0
  obtain ⟨h1, _⟩ := h1
  simp only [List.cons.injEq, and_true] at h0 h1
  exact ⟨x, y, by rw [h0, h1]⟩
set_option maxRecDepth 100000 in
theorem open_strs2 {H : Type} {enc : TypeId × Value → H} {W : World} {r : Reach} {b0 : Nat} {v : Value} {d : DataW H} {p : List MemPlace} (hv : Value.okWide Tryz.prog W r b0 58 v) (h : DataW.Trod enc Tryz.prog W 0 (fun _ => true) true 58 v d p) (hb : Rows.uptoBulk d ≤ 1048576) :
    ∃ x y : List UInt8, v = .agg #[.string ⟨x.toArray⟩, .string ⟨y.toArray⟩] ∧ x.length ≤ 1048576 ∧ y.length ≤ 1048576 := by
  obtain ⟨x, y, c0, c1, rfl, h0, h1⟩ := open_array2 opens_text Tryz.underlying58 (by kernel_rfl) (by kernel_rfl) hv h hb
  obtain ⟨h0, hx⟩ := h0
  obtain ⟨h1, hy⟩ := h1
  simp only [List.cons.injEq, and_true] at h0 h1
  exact ⟨x, y, by rw [h0, h1], hx, hy⟩
set_option maxRecDepth 100000 in
theorem open_two {H : Type} {enc : TypeId × Value → H} {W : World} {r : Reach} {b0 : Nat} {v : Value} {d : DataW H} {p : List MemPlace} (hv : Value.okWide Tryz.prog W r b0 55 v) (h : DataW.Trod enc Tryz.prog W 0 (fun _ => true) true 55 v d p) (hb : Rows.uptoBulk d ≤ 1048576) :
    ∃ (o : Int) (g k i : Bool), v = .agg #[.int .i64 o, .bool g, .bool k, .bool i] := by
  obtain ⟨v0, v1, v2, v3, y0, y1, y2, y3, n, rfl, rfl, _, h0, h1, h2, h3⟩ := Go.Joins.open_agg4 Tryz.underlying55 (by kernel_rfl) (by kernel_rfl) hv h
  obtain ⟨f, e0, _, _⟩ := DataW.trod_int Tryz.underlying3 h0
  cases e0
  simp only [Rows.uptoBulk] at hb
  have b1 := bulk_part (d := y1.1) (l := [y0.1, y1.1, y2.1, y3.1]) (by simp)
  have b2 := bulk_part (d := y2.1) (l := [y0.1, y1.1, y2.1, y3.1]) (by simp)
  have b3 := bulk_part (d := y3.1) (l := [y0.1, y1.1, y2.1, y3.1]) (by simp)
  obtain ⟨x1, h1, _⟩ := opens_EBool.2 enc W n _ _ h1 (by omega)
  obtain ⟨x2, h2, _⟩ := opens_EBool.2 enc W n _ _ h2 (by omega)
  obtain ⟨x3, h3, _⟩ := opens_EBool.2 enc W n _ _ h3 (by omega)
  simp only [List.cons.injEq, and_true] at h1 h2 h3
  exact ⟨f, x1, x2, x3, by rw [h1, h2, h3]⟩
end Go.Proofs.YtmhmcdpadmimlaaGreatDoor
