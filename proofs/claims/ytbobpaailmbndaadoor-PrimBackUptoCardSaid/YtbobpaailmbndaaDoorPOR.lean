/- An argument that is a raw prefix, opened. -/
import Derived.Test.YtbobpaailmbndaaDoorPO
import Derived.Test.YtbobpaailmbndaaDoorPR
namespace Go.Proofs.YtbobpaailmbndaaDoor
open Go.RowKit Go.ChangeShapes Go.WideShapes Go.Deep
set_option linter.unusedVariables false

theorem open_u8 {H : Type} {enc : TypeId × Value → H} {W : World} {n : Nat} {c : Value} {x : DataW H × List MemPlace} (h : DataW.trod enc Tryd.prog W 0 (fun _ => true) true n 5 [c] = some x) : ∃ u : UInt8, c = .int .u8 (u.toNat : Int) := by
  obtain ⟨z, e, _, hw⟩ := DataW.trod_int Tryd.underlying5 h
  obtain rfl : c = .int .u8 z := by simpa using e
  have hz : 0 ≤ z ∧ z ≤ 255 := by simpa [Lit.wf, IntKind.min, IntKind.max, IntKind.signed, IntKind.bits] using hw
  refine ⟨UInt8.ofNat z.toNat, ?_⟩
  congr 1
  rw [UInt8.toNat_ofNat']
  omega
theorem open_u8s {H : Type} {enc : TypeId × Value → H} {W : World} : ∀ {n : Nat} {l : List Value} {xs : List (DataW H × List MemPlace)}, (∀ i, i < l.length → DataW.trod enc Tryd.prog W 0 (fun _ => true) true n 5 ((l.drop i).take 1) = xs[i]?) → xs.length = l.length → ∃ us : List UInt8, l = us.map fun u => Value.int .u8 (u.toNat : Int)
  | n, [], xs, _, _ => ⟨[], rfl⟩
  | n, c :: l, [], _, hl => by simp at hl
  | n, c :: l, x :: xs, h, hl => by
    obtain ⟨u, rfl⟩ := open_u8 (h 0 (by simp))
    obtain ⟨us, rfl⟩ := open_u8s (n := n) (l := l) (xs := xs) (fun i hi => by have := h (i + 1) (by simp; omega); simpa using this) (by simpa using hl)
    exact ⟨u :: us, rfl⟩
set_option maxRecDepth 100000 in
theorem open_raw {H : Type} {enc : TypeId × Value → H} {W : World} {r : Reach} {b0 : Nat} {v : Value} {d : DataW H} {p : List MemPlace} (hv : Value.okWide Tryd.prog W r b0 37 v) (h : DataW.Trod enc Tryd.prog W 0 (fun _ => true) true 37 v d p) :
    ∃ x : Rw, v = valR x := by
  obtain ⟨cs, rfl, hsz⟩ := okWide_struct Tryd.underlying37 hv
  rw [show Tryd.prog.cellsOf 37 = 19 by kernel_rfl] at hsz
  obtain ⟨fuel, hf⟩ := h
  obtain ⟨y0, y1, y2, y3, n, _, _, h0, h1, h2, h3⟩ := Go.Joins.trod_struct4 Tryd.underlying37 hf
  obtain ⟨l⟩ := cs
  match l, hsz with
  | [c0, c1, c2, c3, c4, c5, c6, c7, c8, c9, c10, c11, c12, c13, c14, c15, c16, c17, c18], _ =>
    rw [show Tryd.prog.cellsOf 5 = 1 by kernel_rfl] at h0 h3
    rw [show Tryd.prog.cellsOf 22 = 1 by kernel_rfl] at h1
    rw [show Tryd.prog.cellsOf 35 = 16 by kernel_rfl] at h2
    replace h0 : DataW.trod enc Tryd.prog W 0 (fun _ => true) true n 5 [c0] = some y0 := h0
    replace h1 : DataW.trod enc Tryd.prog W 0 (fun _ => true) true n 22 [c1] = some y1 := h1
    replace h2 : DataW.trod enc Tryd.prog W 0 (fun _ => true) true n 35 [c2, c3, c4, c5, c6, c7, c8, c9, c10, c11, c12, c13, c14, c15, c16, c17] = some y2 := h2
    replace h3 : DataW.trod enc Tryd.prog W 0 (fun _ => true) true n 5 [c18] = some y3 := h3
    obtain ⟨u0, rfl⟩ := open_u8 h0
    obtain ⟨u3, rfl⟩ := open_u8 h3
    obtain ⟨R, e1, _, hw⟩ := DataW.trod_int Tryd.underlying22 h1
    cases e1
    have hR : 0 ≤ R := by
      have : 0 ≤ R ∧ R ≤ 18446744073709551615 := by simpa [Lit.wf, IntKind.min, IntKind.max, IntKind.signed, IntKind.bits] using hw
      exact this.1
    obtain ⟨xs, m, _, _, _, hl, hx⟩ := DataW.trod_array Tryd.underlying35 h2
    rw [show Tryd.prog.cellsOf 5 = 1 by kernel_rfl] at hx
    obtain ⟨us, hus⟩ := open_u8s (n := m) (l := [c2, c3, c4, c5, c6, c7, c8, c9, c10, c11, c12, c13, c14, c15, c16, c17]) (xs := xs) (fun i hi => by have := hx i hi; rw [Nat.mul_one] at this; exact this) hl
    have hlen : us.length = 16 := by have := congrArg List.length hus; simpa using this.symm
    match us, hlen with
    | [a0, a1, a2, a3, a4, a5, a6, a7, a8, a9, a10, a11, a12, a13, a14, a15], _ =>
      simp only [List.map_cons, List.map_nil, List.cons.injEq, and_true] at hus
      obtain ⟨rfl, rfl, rfl, rfl, rfl, rfl, rfl, rfl, rfl, rfl, rfl, rfl, rfl, rfl, rfl, rfl⟩ := hus
      refine ⟨⟨u0, R.toNat, fun i => [a0, a1, a2, a3, a4, a5, a6, a7, a8, a9, a10, a11, a12, a13, a14, a15].getD i 0, u3⟩, ?_⟩
      unfold valR
      rw [show ((R.toNat : Nat) : Int) = R by omega]
      rfl
end Go.Proofs.YtbobpaailmbndaaDoor
