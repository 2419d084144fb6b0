/- Covering and cutting, plain: what PrimCovers asks. -/
import Derived.Test.YtbobpaailmbndaaDoorP2
namespace Go.Proofs.YtbobpaailmbndaaDoor
open Go.RowKit
set_option linter.unusedVariables false

theorem cb_below : ∀ (l : List UInt8) (f : Nat → UInt8 → UInt8), (∀ i x, (f i x).toNat ≤ x.toNat) → Lib.compareBytes (l.mapIdx f) l ≤ 0
  | [], _, _ => by simp [Lib.compareBytes]
  | x :: l, f, h => by
    rw [List.mapIdx_cons]
    simp only [Lib.compareBytes]
    split
    · decide
    · split
      · rename_i h1
        rw [UInt8.lt_iff_toNat_lt] at h1
        have := h 0 x
        omega
      · exact cb_below l _ fun i x => h (i + 1) x
theorem maskB_le (l : Int) (x : UInt8) : (maskB l x).toNat ≤ x.toNat := by
  have hx := x.toNat_lt
  unfold maskB
  split
  · exact Nat.zero_le _
  · split
    · have h1 := Nat.div_mul_le_self x.toNat (2 ^ (8 - l.toNat))
      rw [UInt8.toNat_ofNat']
      omega
    · exact Nat.le_refl _
theorem cut_cmp {b : Pfx} {k : Int} (h : cutOk b k) : cmpP (cutOf b k) b ≤ 0 := by
  rw [cmp_le]
  have hm : Lib.compareBytes (cutOf b k).addr b.addr ≤ 0 := cb_below _ _ fun i x => maskB_le _ _
  have hl : (cutOf b k).len ≤ b.len := h.2.2
  refine .inr ⟨rfl, .inr ⟨rfl, ?_⟩⟩
  omega
theorem cov_cut {b : Pfx} {k : Int} (h : cutOk b k) : Cov (cutOf b k) b := ⟨h.1, h.2.1, h.2.2, rfl⟩
theorem cov_self {b : Pfx} (h : MayP b) : Cov b b := ⟨h, h.1.2.2.1, Int.le_refl _, Pfx.eq rfl rfl h.2 rfl⟩
theorem cut_cut (b : Pfx) (k n : Int) (h : n ≤ k) : cutOf (cutOf b k) n = cutOf b n := by
  refine Pfx.eq rfl rfl ?_ rfl
  show maskS (maskS b.addr k) n = maskS b.addr n
  rw [mask_mask, Int.min_eq_right h]
theorem cov_two {a b : Pfx} {k : Int} (h : cutOk b k) (hc : Cov a b) : Cov a (cutOf b k) ∨ Cov (cutOf b k) a := by
  rcases Int.le_total a.len k with hl | hl
  · exact .inl ⟨cut_may h, hc.2.1, hl, by rw [cut_cut b k a.len hl]; exact hc.2.2.2⟩
  · right
    refine ⟨(Cov.iff.1 hc).1, h.2.1, hl, ?_⟩
    show cutOf a k = cutOf b k
    rw [← hc.2.2.2]
    exact cut_cut b _ k hl
theorem cov_anti {a b : Pfx} (h1 : Cov a b) (h2 : Cov b a) : a = b := by
  have hl : a.len = b.len := Int.le_antisymm h1.2.2.1 h2.2.2.1
  rw [← h1.2.2.2, hl]
  exact Pfx.eq rfl rfl h1.1.2 rfl
theorem cov_up {a b : Pfx} {k : Int} (h : cutOk b k) (hc : Cov a (cutOf b k)) : Cov a b := by
  have hl : a.len ≤ k := hc.2.2.1
  exact ⟨h.1, hc.2.1, Int.le_trans hl h.2.2, by rw [← cut_cut b k a.len hl]; exact hc.2.2.2⟩
theorem cut_bit {b : Pfx} {k : Int} {i : Nat} (h : (i : Int) < k) : bitZ (cutOf b k).addr i = bitZ b.addr i := by
  unfold bitZ
  rw [if_neg (by omega), if_neg (by omega), Int.toNat_natCast]
  show bitN (maskS b.addr k) i = _
  rcases Nat.lt_or_ge i (8 * b.addr.length) with hlt | hge
  · rw [mask_bit _ _ _ hlt, decide_eq_true h]; rfl
  · rw [bitN_out _ _ hge, bitN_out _ _ (by rw [maskS_len]; exact hge)]
end Go.Proofs.YtbobpaailmbndaaDoor
