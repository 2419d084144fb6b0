/- Walks: may a prefix be: the document's, addresses of 4 bytes. Walks: may a prefix be: the document's, addresses of 16 bytes. -/
import Derived.Test.YtljibkfbldjgdaaGreatDoorP4
namespace Go.Proofs.YtljibkfbldjgdaaGreatDoor
open Go.RowKit Go.Sort
set_option linter.unusedVariables false

set_option maxRecDepth 20000 in
set_option maxHeartbeats 4000000 in
theorem RMay_4 (f R : Int) (rd : Nat) (hR : R = (rd : Int)) (a : List UInt8) (l : Int) (w : World) (hal : a.length ≤ 1048576) (hS : sizeS f = 4) :
    Calls Tryz.prog 152 #[.agg #[.int .i64 f, .int .u64 R, .string ⟨a.toArray⟩, .int .i64 l]] w fun e w' => e = .returned (.bool (mayB ⟨f, rd, a, l⟩)) ∧ Ext w w' := by
  have mixed : Tryz.prog.follows Departure.mixedOrders = true := by kernel_rfl
  have hz : (ByteArray.mk a.toArray).size = a.length := by simp [ByteArray.size]
  have gw : IntKind.i64.wrap 32 = 32 := by decide
  replace hS := hide hS
  replace hR := hide hR
  by_cases h1 : (a.length : Int) ≠ 4
  · have he : mayB ⟨f, rd, a, l⟩ = false := decide_eq_false (fun h => h1 (h.1.2.1.trans hS.out))
    rw [he]
    have b1 : ((a.length : Int) != 4) = true := by simpa using h1
    replace he := hide he
    replace h1 := hide h1
    go_enter Tryz.func152, Tryz.ntmps152
    go_wp2_with fail
    refine (RSize_any _ _).mono ?_
    rw [hS.out]
    rintro e w1 ⟨rfl, rfl⟩
    go_wp2_with fail
    go_ret
    exact ⟨rfl, (Ext.refl _).alloc _⟩
  have b1 : ((a.length : Int) != 4) = false := by simpa using h1
  by_cases h2 : l < 0
  · have he : mayB ⟨f, rd, a, l⟩ = false := decide_eq_false (fun h => by have : 0 ≤ l := h.1.2.2.1; omega)
    rw [he]
    replace he := hide he
    replace h1 := hide h1
    go_enter Tryz.func152, Tryz.ntmps152
    go_wp2_with fail
    refine (RSize_any _ _).mono ?_
    rw [hS.out]
    rintro e w1 ⟨rfl, rfl⟩
    go_wp2_with fail
    go_ret
    exact ⟨rfl, (Ext.refl _).alloc _⟩
  have b2 : decide (l < 0) = false := by simpa using h2
  by_cases h3 : (32 : Int) < l
  · have he : mayB ⟨f, rd, a, l⟩ = false := decide_eq_false (fun h => by have h4 : l ≤ 8 * sizeS f := h.1.2.2.2.1; rw [hS.out] at h4; omega)
    rw [he]
    have b3 : decide ((32 : Int) < l) = true := by simpa using h3
    replace he := hide he
    replace h1 := hide h1
    go_enter Tryz.func152, Tryz.ntmps152
    go_wp2_with fail
    refine (RSize_any _ _).mono ?_
    rw [hS.out]
    rintro e w1 ⟨rfl, rfl⟩
    go_wp2_with fail
    go_ret
    exact ⟨rfl, (Ext.refl _).alloc _⟩
  have b3 : decide ((32 : Int) < l) = false := by simpa using h3
  by_cases h4 : rd ≠ 0 ∧ apartS f = false
  · have he : mayB ⟨f, rd, a, l⟩ = false := decide_eq_false (fun h => by rcases (h.1.2.2.2.2 : rd = 0 ∨ apartS f = true) with h5 | h5; exact h4.1 h5; rw [h4.2] at h5; cases h5)
    rw [he]
    have b4 : (R != 0) = true := by have := hR.out; have := h4.1; simp; omega
    have hap := h4.2
    replace he := hide he
    replace h1 := hide h1
    replace h4 := hide h4
    go_enter Tryz.func152, Tryz.ntmps152
    go_wp2_with fail
    refine (RSize_any _ _).mono ?_
    rw [hS.out]
    rintro e w1 ⟨rfl, rfl⟩
    go_wp2_with fail
    refine (RApart_any _ _).mono ?_
    rw [hap]
    rintro e w1 ⟨rfl, rfl⟩
    go_wp2
    go_ret
    exact ⟨rfl, (Ext.refl _).alloc _⟩
  have h9 : rd = 0 ∨ apartS f = true := by
    by_cases h5 : rd = 0
    · exact .inl h5
    · exact .inr (by cases hh : apartS f with | true => rfl | false => exact absurd ⟨h5, hh⟩ h4)
  have hform : formP ⟨f, rd, a, l⟩ := ⟨by rw [hS.out]; decide, by rw [hS.out]; simpa using h1, by show 0 ≤ l; omega, by rw [hS.out]; show l ≤ _; omega, h9⟩
  have hbits := MayP.bits hform
  rw [show sizeS (Pfx.fam ⟨f, rd, a, l⟩) = 4 from hS.out] at hbits
  obtain ⟨l, rfl⟩ : ∃ n : Nat, l = n := ⟨l.toNat, by omega⟩
  have hl : l ≤ 32 := by omega
  have ha4 : a.length = 4 := by omega
  have hMt : (∀ i : Nat, l ≤ i → i < 32 → bitN a i = false) → mayB ⟨f, rd, a, l⟩ = true := fun h => decide_eq_true (hbits.2 fun i h1 h2 => h i (by have : (l : Int) ≤ i := h1; omega) (by omega))
  have hMf : ∀ k : Nat, l ≤ k → k < 32 → bitN a k = true → mayB ⟨f, rd, a, l⟩ = false := fun k h1 h2 h3 => decide_eq_false (fun h => by have := hbits.1 h k (by show (l : Int) ≤ k; omega) (by omega); rw [h3] at this; cases this)
  generalize mayB ⟨f, rd, a, l⟩ = M at hMt hMf ⊢
  clear h1 h2 h3 h4 hbits hform
  replace hMt := hide hMt
  replace hMf := hide hMf
  by_cases h5 : rd = 0
  · obtain rfl : R = 0 := by rw [hR.out, h5]; rfl
    replace h5 := hide h5
    replace h9 := hide h9
    go_enter Tryz.func152, Tryz.ntmps152
    go_wp2_with fail
    refine (RSize_any _ _).mono ?_
    rw [hS.out]
    rintro e w1 ⟨rfl, rfl⟩
    go_wp2_with fail
    go_loopw [4] (fun q wr => ∃ k : Nat, l ≤ k ∧ k ≤ 32 ∧ q = .int .i64 k ∧ Hid (∀ i : Nat, l ≤ i → i < k → bitN a i = false) ∧ Ext (w.alloc (.cells #[.int .i64 f, .int .u64 0, .string ⟨a.toArray⟩, .int .i64 l] 70)) wr) (fun q _ => 32 - (intOf q).toNat)
    case atStart => exact ⟨l, Nat.le_refl _, hl, rfl, (fun i h1 h2 => by omega), Ext.refl _⟩
    case round =>
      obtain ⟨k, hlk, hk, rfl, hz0, hE⟩ := hrel
      have c2 := hE.cell ((Blk.new w 70 #[.int .i64 f, .int .u64 0, .string ⟨a.toArray⟩, .int .i64 l]).cell 2)
      have c2' : wr.cell? ⟨w.heap.size, 2, none⟩ = some (.string ⟨a.toArray⟩) := c2
      clear c2
      replace hE := hide hE
      by_cases hlt : k < 32
      · have hb := RBit_any a k wr (by omega) (by omega) (by omega)
        have hbz : bitZ a k = bitN a k := by unfold bitZ; rw [if_neg (by omega)]; rfl
        rw [hbz] at hb
        clear hbz
        cases hbk : bitN a k with
        | true =>
          rw [hbk] at hb
          have hmay := hMf.out k hlk hlt hbk
          replace hb := hide hb
          replace hbk := hide hbk
          replace hmay := hide hmay
          go_wp2_with fail
          refine hb.out.mono ?_
          rintro e w5 ⟨rfl, rfl⟩
          go_wp2
          go_ret
          exact ⟨by rw [hmay.out]; rfl, ((Ext.refl _).alloc _).trans hE.out⟩
        | false =>
          rw [hbk] at hb
          replace hb := hide hb
          replace hbk := hide hbk
          go_wp2_with fail
          refine hb.out.mono ?_
          rintro e w5 ⟨rfl, rfl⟩
          go_wp2
          go_roundw
          case rel => exact ⟨k + 1, by omega, by omega, by go_num, (fun i h1 h2 => by rcases Nat.lt_succ_iff_lt_or_eq.1 h2 with h | rfl; exact hz0.out i h1 h; exact hbk.out), hE.out⟩
          case measure => simp [intOf]; omega
      · obtain rfl : k = 32 := by omega
        have hmay := hMt.out hz0.out
        replace hmay := hide hmay
        go_wp2
        go_ret
        exact ⟨by rw [hmay.out]; rfl, ((Ext.refl _).alloc _).trans hE.out⟩
  · have b4 : (R != 0) = true := by have := hR.out; simp; omega
    have hap : apartS f = true := by rcases h9 with h | h; exact absurd h h5; exact h
    replace h5 := hide h5
    replace h9 := hide h9
    go_enter Tryz.func152, Tryz.ntmps152
    go_wp2_with fail
    refine (RSize_any _ _).mono ?_
    rw [hS.out]
    rintro e w1 ⟨rfl, rfl⟩
    go_wp2_with fail
    refine (RApart_any _ _).mono ?_
    rw [hap]
    rintro e w1 ⟨rfl, rfl⟩
    go_wp2_with fail
    go_loopw [4] (fun q wr => ∃ k : Nat, l ≤ k ∧ k ≤ 32 ∧ q = .int .i64 k ∧ Hid (∀ i : Nat, l ≤ i → i < k → bitN a i = false) ∧ Ext (w.alloc (.cells #[.int .i64 f, .int .u64 R, .string ⟨a.toArray⟩, .int .i64 l] 70)) wr) (fun q _ => 32 - (intOf q).toNat)
    case atStart => exact ⟨l, Nat.le_refl _, hl, rfl, (fun i h1 h2 => by omega), Ext.refl _⟩
    case round =>
      obtain ⟨k, hlk, hk, rfl, hz0, hE⟩ := hrel
      have c2 := hE.cell ((Blk.new w 70 #[.int .i64 f, .int .u64 R, .string ⟨a.toArray⟩, .int .i64 l]).cell 2)
      have c2' : wr.cell? ⟨w.heap.size, 2, none⟩ = some (.string ⟨a.toArray⟩) := c2
      clear c2
      replace hE := hide hE
      by_cases hlt : k < 32
      · have hb := RBit_any a k wr (by omega) (by omega) (by omega)
        have hbz : bitZ a k = bitN a k := by unfold bitZ; rw [if_neg (by omega)]; rfl
        rw [hbz] at hb
        clear hbz
        cases hbk : bitN a k with
        | true =>
          rw [hbk] at hb
          have hmay := hMf.out k hlk hlt hbk
          replace hb := hide hb
          replace hbk := hide hbk
          replace hmay := hide hmay
          go_wp2_with fail
          refine hb.out.mono ?_
          rintro e w5 ⟨rfl, rfl⟩
          go_wp2
          go_ret
          exact ⟨by rw [hmay.out]; rfl, ((Ext.refl _).alloc _).trans hE.out⟩
        | false =>
          rw [hbk] at hb
          replace hb := hide hb
          replace hbk := hide hbk
          go_wp2_with fail
          refine hb.out.mono ?_
          rintro e w5 ⟨rfl, rfl⟩
          go_wp2
          go_roundw
          case rel => exact ⟨k + 1, by omega, by omega, by go_num, (fun i h1 h2 => by rcases Nat.lt_succ_iff_lt_or_eq.1 h2 with h | rfl; exact hz0.out i h1 h; exact hbk.out), hE.out⟩
          case measure => simp [intOf]; omega
      · obtain rfl : k = 32 := by omega
        have hmay := hMt.out hz0.out
        replace hmay := hide hmay
        go_wp2
        go_ret
        exact ⟨by rw [hmay.out]; rfl, ((Ext.refl _).alloc _).trans hE.out⟩
open Go.RowKit Go.Sort

set_option maxRecDepth 20000 in
set_option maxHeartbeats 4000000 in
theorem RMay_16 (f R : Int) (rd : Nat) (hR : R = (rd : Int)) (a : List UInt8) (l : Int) (w : World) (hal : a.length ≤ 1048576) (hS : sizeS f = 16) :
    Calls Tryz.prog 152 #[.agg #[.int .i64 f, .int .u64 R, .string ⟨a.toArray⟩, .int .i64 l]] w fun e w' => e = .returned (.bool (mayB ⟨f, rd, a, l⟩)) ∧ Ext w w' := by
  have mixed : Tryz.prog.follows Departure.mixedOrders = true := by kernel_rfl
  have hz : (ByteArray.mk a.toArray).size = a.length := by simp [ByteArray.size]
  have gw : IntKind.i64.wrap 128 = 128 := by decide
  replace hS := hide hS
  replace hR := hide hR
  by_cases h1 : (a.length : Int) ≠ 16
  · have he : mayB ⟨f, rd, a, l⟩ = false := decide_eq_false (fun h => h1 (h.1.2.1.trans hS.out))
    rw [he]
    have b1 : ((a.length : Int) != 16) = true := by simpa using h1
    replace he := hide he
    replace h1 := hide h1
    go_enter Tryz.func152, Tryz.ntmps152
    go_wp2_with fail
    refine (RSize_any _ _).mono ?_
    rw [hS.out]
    rintro e w1 ⟨rfl, rfl⟩
    go_wp2_with fail
    go_ret
    exact ⟨rfl, (Ext.refl _).alloc _⟩
  have b1 : ((a.length : Int) != 16) = false := by simpa using h1
  by_cases h2 : l < 0
  · have he : mayB ⟨f, rd, a, l⟩ = false := decide_eq_false (fun h => by have : 0 ≤ l := h.1.2.2.1; omega)
    rw [he]
    replace he := hide he
    replace h1 := hide h1
    go_enter Tryz.func152, Tryz.ntmps152
    go_wp2_with fail
    refine (RSize_any _ _).mono ?_
    rw [hS.out]
    rintro e w1 ⟨rfl, rfl⟩
    go_wp2_with fail
    go_ret
    exact ⟨rfl, (Ext.refl _).alloc _⟩
  have b2 : decide (l < 0) = false := by simpa using h2
  by_cases h3 : (128 : Int) < l
  · have he : mayB ⟨f, rd, a, l⟩ = false := decide_eq_false (fun h => by have h4 : l ≤ 8 * sizeS f := h.1.2.2.2.1; rw [hS.out] at h4; omega)
    rw [he]
    have b3 : decide ((128 : Int) < l) = true := by simpa using h3
    replace he := hide he
    replace h1 := hide h1
    go_enter Tryz.func152, Tryz.ntmps152
    go_wp2_with fail
    refine (RSize_any _ _).mono ?_
    rw [hS.out]
    rintro e w1 ⟨rfl, rfl⟩
    go_wp2_with fail
    go_ret
    exact ⟨rfl, (Ext.refl _).alloc _⟩
  have b3 : decide ((128 : Int) < l) = false := by simpa using h3
  by_cases h4 : rd ≠ 0 ∧ apartS f = false
  · have he : mayB ⟨f, rd, a, l⟩ = false := decide_eq_false (fun h => by rcases (h.1.2.2.2.2 : rd = 0 ∨ apartS f = true) with h5 | h5; exact h4.1 h5; rw [h4.2] at h5; cases h5)
    rw [he]
    have b4 : (R != 0) = true := by have := hR.out; have := h4.1; simp; omega
    have hap := h4.2
    replace he := hide he
    replace h1 := hide h1
    replace h4 := hide h4
    go_enter Tryz.func152, Tryz.ntmps152
    go_wp2_with fail
    refine (RSize_any _ _).mono ?_
    rw [hS.out]
    rintro e w1 ⟨rfl, rfl⟩
    go_wp2_with fail
    refine (RApart_any _ _).mono ?_
    rw [hap]
    rintro e w1 ⟨rfl, rfl⟩
    go_wp2
    go_ret
    exact ⟨rfl, (Ext.refl _).alloc _⟩
  have h9 : rd = 0 ∨ apartS f = true := by
    by_cases h5 : rd = 0
    · exact .inl h5
    · exact .inr (by cases hh : apartS f with | true => rfl | false => exact absurd ⟨h5, hh⟩ h4)
  have hform : formP ⟨f, rd, a, l⟩ := ⟨by rw [hS.out]; decide, by rw [hS.out]; simpa using h1, by show 0 ≤ l; omega, by rw [hS.out]; show l ≤ _; omega, h9⟩
  have hbits := MayP.bits hform
  rw [show sizeS (Pfx.fam ⟨f, rd, a, l⟩) = 16 from hS.out] at hbits
  obtain ⟨l, rfl⟩ : ∃ n : Nat, l = n := ⟨l.toNat, by omega⟩
  have hl : l ≤ 128 := by omega
  have ha4 : a.length = 16 := by omega
  have hMt : (∀ i : Nat, l ≤ i → i < 128 → bitN a i = false) → mayB ⟨f, rd, a, l⟩ = true := fun h => decide_eq_true (hbits.2 fun i h1 h2 => h i (by have : (l : Int) ≤ i := h1; omega) (by omega))
  have hMf : ∀ k : Nat, l ≤ k → k < 128 → bitN a k = true → mayB ⟨f, rd, a, l⟩ = false := fun k h1 h2 h3 => decide_eq_false (fun h => by have := hbits.1 h k (by show (l : Int) ≤ k; omega) (by omega); rw [h3] at this; cases this)
  generalize mayB ⟨f, rd, a, l⟩ = M at hMt hMf ⊢
  clear h1 h2 h3 h4 hbits hform
  replace hMt := hide hMt
  replace hMf := hide hMf
  by_cases h5 : rd = 0
  · obtain rfl : R = 0 := by rw [hR.out, h5]; rfl
    replace h5 := hide h5
    replace h9 := hide h9
    go_enter Tryz.func152, Tryz.ntmps152
    go_wp2_with fail
    refine (RSize_any _ _).mono ?_
    rw [hS.out]
    rintro e w1 ⟨rfl, rfl⟩
    go_wp2_with fail
    go_loopw [4] (fun q wr => ∃ k : Nat, l ≤ k ∧ k ≤ 128 ∧ q = .int .i64 k ∧ Hid (∀ i : Nat, l ≤ i → i < k → bitN a i = false) ∧ Ext (w.alloc (.cells #[.int .i64 f, .int .u64 0, .string ⟨a.toArray⟩, .int .i64 l] 70)) wr) (fun q _ => 128 - (intOf q).toNat)
    case atStart => exact ⟨l, Nat.le_refl _, hl, rfl, (fun i h1 h2 => by omega), Ext.refl _⟩
    case round =>
      obtain ⟨k, hlk, hk, rfl, hz0, hE⟩ := hrel
      have c2 := hE.cell ((Blk.new w 70 #[.int .i64 f, .int .u64 0, .string ⟨a.toArray⟩, .int .i64 l]).cell 2)
      have c2' : wr.cell? ⟨w.heap.size, 2, none⟩ = some (.string ⟨a.toArray⟩) := c2
      clear c2
      replace hE := hide hE
      by_cases hlt : k < 128
      · have hb := RBit_any a k wr (by omega) (by omega) (by omega)
        have hbz : bitZ a k = bitN a k := by unfold bitZ; rw [if_neg (by omega)]; rfl
        rw [hbz] at hb
        clear hbz
        cases hbk : bitN a k with
        | true =>
          rw [hbk] at hb
          have hmay := hMf.out k hlk hlt hbk
          replace hb := hide hb
          replace hbk := hide hbk
          replace hmay := hide hmay
          go_wp2_with fail
          refine hb.out.mono ?_
          rintro e w5 ⟨rfl, rfl⟩
          go_wp2
          go_ret
          exact ⟨by rw [hmay.out]; rfl, ((Ext.refl _).alloc _).trans hE.out⟩
        | false =>
          rw [hbk] at hb
          replace hb := hide hb
          replace hbk := hide hbk
          go_wp2_with fail
          refine hb.out.mono ?_
          rintro e w5 ⟨rfl, rfl⟩
          go_wp2
          go_roundw
          case rel => exact ⟨k + 1, by omega, by omega, by go_num, (fun i h1 h2 => by rcases Nat.lt_succ_iff_lt_or_eq.1 h2 with h | rfl; exact hz0.out i h1 h; exact hbk.out), hE.out⟩
          case measure => simp [intOf]; omega
      · obtain rfl : k = 128 := by omega
        have hmay := hMt.out hz0.out
        replace hmay := hide hmay
        go_wp2
        go_ret
        exact ⟨by rw [hmay.out]; rfl, ((Ext.refl _).alloc _).trans hE.out⟩
  · have b4 : (R != 0) = true := by have := hR.out; simp; omega
    have hap : apartS f = true := by rcases h9 with h | h; exact absurd h h5; exact h
    replace h5 := hide h5
    replace h9 := hide h9
    go_enter Tryz.func152, Tryz.ntmps152
    go_wp2_with fail
    refine (RSize_any _ _).mono ?_
    rw [hS.out]
    rintro e w1 ⟨rfl, rfl⟩
    go_wp2_with fail
    refine (RApart_any _ _).mono ?_
    rw [hap]
    rintro e w1 ⟨rfl, rfl⟩
    go_wp2_with fail
    go_loopw [4] (fun q wr => ∃ k : Nat, l ≤ k ∧ k ≤ 128 ∧ q = .int .i64 k ∧ Hid (∀ i : Nat, l ≤ i → i < k → bitN a i = false) ∧ Ext (w.alloc (.cells #[.int .i64 f, .int .u64 R, .string ⟨a.toArray⟩, .int .i64 l] 70)) wr) (fun q _ => 128 - (intOf q).toNat)
    case atStart => exact ⟨l, Nat.le_refl _, hl, rfl, (fun i h1 h2 => by omega), Ext.refl _⟩
    case round =>
      obtain ⟨k, hlk, hk, rfl, hz0, hE⟩ := hrel
      have c2 := hE.cell ((Blk.new w 70 #[.int .i64 f, .int .u64 R, .string ⟨a.toArray⟩, .int .i64 l]).cell 2)
      have c2' : wr.cell? ⟨w.heap.size, 2, none⟩ = some (.string ⟨a.toArray⟩) := c2
      clear c2
      replace hE := hide hE
      by_cases hlt : k < 128
      · have hb := RBit_any a k wr (by omega) (by omega) (by omega)
        have hbz : bitZ a k = bitN a k := by unfold bitZ; rw [if_neg (by omega)]; rfl
        rw [hbz] at hb
        clear hbz
        cases hbk : bitN a k with
        | true =>
          rw [hbk] at hb
          have hmay := hMf.out k hlk hlt hbk
          replace hb := hide hb
          replace hbk := hide hbk
          replace hmay := hide hmay
          go_wp2_with fail
          refine hb.out.mono ?_
          rintro e w5 ⟨rfl, rfl⟩
          go_wp2
          go_ret
          exact ⟨by rw [hmay.out]; rfl, ((Ext.refl _).alloc _).trans hE.out⟩
        | false =>
          rw [hbk] at hb
          replace hb := hide hb
          replace hbk := hide hbk
          go_wp2_with fail
          refine hb.out.mono ?_
          rintro e w5 ⟨rfl, rfl⟩
          go_wp2
          go_roundw
          case rel => exact ⟨k + 1, by omega, by omega, by go_num, (fun i h1 h2 => by rcases Nat.lt_succ_iff_lt_or_eq.1 h2 with h | rfl; exact hz0.out i h1 h; exact hbk.out), hE.out⟩
          case measure => simp [intOf]; omega
      · obtain rfl : k = 128 := by omega
        have hmay := hMt.out hz0.out
        replace hmay := hide hmay
        go_wp2
        go_ret
        exact ⟨by rw [hmay.out]; rfl, ((Ext.refl _).alloc _).trans hE.out⟩
end Go.Proofs.YtljibkfbldjgdaaGreatDoor
