/- Walks: the order of two prefixes: prim.Cmp. -/
import Derived.Test.YtbobpaailmbndaaDoorP17
import Derived.Test.YtbobpaailmbndaaDoorShelf
namespace Go.Proofs.YtbobpaailmbndaaDoor
open Go.RowKit Go.Sort
set_option linter.unusedVariables false

theorem cmpStr_any (x y : List UInt8) (w : World) : Calls Tryd.prog 54 #[.string ⟨x.toArray⟩, .string ⟨y.toArray⟩] w fun e w' => e = .returned (.int .i64 (Lib.compareBytes x y)) ∧ w = w' :=
  (Tryd.strings_Compare ⟨x.toArray⟩ ⟨y.toArray⟩ w).mono fun e w' h => ⟨by rw [h.1], h.2.symm⟩
theorem Cmp1_any (a b : Pfx) (w : World) : Calls Tryd.prog 49 #[valP a, valP b] w fun e w' => e = .returned (.int .i64 (Lib.compareInt a.fam b.fam)) ∧ Ext w w' := by
  unfold valP
  go_enter Tryd.func49, Tryd.ntmps49
  go_wp2_with fail
  refine (cmpInt_any _ _ _).mono ?_
  rintro e w1 ⟨rfl, rfl⟩
  go_wp2
  go_ret
  exact ⟨rfl, ((Ext.refl _).alloc _).alloc _⟩
theorem Cmp2_any (a b : Pfx) (w : World) : Calls Tryd.prog 51 #[valP a, valP b] w fun e w' => e = .returned (.int .i64 (Lib.compareInt (a.rd : Int) (b.rd : Int))) ∧ Ext w w' := by
  unfold valP
  go_enter Tryd.func51, Tryd.ntmps51
  go_wp2_with fail
  refine (cmpU64_any _ _ _).mono ?_
  rintro e w1 ⟨rfl, rfl⟩
  go_wp2
  go_ret
  exact ⟨rfl, ((Ext.refl _).alloc _).alloc _⟩
theorem Cmp3_any (a b : Pfx) (w : World) : Calls Tryd.prog 53 #[valP a, valP b] w fun e w' => e = .returned (.int .i64 (Lib.compareBytes a.addr b.addr)) ∧ Ext w w' := by
  unfold valP
  go_enter Tryd.func53, Tryd.ntmps53
  go_wp2_with fail
  refine (cmpStr_any _ _ _).mono ?_
  rintro e w1 ⟨rfl, rfl⟩
  go_wp2
  go_ret
  exact ⟨rfl, ((Ext.refl _).alloc _).alloc _⟩
theorem Cmp4_any (a b : Pfx) (w : World) : Calls Tryd.prog 55 #[valP a, valP b] w fun e w' => e = .returned (.int .i64 (Lib.compareInt a.len b.len)) ∧ Ext w w' := by
  unfold valP
  go_enter Tryd.func55, Tryd.ntmps55
  go_wp2_with fail
  refine (cmpInt_any _ _ _).mono ?_
  rintro e w1 ⟨rfl, rfl⟩
  go_wp2
  go_ret
  exact ⟨rfl, ((Ext.refl _).alloc _).alloc _⟩

/-- The four comparisons. -/
def cmpN (a b : Pfx) (k : Nat) : Int := if k = 0 then Lib.compareInt a.fam b.fam else if k = 1 then Lib.compareInt (a.rd : Int) (b.rd : Int) else if k = 2 then Lib.compareBytes a.addr b.addr else Lib.compareInt a.len b.len
theorem cmpN_ret (a b : Pfx) (k : Nat) (hk : k < 4) (h : ∀ i, i < k → cmpN a b i = 0) (hn : cmpN a b k ≠ 0) : cmpP a b = cmpN a b k := by
  have h0 : 0 < k → a.fam = b.fam := fun hp => (ci_zero _ _).1 (h 0 hp)
  have h1 : 1 < k → a.rd = b.rd := fun hp => by have := (ci_zero _ _).1 (h 1 hp); omega
  have h2 : 2 < k → Lib.compareBytes a.addr b.addr = 0 := fun hp => h 2 hp
  unfold cmpP
  rcases (show k = 0 ∨ k = 1 ∨ k = 2 ∨ k = 3 by omega) with rfl | rfl | rfl | rfl
  · have : a.fam ≠ b.fam := fun he => hn ((ci_zero _ _).2 he)
    rw [if_pos this]; rfl
  · have e0 := h0 (by omega)
    have : a.rd ≠ b.rd := fun he => hn ((ci_zero _ _).2 (by rw [he]))
    rw [if_neg (by simp [e0]), if_pos this]; rfl
  · have e0 := h0 (by omega)
    have e1 := h1 (by omega)
    rw [if_neg (by simp [e0]), if_neg (by simp [e1]), if_pos (show Lib.compareBytes a.addr b.addr ≠ 0 from hn)]; rfl
  · have e0 := h0 (by omega)
    have e1 := h1 (by omega)
    have e2 := h2 (by omega)
    rw [if_neg (by simp [e0]), if_neg (by simp [e1]), if_neg (by simp [e2])]; rfl
theorem cmpN_end (a b : Pfx) (h : ∀ i, i < 4 → cmpN a b i = 0) : cmpP a b = 0 := by
  have e0 : a.fam = b.fam := (ci_zero _ _).1 (h 0 (by omega))
  have e1 : a.rd = b.rd := by have := (ci_zero _ _).1 (h 1 (by omega)); omega
  have e2 : Lib.compareBytes a.addr b.addr = 0 := h 2 (by omega)
  have e3 : Lib.compareInt a.len b.len = 0 := h 3 (by omega)
  unfold cmpP
  rw [if_neg (by simp [e0]), if_neg (by simp [e1]), if_neg (by simp [e2]), e3]

set_option maxRecDepth 20000 in
set_option maxHeartbeats 2000000 in
theorem First_any (a b : Pfx) (g : Nat) (w : World) (hB : Blk w g 39 #[.func (.func 49) #[] #[], .func (.func 51) #[] #[], .func (.func 53) #[] #[], .func (.func 55) #[] #[]]) :
    Calls Tryd.prog 48 #[valP a, valP b, .slice (some ⟨g, 0, none⟩) 4 4] w fun e w' => e = .returned (.int .i64 (cmpP a b)) ∧ Ext w w' := by
  have hret := hide (cmpN_ret a b)
  have hend := hide (cmpN_end a b)
  have hc1 := fun W => Cmp1_any a b W
  have hc2 := fun W => Cmp2_any a b W
  have hc3 := fun W => Cmp3_any a b W
  have hc4 := fun W => Cmp4_any a b W
  simp only [valP] at hc1 hc2 hc3 hc4 ⊢
  replace hc1 := hide hc1
  replace hc2 := hide hc2
  replace hc3 := hide hc3
  replace hc4 := hide hc4
  replace hB := hide hB
  go_enter Tryd.func48, Tryd.ntmps48
  go_wp2_with fail
  go_loopw [12] (fun q wr => ∃ k : Nat, k ≤ 4 ∧ q = .int .i64 k ∧ Hid (∀ i : Nat, i < k → cmpN a b i = 0) ∧ Ext ((w.alloc (Obj.cells #[.int .i64 a.fam, .int .u64 (a.rd : Int), .string ⟨a.addr.toArray⟩, .int .i64 a.len] 24)).alloc (Obj.cells #[.int .i64 b.fam, .int .u64 (b.rd : Int), .string ⟨b.addr.toArray⟩, .int .i64 b.len] 24)) wr) (fun q _ => 4 - (intOf q).toNat)
  case atStart => exact ⟨0, by omega, rfl, (fun i h => absurd h (Nat.not_lt_zero i)), Ext.refl _⟩
  case round =>
    obtain ⟨k, hk, rfl, hz, hE⟩ := hrel
    have hB2 := ((hB.out.alloc (Obj.cells #[.int .i64 a.fam, .int .u64 (a.rd : Int), .string ⟨a.addr.toArray⟩, .int .i64 a.len] 24)).alloc (Obj.cells #[.int .i64 b.fam, .int .u64 (b.rd : Int), .string ⟨b.addr.toArray⟩, .int .i64 b.len] 24)).ext hE
    have hA1 := ((Blk.new w 24 #[.int .i64 a.fam, .int .u64 (a.rd : Int), .string ⟨a.addr.toArray⟩, .int .i64 a.len]).alloc (Obj.cells #[.int .i64 b.fam, .int .u64 (b.rd : Int), .string ⟨b.addr.toArray⟩, .int .i64 b.len] 24)).ext hE
    have hA2 := (Blk.new (w.alloc (Obj.cells #[.int .i64 a.fam, .int .u64 (a.rd : Int), .string ⟨a.addr.toArray⟩, .int .i64 a.len] 24)) 24 #[.int .i64 b.fam, .int .u64 (b.rd : Int), .string ⟨b.addr.toArray⟩, .int .i64 b.len]).ext hE
    rw [show (w.alloc (Obj.cells #[.int .i64 a.fam, .int .u64 (a.rd : Int), .string ⟨a.addr.toArray⟩, .int .i64 a.len] 24)).heap.size = w.heap.size + 1 by simp] at hA2
    have u0 : wr.cell? ⟨w.heap.size, 0, none⟩ = some (.int .i64 a.fam) := hA1.cell 0
    have u1 : wr.cell? ⟨w.heap.size, 1, none⟩ = some (.int .u64 (a.rd : Int)) := hA1.cell 1
    have u2 : wr.cell? ⟨w.heap.size, 2, none⟩ = some (.string ⟨a.addr.toArray⟩) := hA1.cell 2
    have u3 : wr.cell? ⟨w.heap.size, 3, none⟩ = some (.int .i64 a.len) := hA1.cell 3
    have v0 : wr.cell? ⟨w.heap.size + 1, 0, none⟩ = some (.int .i64 b.fam) := hA2.cell 0
    have v1 : wr.cell? ⟨w.heap.size + 1, 1, none⟩ = some (.int .u64 (b.rd : Int)) := hA2.cell 1
    have v2 : wr.cell? ⟨w.heap.size + 1, 2, none⟩ = some (.string ⟨b.addr.toArray⟩) := hA2.cell 2
    have v3 : wr.cell? ⟨w.heap.size + 1, 3, none⟩ = some (.int .i64 b.len) := hA2.cell 3
    have hEw : Ext w wr := (((Ext.refl w).alloc _).alloc _).trans hE
    replace hEw := hide hEw
    replace hA1 := hide hA1
    replace hA2 := hide hA2
    have x0 : wr.cell? ⟨g, 0, none⟩ = some (.func (.func 49) #[] #[]) := hB2.cell 0
    have x1 : wr.cell? ⟨g, 1, none⟩ = some (.func (.func 51) #[] #[]) := hB2.cell 1
    have x2 : wr.cell? ⟨g, 2, none⟩ = some (.func (.func 53) #[] #[]) := hB2.cell 2
    have x3 : wr.cell? ⟨g, 3, none⟩ = some (.func (.func 55) #[] #[]) := hB2.cell 3
    replace hB2 := hide hB2
    replace hE := hide hE
    rcases (show k = 0 ∨ k = 1 ∨ k = 2 ∨ k = 3 ∨ k = 4 by omega) with rfl | rfl | rfl | rfl | rfl
    · by_cases hn : Lib.compareInt a.fam b.fam = 0
      · have hnx : ∀ i : Nat, i < 0 + 1 → cmpN a b i = 0 := fun i h => by rcases Nat.lt_succ_iff_lt_or_eq.1 h with h | rfl; exact hz.out i h; exact hn
        have hc := hc1.out wr
        rw [hn] at hc
        replace hc := hide hc
        replace hnx := hide hnx
        replace hn := hide hn
        go_wp2_with fail
        refine hc.out.mono ?_
        rintro e w5 ⟨rfl, he5⟩
        replace he5 := hide he5
        go_wp2
        go_roundw
        case rel => exact ⟨0 + 1, by omega, by go_num, hnx, hE.out.trans he5.out⟩
        case measure => simp [intOf]
      · have hr : cmpP a b = Lib.compareInt a.fam b.fam := hret.out 0 (by omega) hz.out hn
        have hc := hc1.out wr
        generalize Lib.compareInt a.fam b.fam = V at hc hn hr
        have hn2 : (V != 0) = true := bne_iff_ne.2 hn
        replace hc := hide hc
        replace hr := hide hr
        replace hn := hide hn
        go_wp2_with fail
        refine hc.out.mono ?_
        rintro e w5 ⟨rfl, he5⟩
        replace he5 := hide he5
        go_wp2
        go_ret
        exact ⟨by rw [hr.out]; rfl, hEw.out.trans he5.out⟩
    · by_cases hn : Lib.compareInt (a.rd : Int) (b.rd : Int) = 0
      · have hnx : ∀ i : Nat, i < 1 + 1 → cmpN a b i = 0 := fun i h => by rcases Nat.lt_succ_iff_lt_or_eq.1 h with h | rfl; exact hz.out i h; exact hn
        have hc := hc2.out wr
        rw [hn] at hc
        replace hc := hide hc
        replace hnx := hide hnx
        replace hn := hide hn
        go_wp2_with fail
        refine hc.out.mono ?_
        rintro e w5 ⟨rfl, he5⟩
        replace he5 := hide he5
        go_wp2
        go_roundw
        case rel => exact ⟨1 + 1, by omega, by go_num, hnx, hE.out.trans he5.out⟩
        case measure => simp [intOf]
      · have hr : cmpP a b = Lib.compareInt (a.rd : Int) (b.rd : Int) := hret.out 1 (by omega) hz.out hn
        have hc := hc2.out wr
        generalize Lib.compareInt (a.rd : Int) (b.rd : Int) = V at hc hn hr
        have hn2 : (V != 0) = true := bne_iff_ne.2 hn
        replace hc := hide hc
        replace hr := hide hr
        replace hn := hide hn
        go_wp2_with fail
        refine hc.out.mono ?_
        rintro e w5 ⟨rfl, he5⟩
        replace he5 := hide he5
        go_wp2
        go_ret
        exact ⟨by rw [hr.out]; rfl, hEw.out.trans he5.out⟩
    · by_cases hn : Lib.compareBytes a.addr b.addr = 0
      · have hnx : ∀ i : Nat, i < 2 + 1 → cmpN a b i = 0 := fun i h => by rcases Nat.lt_succ_iff_lt_or_eq.1 h with h | rfl; exact hz.out i h; exact hn
        have hc := hc3.out wr
        rw [hn] at hc
        replace hc := hide hc
        replace hnx := hide hnx
        replace hn := hide hn
        go_wp2_with fail
        refine hc.out.mono ?_
        rintro e w5 ⟨rfl, he5⟩
        replace he5 := hide he5
        go_wp2
        go_roundw
        case rel => exact ⟨2 + 1, by omega, by go_num, hnx, hE.out.trans he5.out⟩
        case measure => simp [intOf]
      · have hr : cmpP a b = Lib.compareBytes a.addr b.addr := hret.out 2 (by omega) hz.out hn
        have hc := hc3.out wr
        generalize Lib.compareBytes a.addr b.addr = V at hc hn hr
        have hn2 : (V != 0) = true := bne_iff_ne.2 hn
        replace hc := hide hc
        replace hr := hide hr
        replace hn := hide hn
        go_wp2_with fail
        refine hc.out.mono ?_
        rintro e w5 ⟨rfl, he5⟩
        replace he5 := hide he5
        go_wp2
        go_ret
        exact ⟨by rw [hr.out]; rfl, hEw.out.trans he5.out⟩
    · by_cases hn : Lib.compareInt a.len b.len = 0
      · have hnx : ∀ i : Nat, i < 3 + 1 → cmpN a b i = 0 := fun i h => by rcases Nat.lt_succ_iff_lt_or_eq.1 h with h | rfl; exact hz.out i h; exact hn
        have hc := hc4.out wr
        rw [hn] at hc
        replace hc := hide hc
        replace hnx := hide hnx
        replace hn := hide hn
        go_wp2_with fail
        refine hc.out.mono ?_
        rintro e w5 ⟨rfl, he5⟩
        replace he5 := hide he5
        go_wp2
        go_roundw
        case rel => exact ⟨3 + 1, by omega, by go_num, hnx, hE.out.trans he5.out⟩
        case measure => simp [intOf]
      · have hr : cmpP a b = Lib.compareInt a.len b.len := hret.out 3 (by omega) hz.out hn
        have hc := hc4.out wr
        generalize Lib.compareInt a.len b.len = V at hc hn hr
        have hn2 : (V != 0) = true := bne_iff_ne.2 hn
        replace hc := hide hc
        replace hr := hide hr
        replace hn := hide hn
        go_wp2_with fail
        refine hc.out.mono ?_
        rintro e w5 ⟨rfl, he5⟩
        replace he5 := hide he5
        go_wp2
        go_ret
        exact ⟨by rw [hr.out]; rfl, hEw.out.trans he5.out⟩
    · have hr : cmpP a b = 0 := hend.out hz.out
      replace hr := hide hr
      go_wp2
      go_ret
      exact ⟨by rw [hr.out]; rfl, hEw.out⟩

set_option maxRecDepth 20000 in
set_option maxHeartbeats 1000000 in
theorem ACmp_any (a b : Pfx) (w : World) : Calls Tryd.prog 22 #[valP a, valP b] w fun e w' => e = .returned (.int .i64 (cmpP a b)) ∧ Ext w w' := by
  have hf := First_any a b
  simp only [valP] at hf ⊢
  replace hf := hide hf
  go_enter Tryd.func22, Tryd.ntmps22
  go_wp2_with fail
  have hB := Blk.new ((w.alloc (Obj.cells #[.int .i64 a.fam, .int .u64 (a.rd : Int), .string ⟨a.addr.toArray⟩, .int .i64 a.len] 24)).alloc (Obj.cells #[.int .i64 b.fam, .int .u64 (b.rd : Int), .string ⟨b.addr.toArray⟩, .int .i64 b.len] 24)) 39 #[.func (.func 49) #[] #[], .func (.func 51) #[] #[], .func (.func 53) #[] #[], .func (.func 55) #[] #[]]
  rw [show ((w.alloc (Obj.cells #[.int .i64 a.fam, .int .u64 (a.rd : Int), .string ⟨a.addr.toArray⟩, .int .i64 a.len] 24)).alloc (Obj.cells #[.int .i64 b.fam, .int .u64 (b.rd : Int), .string ⟨b.addr.toArray⟩, .int .i64 b.len] 24)).heap.size = w.heap.size + 1 + 1 by simp] at hB
  refine (hf.out _ _ hB).mono ?_
  rintro e w1 ⟨rfl, he1⟩
  have hE1 : Ext w w1 := ((((Ext.refl w).alloc _).alloc _).alloc _).trans he1
  clear he1 hB
  replace hE1 := hide hE1
  go_wp2
  go_ret
  exact ⟨rfl, hE1.out⟩
end Go.Proofs.YtbobpaailmbndaaDoor
