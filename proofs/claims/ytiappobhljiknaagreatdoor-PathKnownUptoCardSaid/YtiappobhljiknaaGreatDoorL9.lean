/- Closed: the chapter's examples of paths, walked statement by statement. Printed by genpk4.py. -/
import Derived.Test.YtiappobhljiknaaGreatDoorL6
import Derived.Test.YtiappobhljiknaaGreatDoorA17
import Derived.Test.YtiappobhljiknaaGreatDoorW12
import Derived.Test.YtiappobhljiknaaGreatDoorW13
import Derived.Test.YtiappobhljiknaaGreatDoorW15
import Derived.Test.YtiappobhljiknaaGreatDoorW22
import Derived.Laws.MakeOwn
import Derived.Deep.MidRow
namespace Go.Proofs.YtiappobhljiknaaGreatDoor
open Go.RowKit
set_option linter.unusedVariables false

def kWrong : List (List UInt8) := [[2, 1, 0, 0, 0, 0], [2, 0], [5, 1, 0, 0, 0, 1], [2, 2, 0, 0, 0, 1], [2]]
def kTexts : List (List UInt8) := [[], [60, 62], [60, 49, 62, 32], [60, 48, 49, 62], [60, 49, 62, 32, 32, 60, 50, 62], [49], [60, 49], [60, 48, 62], [60, 52, 50, 57, 52, 57, 54, 55, 50, 57, 54, 62], [60, 49, 125], [60, 32, 49, 62]]
theorem kWrong_no : ∀ s ∈ kWrong, decS s true = ([], 4) := by decide +kernel
theorem kTexts_no : ∀ s ∈ kTexts, parS s = ([], 4) := by
  intro s hs
  rw [parS_scan, if_neg]
  have : ∀ s ∈ kTexts, ¬ (chk (scan s).out = true ∧ textS (scan s).out = ⟨s.toArray⟩) := by decide +kernel
  exact this s hs
theorem path1 {w : World} {g : Nat} {t : TypeId} {k1 : Int} {l1 : List UInt32} {a1 : Option Addr} {c1 : Nat} (h : Blk w g t #[.int .i64 k1, .slice a1 l1.length c1]) (i1 : -9223372036854775808 ≤ k1 ∧ k1 ≤ 9223372036854775807) (n1 : l1.length ≤ 16777216) (s1 : Sl EU32 w (· < w.heap.size) a1 l1) : Path w (some ⟨g, 0, none⟩) [⟨k1, l1⟩] := by
  refine Path.blk _ h fun k x hx => ?_
  match k, hx with
  | 0, hx =>
    obtain rfl : (⟨k1, l1⟩ : Seg) = x := by simpa using hx
    exact ⟨i1, n1, _, _, rfl, rfl, s1⟩
theorem path2 {w : World} {g : Nat} {t : TypeId} {k1 k2 : Int} {l1 l2 : List UInt32} {a1 a2 : Option Addr} {c1 c2 : Nat} (h : Blk w g t #[.int .i64 k1, .slice a1 l1.length c1, .int .i64 k2, .slice a2 l2.length c2]) (i1 : -9223372036854775808 ≤ k1 ∧ k1 ≤ 9223372036854775807) (i2 : -9223372036854775808 ≤ k2 ∧ k2 ≤ 9223372036854775807) (n1 : l1.length ≤ 16777216) (n2 : l2.length ≤ 16777216) (s1 : Sl EU32 w (· < w.heap.size) a1 l1) (s2 : Sl EU32 w (· < w.heap.size) a2 l2) : Path w (some ⟨g, 0, none⟩) [⟨k1, l1⟩, ⟨k2, l2⟩] := by
  refine Path.blk _ h fun k x hx => ?_
  match k, hx with
  | 0, hx =>
    obtain rfl : (⟨k1, l1⟩ : Seg) = x := by simpa using hx
    exact ⟨i1, n1, _, _, rfl, rfl, s1⟩
  | 1, hx =>
    obtain rfl : (⟨k2, l2⟩ : Seg) = x := by simpa using hx
    exact ⟨i2, n2, _, _, rfl, rfl, s2⟩
theorem path3 {w : World} {g : Nat} {t : TypeId} {k1 k2 k3 : Int} {l1 l2 l3 : List UInt32} {a1 a2 a3 : Option Addr} {c1 c2 c3 : Nat} (h : Blk w g t #[.int .i64 k1, .slice a1 l1.length c1, .int .i64 k2, .slice a2 l2.length c2, .int .i64 k3, .slice a3 l3.length c3]) (i1 : -9223372036854775808 ≤ k1 ∧ k1 ≤ 9223372036854775807) (i2 : -9223372036854775808 ≤ k2 ∧ k2 ≤ 9223372036854775807) (i3 : -9223372036854775808 ≤ k3 ∧ k3 ≤ 9223372036854775807) (n1 : l1.length ≤ 16777216) (n2 : l2.length ≤ 16777216) (n3 : l3.length ≤ 16777216) (s1 : Sl EU32 w (· < w.heap.size) a1 l1) (s2 : Sl EU32 w (· < w.heap.size) a2 l2) (s3 : Sl EU32 w (· < w.heap.size) a3 l3) : Path w (some ⟨g, 0, none⟩) [⟨k1, l1⟩, ⟨k2, l2⟩, ⟨k3, l3⟩] := by
  refine Path.blk _ h fun k x hx => ?_
  match k, hx with
  | 0, hx =>
    obtain rfl : (⟨k1, l1⟩ : Seg) = x := by simpa using hx
    exact ⟨i1, n1, _, _, rfl, rfl, s1⟩
  | 1, hx =>
    obtain rfl : (⟨k2, l2⟩ : Seg) = x := by simpa using hx
    exact ⟨i2, n2, _, _, rfl, rfl, s2⟩
  | 2, hx =>
    obtain rfl : (⟨k3, l3⟩ : Seg) = x := by simpa using hx
    exact ⟨i3, n3, _, _, rfl, rfl, s3⟩

theorem mk255 : ∃ C : Array Value, C.size = 255 ∧ ∀ W : World, (Instr.makeSlice 22 (.int .i64 255) (.int .i64 255)).run Tryz.prog W = .ok (.slice (some ⟨W.heap.size, 0, none⟩) 255 255) (W.alloc (.cells C 26)) := by
  obtain ⟨ht, i, z, hi, hz, hs, hb, _⟩ := okU32
  refine ⟨madeCells z.cells (255 * 1), by simp [size_madeCells], fun W => ?_⟩
  have := run_make (w := W) 22 26 i z ht hi hz .i64 .i64 255 255 (by omega) (by omega) (by rw [hb]; omega) (by omega)
  rw [hs] at this
  exact this
theorem mkSegs (n : Nat) (hn : n ≤ 64) : ∃ C : Array Value, C.size = n * 2 ∧ (∀ i, i < n → C[i * 2]? = some (.int .i64 0) ∧ C[i * 2 + 1]? = some (.slice none 0 0)) ∧ ∀ W : World, (Instr.makeSlice 27 (.int .i64 (n : Int)) (.int .i64 (n : Int))).run Tryz.prog W = .ok (.slice (some ⟨W.heap.size, 0, none⟩) n n) (W.alloc (.cells C 24)) := by
  obtain ⟨ht, i, z, hi, hz, hs, hb, _⟩ := okSeg
  have hz0 : z = .agg #[.int .i64 0, .slice none 0 0] := by
    have h : (Tryz.prog.info? 24).map (fun i => i.zero) = some (some (.agg #[.int .i64 0, .slice none 0 0])) := by kernel_rfl
    rw [hi] at h
    simp only [Option.map_some, Option.some.injEq] at h
    rw [hz] at h
    exact Option.some.inj h
  subst hz0
  have hs2 : i.size = 2 := hs
  refine ⟨madeCells (Value.cells (.agg #[.int .i64 0, .slice none 0 0])) (n * 2), by simp [size_madeCells], fun k hk => ?_, fun W => ?_⟩
  · constructor
    · rw [Array.getElem?_eq_getElem (by rw [size_madeCells]; omega)]
      simp [madeCells, Value.cells]
    · rw [Array.getElem?_eq_getElem (by rw [size_madeCells]; omega)]
      simp [madeCells, Value.cells]
  · have := run_make (w := W) 27 24 i _ ht hi hz .i64 .i64 n n (by omega) (by omega) (by rw [hb]; omega) (by omega)
    rw [hs2] at this
    simpa using this
theorem mk16 : ∃ C : Array Value, C.size = 32 ∧ ∀ W : World, (Instr.makeSlice 27 (.int .i64 16) (.int .i64 16)).run Tryz.prog W = .ok (.slice (some ⟨W.heap.size, 0, none⟩) 16 16) (W.alloc (.cells C 24)) := by
  obtain ⟨C, h1, _, h2⟩ := mkSegs 16 (by decide)
  exact ⟨C, h1, h2⟩
theorem mk17 : ∃ C : Array Value, C.size = 34 ∧ (∀ i, i < 17 → C[i * 2]? = some (.int .i64 0) ∧ C[i * 2 + 1]? = some (.slice none 0 0)) ∧ ∀ W : World, (Instr.makeSlice 27 (.int .i64 17) (.int .i64 17)).run Tryz.prog W = .ok (.slice (some ⟨W.heap.size, 0, none⟩) 17 17) (W.alloc (.cells C 24)) := by
  obtain ⟨C, h1, h0, h2⟩ := mkSegs 17 (by decide)
  exact ⟨C, h1, h0, h2⟩
theorem blk_there {w : World} {g n : Nat} {t : TypeId} {C : Array Value} (h : Blk w g t C) (hn : C.size = n) : w.there g 0 n := fun j hj => by
  rw [Nat.zero_add]
  exact ⟨by rw [h.cell j, Array.getElem?_eq_getElem (by omega)]; rfl, h.frozen j⟩
theorem ext_there {w w' : World} (h : Ext w w') {g n : Nat} (ht : w.there g 0 n) (hg : g < w.heap.size) : w'.there g 0 n := fun j hj => by
  obtain ⟨h1, h2⟩ := ht j hj
  exact ⟨by rw [World.cell?_of_block (a := ⟨g, 0 + j, none⟩) (h.block g hg)]; exact h1, by rw [World.frozen?_of_block (a := ⟨g, 0 + j, none⟩) (h.block g hg)]; exact h2⟩
theorem there_at {w : World} {g n : Nat} (h : w.there g 0 n) {j : Nat} (hj : j < n) : (∃ u, w.cell? ⟨g, j, none⟩ = some u) ∧ w.frozen? ⟨g, j, none⟩ = false := by
  have h1 := h j hj
  rw [Nat.zero_add] at h1
  exact ⟨Option.isSome_iff_exists.1 h1.1, h1.2⟩
theorem there_set {w : World} {g n : Nat} (h : w.there g 0 n) (b o : Nat) (u : Value) : (w.setCell ⟨b, o, none⟩ u).there g 0 n := World.there_setCells h b o [u]
theorem cell_other {w : World} {g o p : Nat} (u : Value) (h : o ≠ p) : (w.setCell ⟨g, o, none⟩ u).cell? ⟨g, p, none⟩ = w.cell? ⟨g, p, none⟩ := World.cell?_setCell_other _ _ _ _ (by intro e; injection e with _ e _; exact h e)
theorem long_sl {w : World} {g : Nat} (hg : g < w.heap.size) (h : ∀ i, i < 255 → w.cell? ⟨g, i, none⟩ = some (.int .u32 9)) : Sl EU32 w (· < w.heap.size) (some ⟨g, 0, none⟩) (List.replicate 255 9) := by
  refine .inr ⟨g, 0, rfl, hg, fun k x hx => ⟨[.int .u32 (x.toNat : Int)], ⟨rfl, trivial⟩, fun j u hu => ?_⟩⟩
  have hk : k < 255 := by have := (List.getElem?_eq_some_iff.1 hx).1; rwa [List.length_replicate] at this
  obtain rfl : x = 9 := by rw [List.getElem?_replicate, if_pos hk] at hx; exact (Option.some.inj hx).symm
  match j, hu with
  | 0, hu =>
    simp at hu
    subst hu
    rw [show 0 + k * EU32.sz + 0 = k by show 0 + k * 1 + 0 = k; omega]
    exact h k hk
/-- What the loop has filled of sixteen segments. -/
def ManyTo (w : World) (g k : Nat) : Prop := ∀ i, i < k → ∃ h, w.cell? ⟨g, i * 2, none⟩ = some (.int .i64 1) ∧ w.cell? ⟨g, i * 2 + 1, none⟩ = some (.slice (some ⟨h, 0, none⟩) 1 1) ∧ w.cell? ⟨h, 0, none⟩ = some (.int .u32 1) ∧ h ≠ g ∧ h < w.heap.size
theorem ManyTo.ext {w w' : World} {g k : Nat} (h : ManyTo w g k) (hE : Ext w w') : ManyTo w' g k := fun i hi => by
  obtain ⟨q, h1, h2, h3, h4, h5⟩ := h i hi
  exact ⟨q, hE.cell h1, hE.cell h2, hE.cell h3, h4, Nat.lt_of_lt_of_le h5 hE.size⟩
theorem ManyTo.step {w : World} {g k q : Nat} (h : ManyTo w g k) (ht : w.there g 0 32) (hk : k < 16) (hq : w.cell? ⟨q, 0, none⟩ = some (.int .u32 1)) (hne : q ≠ g) (hl : q < w.heap.size) :
    ManyTo ((w.setCell ⟨g, k * 2, none⟩ (.int .i64 1)).setCell ⟨g, k * 2 + 1, none⟩ (.slice (some ⟨q, 0, none⟩) 1 1)) g (k + 1) := fun i hi => by
  have hfar : ∀ (x : Nat), x ≠ g → ((w.setCell ⟨g, k * 2, none⟩ (.int .i64 1)).setCell ⟨g, k * 2 + 1, none⟩ (.slice (some ⟨q, 0, none⟩) 1 1)).cell? ⟨x, 0, none⟩ = w.cell? ⟨x, 0, none⟩ := fun x hx =>
    (World.cell?_setCell_other _ _ _ _ (by intro e; injection e with e _ _; exact hx e.symm)).trans (World.cell?_setCell_other _ _ _ _ (by intro e; injection e with e _ _; exact hx e.symm))
  by_cases hik : i = k
  · subst hik
    obtain ⟨⟨u0, h0⟩, _⟩ := there_at ht (j := i * 2) (by omega)
    obtain ⟨⟨u1, h1⟩, _⟩ := there_at (there_set ht g (i * 2) (.int .i64 1)) (j := i * 2 + 1) (by omega)
    exact ⟨q, (cell_other _ (by omega)).trans (World.cell?_setCell_same _ _ _ h0), World.cell?_setCell_same _ _ _ h1, (hfar q hne).trans hq, hne, by simpa [World.setCell] using hl⟩
  · obtain ⟨x, h1, h2, h3, h4, h5⟩ := h i (by omega)
    exact ⟨x, ((cell_other _ (by omega)).trans (cell_other _ (by omega))).trans h1, ((cell_other _ (by omega)).trans (cell_other _ (by omega))).trans h2, (hfar x h4).trans h3, h4, by simpa [World.setCell] using h5⟩
theorem many_path {w : World} {g : Nat} (hg : g < w.heap.size) (h : ManyTo w g 16) : Path w (some ⟨g, 0, none⟩) (List.replicate 16 ⟨1, [1]⟩) := by
  refine .inr ⟨g, 0, rfl, hg, fun k x hx => ?_⟩
  have hk : k < 16 := by have := (List.getElem?_eq_some_iff.1 hx).1; rwa [List.length_replicate] at this
  obtain rfl : x = ⟨1, [1]⟩ := by rw [List.getElem?_replicate, if_pos hk] at hx; exact (Option.some.inj hx).symm
  obtain ⟨q, h1, h2, h3, _, h5⟩ := h k hk
  refine ⟨[.int .i64 1, .slice (some ⟨q, 0, none⟩) 1 1], ⟨[.int .i64 1], [.slice (some ⟨q, 0, none⟩) 1 1], rfl, ⟨rfl, by decide, by decide⟩, some ⟨q, 0, none⟩, 1, rfl, by decide, .inr ⟨q, 0, rfl, h5, fun j y hy => ?_⟩⟩, fun j u hu => ?_⟩
  · match j, hy with
    | 0, hy =>
      obtain rfl : (1 : UInt32) = y := by simpa using hy
      refine ⟨[.int .u32 1], ⟨rfl, trivial⟩, fun i u hu => ?_⟩
      match i, hu with
      | 0, hu =>
        simp at hu
        subst hu
        exact h3
  · rw [show 0 + k * ESeg.sz + j = k * 2 + j by show 0 + k * 2 + j = _; omega]
    match j, hu with
    | 0, hu => simp at hu; subst hu; exact h1
    | 1, hu => simp at hu; subst hu; exact h2
theorem zero_path {w : World} {g : Nat} {t : TypeId} {C : Array Value} (h : Blk w g t C) (hC : ∀ i, i < 17 → C[i * 2]? = some (.int .i64 0) ∧ C[i * 2 + 1]? = some (.slice none 0 0)) : Path w (some ⟨g, 0, none⟩) (List.replicate 17 ⟨0, []⟩) := by
  refine Path.blk _ h fun k x hx => ?_
  have hk : k < 17 := by have := (List.getElem?_eq_some_iff.1 hx).1; rwa [List.length_replicate] at this
  obtain rfl : x = ⟨0, []⟩ := by rw [List.getElem?_replicate, if_pos hk] at hx; exact (Option.some.inj hx).symm
  exact ⟨⟨by decide, by decide⟩, by decide, none, 0, (hC k hk).1, (hC k hk).2, .nil⟩

set_option maxRecDepth 20000 in
set_option maxHeartbeats 4000000 in
theorem PathKnown_walk (w : World) (htab : Tab w) (hV : Vars w) :
    Calls Tryz.prog 3 #[] w fun e w' => e = .returned (.bool true) ∧ Ext w w' := by
  have E := hide (Ext.refl w)
  replace htab := hide htab
  replace hV := hide hV
  go_enter Tryz.func3, Tryz.ntmps3
  go_wp2_with fail
  have b1 := Blk.new w 26 #[.int .u32 1, .int .u32 2]
  have hA := (Ext.refl w).alloc (Obj.cells #[.int .u32 1, .int .u32 2] 26)
  generalize hW : w.alloc (Obj.cells #[.int .u32 1, .int .u32 2] 26) = W1 at b1 hA ⊢
  clear hW
  generalize hg : w.heap.size = g1 at b1 ⊢
  clear hg
  replace E := hide (E.out.trans hA)
  clear hA
  replace b1 := hide b1
  refine (seg_any _ _ _ _ _).mono ?_
  rintro e W2 ⟨rfl, hE9⟩
  replace E := hide (E.out.trans hE9)
  replace b1 := hide (b1.out.ext hE9)
  clear hE9
  go_wp2_with fail
  have b3 := Blk.new W2 26 #[.int .u32 3, .int .u32 4]
  have hA := (Ext.refl W2).alloc (Obj.cells #[.int .u32 3, .int .u32 4] 26)
  generalize hW : W2.alloc (Obj.cells #[.int .u32 3, .int .u32 4] 26) = W3 at b3 hA ⊢
  clear hW
  generalize hg : W2.heap.size = g3 at b3 ⊢
  clear hg
  replace E := hide (E.out.trans hA)
  replace b1 := hide (b1.out.ext hA)
  clear hA
  replace b3 := hide b3
  refine (seg_any _ _ _ _ _).mono ?_
  rintro e W4 ⟨rfl, hE9⟩
  replace E := hide (E.out.trans hE9)
  replace b1 := hide (b1.out.ext hE9)
  replace b3 := hide (b3.out.ext hE9)
  clear hE9
  go_wp2_with fail
  have b5 := Blk.new W4 26 #[.int .u32 5]
  have hA := (Ext.refl W4).alloc (Obj.cells #[.int .u32 5] 26)
  generalize hW : W4.alloc (Obj.cells #[.int .u32 5] 26) = W5 at b5 hA ⊢
  clear hW
  generalize hg : W4.heap.size = g5 at b5 ⊢
  clear hg
  replace E := hide (E.out.trans hA)
  replace b1 := hide (b1.out.ext hA)
  replace b3 := hide (b3.out.ext hA)
  clear hA
  replace b5 := hide b5
  refine (seg_any _ _ _ _ _).mono ?_
  rintro e W6 ⟨rfl, hE9⟩
  replace E := hide (E.out.trans hE9)
  replace b1 := hide (b1.out.ext hE9)
  replace b3 := hide (b3.out.ext hE9)
  replace b5 := hide (b5.out.ext hE9)
  clear hE9
  go_wp2_with fail
  have b7 := Blk.new W6 24 #[.int .i64 2, .slice (some ⟨g1, 0, none⟩) 2 2, .int .i64 1, .slice (some ⟨g3, 0, none⟩) 2 2, .int .i64 3, .slice (some ⟨g5, 0, none⟩) 1 1]
  have hA := (Ext.refl W6).alloc (Obj.cells #[.int .i64 2, .slice (some ⟨g1, 0, none⟩) 2 2, .int .i64 1, .slice (some ⟨g3, 0, none⟩) 2 2, .int .i64 3, .slice (some ⟨g5, 0, none⟩) 1 1] 24)
  generalize hW : W6.alloc (Obj.cells #[.int .i64 2, .slice (some ⟨g1, 0, none⟩) 2 2, .int .i64 1, .slice (some ⟨g3, 0, none⟩) 2 2, .int .i64 3, .slice (some ⟨g5, 0, none⟩) 1 1] 24) = W7 at b7 hA ⊢
  clear hW
  generalize hg : W6.heap.size = g7 at b7 ⊢
  clear hg
  replace E := hide (E.out.trans hA)
  replace b1 := hide (b1.out.ext hA)
  replace b3 := hide (b3.out.ext hA)
  replace b5 := hide (b5.out.ext hA)
  clear hA
  replace b7 := hide b7
  have p7 := hide (path3 (l1 := [1, 2]) (l2 := [3, 4]) (l3 := [5]) b7.out ⟨by decide, by decide⟩ ⟨by decide, by decide⟩ ⟨by decide, by decide⟩ (by decide) (by decide) (by decide) (EU32.blk [1, 2] b1.out) (EU32.blk [3, 4] b3.out) (EU32.blk [5] b5.out))
  clear b1 b3 b5 b7
  have hF := AFirst_any (some ⟨g7, 0, none⟩) 3 [⟨2, [1, 2]⟩, ⟨1, [3, 4]⟩, ⟨3, [5]⟩] W7 (by decide) p7.out
  rw [show firstV [⟨2, [1, 2]⟩, ⟨1, [3, 4]⟩, ⟨3, [5]⟩] = (1, true) by decide +kernel] at hF
  simp only [fstOut] at hF
  replace hF := hF
  refine (hF).mono ?_
  rintro e W8 ⟨rfl, hE9⟩
  replace E := hide (E.out.trans hE9)
  replace p7 := hide (p7.out.ext hE9)
  clear hE9
  clear hF
  go_wp2_with fail
  have b9 := Blk.new W8 26 #[.int .u32 1]
  have hA := (Ext.refl W8).alloc (Obj.cells #[.int .u32 1] 26)
  generalize hW : W8.alloc (Obj.cells #[.int .u32 1] 26) = W9 at b9 hA ⊢
  clear hW
  generalize hg : W8.heap.size = g9 at b9 ⊢
  clear hg
  replace E := hide (E.out.trans hA)
  replace p7 := hide (p7.out.ext hA)
  clear hA
  replace b9 := hide b9
  refine (seg_any _ _ _ _ _).mono ?_
  rintro e W10 ⟨rfl, hE9⟩
  replace E := hide (E.out.trans hE9)
  replace p7 := hide (p7.out.ext hE9)
  replace b9 := hide (b9.out.ext hE9)
  clear hE9
  go_wp2_with fail
  have b11 := Blk.new W10 26 #[.int .u32 2]
  have hA := (Ext.refl W10).alloc (Obj.cells #[.int .u32 2] 26)
  generalize hW : W10.alloc (Obj.cells #[.int .u32 2] 26) = W11 at b11 hA ⊢
  clear hW
  generalize hg : W10.heap.size = g11 at b11 ⊢
  clear hg
  replace E := hide (E.out.trans hA)
  replace p7 := hide (p7.out.ext hA)
  replace b9 := hide (b9.out.ext hA)
  clear hA
  replace b11 := hide b11
  refine (seg_any _ _ _ _ _).mono ?_
  rintro e W12 ⟨rfl, hE9⟩
  replace E := hide (E.out.trans hE9)
  replace p7 := hide (p7.out.ext hE9)
  replace b9 := hide (b9.out.ext hE9)
  replace b11 := hide (b11.out.ext hE9)
  clear hE9
  go_wp2_with fail
  have b13 := Blk.new W12 24 #[.int .i64 1, .slice (some ⟨g9, 0, none⟩) 1 1, .int .i64 2, .slice (some ⟨g11, 0, none⟩) 1 1]
  have hA := (Ext.refl W12).alloc (Obj.cells #[.int .i64 1, .slice (some ⟨g9, 0, none⟩) 1 1, .int .i64 2, .slice (some ⟨g11, 0, none⟩) 1 1] 24)
  generalize hW : W12.alloc (Obj.cells #[.int .i64 1, .slice (some ⟨g9, 0, none⟩) 1 1, .int .i64 2, .slice (some ⟨g11, 0, none⟩) 1 1] 24) = W13 at b13 hA ⊢
  clear hW
  generalize hg : W12.heap.size = g13 at b13 ⊢
  clear hg
  replace E := hide (E.out.trans hA)
  replace p7 := hide (p7.out.ext hA)
  replace b9 := hide (b9.out.ext hA)
  replace b11 := hide (b11.out.ext hA)
  clear hA
  replace b13 := hide b13
  have p13 := hide (path2 (l1 := [1]) (l2 := [2]) b13.out ⟨by decide, by decide⟩ ⟨by decide, by decide⟩ (by decide) (by decide) (EU32.blk [1] b9.out) (EU32.blk [2] b11.out))
  clear b9 b11 b13
  have hF := AFirst_any (some ⟨g13, 0, none⟩) 2 [⟨1, [1]⟩, ⟨2, [2]⟩] W13 (by decide) p13.out
  rw [show firstV [⟨1, [1]⟩, ⟨2, [2]⟩] = (0, false) by decide +kernel] at hF
  simp only [fstOut] at hF
  replace hF := hF
  refine (hF).mono ?_
  rintro e W14 ⟨rfl, hE9⟩
  replace E := hide (E.out.trans hE9)
  replace p7 := hide (p7.out.ext hE9)
  replace p13 := hide (p13.out.ext hE9)
  clear hE9
  clear hF
  clear p13
  go_wp2_with fail
  have b15 := Blk.new W14 26 #[.int .u32 5]
  have hA := (Ext.refl W14).alloc (Obj.cells #[.int .u32 5] 26)
  generalize hW : W14.alloc (Obj.cells #[.int .u32 5] 26) = W15 at b15 hA ⊢
  clear hW
  generalize hg : W14.heap.size = g15 at b15 ⊢
  clear hg
  replace E := hide (E.out.trans hA)
  replace p7 := hide (p7.out.ext hA)
  clear hA
  replace b15 := hide b15
  refine (seg_any _ _ _ _ _).mono ?_
  rintro e W16 ⟨rfl, hE9⟩
  replace E := hide (E.out.trans hE9)
  replace p7 := hide (p7.out.ext hE9)
  replace b15 := hide (b15.out.ext hE9)
  clear hE9
  go_wp2_with fail
  have b17 := Blk.new W16 26 #[.int .u32 1]
  have hA := (Ext.refl W16).alloc (Obj.cells #[.int .u32 1] 26)
  generalize hW : W16.alloc (Obj.cells #[.int .u32 1] 26) = W17 at b17 hA ⊢
  clear hW
  generalize hg : W16.heap.size = g17 at b17 ⊢
  clear hg
  replace E := hide (E.out.trans hA)
  replace p7 := hide (p7.out.ext hA)
  replace b15 := hide (b15.out.ext hA)
  clear hA
  replace b17 := hide b17
  refine (seg_any _ _ _ _ _).mono ?_
  rintro e W18 ⟨rfl, hE9⟩
  replace E := hide (E.out.trans hE9)
  replace p7 := hide (p7.out.ext hE9)
  replace b15 := hide (b15.out.ext hE9)
  replace b17 := hide (b17.out.ext hE9)
  clear hE9
  go_wp2_with fail
  have b19 := Blk.new W18 24 #[.int .i64 3, .slice (some ⟨g15, 0, none⟩) 1 1, .int .i64 2, .slice (some ⟨g17, 0, none⟩) 1 1]
  have hA := (Ext.refl W18).alloc (Obj.cells #[.int .i64 3, .slice (some ⟨g15, 0, none⟩) 1 1, .int .i64 2, .slice (some ⟨g17, 0, none⟩) 1 1] 24)
  generalize hW : W18.alloc (Obj.cells #[.int .i64 3, .slice (some ⟨g15, 0, none⟩) 1 1, .int .i64 2, .slice (some ⟨g17, 0, none⟩) 1 1] 24) = W19 at b19 hA ⊢
  clear hW
  generalize hg : W18.heap.size = g19 at b19 ⊢
  clear hg
  replace E := hide (E.out.trans hA)
  replace p7 := hide (p7.out.ext hA)
  replace b15 := hide (b15.out.ext hA)
  replace b17 := hide (b17.out.ext hA)
  clear hA
  replace b19 := hide b19
  have p19 := hide (path2 (l1 := [5]) (l2 := [1]) b19.out ⟨by decide, by decide⟩ ⟨by decide, by decide⟩ (by decide) (by decide) (EU32.blk [5] b15.out) (EU32.blk [1] b17.out))
  clear b15 b17 b19
  have hF := AFirst_any (some ⟨g19, 0, none⟩) 2 [⟨3, [5]⟩, ⟨2, [1]⟩] W19 (by decide) p19.out
  rw [show firstV [⟨3, [5]⟩, ⟨2, [1]⟩] = (1, true) by decide +kernel] at hF
  simp only [fstOut] at hF
  replace hF := hF
  refine (hF).mono ?_
  rintro e W20 ⟨rfl, hE9⟩
  replace E := hide (E.out.trans hE9)
  replace p7 := hide (p7.out.ext hE9)
  replace p19 := hide (p19.out.ext hE9)
  clear hE9
  clear hF
  clear p19
  go_wp2_with fail
  have hF := AFirst_any none 0 [] W20 (by decide) .nil
  rw [show firstV [] = (0, false) by decide +kernel] at hF
  simp only [fstOut] at hF
  replace hF := hF
  refine (hF).mono ?_
  rintro e W21 ⟨rfl, hE9⟩
  replace E := hide (E.out.trans hE9)
  replace p7 := hide (p7.out.ext hE9)
  clear hE9
  clear hF
  go_wp2_with fail
  have b22 := Blk.new W21 24 #[.int .i64 2, .slice none 0 0]
  have hA := (Ext.refl W21).alloc (Obj.cells #[.int .i64 2, .slice none 0 0] 24)
  generalize hW : W21.alloc (Obj.cells #[.int .i64 2, .slice none 0 0] 24) = W22 at b22 hA ⊢
  clear hW
  generalize hg : W21.heap.size = g22 at b22 ⊢
  clear hg
  replace E := hide (E.out.trans hA)
  replace p7 := hide (p7.out.ext hA)
  clear hA
  replace b22 := hide b22
  have p22 := hide (path1 (l1 := []) b22.out ⟨by decide, by decide⟩ (by decide) .nil)
  clear b22
  have hF := AFirst_any (some ⟨g22, 0, none⟩) 1 [⟨2, []⟩] W22 (by decide) p22.out
  rw [show firstV [⟨2, []⟩] = (0, false) by decide +kernel] at hF
  simp only [fstOut] at hF
  replace hF := hF
  refine (hF).mono ?_
  rintro e W23 ⟨rfl, hE9⟩
  replace E := hide (E.out.trans hE9)
  replace p7 := hide (p7.out.ext hE9)
  replace p22 := hide (p22.out.ext hE9)
  clear hE9
  clear hF
  clear p22
  go_wp2_with fail
  have hF := Length_any (some ⟨g7, 0, none⟩) 3 [⟨2, [1, 2]⟩, ⟨1, [3, 4]⟩, ⟨3, [5]⟩] W23 (by decide) p7.out
  rw [show lenS [⟨2, [1, 2]⟩, ⟨1, [3, 4]⟩, ⟨3, [5]⟩] = 3 by decide +kernel] at hF
  refine (hF).mono ?_
  rintro e W24 ⟨rfl, hE9⟩
  replace E := hide (E.out.trans hE9)
  replace p7 := hide (p7.out.ext hE9)
  clear hE9
  clear hF
  go_wp2_with fail
  have hF := AFlat_any (some ⟨g7, 0, none⟩) 3 [⟨2, [1, 2]⟩, ⟨1, [3, 4]⟩, ⟨3, [5]⟩] W24 (by decide) p7.out
  rw [show flatS [⟨2, [1, 2]⟩, ⟨1, [3, 4]⟩, ⟨3, [5]⟩] = [1, 2, 3, 4, 5] by decide +kernel] at hF
  refine (hF).mono ?_
  rintro e W25 ⟨v9, rfl, hE9, hO9⟩
  replace E := hide (E.out.trans hE9)
  replace p7 := hide (p7.out.ext hE9)
  clear hE9
  obtain ⟨fa1, fc1, rfl⟩ := hO9.form
  clear hO9 hF
  go_wp2_with fail
  have hF := ABare_any (some ⟨g7, 0, none⟩) 3 [⟨2, [1, 2]⟩, ⟨1, [3, 4]⟩, ⟨3, [5]⟩] W25 (by decide) p7.out
  rw [show bareS [⟨2, [1, 2]⟩, ⟨1, [3, 4]⟩, ⟨3, [5]⟩] = [⟨2, [1, 2]⟩, ⟨1, [3, 4]⟩] by decide +kernel] at hF
  refine (hF).mono ?_
  rintro e W26 ⟨v9, rfl, hE9, hO9⟩
  replace E := hide (E.out.trans hE9)
  replace p7 := hide (p7.out.ext hE9)
  clear hE9
  obtain ⟨fa2, fc2, rfl⟩ := hO9.form
  clear hO9 hF
  go_wp2_with fail
  have hF := AHas_any (some ⟨g7, 0, none⟩) 3 [⟨2, [1, 2]⟩, ⟨1, [3, 4]⟩, ⟨3, [5]⟩] 5 W26 (by decide) p7.out
  rw [show ((5 : UInt32).toNat : Int) = 5 from rfl] at hF
  rw [show hasS [⟨2, [1, 2]⟩, ⟨1, [3, 4]⟩, ⟨3, [5]⟩] 5 = true by decide +kernel] at hF
  refine (hF).mono ?_
  rintro e W27 ⟨rfl, hE9⟩
  replace E := hide (E.out.trans hE9)
  replace p7 := hide (p7.out.ext hE9)
  clear hE9
  clear hF
  go_wp2_with fail
  have hF := AHas_any (some ⟨g7, 0, none⟩) 3 [⟨2, [1, 2]⟩, ⟨1, [3, 4]⟩, ⟨3, [5]⟩] 6 W27 (by decide) p7.out
  rw [show ((6 : UInt32).toNat : Int) = 6 from rfl] at hF
  rw [show hasS [⟨2, [1, 2]⟩, ⟨1, [3, 4]⟩, ⟨3, [5]⟩] 6 = false by decide +kernel] at hF
  refine (hF).mono ?_
  rintro e W28 ⟨rfl, hE9⟩
  replace E := hide (E.out.trans hE9)
  replace p7 := hide (p7.out.ext hE9)
  clear hE9
  clear hF
  clear p7
  go_wp2_with fail
  have b29 := Blk.new W28 26 #[.int .u32 1]
  have hA := (Ext.refl W28).alloc (Obj.cells #[.int .u32 1] 26)
  generalize hW : W28.alloc (Obj.cells #[.int .u32 1] 26) = W29 at b29 hA ⊢
  clear hW
  generalize hg : W28.heap.size = g29 at b29 ⊢
  clear hg
  replace E := hide (E.out.trans hA)
  clear hA
  replace b29 := hide b29
  refine (seg_any _ _ _ _ _).mono ?_
  rintro e W30 ⟨rfl, hE9⟩
  replace E := hide (E.out.trans hE9)
  replace b29 := hide (b29.out.ext hE9)
  clear hE9
  go_wp2_with fail
  have b31 := Blk.new W30 24 #[.int .i64 1, .slice (some ⟨g29, 0, none⟩) 1 1]
  have hA := (Ext.refl W30).alloc (Obj.cells #[.int .i64 1, .slice (some ⟨g29, 0, none⟩) 1 1] 24)
  generalize hW : W30.alloc (Obj.cells #[.int .i64 1, .slice (some ⟨g29, 0, none⟩) 1 1] 24) = W31 at b31 hA ⊢
  clear hW
  generalize hg : W30.heap.size = g31 at b31 ⊢
  clear hg
  replace E := hide (E.out.trans hA)
  replace b29 := hide (b29.out.ext hA)
  clear hA
  replace b31 := hide b31
  have p31 := hide (path1 (l1 := [1]) b31.out ⟨by decide, by decide⟩ (by decide) (EU32.blk [1] b29.out))
  clear b29 b31
  have hF := APrepend_any (some ⟨g31, 0, none⟩) 1 [⟨1, [1]⟩] 7 false W31 (by decide) p31.out
  rw [show ((7 : UInt32).toNat : Int) = 7 from rfl, show (prepS [⟨1, [1]⟩] 7 false).2 = 0 by decide +kernel, show (prepS [⟨1, [1]⟩] 7 false).1 = [⟨2, [7]⟩, ⟨1, [1]⟩] by decide +kernel] at hF
  refine (hF).mono ?_
  rintro e W32 ⟨v9, rfl, hE9, hO9⟩
  replace E := hide (E.out.trans hE9)
  replace p31 := hide (p31.out.ext hE9)
  clear hE9
  obtain ⟨paA, pcA, rfl⟩ := hO9.form
  have oA := hide hO9
  clear hO9 hF
  clear p31
  go_wp2_with fail
  have b33 := Blk.new W32 26 #[.int .u32 5]
  have hA := (Ext.refl W32).alloc (Obj.cells #[.int .u32 5] 26)
  generalize hW : W32.alloc (Obj.cells #[.int .u32 5] 26) = W33 at b33 hA ⊢
  clear hW
  generalize hg : W32.heap.size = g33 at b33 ⊢
  clear hg
  replace E := hide (E.out.trans hA)
  replace oA := hide (oA.out.ext hA)
  clear hA
  replace b33 := hide b33
  refine (seg_any _ _ _ _ _).mono ?_
  rintro e W34 ⟨rfl, hE9⟩
  replace E := hide (E.out.trans hE9)
  replace oA := hide (oA.out.ext hE9)
  replace b33 := hide (b33.out.ext hE9)
  clear hE9
  go_wp2_with fail
  have b35 := Blk.new W34 26 #[.int .u32 1]
  have hA := (Ext.refl W34).alloc (Obj.cells #[.int .u32 1] 26)
  generalize hW : W34.alloc (Obj.cells #[.int .u32 1] 26) = W35 at b35 hA ⊢
  clear hW
  generalize hg : W34.heap.size = g35 at b35 ⊢
  clear hg
  replace E := hide (E.out.trans hA)
  replace oA := hide (oA.out.ext hA)
  replace b33 := hide (b33.out.ext hA)
  clear hA
  replace b35 := hide b35
  refine (seg_any _ _ _ _ _).mono ?_
  rintro e W36 ⟨rfl, hE9⟩
  replace E := hide (E.out.trans hE9)
  replace oA := hide (oA.out.ext hE9)
  replace b33 := hide (b33.out.ext hE9)
  replace b35 := hide (b35.out.ext hE9)
  clear hE9
  go_wp2_with fail
  have b37 := Blk.new W36 24 #[.int .i64 3, .slice (some ⟨g33, 0, none⟩) 1 1, .int .i64 2, .slice (some ⟨g35, 0, none⟩) 1 1]
  have hA := (Ext.refl W36).alloc (Obj.cells #[.int .i64 3, .slice (some ⟨g33, 0, none⟩) 1 1, .int .i64 2, .slice (some ⟨g35, 0, none⟩) 1 1] 24)
  generalize hW : W36.alloc (Obj.cells #[.int .i64 3, .slice (some ⟨g33, 0, none⟩) 1 1, .int .i64 2, .slice (some ⟨g35, 0, none⟩) 1 1] 24) = W37 at b37 hA ⊢
  clear hW
  generalize hg : W36.heap.size = g37 at b37 ⊢
  clear hg
  replace E := hide (E.out.trans hA)
  replace oA := hide (oA.out.ext hA)
  replace b33 := hide (b33.out.ext hA)
  replace b35 := hide (b35.out.ext hA)
  clear hA
  replace b37 := hide b37
  have p37 := hide (path2 (l1 := [5]) (l2 := [1]) b37.out ⟨by decide, by decide⟩ ⟨by decide, by decide⟩ (by decide) (by decide) (EU32.blk [5] b33.out) (EU32.blk [1] b35.out))
  clear b33 b35 b37
  have hF := APrepend_any (some ⟨g37, 0, none⟩) 2 [⟨3, [5]⟩, ⟨2, [1]⟩] 7 true W37 (by decide) p37.out
  rw [show ((7 : UInt32).toNat : Int) = 7 from rfl, show (prepS [⟨3, [5]⟩, ⟨2, [1]⟩] 7 true).2 = 0 by decide +kernel, show (prepS [⟨3, [5]⟩, ⟨2, [1]⟩] 7 true).1 = [⟨3, [7, 5]⟩, ⟨2, [1]⟩] by decide +kernel] at hF
  refine (hF).mono ?_
  rintro e W38 ⟨v9, rfl, hE9, hO9⟩
  replace E := hide (E.out.trans hE9)
  replace oA := hide (oA.out.ext hE9)
  replace p37 := hide (p37.out.ext hE9)
  clear hE9
  obtain ⟨paB, pcB, rfl⟩ := hO9.form
  have oB := hide hO9
  clear hO9 hF
  clear p37
  obtain ⟨C1, hC1, mk1⟩ := mk255
  obtain ⟨C2, hC2, mk2⟩ := mk16
  have bL := Blk.new W38 26 C1
  have hA := (Ext.refl W38).alloc (Obj.cells C1 26)
  obtain ⟨gL, hgL⟩ : ∃ g, W38.heap.size = g := ⟨_, rfl⟩
  rw [hgL] at bL
  have bM := Blk.new (W38.alloc (Obj.cells C1 26)) 24 C2
  have hB := hA.alloc (Obj.cells C2 24)
  have bL2 := bL.alloc (Obj.cells C2 24)
  rw [show (W38.alloc (Obj.cells C1 26)).heap.size = gL + 1 by simp [hgL]] at bM
  clear hA bL
  replace hB := hide hB
  replace bL2 := hide bL2
  replace bM := hide bM
  replace hC1 := hide hC1
  replace hC2 := hide hC2
  have mk1' := mk1 W38
  have mk2' := mk2 (W38.alloc (Obj.cells C1 26))
  clear mk1 mk2
  go_upto_region 13 with fail
  try rw [hgL]
  generalize (W38.alloc (Obj.cells C1 26)).alloc (Obj.cells C2 24) = W39 at hB bL2 bM ⊢
  clear mk1' mk2'
  have tL := hide (blk_there bL2.out hC1.out)
  have tM := hide (blk_there bM.out hC2.out)
  have lM := bM.out.lt
  clear bL2 bM hC1 hC2
  have hgL0 : W38.heap.size ≤ gL := Nat.le_of_eq hgL
  generalize hgM : gL + 1 = gM at tM lM ⊢
  have hLM : gL < gM := by omega
  clear hgM hgL
  go_wp2_with fail
  go_loopw [18] (fun i wr => ∃ k : Nat, k ≤ 255 ∧ i = .int .i64 k ∧ Ext W38 wr ∧ wr.there gL 0 255 ∧ wr.there gM 0 32 ∧ gM < wr.heap.size ∧ ∀ j, j < k → wr.cell? ⟨gL, j, none⟩ = some (.int .u32 9)) (fun i _ => 255 - (intOf i).toNat)
  case atStart => exact ⟨0, by omega, rfl, hB.out, tL.out, tM.out, lM, fun j hj => absurd hj (Nat.not_lt_zero j)⟩
  case round =>
    clear hB tL tM lM
    obtain ⟨k, hk, rfl, hB, tL, tM, lM, cL⟩ := hrel
    by_cases hlt : k < 255
    · obtain ⟨⟨u, hu⟩, hf⟩ := there_at tL hlt
      have hB2 := hB.setCell (p := ⟨gL, k, none⟩) hgL0 (.int .u32 9)
      have tL2 := there_set tL gL k (.int .u32 9)
      have tM2 := there_set tM gL k (.int .u32 9)
      have cL2 : ∀ j, j < k + 1 → (wr.setCell ⟨gL, k, none⟩ (.int .u32 9)).cell? ⟨gL, j, none⟩ = some (.int .u32 9) := fun j hj => by
        by_cases hjk : j = k
        · subst hjk; exact World.cell?_setCell_same _ _ _ hu
        · exact (cell_other _ (by omega)).trans (cL j (by omega))
      clear hB tL tM cL
      replace hB2 := hide hB2
      replace tL2 := hide tL2
      replace tM2 := hide tM2
      replace cL2 := hide cL2
      go_wp2_with fail
      go_roundw
      case rel => exact ⟨k + 1, by omega, by go_num, hB2.out, tL2.out, tM2.out, by simpa [World.setCell] using lM, cL2.out⟩
      case measure => simp [intOf]; omega
    · obtain rfl : k = 255 := by omega
      rename World => wb
      clear hlt hk tL
      replace hB := hide hB
      replace tM := hide tM
      replace cL := hide cL
      rw [show ((255 : Nat) : Int) = 255 from rfl]
      go_wp2_with fail
      go_loopw [19] (fun i wr => ∃ k : Nat, k ≤ 16 ∧ i = .int .i64 k ∧ Ext W38 wr ∧ wr.there gM 0 32 ∧ gM < wr.heap.size ∧ ManyTo wr gM k ∧ ∀ j, j < 255 → wr.cell? ⟨gL, j, none⟩ = some (.int .u32 9)) (fun i _ => 16 - (intOf i).toNat)
      case atStart => exact ⟨0, by omega, rfl, hB.out, tM.out, lM, fun j hj => absurd hj (Nat.not_lt_zero j), cL.out⟩
      case round =>
        clear hB tM lM cL
        obtain ⟨k, hk, rfl, hB, tM, lM, mM, cL⟩ := hrel
        by_cases hlt : k < 16
        · have bq := Blk.new wr 26 #[.int .u32 1]
          have hA := (Ext.refl wr).alloc (Obj.cells #[.int .u32 1] 26)
          obtain ⟨q, hq⟩ : ∃ q, wr.heap.size = q := ⟨_, rfl⟩
          rw [hq] at bq lM
          replace hB := hide hB
          replace tM := hide tM
          replace mM := hide mM
          replace cL := hide cL
          replace bq := hide bq
          replace hA := hide hA
          go_wp2_with fail
          try rw [hq]
          generalize wr.alloc (Obj.cells #[.int .u32 1] 26) = wc at bq hA ⊢
          refine (seg_any _ _ _ _ _).mono ?_
          rintro e wd ⟨rfl, hE9⟩
          have hA2 := hA.out.trans hE9
          have bq2 := bq.out.ext hE9
          have tM2 := ext_there hA2 tM.out (by omega)
          have mM2 := mM.out.ext hA2
          have hqd : q < wd.heap.size := bq2.lt
          have c0 : wd.cell? ⟨q, 0, none⟩ = some (.int .u32 1) := bq2.cell 0
          have mM3 := mM2.step tM2 hlt c0 (by omega) hqd
          obtain ⟨⟨u0, hu0⟩, hf0⟩ := there_at tM2 (j := k * 2) (by omega)
          obtain ⟨⟨u1, hu1⟩, hf1⟩ := there_at tM2 (j := k * 2 + 1) (by omega)
          have hB2 := ((hB.out.trans hA2).setCell (p := ⟨gM, k * 2, none⟩) (show W38.heap.size ≤ gM by omega) (.int .i64 1)).setCell (p := ⟨gM, k * 2 + 1, none⟩) (show W38.heap.size ≤ gM by omega) (.slice (some ⟨q, 0, none⟩) 1 1)
          have tM3 := there_set (there_set tM2 gM (k * 2) (.int .i64 1)) gM (k * 2 + 1) (.slice (some ⟨q, 0, none⟩) 1 1)
          have cL2 : ∀ j, j < 255 → ((wd.setCell ⟨gM, k * 2, none⟩ (.int .i64 1)).setCell ⟨gM, k * 2 + 1, none⟩ (.slice (some ⟨q, 0, none⟩) 1 1)).cell? ⟨gL, j, none⟩ = some (.int .u32 9) := fun j hj =>
            ((World.cell?_setCell_other _ _ _ _ (by intro e; injection e with e _ _; omega)).trans (World.cell?_setCell_other _ _ _ _ (by intro e; injection e with e _ _; omega))).trans (hA2.cell (cL.out j hj))
          have lM2 : gM < wd.heap.size := by omega
          clear hq hB tM mM cL bq hA hE9 hA2 bq2 tM2 mM2 c0 lM hqd
          replace mM3 := hide mM3
          replace hB2 := hide hB2
          replace tM3 := hide tM3
          replace cL2 := hide cL2
          go_wp2_with fail
          go_roundw
          case rel => exact ⟨k + 1, by omega, by go_num, hB2.out, tM3.out, by simpa [World.setCell] using lM2, mM3.out, cL2.out⟩
          case measure => simp [intOf]; omega
        · obtain rfl : k = 16 := by omega
          rename World => wz
          have lS := hide (long_sl (w := wz) (g := gL) (by omega) cL)
          have mP := hide (many_path lM mM)
          replace E := hide (E.out.trans hB)
          replace oA := hide (oA.out.ext hB)
          replace oB := hide (oB.out.ext hB)
          clear hlt hk tM mM cL hB lM hLM
          rw [show ((16 : Nat) : Int) = 16 from rfl]
          go_wp2_with fail
          have b40 := Blk.new wz 24 #[.int .i64 2, .slice (some ⟨gL, 0, none⟩) 255 255]
          have hA := (Ext.refl wz).alloc (Obj.cells #[.int .i64 2, .slice (some ⟨gL, 0, none⟩) 255 255] 24)
          generalize hW : wz.alloc (Obj.cells #[.int .i64 2, .slice (some ⟨gL, 0, none⟩) 255 255] 24) = W40 at b40 hA ⊢
          clear hW
          generalize hg : wz.heap.size = g40 at b40 ⊢
          clear hg
          replace E := hide (E.out.trans hA)
          replace oA := hide (oA.out.ext hA)
          replace oB := hide (oB.out.ext hA)
          replace lS := hide (lS.out.ext hA)
          replace mP := hide (mP.out.ext hA)
          clear hA
          replace b40 := hide b40
          have p40 := hide (path1 (l1 := List.replicate 255 9) (show Blk W40 g40 24 #[.int .i64 2, .slice (some ⟨gL, 0, none⟩) (List.replicate 255 9 : List UInt32).length 255] by rw [List.length_replicate]; exact b40.out) ⟨by decide, by decide⟩ (by rw [List.length_replicate]; decide) lS.out)
          clear b40 lS
          have hF := APrepend_any (some ⟨g40, 0, none⟩) 1 ([⟨2, List.replicate 255 9⟩]) 7 false W40 (by decide) p40.out
          rw [show ((7 : UInt32).toNat : Int) = 7 from rfl, show (prepS ([⟨2, List.replicate 255 9⟩]) 7 false).2 = 0 by decide +kernel, show (prepS ([⟨2, List.replicate 255 9⟩]) 7 false).1 = [⟨2, [7]⟩, ⟨2, List.replicate 255 9⟩] by decide +kernel] at hF
          refine (hF).mono ?_
          rintro e W41 ⟨v9, rfl, hE9, hO9⟩
          replace E := hide (E.out.trans hE9)
          replace oA := hide (oA.out.ext hE9)
          replace oB := hide (oB.out.ext hE9)
          replace mP := hide (mP.out.ext hE9)
          replace p40 := hide (p40.out.ext hE9)
          clear hE9
          obtain ⟨paC, pcC, rfl⟩ := hO9.form
          have oC := hide hO9
          clear hO9 hF
          clear p40
          go_wp2_with fail
          have hF := APrepend_any (some ⟨gM, 0, none⟩) 16 (List.replicate 16 ⟨1, [1]⟩) 7 false W41 (by decide) mP.out
          rw [show ((7 : UInt32).toNat : Int) = 7 from rfl, show (prepS (List.replicate 16 ⟨1, [1]⟩) 7 false).2 = 3 by decide +kernel, show (prepS (List.replicate 16 ⟨1, [1]⟩) 7 false).1 = [] by decide +kernel, List.length_replicate] at hF
          refine (hF).mono ?_
          rintro e W42 ⟨v9, rfl, hE9, hO9⟩
          replace E := hide (E.out.trans hE9)
          replace oA := hide (oA.out.ext hE9)
          replace oB := hide (oB.out.ext hE9)
          replace mP := hide (mP.out.ext hE9)
          replace oC := hide (oC.out.ext hE9)
          clear hE9
          obtain ⟨paD, pcD, rfl⟩ := hO9.form
          clear hO9 hF
          clear mP
          go_wp2_with fail
          have b43 := Blk.new W42 26 #[.int .u32 1]
          have hA := (Ext.refl W42).alloc (Obj.cells #[.int .u32 1] 26)
          generalize hW : W42.alloc (Obj.cells #[.int .u32 1] 26) = W43 at b43 hA ⊢
          clear hW
          generalize hg : W42.heap.size = g43 at b43 ⊢
          clear hg
          replace E := hide (E.out.trans hA)
          replace oA := hide (oA.out.ext hA)
          replace oB := hide (oB.out.ext hA)
          replace oC := hide (oC.out.ext hA)
          clear hA
          replace b43 := hide b43
          refine (seg_any _ _ _ _ _).mono ?_
          rintro e W44 ⟨rfl, hE9⟩
          replace E := hide (E.out.trans hE9)
          replace oA := hide (oA.out.ext hE9)
          replace oB := hide (oB.out.ext hE9)
          replace oC := hide (oC.out.ext hE9)
          replace b43 := hide (b43.out.ext hE9)
          clear hE9
          go_wp2_with fail
          have b45 := Blk.new W44 24 #[.int .i64 2, .slice (some ⟨g43, 0, none⟩) 1 1]
          have hA := (Ext.refl W44).alloc (Obj.cells #[.int .i64 2, .slice (some ⟨g43, 0, none⟩) 1 1] 24)
          generalize hW : W44.alloc (Obj.cells #[.int .i64 2, .slice (some ⟨g43, 0, none⟩) 1 1] 24) = W45 at b45 hA ⊢
          clear hW
          generalize hg : W44.heap.size = g45 at b45 ⊢
          clear hg
          replace E := hide (E.out.trans hA)
          replace oA := hide (oA.out.ext hA)
          replace oB := hide (oB.out.ext hA)
          replace oC := hide (oC.out.ext hA)
          replace b43 := hide (b43.out.ext hA)
          clear hA
          replace b45 := hide b45
          have p45 := hide (path1 (l1 := [1]) b45.out ⟨by decide, by decide⟩ (by decide) (EU32.blk [1] b43.out))
          clear b43 b45
          have hF := APrepend_any (some ⟨g45, 0, none⟩) 1 [⟨2, [1]⟩] 0 false W45 (by decide) p45.out
          rw [show ((0 : UInt32).toNat : Int) = 0 from rfl, show (prepS [⟨2, [1]⟩] 0 false).2 = 2 by decide +kernel, show (prepS [⟨2, [1]⟩] 0 false).1 = [] by decide +kernel] at hF
          refine (hF).mono ?_
          rintro e W46 ⟨v9, rfl, hE9, hO9⟩
          replace E := hide (E.out.trans hE9)
          replace oA := hide (oA.out.ext hE9)
          replace oB := hide (oB.out.ext hE9)
          replace oC := hide (oC.out.ext hE9)
          replace p45 := hide (p45.out.ext hE9)
          clear hE9
          obtain ⟨paD2, pcD2, rfl⟩ := hO9.form
          have oD2 := hide hO9
          clear hO9 hF
          clear p45 oD2
          go_wp2_with fail
          obtain ⟨_, _, e1, s1⟩ := oA.out.weak.sl
          injection e1 with e1 _ e2
          subst e1 e2
          have pA := hide (s1.mono fun _ h => h.2)
          clear s1
          obtain ⟨_, _, e1, s1⟩ := oB.out.weak.sl
          injection e1 with e1 _ e2
          subst e1 e2
          have pB := hide (s1.mono fun _ h => h.2)
          clear s1
          obtain ⟨_, _, e1, s1⟩ := oC.out.weak.sl
          injection e1 with e1 _ e2
          subst e1 e2
          obtain ⟨zb, zo, zk, zc, rfl, _, z0, z1, _, _, _, _⟩ := ESeg.at s1 0 (by simp)
          rw [show (zo + 0 * 2 + 1) = zo + 1 by omega] at z1
          clear s1 z0
          clear oA oB oC
          have b47 := Blk.new W46 26 #[.int .u32 7]
          have hA := (Ext.refl W46).alloc (Obj.cells #[.int .u32 7] 26)
          generalize hW : W46.alloc (Obj.cells #[.int .u32 7] 26) = W47 at b47 hA ⊢
          clear hW
          generalize hg : W46.heap.size = g47 at b47 ⊢
          clear hg
          replace E := hide (E.out.trans hA)
          replace pA := hide (pA.out.ext hA)
          replace pB := hide (pB.out.ext hA)
          replace z1 := hA.cell z1
          clear hA
          replace b47 := hide b47
          refine (seg_any _ _ _ _ _).mono ?_
          rintro e W48 ⟨rfl, hE9⟩
          replace E := hide (E.out.trans hE9)
          replace pA := hide (pA.out.ext hE9)
          replace pB := hide (pB.out.ext hE9)
          replace b47 := hide (b47.out.ext hE9)
          replace z1 := hE9.cell z1
          clear hE9
          go_wp2_with fail
          have b49 := Blk.new W48 26 #[.int .u32 1]
          have hA := (Ext.refl W48).alloc (Obj.cells #[.int .u32 1] 26)
          generalize hW : W48.alloc (Obj.cells #[.int .u32 1] 26) = W49 at b49 hA ⊢
          clear hW
          generalize hg : W48.heap.size = g49 at b49 ⊢
          clear hg
          replace E := hide (E.out.trans hA)
          replace pA := hide (pA.out.ext hA)
          replace pB := hide (pB.out.ext hA)
          replace b47 := hide (b47.out.ext hA)
          replace z1 := hA.cell z1
          clear hA
          replace b49 := hide b49
          refine (seg_any _ _ _ _ _).mono ?_
          rintro e W50 ⟨rfl, hE9⟩
          replace E := hide (E.out.trans hE9)
          replace pA := hide (pA.out.ext hE9)
          replace pB := hide (pB.out.ext hE9)
          replace b47 := hide (b47.out.ext hE9)
          replace b49 := hide (b49.out.ext hE9)
          replace z1 := hE9.cell z1
          clear hE9
          go_wp2_with fail
          have b51 := Blk.new W50 24 #[.int .i64 2, .slice (some ⟨g47, 0, none⟩) 1 1, .int .i64 1, .slice (some ⟨g49, 0, none⟩) 1 1]
          have hA := (Ext.refl W50).alloc (Obj.cells #[.int .i64 2, .slice (some ⟨g47, 0, none⟩) 1 1, .int .i64 1, .slice (some ⟨g49, 0, none⟩) 1 1] 24)
          generalize hW : W50.alloc (Obj.cells #[.int .i64 2, .slice (some ⟨g47, 0, none⟩) 1 1, .int .i64 1, .slice (some ⟨g49, 0, none⟩) 1 1] 24) = W51 at b51 hA ⊢
          clear hW
          generalize hg : W50.heap.size = g51 at b51 ⊢
          clear hg
          replace E := hide (E.out.trans hA)
          replace pA := hide (pA.out.ext hA)
          replace pB := hide (pB.out.ext hA)
          replace b47 := hide (b47.out.ext hA)
          replace b49 := hide (b49.out.ext hA)
          replace z1 := hA.cell z1
          clear hA
          replace b51 := hide b51
          have p51 := hide (path2 (l1 := [7]) (l2 := [1]) b51.out ⟨by decide, by decide⟩ ⟨by decide, by decide⟩ (by decide) (by decide) (EU32.blk [7] b47.out) (EU32.blk [1] b49.out))
          clear b47 b49 b51
          have hF := ASame_any paA (some ⟨g51, 0, none⟩) pcA 2 [⟨2, [7]⟩, ⟨1, [1]⟩] [⟨2, [7]⟩, ⟨1, [1]⟩] W51 (by decide) (by decide) pA.out p51.out
          rw [show sameP [⟨2, [7]⟩, ⟨1, [1]⟩] [⟨2, [7]⟩, ⟨1, [1]⟩] = true by decide +kernel] at hF
          refine (hF).mono ?_
          rintro e W52 ⟨rfl, hE9⟩
          replace E := hide (E.out.trans hE9)
          replace pA := hide (pA.out.ext hE9)
          replace pB := hide (pB.out.ext hE9)
          replace p51 := hide (p51.out.ext hE9)
          replace z1 := hE9.cell z1
          clear hE9
          clear hF
          clear pA p51
          go_wp2_with fail
          have b53 := Blk.new W52 26 #[.int .u32 7, .int .u32 5]
          have hA := (Ext.refl W52).alloc (Obj.cells #[.int .u32 7, .int .u32 5] 26)
          generalize hW : W52.alloc (Obj.cells #[.int .u32 7, .int .u32 5] 26) = W53 at b53 hA ⊢
          clear hW
          generalize hg : W52.heap.size = g53 at b53 ⊢
          clear hg
          replace E := hide (E.out.trans hA)
          replace pB := hide (pB.out.ext hA)
          replace z1 := hA.cell z1
          clear hA
          replace b53 := hide b53
          refine (seg_any _ _ _ _ _).mono ?_
          rintro e W54 ⟨rfl, hE9⟩
          replace E := hide (E.out.trans hE9)
          replace pB := hide (pB.out.ext hE9)
          replace b53 := hide (b53.out.ext hE9)
          replace z1 := hE9.cell z1
          clear hE9
          go_wp2_with fail
          have b55 := Blk.new W54 26 #[.int .u32 1]
          have hA := (Ext.refl W54).alloc (Obj.cells #[.int .u32 1] 26)
          generalize hW : W54.alloc (Obj.cells #[.int .u32 1] 26) = W55 at b55 hA ⊢
          clear hW
          generalize hg : W54.heap.size = g55 at b55 ⊢
          clear hg
          replace E := hide (E.out.trans hA)
          replace pB := hide (pB.out.ext hA)
          replace b53 := hide (b53.out.ext hA)
          replace z1 := hA.cell z1
          clear hA
          replace b55 := hide b55
          refine (seg_any _ _ _ _ _).mono ?_
          rintro e W56 ⟨rfl, hE9⟩
          replace E := hide (E.out.trans hE9)
          replace pB := hide (pB.out.ext hE9)
          replace b53 := hide (b53.out.ext hE9)
          replace b55 := hide (b55.out.ext hE9)
          replace z1 := hE9.cell z1
          clear hE9
          go_wp2_with fail
          have b57 := Blk.new W56 24 #[.int .i64 3, .slice (some ⟨g53, 0, none⟩) 2 2, .int .i64 2, .slice (some ⟨g55, 0, none⟩) 1 1]
          have hA := (Ext.refl W56).alloc (Obj.cells #[.int .i64 3, .slice (some ⟨g53, 0, none⟩) 2 2, .int .i64 2, .slice (some ⟨g55, 0, none⟩) 1 1] 24)
          generalize hW : W56.alloc (Obj.cells #[.int .i64 3, .slice (some ⟨g53, 0, none⟩) 2 2, .int .i64 2, .slice (some ⟨g55, 0, none⟩) 1 1] 24) = W57 at b57 hA ⊢
          clear hW
          generalize hg : W56.heap.size = g57 at b57 ⊢
          clear hg
          replace E := hide (E.out.trans hA)
          replace pB := hide (pB.out.ext hA)
          replace b53 := hide (b53.out.ext hA)
          replace b55 := hide (b55.out.ext hA)
          replace z1 := hA.cell z1
          clear hA
          replace b57 := hide b57
          have p57 := hide (path2 (l1 := [7, 5]) (l2 := [1]) b57.out ⟨by decide, by decide⟩ ⟨by decide, by decide⟩ (by decide) (by decide) (EU32.blk [7, 5] b53.out) (EU32.blk [1] b55.out))
          clear b53 b55 b57
          have hF := ASame_any paB (some ⟨g57, 0, none⟩) pcB 2 [⟨3, [7, 5]⟩, ⟨2, [1]⟩] [⟨3, [7, 5]⟩, ⟨2, [1]⟩] W57 (by decide) (by decide) pB.out p57.out
          rw [show sameP [⟨3, [7, 5]⟩, ⟨2, [1]⟩] [⟨3, [7, 5]⟩, ⟨2, [1]⟩] = true by decide +kernel] at hF
          refine (hF).mono ?_
          rintro e W58 ⟨rfl, hE9⟩
          replace E := hide (E.out.trans hE9)
          replace pB := hide (pB.out.ext hE9)
          replace p57 := hide (p57.out.ext hE9)
          replace z1 := hE9.cell z1
          clear hE9
          clear hF
          clear pB p57
          have b59 := Blk.new W58 9 ((kWrong.map fun x => Value.string ⟨x.toArray⟩).toArray)
          have hA := (Ext.refl W58).alloc (Obj.cells ((kWrong.map fun x => Value.string ⟨x.toArray⟩).toArray) 9)
          obtain ⟨CS, hCS⟩ : ∃ CS : Array Value, CS = ((kWrong.map fun x => Value.string ⟨x.toArray⟩).toArray) := ⟨_, rfl⟩
          rw [← hCS] at b59 hA
          have hcs : #[.string ⟨#[2, 1, 0, 0, 0, 0]⟩, .string ⟨#[2, 0]⟩, .string ⟨#[5, 1, 0, 0, 0, 1]⟩, .string ⟨#[2, 2, 0, 0, 0, 1]⟩, .string ⟨#[2]⟩] = CS := hCS.symm ▸ rfl
          replace hcs := hide hcs
          replace b59 := hide b59
          replace hA := hide hA
          replace hCS := hide hCS
          obtain ⟨g59, hg59⟩ : ∃ g, W58.heap.size = g := ⟨_, rfl⟩
          rw [hg59] at b59
          go_wp2_with fail
          rw [hcs.out]
          try rw [hg59]
          generalize W58.alloc (Obj.cells CS 9) = W59 at b59 hA ⊢
          replace hA := hA.out
          clear hg59 hcs
          replace E := hide (E.out.trans hA)
          replace z1 := hA.cell z1
          clear hA
          clear z1
          have hCS0 := hCS.out
          clear hCS
          go_loopw [27] (fun i wr => ∃ k : Nat, k ≤ 5 ∧ i = .int .i64 k ∧ Ext W59 wr) (fun i _ => 5 - (intOf i).toNat)
          case atStart => exact ⟨0, by omega, rfl, Ext.refl _⟩
          case round =>
            obtain ⟨k, hk, rfl, hE⟩ := hrel
            by_cases hlt : k < 5
            · have hkl : k < kWrong.length := hlt
              have hc : wr.cell? ⟨g59, k, none⟩ = some (.string ⟨(kWrong[k]).toArray⟩) := by
                have h := (b59.out.ext hE).cell k
                rw [hCS0, List.getElem?_toArray, List.getElem?_map, List.getElem?_eq_getElem hkl] at h
                exact h
              have hd := kWrong_no _ (List.getElem_mem hkl)
              have hsz : (kWrong[k]).length ≤ 1048576 := (show ∀ x ∈ kWrong, x.length ≤ 1048576 by decide) _ (List.getElem_mem hkl)
              generalize kWrong[k] = x at hc hd hsz
              have hF := ADecode_any x true wr hsz
              rw [hd] at hF
              clear hd hsz
              replace hF := hide hF
              replace hE := hide hE
              go_wp2_with fail
              refine hF.out.mono ?_
              rintro e w9 ⟨v9, rfl, he9, hO9⟩
              obtain ⟨za, zc, rfl⟩ := hO9.form
              replace hE := hide (hE.out.trans he9)
              clear hF he9 hO9 hc
              go_wp2_with fail
              go_roundw
              case rel => exact ⟨k + 1, by omega, by go_num, hE.out⟩
              case measure => simp [intOf]; omega
            · obtain rfl : k = 5 := by omega
              rename World => W60
              clear hlt hk hCS0
              replace E := hide (E.out.trans hE)
              replace b59 := hide (b59.out.ext hE)
              clear hE
              clear b59
              rw [show ((5 : Nat) : Int) = 5 from rfl]
              have b61 := Blk.new W60 9 ((kTexts.map fun x => Value.string ⟨x.toArray⟩).toArray)
              have hA := (Ext.refl W60).alloc (Obj.cells ((kTexts.map fun x => Value.string ⟨x.toArray⟩).toArray) 9)
              obtain ⟨CS, hCS⟩ : ∃ CS : Array Value, CS = ((kTexts.map fun x => Value.string ⟨x.toArray⟩).toArray) := ⟨_, rfl⟩
              rw [← hCS] at b61 hA
              have hcs : #[.string ⟨#[]⟩, .string ⟨#[60, 62]⟩, .string ⟨#[60, 49, 62, 32]⟩, .string ⟨#[60, 48, 49, 62]⟩, .string ⟨#[60, 49, 62, 32, 32, 60, 50, 62]⟩, .string ⟨#[49]⟩, .string ⟨#[60, 49]⟩, .string ⟨#[60, 48, 62]⟩, .string ⟨#[60, 52, 50, 57, 52, 57, 54, 55, 50, 57, 54, 62]⟩, .string ⟨#[60, 49, 125]⟩, .string ⟨#[60, 32, 49, 62]⟩] = CS := hCS.symm ▸ rfl
              replace hcs := hide hcs
              replace b61 := hide b61
              replace hA := hide hA
              replace hCS := hide hCS
              obtain ⟨g61, hg61⟩ : ∃ g, W60.heap.size = g := ⟨_, rfl⟩
              rw [hg61] at b61
              go_wp2_with fail
              rw [hcs.out]
              try rw [hg61]
              generalize W60.alloc (Obj.cells CS 9) = W61 at b61 hA ⊢
              replace hA := hA.out
              clear hg61 hcs
              replace E := hide (E.out.trans hA)
              clear hA
              have hCS0 := hCS.out
              clear hCS
              go_loopw [31] (fun i wr => ∃ k : Nat, k ≤ 11 ∧ i = .int .i64 k ∧ Ext W61 wr) (fun i _ => 11 - (intOf i).toNat)
              case atStart => exact ⟨0, by omega, rfl, Ext.refl _⟩
              case round =>
                obtain ⟨k, hk, rfl, hE⟩ := hrel
                by_cases hlt : k < 11
                · have hkl : k < kTexts.length := hlt
                  have hc : wr.cell? ⟨g61, k, none⟩ = some (.string ⟨(kTexts[k]).toArray⟩) := by
                    have h := (b61.out.ext hE).cell k
                    rw [hCS0, List.getElem?_toArray, List.getElem?_map, List.getElem?_eq_getElem hkl] at h
                    exact h
                  have hd := kTexts_no _ (List.getElem_mem hkl)
                  have hsz : (kTexts[k]).length ≤ 1048576 := (show ∀ x ∈ kTexts, x.length ≤ 1048576 by decide) _ (List.getElem_mem hkl)
                  generalize kTexts[k] = x at hc hd hsz
                  have hF := AParse_any x wr hsz (htab.out.ext (E.out.trans hE)) (hV.out.ext (E.out.trans hE))
                  rw [hd] at hF
                  clear hd hsz
                  replace hF := hide hF
                  replace hE := hide hE
                  go_wp2_with fail
                  refine hF.out.mono ?_
                  rintro e w9 ⟨v9, rfl, he9, hO9⟩
                  obtain ⟨za, zc, rfl⟩ := hO9.form
                  replace hE := hide (hE.out.trans he9)
                  clear hF he9 hO9 hc
                  go_wp2_with fail
                  go_roundw
                  case rel => exact ⟨k + 1, by omega, by go_num, hE.out⟩
                  case measure => simp [intOf]; omega
                · obtain rfl : k = 11 := by omega
                  rename World => W62
                  clear hlt hk hCS0
                  replace E := hide (E.out.trans hE)
                  replace b61 := hide (b61.out.ext hE)
                  clear hE
                  clear b61
                  rw [show ((11 : Nat) : Int) = 11 from rfl]
                  go_wp2_with fail
                  have hF := ADecode_any [] true W62 (by decide)
                  rw [show decS [] true = ([], 0) by decide +kernel] at hF
                  refine (hF).mono ?_
                  rintro e W63 ⟨v9, rfl, hE9, hO9⟩
                  replace E := hide (E.out.trans hE9)
                  clear hE9
                  obtain ⟨pe, pf, rfl⟩ := hO9.form
                  clear hO9 hF
                  go_wp2_with fail
                  refine (AParse_dash W63).mono ?_
                  rintro e W64 ⟨rfl, hE9⟩
                  replace E := hide (E.out.trans hE9)
                  clear hE9
                  go_wp2_with fail
                  have hF := AText4_any none 0 [] W64 (by decide) .nil (htab.out.ext E.out)
                  rw [show textS [] = ⟨#[45]⟩ by decide +kernel, show errOf (chk []) = 0 by decide +kernel] at hF
                  refine (hF).mono ?_
                  rintro e W65 ⟨rfl, hE9⟩
                  replace E := hide (E.out.trans hE9)
                  clear hE9
                  clear hF
                  go_wp2_with fail
                  obtain ⟨g66, hg⟩ : ∃ g, W65.heap.size = g := ⟨_, rfl⟩
                  have b66 := (Blk.new W65 26 #[.int .u32 1]).alloc (Obj.cells #[.int .i64 5, .slice (some ⟨g66, 0, none⟩) 1 1] 24)
                  have b67 := Blk.new (W65.alloc (Obj.cells #[.int .u32 1] 26)) 24 #[.int .i64 5, .slice (some ⟨g66, 0, none⟩) 1 1]
                  have hA := ((Ext.refl W65).alloc (Obj.cells #[.int .u32 1] 26)).alloc (Obj.cells #[.int .i64 5, .slice (some ⟨g66, 0, none⟩) 1 1] 24)
                  rw [show (W65.alloc (Obj.cells #[.int .u32 1] 26)).heap.size = g66 + 1 by simp [hg]] at b67
                  rw [hg] at b66
                  try rw [hg]
                  generalize (W65.alloc (Obj.cells #[.int .u32 1] 26)).alloc (Obj.cells #[.int .i64 5, .slice (some ⟨g66, 0, none⟩) 1 1] 24) = W67 at b66 b67 hA ⊢
                  clear hg
                  generalize hgj : g66 + 1 = g67 at b67 ⊢
                  clear hgj
                  replace E := hide (E.out.trans hA)
                  clear hA
                  have p67 := hide (path1 (l1 := [1]) b67 ⟨by decide, by decide⟩ (by decide) (EU32.blk [1] b66))
                  clear b66 b67
                  have hF := AText4_any (some ⟨g67, 0, none⟩) 1 [⟨5, [1]⟩] W67 (by decide) p67.out (htab.out.ext E.out)
                  rw [show textS [⟨5, [1]⟩] = ⟨#[]⟩ by decide +kernel, show errOf (chk [⟨5, [1]⟩]) = 2 by decide +kernel] at hF
                  refine (hF).mono ?_
                  rintro e W68 ⟨rfl, hE9⟩
                  replace E := hide (E.out.trans hE9)
                  replace p67 := hide (p67.out.ext hE9)
                  clear hE9
                  clear hF
                  go_wp2_with fail
                  have hF := AEncode_any (some ⟨g67, 0, none⟩) 1 [⟨5, [1]⟩] true W68 (by decide) p67.out
                  rw [show encS [⟨5, [1]⟩] true = ⟨#[]⟩ by decide +kernel, show errOf (chk [⟨5, [1]⟩]) = 2 by decide +kernel] at hF
                  refine (hF).mono ?_
                  rintro e W69 ⟨rfl, hE9⟩
                  replace E := hide (E.out.trans hE9)
                  replace p67 := hide (p67.out.ext hE9)
                  clear hE9
                  clear hF
                  go_wp2_with fail
                  refine (works_any W69 (htab.out.ext E.out)).mono ?_
                  rintro e W70 ⟨rfl, hE9⟩
                  replace E := hide (E.out.trans hE9)
                  replace p67 := hide (p67.out.ext hE9)
                  clear hE9
                  go_wp2_with fail
                  have hF := Check_any (some ⟨g67, 0, none⟩) 1 ([⟨5, [1]⟩]) W70 (by decide) p67.out
                  rw [show errOf (chk ([⟨5, [1]⟩])) = 2 by decide +kernel] at hF
                  refine (hF).mono ?_
                  rintro e W71 ⟨rfl, hE9⟩
                  replace E := hide (E.out.trans hE9)
                  replace p67 := hide (p67.out.ext hE9)
                  clear hE9
                  clear hF
                  clear p67
                  go_wp2_with fail
                  have b72 := Blk.new W71 24 #[.int .i64 1, .slice none 0 0]
                  have hA := (Ext.refl W71).alloc (Obj.cells #[.int .i64 1, .slice none 0 0] 24)
                  generalize hW : W71.alloc (Obj.cells #[.int .i64 1, .slice none 0 0] 24) = W72 at b72 hA ⊢
                  clear hW
                  generalize hg : W71.heap.size = g72 at b72 ⊢
                  clear hg
                  replace E := hide (E.out.trans hA)
                  clear hA
                  replace b72 := hide b72
                  have p72 := hide (path1 (l1 := []) b72.out ⟨by decide, by decide⟩ (by decide) .nil)
                  clear b72
                  have hF := Check_any (some ⟨g72, 0, none⟩) 1 ([⟨1, []⟩]) W72 (by decide) p72.out
                  rw [show errOf (chk ([⟨1, []⟩])) = 2 by decide +kernel] at hF
                  refine (hF).mono ?_
                  rintro e W73 ⟨rfl, hE9⟩
                  replace E := hide (E.out.trans hE9)
                  replace p72 := hide (p72.out.ext hE9)
                  clear hE9
                  clear hF
                  clear p72
                  go_wp2_with fail
                  have b74 := Blk.new W73 26 #[.int .u32 0]
                  have hA := (Ext.refl W73).alloc (Obj.cells #[.int .u32 0] 26)
                  generalize hW : W73.alloc (Obj.cells #[.int .u32 0] 26) = W74 at b74 hA ⊢
                  clear hW
                  generalize hg : W73.heap.size = g74 at b74 ⊢
                  clear hg
                  replace E := hide (E.out.trans hA)
                  clear hA
                  replace b74 := hide b74
                  refine (seg_any _ _ _ _ _).mono ?_
                  rintro e W75 ⟨rfl, hE9⟩
                  replace E := hide (E.out.trans hE9)
                  replace b74 := hide (b74.out.ext hE9)
                  clear hE9
                  go_wp2_with fail
                  have b76 := Blk.new W75 24 #[.int .i64 1, .slice (some ⟨g74, 0, none⟩) 1 1]
                  have hA := (Ext.refl W75).alloc (Obj.cells #[.int .i64 1, .slice (some ⟨g74, 0, none⟩) 1 1] 24)
                  generalize hW : W75.alloc (Obj.cells #[.int .i64 1, .slice (some ⟨g74, 0, none⟩) 1 1] 24) = W76 at b76 hA ⊢
                  clear hW
                  generalize hg : W75.heap.size = g76 at b76 ⊢
                  clear hg
                  replace E := hide (E.out.trans hA)
                  replace b74 := hide (b74.out.ext hA)
                  clear hA
                  replace b76 := hide b76
                  have p76 := hide (path1 (l1 := [0]) b76.out ⟨by decide, by decide⟩ (by decide) (EU32.blk [0] b74.out))
                  clear b74 b76
                  have hF := Check_any (some ⟨g76, 0, none⟩) 1 ([⟨1, [0]⟩]) W76 (by decide) p76.out
                  rw [show errOf (chk ([⟨1, [0]⟩])) = 2 by decide +kernel] at hF
                  refine (hF).mono ?_
                  rintro e W77 ⟨rfl, hE9⟩
                  replace E := hide (E.out.trans hE9)
                  replace p76 := hide (p76.out.ext hE9)
                  clear hE9
                  clear hF
                  clear p76
                  obtain ⟨C3, hC3, hz3, mk3⟩ := mk17
                  have mk3' := mk3 W77
                  clear mk3 hC3
                  have b78 := Blk.new W77 24 C3
                  have hA := (Ext.refl W77).alloc (Obj.cells C3 24)
                  obtain ⟨g78, hg⟩ : ∃ g, W77.heap.size = g := ⟨_, rfl⟩
                  rw [hg] at b78
                  replace b78 := hide b78
                  replace hA := hide hA
                  replace hz3 := hide hz3
                  go_wp2_with fail
                  try rw [hg]
                  generalize W77.alloc (Obj.cells C3 24) = W78 at b78 hA ⊢
                  clear hg mk3'
                  replace hA := hA.out
                  replace E := hide (E.out.trans hA)
                  clear hA
                  have p78 := hide (zero_path b78.out hz3.out)
                  clear b78 hz3
                  have hF := Check_any (some ⟨g78, 0, none⟩) 17 (List.replicate 17 ⟨0, []⟩) W78 (by decide) p78.out
                  rw [show errOf (chk (List.replicate 17 ⟨0, []⟩)) = 2 by decide +kernel, List.length_replicate] at hF
                  refine (hF).mono ?_
                  rintro e W79 ⟨rfl, hE9⟩
                  replace E := hide (E.out.trans hE9)
                  replace p78 := hide (p78.out.ext hE9)
                  clear hE9
                  clear hF
                  clear p78
                  go_wp2_with fail
                  have hF := Check_any none 0 [] W79 (by decide) .nil
                  rw [show errOf (chk []) = 0 by decide +kernel] at hF
                  refine (hF).mono ?_
                  rintro e W80 ⟨rfl, hE9⟩
                  replace E := hide (E.out.trans hE9)
                  clear hE9
                  clear hF
                  go_wp2_with fail
                  go_ret
                  exact ⟨rfl, E.out⟩
end Go.Proofs.YtiappobhljiknaaGreatDoor
