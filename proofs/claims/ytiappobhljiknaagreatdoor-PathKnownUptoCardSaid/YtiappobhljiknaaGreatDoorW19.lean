/- slices.Insert at 27: in place where there is room, else a new row. (Turned from the kit's Spec/SlicesInsert.) -/
import Derived.Test.YtiappobhljiknaaGreatDoorA9
import Derived.Test.YtiappobhljiknaaGreatDoorW1
import Derived.Shelf.Spec.SlicesInsertGrow
namespace Go.Proofs.YtiappobhljiknaaGreatDoor
open Go.RowKit
set_option linter.unusedVariables false

theorem cell_heapSg {W W' : World} (h : W.heap = W'.heap) (x : Addr) : W.cell? x = W'.cell? x := by unfold World.cell?; rw [h]

set_option maxRecDepth 100000 in
set_option maxHeartbeats 4000000 in
theorem InsSg_shift (g o n c i vb m vc : Nat) (cs vs : List Value) (cur : Array Value) (w : World) (hi : i < n) (hm : 0 < m) (hroom : n + m ≤ c) (hc63 : c ≤ 9223372036854775807) (hvb : vb ≠ g) (ho : o = 0)
    (hg : w.heap[g]? = some (.cells cur 24 (0, 0))) (hcur : cur.size = c * 2) (hcl : cs.length = n * 2) (hvl : vs.length = m * 2) (htk : cur.toList.take (n * 2) = cs)
    (hv : w.heap[vb]? = some (.cells vs.toArray 24 (0, 0))) (h1c : ∀ v ∈ cs, v.oneCell' = true) (h1v : ∀ v ∈ vs, v.oneCell' = true) :
    Calls Tryz.prog 25 #[.slice (some ⟨g, o, none⟩) n c, .int .i64 i, .slice (some ⟨vb, o, none⟩) m vc] w fun e w' =>
      e = .returned (.slice (some ⟨g, o, none⟩) (n + m) c) ∧ ∃ r1 r2 : Array Value, r1 = (cur.toList.take (o + (i + m) * 2) ++ cs.drop (i * 2) ++ cur.toList.drop (o + (i + m) * 2 + (cs.drop (i * 2)).length)).toArray ∧ r2 = (r1.toList.take (o + (i) * 2) ++ vs ++ r1.toList.drop (o + (i) * 2 + vs.length)).toArray ∧ w' = (w.drew.setRow g r1).setRow g r2 := by
  have hz1 : ¬ ((m : Int) = 0) := by omega
  have hz2 : ¬ ((i : Int) = (n : Int)) := by omega
  have hsz : (Tryz.prog.info? 24).map (·.size) = some 2 := by kernel_rfl
  have hcell : ∀ j v, cs[j]? = some v → w.cell? ⟨g, o + j, none⟩ = some v := fun j v hj => by
    rw [cell_of_row w g (o + j) cur _ _ hg]
    rw [← htk, List.getElem?_take] at hj
    split at hj
    · rw [ho, Nat.zero_add, ← Array.getElem?_toList]; exact hj
    · cases hj
  have hov : ∀ lb cb, (callFunc 49 #[.slice (some ⟨vb, o, none⟩) m vc, .slice (some ⟨g, o + (i + m) * 2, none⟩) lb cb]).run Tryz.prog w = .ok (.value (.bool false)) w := fun lb cb => by
    rw [run_callFunc_extern Tryz.func49 (by kernel_rfl) (by kernel_rfl) (by kernel_rfl) (e := Extern.SlicesOverlaps.overlaps #[27, 27] #[4]) (by kernel_rfl),
      Lib.run_overlaps_apart w 27 4 24 okSeg.1 2 (fun w => by obtain ⟨i0, z0, h1, h2, h3, h4, h5⟩ := okSeg.2; simp [sizeOf, typeInfo, h1]; exact h3) ⟨vb, o, none⟩ ⟨g, o + (i + m) * 2, none⟩ m vc lb cb hvb 24 24 vs.length cur.size
        (by simp [World.shape?, hv]) (by simp [World.shape?, hg]) (by rw [hcur]; omega) (by simp [World.frozen?, hv]) (by simp [World.frozen?, hv])]
    rfl
  have hdl : (cs.drop (i * 2)).length = (n - i) * 2 := by rw [List.length_drop, hcl]; omega
  have mixed : Tryz.prog.follows Departure.mixedOrders = true := by kernel_rfl
  have hw1 : IntKind.i64.wrap ((i : Int) + (m : Int)) = (i : Int) + (m : Int) := by rw [IntKind.wrap_i64]; omega
  have hb1 : (0 : Int) ≤ (i : Int) + (m : Int) := by omega
  have hin : i ≤ n := by omega
  have htn : ((i : Int) + (m : Int)).toNat = i + m := by omega
  have hb2 : ¬ (c = i + m) := by omega
  have hb3 : (i : Int) ≤ (n : Int) + (m : Int) := by omega
  have hb4 : ¬ (c = i) := by omega
  have hcp1 : ∀ ty dc sc, (Builtin.copy_ #[27, 27] ty #[.slice (some ⟨g, o + (i + m) * 2, none⟩) (n + m - (i + m)) dc, .slice (some ⟨g, o + (i) * 2, none⟩) (n + m - i) sc]).run Tryz.prog w.drew = .ok (goInt (Nat.min (n + m - i) (n + m - (i + m)))) (w.drew.setRow g (cur.toList.take (o + (i + m) * 2) ++ cs.drop (i * 2) ++ cur.toList.drop (o + (i + m) * 2 + (cs.drop (i * 2)).length)).toArray) := fun ty dc sc =>
    run_copy_sz w.drew _ _ ty 24 2 g (o + (i + m) * 2) (n + m - (i + m)) dc ⟨g, o + (i) * 2, none⟩ (n + m - i) sc cur 24 (cs.drop (i * 2)) okSeg.1 hsz hg (by rw [hdl]; simp only [Nat.min_def]; split <;> omega)
      (fun j v hj => by
        rw [add_lit, show o + (i) * 2 + j = o + (i * 2 + j) by omega]
        exact hcell (i * 2 + j) v (by rwa [List.getElem?_drop] at hj)) (by rw [hdl, hcur]; omega) (fun v hv => h1c v (List.mem_of_mem_drop hv))
  obtain ⟨r1, hr1⟩ : ∃ r1, r1 = (cur.toList.take (o + (i + m) * 2) ++ cs.drop (i * 2) ++ cur.toList.drop (o + (i + m) * 2 + (cs.drop (i * 2)).length)).toArray := ⟨_, rfl⟩
  have hr1s : r1.size = c * 2 := by
    rw [hr1]
    simp only [List.size_toArray, List.length_append, List.length_take, List.length_drop, Array.length_toList, hcur, hcl]
    omega
  rw [← hr1] at hcp1
  obtain ⟨W1, hW1⟩ : ∃ W1, W1 = w.drew.setRow g r1 := ⟨_, rfl⟩
  have hg1 : W1.heap[g]? = some (.cells r1 24 (0, 0)) := by rw [hW1]; exact setRow_heap w.drew g cur r1 _ _ hg
  have hv1 : W1.heap[vb]? = some (.cells vs.toArray 24 (0, 0)) := by rw [hW1, setRow_other w.drew g vb _ hvb]; exact hv
  rw [← hW1] at hcp1
  have hcp2 : ∀ (W : World), W.heap = W1.heap → ∀ ty dc, (Builtin.copy_ #[27, 27] ty #[.slice (some ⟨g, o + (i) * 2, none⟩) (n + m - i) dc, .slice (some ⟨vb, o, none⟩) m vc]).run Tryz.prog W = .ok (goInt (Nat.min m (n + m - i))) (W.setRow g (r1.toList.take (o + (i) * 2) ++ vs ++ r1.toList.drop (o + (i) * 2 + vs.length)).toArray) := fun W hWh ty dc =>
    run_copy_sz W _ _ ty 24 2 g (o + (i) * 2) (n + m - i) dc ⟨vb, o, none⟩ m vc r1 24 vs okSeg.1 hsz (by rw [hWh]; exact hg1) (by rw [hvl]; simp only [Nat.min_def]; split <;> omega)
      (fun j v hj => by
        rw [add_lit, cell_heapSg hWh, cell_of_row W1 vb (o + j) _ _ _ hv1, ho, Nat.zero_add]
        simpa using hj) (by rw [hvl, hr1s]; omega) h1v
  obtain ⟨r2, hr2⟩ : ∃ r2, r2 = (r1.toList.take (o + (i) * 2) ++ vs ++ r1.toList.drop (o + (i) * 2 + vs.length)).toArray := ⟨_, rfl⟩
  rw [← hr2] at hcp2
  replace hr1 := hide hr1
  replace hr2 := hide hr2
  replace hW1 := hide hW1
  replace ho := hide ho
  clear hcell hg hcur hcl hvl htk hv hg1 hv1 hr1s hdl
  go_enter Tryz.func25, Tryz.ntmps25
  go_wp2_with (simp only [hov])
  go_region_law_o (refine Go.Proofs.step_copy_runI rfl _ _ 27 27 rfl _ _ (by simp [Act.eval, Act.put]) (by simp [Act.eval, Act.put]) (hcp1 _ _ _) ?_)
  go_wp2_with (at_builtin; refine Go.Proofs.wpList_copy_runI _ rfl _ _ 27 27 rfl _ _ rfl rfl (hcp2 _ rfl _ _) ?_)
  go_ret
  exact ⟨rfl, r1, r2, hr1.out, hr2.out, by rw [hW1.out]⟩

set_option maxRecDepth 100000 in
set_option maxHeartbeats 4000000 in
theorem InsSg_grow (b o n c i vb m vc : Nat) (cs vs : List Value) (w : World) (hi : i < n) (hm : 0 < m) (hnc : n ≤ c) (hroom : c < n + m) (hbig : (n + m) * 32 ≤ 140737488355328) (hoo : o = 0)
    (hcl : cs.length = n * 2) (hvl : vs.length = m * 2)
    (hcs : ∀ j v, cs[j]? = some v → w.cell? ⟨b, o + j, none⟩ = some v)
    (hvs : ∀ j v, vs[j]? = some v → w.cell? ⟨vb, o + j, none⟩ = some v) (h1c : ∀ v ∈ cs, v.oneCell' = true) (h1v : ∀ v ∈ vs, v.oneCell' = true) :
    Calls Tryz.prog 25 #[.slice (some ⟨b, o, none⟩) n c, .int .i64 i, .slice (some ⟨vb, o, none⟩) m vc] w fun e w' => ∃ (G : Nat) (ROW rA rB : Array Value), n + m ≤ G ∧ G ≤ 9223372036854775807 ∧ ROW.size = G * 2 ∧
      e = .returned (.slice (some ⟨w.heap.size, 0, none⟩) (n + m) G) ∧ rA = (ROW.toList.take (i * 2) ++ vs ++ ROW.toList.drop (i * 2 + vs.length)).toArray ∧ rB = (rA.toList.take ((i + m) * 2) ++ cs.drop (i * 2) ++ rA.toList.drop ((i + m) * 2 + (cs.drop (i * 2)).length)).toArray ∧
      w' = (((w.alloc (.cells ROW 24 (0, 0))).drew.setRow w.heap.size rA).drew).setRow w.heap.size rB ∧ (i = 0 → ROW.toList.take (i * 2) = cs.take (i * 2)) := by
  obtain ⟨i0, z0, hi0, hz0, hzs, hzb, hzc⟩ := okSeg.2
  have mixed : Tryz.prog.follows Departure.mixedOrders = true := by kernel_rfl
  have hz1 : ¬ ((m : Int) = 0) := by omega
  have hz2 : ¬ ((i : Int) = (n : Int)) := by omega
  have hz3 : (c : Int) < (n : Int) + (m : Int) := by omega
  have hsz : (Tryz.prog.info? 24).map (·.size) = some 2 := by kernel_rfl
  have hbw : b < w.heap.size := block_lt_of_cell (hcs 0 _ (List.getElem?_eq_getElem (by omega)))
  have hvw : vb < w.heap.size := block_lt_of_cell (hvs 0 _ (List.getElem?_eq_getElem (by omega)))
  have hkk : (n : Int) + (m : Int) - (i : Int) = ((n + m - i : Nat) : Int) := by omega
  have hik : i + (n + m - i) = n + m := by omega
  have hold : (Builtin.firstCells i0.size i (.slice (some ⟨b, o, none⟩) i c)).run Tryz.prog w.drew = .ok (cs.take (i * 2)).toArray w.drew := by
    have hzs' : i0.size = 2 := hzs
    rw [hzs']
    exact run_firstCells_some w.drew 2 i ⟨b, o, none⟩ i c (cs.take (i * 2)) (by rw [List.length_take]; omega) (fun j v hj => by
      rw [add_lit]
      rw [List.getElem?_take] at hj
      split at hj
      · exact hcs j v hj
      · cases hj)
  have hzs' : i0.size = 2 := hzs
  have hzc' : z0.cells.size = 2 := hzc
  have hrz : ∀ ty, (Builtin.append_ #[27, 3] ty #[.slice (some ⟨b, o, none⟩) i c, .int .i64 ((n : Int) + (m : Int) - (i : Int))]).run Tryz.prog w =
      .ok (.slice (some ⟨w.heap.size, 0, none⟩) (n + m) (grownCap w (n + m) c 24)) (w.drew.alloc (.cells ((cs.take (i * 2)).toArray ++ Builtin.zeroCells z0.cells (n + m - i) ++ Builtin.zeroCells z0.cells (grownCap w (n + m) c 24 - (n + m))) 24)) := fun ty => by
    have h := Lib.run_append_grow_zeros (P := Tryz.prog) w 27 3 ty 24 i0 z0 .i64 .i64 okSeg.1 (by kernel_rfl) hi0 hz0 (some ⟨b, o, none⟩) i c (cs.take (i * 2)) hold (n + m - i) (by omega) (by omega) (by omega) (by omega) (by rw [hzb]; omega) (by rw [hzb, hik]; exact growslice_fits hroom (by omega))
    rw [hik] at h
    rw [hkk]
    exact h
  obtain ⟨G, hG⟩ : ∃ G, G = grownCap w (n + m) c 24 := ⟨_, rfl⟩
  have hGn : n + m ≤ G := by rw [hG]; exact grownCap_ge w _ _ _
  have hG63 : G ≤ 9223372036854775807 := by
    have := grownCap_le_maxLen w (n + m) c 24 (by unfold maxLen; omega)
    rw [← hG] at this
    unfold maxLen at this
    omega
  rw [← hG] at hrz
  obtain ⟨ROW, hROW⟩ : ∃ ROW : Array Value, ROW = (cs.take (i * 2)).toArray ++ Builtin.zeroCells z0.cells (n + m - i) ++ Builtin.zeroCells z0.cells (G - (n + m)) := ⟨_, rfl⟩
  rw [← hROW] at hrz
  have hRs : ROW.size = G * 2 := by
    rw [hROW]
    simp only [Array.size_append, size_zeroCells, hzc', List.size_toArray, List.length_take, hcl]
    omega
  have hR0 : ROW.toList.take (i * 2) = cs.take (i * 2) := by
    rw [hROW]
    simp only [Array.toList_append, List.append_assoc]
    rw [List.take_append_of_le_length (by simp only [List.length_take, hcl]; omega), List.take_take, Nat.min_self]
  obtain ⟨W1, hW1⟩ : ∃ W1, W1 = w.drew.alloc (.cells ROW 24) := ⟨_, rfl⟩
  rw [← hW1] at hrz
  have hN : W1.heap[w.heap.size]? = some (.cells ROW 24 (0, 0)) := by rw [hW1]; exact heap_alloc_new w.drew _
  have hOl : ∀ k, k < w.heap.size → W1.heap[k]? = w.heap[k]? := fun k hk => by rw [hW1]; exact Below.heap_alloc w.drew _ k hk
  have hcpA : ∀ (W : World), W.heap = W1.heap → ∀ ty dc, (Builtin.copy_ #[27, 27] ty #[.slice (some ⟨w.heap.size, (i) * 2, none⟩) (n + m - i) dc, .slice (some ⟨vb, o, none⟩) m vc]).run Tryz.prog W = .ok (goInt (Nat.min m (n + m - i))) (W.setRow w.heap.size (ROW.toList.take ((i) * 2) ++ vs ++ ROW.toList.drop ((i) * 2 + vs.length)).toArray) := fun W hWh ty dc =>
    run_copy_sz W _ _ ty 24 2 w.heap.size ((i) * 2) (n + m - i) dc ⟨vb, o, none⟩ m vc ROW 24 vs okSeg.1 hsz (by rw [hWh]; exact hN) (by rw [hvl]; simp only [Nat.min_def]; split <;> omega)
      (fun j v hj => by rw [add_lit, cell_heapSg hWh, World.cell?_of_block (a := ⟨vb, o + j, none⟩) (hOl vb hvw)]; exact hvs j v hj) (by rw [hvl, hRs]; omega) h1v
  obtain ⟨rA, hrA⟩ : ∃ rA, rA = (ROW.toList.take ((i) * 2) ++ vs ++ ROW.toList.drop ((i) * 2 + vs.length)).toArray := ⟨_, rfl⟩
  have hrAs : rA.size = G * 2 := by
    rw [hrA]
    simp only [List.size_toArray, List.length_append, List.length_take, List.length_drop, Array.length_toList, hRs, hvl]
    omega
  rw [← hrA] at hcpA
  have hGi : ¬ (G = i) := by omega
  have hGim : ¬ (G = i + m) := by omega
  have hci : ¬ (c = i) := by omega
  have hbN : b ≠ w.heap.size := by omega
  have hdl : (cs.drop (i * 2)).length = (n - i) * 2 := by rw [List.length_drop, hcl]; omega
  have hNA : ∀ (W : World), W.heap = W1.heap → (W.setRow w.heap.size rA).heap[w.heap.size]? = some (.cells rA 24 (0, 0)) := fun W hW => setRow_heap W _ ROW rA _ _ (by rw [hW]; exact hN)
  have hcpB : ∀ (W V : World), W.heap = (V.setRow w.heap.size rA).heap → V.heap = W1.heap → ∀ ty dc sc, (Builtin.copy_ #[27, 27] ty #[.slice (some ⟨w.heap.size, (i + m) * 2, none⟩) (n + m - (i + m)) dc, .slice (some ⟨b, o + (i) * 2, none⟩) (n - i) sc]).run Tryz.prog W = .ok (goInt (Nat.min (n - i) (n + m - (i + m)))) (W.setRow w.heap.size (rA.toList.take ((i + m) * 2) ++ cs.drop (i * 2) ++ rA.toList.drop ((i + m) * 2 + (cs.drop (i * 2)).length)).toArray) := fun W V hWh hVh ty dc sc =>
    run_copy_sz W _ _ ty 24 2 w.heap.size ((i + m) * 2) (n + m - (i + m)) dc ⟨b, o + (i) * 2, none⟩ (n - i) sc rA 24 (cs.drop (i * 2)) okSeg.1 hsz (by rw [hWh]; exact hNA V hVh) (by rw [hdl]; simp only [Nat.min_def]; split <;> omega)
      (fun j v hj => by
        rw [add_lit, cell_heapSg hWh, World.cell?_of_block (a := ⟨b, o + (i) * 2 + j, none⟩) (setRow_other V _ b _ hbN), cell_heapSg hVh, World.cell?_of_block (a := ⟨b, o + (i) * 2 + j, none⟩) (hOl b hbw), show o + (i) * 2 + j = o + (i * 2 + j) by omega]
        exact hcs (i * 2 + j) v (by rwa [List.getElem?_drop] at hj)) (by rw [hdl, hrAs]; omega) (fun v hv => h1c v (List.mem_of_mem_drop hv))
  obtain ⟨rB, hrB⟩ : ∃ rB, rB = (rA.toList.take ((i + m) * 2) ++ cs.drop (i * 2) ++ rA.toList.drop ((i + m) * 2 + (cs.drop (i * 2)).length)).toArray := ⟨_, rfl⟩
  rw [← hrB] at hcpB
  subst hW1
  have hw1 : IntKind.i64.wrap ((i : Int) + (m : Int)) = (i : Int) + (m : Int) := by rw [IntKind.wrap_i64]; omega
  have hb1 : (0 : Int) ≤ (i : Int) + (m : Int) := by omega
  have hin : i ≤ n := by omega
  have htn : ((i : Int) + (m : Int)).toNat = i + m := by omega
  have hb3 : (i : Int) ≤ (n : Int) := by omega
  have hE1 : ((w.alloc (.cells ROW 24)).drew).heap = (w.drew.alloc (.cells ROW 24)).heap := rfl
  replace hrA := hide hrA
  replace hrB := hide hrB
  replace hR0 := hide hR0
  replace hRs := hide hRs
  replace hoo := hide hoo
  clear hkk hik hold hROW hG hrAs hN hOl hNA hcs hvs hcl hvl hdl h1c h1v
  go_enter Tryz.func25, Tryz.ntmps25
  go_wp2_with (first
    | (at_builtin; refine Lib.wpList_append_run _ rfl _ _ _ _ rfl _ _ rfl rfl _ _ (hrz _) ?_)
    | (at_builtin; refine Go.Proofs.wpList_copy_runI _ rfl _ _ 27 27 rfl _ _ rfl rfl (hcpA _ hE1 _ _) ?_))
  go_region_law_o (refine Go.Proofs.step_copy_runI rfl _ _ 27 27 rfl (.slice (some ⟨w.heap.size, (i + m) * 2, none⟩) (n + m - (i + m)) (G - (i + m))) (.slice (some ⟨b, o + (i) * 2, none⟩) (n - i) (c - i)) (by simp [Act.eval, Act.put]) (by simp [Act.eval, Act.put]) (hcpB ((w.alloc (.cells ROW 24)).drew.setRow w.heap.size rA).drew (w.alloc (.cells ROW 24)).drew rfl hE1 3 (G - (i + m)) (c - i)) ?_)
  go_wp2
  go_ret
  exact ⟨G, ROW, rA, rB, hGn, hG63, hRs.out, rfl, by first | exact hrA.out | (rw [Nat.mul_one]; exact hrA.out), by first | exact hrB.out | (rw [Nat.mul_one (i + m)]; exact hrB.out), rfl, fun _ => hR0.out⟩
end Go.Proofs.YtiappobhljiknaaGreatDoor
