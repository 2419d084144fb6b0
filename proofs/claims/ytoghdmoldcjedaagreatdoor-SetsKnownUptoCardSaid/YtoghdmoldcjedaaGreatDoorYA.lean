/- Walks: a set in memory of its own (heraldref15.Own); cut. -/
import Derived.Test.YtoghdmoldcjedaaGreatDoorVZ
namespace Go.Proofs.YtoghdmoldcjedaaGreatDoor
open Go.RowKit Go.Sort
set_option linter.unusedVariables false

set_option maxRecDepth 20000 in
theorem okPatC : ElemOk Tryz.prog 25 38 EAtm.sliceC.sz 24 := elemOk (z := .slice none 0 0) Tryz.underlying25 (by kernel_rfl) rfl
theorem grow_new {w w' : World} {v : Value} (hg : w.grownBy w' (Value.slice none 0 0).ownBlock) (hat : v.ownBlock = (Value.slice none 0 0).ownBlock ∨ v.ownBlock = some w.heap.size) : ∀ b, v.ownBlock = some b → w.heap.size ≤ b := by
  intro b hb
  rcases hat with h | h
  · rw [h] at hb; cases hb
  · rw [h] at hb; injection hb with hb; omega
set_option maxRecDepth 20000 in
set_option maxHeartbeats 4000000 in
theorem ROwn15_any (s : StS) (a1 a2 a3 : Option Addr) (c1 c2 c3 : Nat) (w : World) (hi : SetIn w (· < w.heap.size) s a1 a2 a3) :
    Calls Tryz.prog 12 #[.agg #[.string ⟨s.name.toArray⟩, .int .i64 s.kind, .slice a1 s.items.length c1, .slice a2 s.comms.length c2, .slice a3 s.paths.length c3]] w fun e w' => ∃ v1 v2 v3, e = .returned (.agg #[.string ⟨s.name.toArray⟩, .int .i64 s.kind, v1, v2, v3]) ∧ Ext w w' ∧ Own EItm 36 w' w.heap.size v1 s.items ∧ Own EU32 37 w' w.heap.size v2 s.comms ∧ Own EAtm.sliceC 38 w' w.heap.size v3 s.paths ∧
      ∀ b, v3.ownBlock = some b → v1.ownBlock ≠ some b ∧ v2.ownBlock ≠ some b := by
  have mixed : Tryz.prog.follows Departure.mixedOrders = true := by kernel_rfl
  have hi1 := fun W (h : Ext w W) => hi.items.ext h
  have hi2 := fun W (h : Ext w W) => hi.comms.ext h
  have hi3 := fun W (h : Ext w W) => hi.paths.ext h
  have n1 := hi.nItems
  have n2 := hi.nComms
  have n3 := hi.nPaths
  clear hi
  replace hi1 := hide hi1
  replace hi2 := hide hi2
  replace hi3 := hide hi3
  go_enter Tryz.func12, Tryz.ntmps12
  have S := (Blk.new w 27 #[.string ⟨s.name.toArray⟩, .int .i64 s.kind, .slice a1 s.items.length c1, .slice a2 s.comms.length c2, .slice a3 s.paths.length c3]).alloc (Obj.cells #[.string ⟨#[]⟩, .int .i64 0, .slice none 0 0, .slice none 0 0, .slice none 0 0] 27)
  have R := Blk.new (w.alloc (Obj.cells #[.string ⟨s.name.toArray⟩, .int .i64 s.kind, .slice a1 s.items.length c1, .slice a2 s.comms.length c2, .slice a3 s.paths.length c3] 27)) 27 #[.string ⟨#[]⟩, .int .i64 0, .slice none 0 0, .slice none 0 0, .slice none 0 0]
  have E := ((Ext.refl w).alloc (Obj.cells #[.string ⟨s.name.toArray⟩, .int .i64 s.kind, .slice a1 s.items.length c1, .slice a2 s.comms.length c2, .slice a3 s.paths.length c3] 27)).alloc (Obj.cells #[.string ⟨#[]⟩, .int .i64 0, .slice none 0 0, .slice none 0 0, .slice none 0 0] 27)
  have hz : (w.alloc (Obj.cells #[.string ⟨s.name.toArray⟩, .int .i64 s.kind, .slice a1 s.items.length c1, .slice a2 s.comms.length c2, .slice a3 s.paths.length c3] 27)).heap.size = w.heap.size + 1 := by simp
  rw [hz] at R
  have hzz : ((w.alloc (Obj.cells #[.string ⟨s.name.toArray⟩, .int .i64 s.kind, .slice a1 s.items.length c1, .slice a2 s.comms.length c2, .slice a3 s.paths.length c3] 27)).alloc (Obj.cells #[.string ⟨#[]⟩, .int .i64 0, .slice none 0 0, .slice none 0 0, .slice none 0 0] 27)).heap.size = w.heap.size + 2 := by simp
  generalize hW0 : (w.alloc (Obj.cells #[.string ⟨s.name.toArray⟩, .int .i64 s.kind, .slice a1 s.items.length c1, .slice a2 s.comms.length c2, .slice a3 s.paths.length c3] 27)).alloc (Obj.cells #[.string ⟨#[]⟩, .int .i64 0, .slice none 0 0, .slice none 0 0, .slice none 0 0] 27) = W0 at S R E hzz
  generalize hg0 : w.heap.size = g0 at S R hzz
  have hgw : w.heap.size ≤ g0 := Nat.le_of_eq hg0
  have hgw1 : w.heap.size ≤ g0 + 1 := by omega
  replace S := hide S
  replace R := hide R
  replace E := hide E
  replace hgw := hide hgw
  replace hgw1 := hide hgw1
  go_wp2_with fail
  clear hW0 hg0 hz
  go_loopw [5, 6] (fun v i wr => ∃ k : Nat, k ≤ s.paths.length ∧ i = .int .i64 k ∧ Own EAtm.sliceC 38 wr W0.heap.size v (s.paths.take k) ∧ Ext W0 wr) (fun _ i _ => s.paths.length - (intOf i).toNat)
  case atStart => exact ⟨0, Nat.zero_le _, rfl, Own.nil, Ext.refl _⟩
  case round =>
    obtain ⟨k, hk, rfl, hown, hE⟩ := hrel
    have hsz := hE.size
    have S1 := S.out.ext hE
    have s4 : wr.cell? ⟨g0, 4, none⟩ = some (.slice a3 s.paths.length c3) := S1.cell 4
    by_cases hlt : k < s.paths.length
    · obtain ⟨b, off, ak, ck, rfl, _, x0, hmk, hsk⟩ := EPat.at (hi3.out wr (E.out.trans hE)) k hlt
      have hsn := take_snoc' _ _ hlt
      have hlk : (s.paths.take k).length = k := by simp; omega
      generalize s.paths[k] = pk at *
      generalize s.paths.length = n3' at *
      generalize s.paths.take k = L at *
      clear hi1 hi2 hi3 R S S1
      replace hE := hide hE
      replace hown := hide hown
      replace hsk := hide hsk
      replace hsn := hide hsn
      replace hlk := hide hlk
      go_wp2_with (first
        | (at_builtin; refine wpList_pushesC (f := atmCs) (P := fun a => i64 a.1) (n := 2) (hn := fun _ => rfl) (h1 := EAtm_oneZ) (B := wr.heap.size) (v := .slice none 0 0) (l := []) rfl _ _ _ rfl (by decide) okAtmZ (by decide) rfl Own.nil (Nat.le_refl _) rfl (by simp; omega) hsk.out ?_
           intro v1 w1 hown1 hg1 hat1
           have he1 := ext_pushNil hg1
           rw [List.nil_append] at hown1
           have hs1 := he1.size
           obtain ⟨b1, d1, rfl, hd1, hd2, hC1⟩ := hown1.asC hmk
           clear hown1 hat1 hg1
           replace he1 := hide he1; replace hd2 := hide hd2; replace hC1 := hide hC1)
        | (at_builtin
           have hox := (hown.out.ext he1.out).alloc (Obj.cells #[.slice b1 pk.length d1] 38)
           have hsp : EAtm.sliceC.R (w1.alloc (.cells #[.slice b1 pk.length d1] 38)) (fun b => W0.heap.size ≤ b ∧ b < (w1.alloc (.cells #[.slice b1 pk.length d1] 38)).heap.size ∧ some b ≠ u5.ownBlock) pk [.slice b1 pk.length d1] :=
             EAtm.sliceC.mono (fun b hb => ⟨by omega, by simp; omega, fun he => by have := (hown.out.lt b he.symm).2; omega⟩) (EAtm.sliceC.frame (fun b hb => Below.heap_alloc _ _ _ hb.2) hC1.out)
           go_must (refine wpList_push (E := EAtm.sliceC) (l := L) rfl _ _ _ rfl okPatC (by decide) (by decide) rfl hox (by rw [hlk.out]; omega) (by simp; omega) rfl hsp (cells_new w1 #[.slice b1 pk.length d1] _) ?_)
           intro v' w2 hown' hg hat))
      go_roundw
      case rel => exact ⟨k + 1, by omega, by go_num, by rw [hsn.out]; exact hown', ((hE.out.trans he1.out).alloc _).push (fun j hj => (hown.out.lt j hj).1) hg⟩
      case measure => simp [intOf]; omega
    · obtain rfl : k = s.paths.length := by omega
      rw [List.take_length] at hown
      have R1 := R.out.ext hE
      have s0 : wr.cell? ⟨g0, 0, none⟩ = some (.string ⟨s.name.toArray⟩) := S1.cell 0
      have s1 : wr.cell? ⟨g0, 1, none⟩ = some (.int .i64 s.kind) := S1.cell 1
      have s2 : wr.cell? ⟨g0, 2, none⟩ = some (.slice a1 s.items.length c1) := S1.cell 2
      have s3 : wr.cell? ⟨g0, 3, none⟩ = some (.slice a2 s.comms.length c2) := S1.cell 3
      have hEw := E.out.trans hE
      have hI := hi1.out wr hEw
      have hC := hi2.out wr hEw
      have hog := hown.lt
      obtain ⟨b3, d3, rfl⟩ := hown.form
      clear hi1 hi2 hi3 R S
      replace hE := hide hE
      replace hown := hide hown
      replace hEw := hide hEw
      replace hI := hide hI
      replace hC := hide hC
      replace R1 := hide R1
      replace S1 := hide S1
      replace hog := hide hog
      go_wp2_with fail
      have tok := trivial
      go_region_held3 (fun w' => w'.cell? ⟨g0, 0, none⟩ = some (.string ⟨s.name.toArray⟩) ∧ w'.cell? ⟨g0, 1, none⟩ = some (.int .i64 s.kind) ∧ w'.cell? ⟨g0, 2, none⟩ = some (.slice a1 s.items.length c1) ∧ w'.cell? ⟨g0, 3, none⟩ = some (.slice a2 s.comms.length c2))
        (go_keep)
        (first
          | (refine step_pushesC (f := itmCs) (P := ItmIn) (n := 6) (hn := fun _ => rfl) (h1 := EItm_oneZ) (B := wr.heap.size) (w := wr.drew) (v := .slice none 0 0) (l := []) rfl _ _ _ (by rfl) (by decide) okItmZ (by decide) (by rfl) Own.nil (Nat.le_refl _) (by rfl) (by simp; omega) hI.out.draw ?_
             intro v1 w1 hown1 hg1 hat1
             have he1 := ext_pushNil hg1
             have hn1 := grow_new hg1 hat1
             rw [List.nil_append] at hown1
             obtain ⟨b1, d1, rfl⟩ := hown1.form
             have hs1 := he1.size
             have hx1 : Ext wr w1 := (Ext.refl wr).drew.trans he1
             have j0 := hx1.cell s0
             have j1 := hx1.cell s1
             have j2 := hx1.cell s2
             have j3 := hx1.cell s3
             replace hown1 := hide hown1; replace hx1 := hide hx1; replace hn1 := hide hn1; clear he1 hg1 hat1)
          | (refine step_pushes (B := wr.heap.size) (w := w1) (v := .slice none 0 0) (l := []) rfl _ _ _ (by rfl) okU32 (by decide) (by rfl) Own.nil hs1 (by rfl) (by simp; omega) (hC.out.ext hx1.out) ?_
             intro v2 w2 hown2 hg2 hat2
             have he2 := ext_pushNil hg2
             have hn2 := grow_new hg2 hat2
             rw [List.nil_append] at hown2
             obtain ⟨b2, d2, rfl⟩ := hown2.form
             have hs2 := he2.size
             have k0 := he2.cell j0
             have k1 := he2.cell j1
             have k2 := he2.cell j2
             have k3 := he2.cell j3
             have R3 := (R1.out.ext hx1.out).ext he2
             have r0 : w2.cell? ⟨g0 + 1, 0, none⟩ = some (.string ⟨#[]⟩) := R3.cell 0
             have r1 : w2.cell? ⟨g0 + 1, 1, none⟩ = some (.int .i64 0) := R3.cell 1
             have r2 : w2.cell? ⟨g0 + 1, 2, none⟩ = some (.slice none 0 0) := R3.cell 2
             have r3 : w2.cell? ⟨g0 + 1, 3, none⟩ = some (.slice none 0 0) := R3.cell 3
             have r4 : w2.cell? ⟨g0 + 1, 4, none⟩ = some (.slice none 0 0) := R3.cell 4
             have rf := fun i => R3.frozen i
             replace R3 := hide R3; replace hown2 := hide hown2; replace he2 := hide he2; replace hn2 := hide hn2; clear hg2 hat2))
      have hZ := R3.out.set5w (.string ⟨s.name.toArray⟩) (.int .i64 s.kind) (.slice b1 s.items.length d1) (.slice b2 s.comms.length d2) (.slice b3 s.paths.length d3)
      have hO := OnlyAt.set5w (g := g0 + 1) (w := w2) (.string ⟨s.name.toArray⟩) (.int .i64 s.kind) (.slice b1 s.items.length d1) (.slice b2 s.comms.length d2) (.slice b3 s.paths.length d3)
      clear j0 j1 j2 j3 k0 k1 k2 k3 r0 r1 r2 r3 r4 rf R3 s0 s1 s2 s3 s4
      generalize (((((w2.setCell ⟨g0 + 1, 0, none⟩ (.string ⟨s.name.toArray⟩)).setCell ⟨g0 + 1, 1, none⟩ (.int .i64 s.kind)).setCell ⟨g0 + 1, 2, none⟩ (.slice b1 s.items.length d1)).setCell ⟨g0 + 1, 3, none⟩ (.slice b2 s.comms.length d2)).setCell ⟨g0 + 1, 4, none⟩ (.slice b3 s.paths.length d3)) = W3 at hZ hO ⊢
      have o1 := (hown1.out.ext he2.out).only hO (by omega)
      have o2 := hown2.out.only hO (by omega)
      have o3 := (hown.out.ext (hx1.out.trans he2.out)).only hO (by omega)
      have hE3 := hO.ext (hEw.out.trans (hx1.out.trans he2.out)) hgw1.out
      have hBw : g0 ≤ wr.heap.size := by omega
      have hBW : g0 ≤ W0.heap.size := by omega
      have hfin : ∀ b, (Value.slice b3 s.paths.length d3).ownBlock = some b → (Value.slice b1 s.items.length d1).ownBlock ≠ some b ∧ (Value.slice b2 s.comms.length d2).ownBlock ≠ some b := fun b hb => by
        have hlt := (hog.out b hb).2
        refine ⟨fun h => ?_, fun h => ?_⟩
        · have : wr.heap.size ≤ b := hn1.out b h
          omega
        · have := hn2.out b h
          have : wr.heap.size ≤ w1.heap.size := hs1
          omega
      have z0 : W3.cell? ⟨g0 + 1, 0, none⟩ = some (.string ⟨s.name.toArray⟩) := hZ.cell 0
      have z1 : W3.cell? ⟨g0 + 1, 1, none⟩ = some (.int .i64 s.kind) := hZ.cell 1
      have z2 : W3.cell? ⟨g0 + 1, 2, none⟩ = some (.slice b1 s.items.length d1) := hZ.cell 2
      have z3 : W3.cell? ⟨g0 + 1, 3, none⟩ = some (.slice b2 s.comms.length d2) := hZ.cell 3
      have z4 : W3.cell? ⟨g0 + 1, 4, none⟩ = some (.slice b3 s.paths.length d3) := hZ.cell 4
      replace o1 := hide (o1.low hBw)
      replace o2 := hide (o2.low hBw)
      replace o3 := hide (o3.low hBW)
      clear hx1 he2 hown1 hown2 hown hZ hO hog hn1 hn2
      replace hE3 := hide hE3
      replace hfin := hide hfin
      go_wp2
      exact bodyPost_ret (v := .agg #[.string ⟨s.name.toArray⟩, .int .i64 s.kind, .slice b1 s.items.length d1, .slice b2 s.comms.length d2, .slice b3 s.paths.length d3]) (by simp [results, Tryz.results12, go_sem, z0, z1, z2, z3, z4]) rfl ⟨_, _, _, rfl, hE3.out, o1.out, o2.out, o3.out, hfin.out⟩
end Go.Proofs.YtoghdmoldcjedaaGreatDoor
