/- Walks: a replacer of bytes is built. -/
import Derived.Test.YtmhmcdpadmimlaaGreatDoorDB
import Derived.Deep.MidRow
import Derived.Laws.Rows
namespace Go.Proofs.YtmhmcdpadmimlaaGreatDoor
open Go.RowKit
set_option linter.unusedVariables false

/-- The four texts that the replacer is made of. -/
structure St4 (w : World) (s : Nat) : Prop where
  c0 : w.cell? ⟨s, 0, none⟩ = some (.string ⟨#[46]⟩)
  c1 : w.cell? ⟨s, 1, none⟩ = some (.string ⟨#[45]⟩)
  c2 : w.cell? ⟨s, 2, none⟩ = some (.string ⟨#[58]⟩)
  c3 : w.cell? ⟨s, 3, none⟩ = some (.string ⟨#[45]⟩)
theorem St4.ext {w w' : World} {s : Nat} (h : St4 w s) (he : Ext w w') : St4 w' s := ⟨he.cell h.c0, he.cell h.c1, he.cell h.c2, he.cell h.c3⟩
theorem St4.far {w : World} {s : Nat} (h : St4 w s) {p : Addr} (hp : s ≠ p.block) (u : Value) : St4 (w.setCell p u) s := by
  have q : ∀ i, (w.setCell p u).cell? ⟨s, i, none⟩ = w.cell? ⟨s, i, none⟩ := fun i => World.cell?_of_block (a := ⟨s, i, none⟩) (Below.heap_setCell w p u s hp)
  exact ⟨(q 0).trans h.c0, (q 1).trans h.c1, (q 2).trans h.c2, (q 3).trans h.c3⟩
/-- A table of bytes in a block. -/
def Tbl (w : World) (h : Nat) (f : Nat → Nat) : Prop := ∀ j, j < 256 → w.cell? ⟨h, j, none⟩ = some (.int .u8 (f j : Int)) ∧ w.frozen? ⟨h, j, none⟩ = false
theorem Tbl.ext {w w' : World} {h : Nat} {f : Nat → Nat} (t : Tbl w h f) (he : Ext w w') : Tbl w' h f := fun j hj => by
  obtain ⟨h1, h2⟩ := t j hj
  have hlt := World.block_lt_of_cell? w _ h1
  exact ⟨he.cell h1, (Below.frozen he (p := ⟨h, j, none⟩) hlt).trans h2⟩
theorem Tbl.set {w : World} {h : Nat} {f g : Nat → Nat} (t : Tbl w h f) (k v : Nat) (hk : k < 256) (hg : ∀ j, j < 256 → g j = if j = k then v else f j) : Tbl (w.setCell ⟨h, k, none⟩ (.int .u8 (v : Int))) h g := fun j hj => by
  obtain ⟨h1, h2⟩ := t j hj
  refine ⟨?_, ?_⟩
  · rw [hg j hj]
    by_cases e : j = k
    · subst e
      rw [if_pos rfl]
      exact World.cell?_setCell_same w _ _ h1
    · rw [if_neg e]
      exact (World.cell?_setCell_other w ⟨h, k, none⟩ ⟨h, j, none⟩ _ (fun hh => e (by injection hh with _ hh; exact hh.symm))).trans h1
  · rw [World.frozen?_setCell]
    exact h2
theorem Tbl.of {w : World} {h : Nat} {f g : Nat → Nat} (t : Tbl w h f) (hg : ∀ j, j < 256 → g j = f j) : Tbl w h g := fun j hj => by rw [hg j hj]; exact t j hj
theorem Ext.setCells {a : World} {g : Nat} (hg : a.heap.size ≤ g) : ∀ (vs : List Value) (o : Nat) (b : World), Ext a b → Ext a (b.setCells g o vs)
  | [], _, _, h => h
  | v :: r, o, b, h => by
    rw [World.setCells]
    exact Ext.setCells hg r (o + 1) _ (h.setCell (p := ⟨g, o, none⟩) hg v)
theorem zero_tbl : Tryz.zeroCells139 = Array.replicate 256 (.int .u8 0) := by kernel_rfl
theorem zero_len : Tryz.zeroCells139.toList.length = 256 := by kernel_rfl
theorem zero_sz : Tryz.zeroCells139.size = 256 := by kernel_rfl
theorem zero_at (j : Nat) (hj : j < 256) : Tryz.zeroCells139[j]? = some (.int .u8 0) := by rw [zero_tbl, Array.getElem?_replicate, if_pos hj]
theorem there_new (w : World) (n : Nat) (hn : n ≤ 256) : (w.alloc (.cells Tryz.zeroCells139 139)).there w.heap.size 0 n := fun i hi => by
  have hB := Blk.new w 139 Tryz.zeroCells139
  refine ⟨?_, hB.frozen _⟩
  rw [hB.cell, Nat.zero_add, zero_at i (by omega)]
  rfl
theorem tbl_new (w : World) : Tbl ((w.alloc (.cells Tryz.zeroCells139 139)).setCells w.heap.size 0 Tryz.zeroCells139.toList) w.heap.size (fun _ => 0) := fun j hj => by
  have hB := Blk.new w 139 Tryz.zeroCells139
  have h1 := World.rangeAt_setCells_same _ _ _ _ (there_new w Tryz.zeroCells139.toList.length (Nat.le_of_eq zero_len)) j (.int .u8 0) (by rw [Array.getElem?_toList]; exact zero_at j hj)
  rw [Nat.zero_add] at h1
  exact ⟨h1, by rw [World.frozen?_setCells]; exact hB.frozen _⟩
def idT (k j : Nat) : Nat := if j < k then j else 0
def dashN (j : Nat) : Nat := if j = 46 ∨ j = 58 then 45 else j
def colN (j : Nat) : Nat := if j = 58 then 45 else j
set_option maxRecDepth 100000 in
set_option maxHeartbeats 1000000 in
theorem build_any (g s c : Nat) (o n m : Value) (w : World) (hR : Blk w g 102 #[o, n, m, .nilIface, .slice (some ⟨s, 0, none⟩) 4 c]) (hs : St4 w s) :
    Calls Tryz.prog 66 #[.pointer (some ⟨g, 0, none⟩)] w fun e w' => ∃ h, e = .returned (.iface 140 (.pointer (some ⟨h, 0, none⟩))) ∧ Ext w w' ∧ w.heap.size ≤ h ∧ h < w'.heap.size ∧ Tbl w' h dashN := by
  have r4 : w.cell? ⟨g, 4, none⟩ = some (.slice (some ⟨s, 0, none⟩) 4 c) := hR.cell 4
  have s0 : w.cell? ⟨s, 0, none⟩ = some (.string ⟨#[46]⟩) := hs.c0
  have s1 : w.cell? ⟨s, 1, none⟩ = some (.string ⟨#[45]⟩) := hs.c1
  have s2 : w.cell? ⟨s, 2, none⟩ = some (.string ⟨#[58]⟩) := hs.c2
  have s3 : w.cell? ⟨s, 3, none⟩ = some (.string ⟨#[45]⟩) := hs.c3
  go_enter Tryz.func66, Tryz.ntmps66
  go_upto_region 4 with fail
  go_wp2_with fail
  go_loopw [4, 5] (fun v i wr => v = .bool true ∧ (i = .int .i64 0 ∨ i = .int .i64 2 ∨ i = .int .i64 4) ∧ w = wr) (fun _ i _ => 6 - (intOf i).toNat)
  case atStart => exact ⟨rfl, .inl rfl, rfl⟩
  case round =>
    obtain ⟨rfl, hi, rfl⟩ := hrel
    rcases hi with rfl | rfl | rfl
    · go_wp2_with fail
      go_roundw
      case rel => exact ⟨rfl, .inr (.inl rfl), by trivial⟩
      case measure => simp [intOf]
    · go_wp2_with fail
      go_roundw
      case rel => exact ⟨rfl, .inr (.inr rfl), by trivial⟩
      case measure => simp [intOf]
    · go_upto_region 13 with fail
      have hth := there_new w Tryz.zeroCells139.size (Nat.le_of_eq zero_sz)
      have hsz : (Tryz.prog.info? 139).map (·.size) = some Tryz.zeroCells139.size := by kernel_rfl
      have h1c : Tryz.zeroCells139.all (·.oneCell') = true := by kernel_rfl
      have hT0 := tbl_new w
      have hE0 : Ext w ((w.alloc (.cells Tryz.zeroCells139 139)).setCells w.heap.size 0 Tryz.zeroCells139.toList) := Ext.setCells (Nat.le_refl _) _ _ _ ((Ext.refl w).alloc _)
      have hwh : w.heap.size ≤ w.heap.size := Nat.le_refl _
      replace hth := hide hth
      replace hsz := hide hsz
      replace h1c := hide h1c
      replace hT0 := hide hT0
      replace hE0 := hide hE0
      replace hR := hide hR
      replace hs := hide hs
      clear r4 s0 s1 s2 s3
      go_upto_region 14 with (refine wpList_store_mid rfl 139 (.tmp 6) (.tmp 60) rfl w.heap.size 0 Tryz.zeroCells139 rfl rfl hth.out hsz.out h1c.out ?_)
      clear hth hsz h1c
      generalize hW1 : (w.alloc (.cells Tryz.zeroCells139 139)).setCells w.heap.size 0 Tryz.zeroCells139.toList = W1 at hT0 hE0 ⊢
      clear hW1
      generalize hh : w.heap.size = h at hT0 ⊢
      have hwh : w.heap.size ≤ h := Nat.le_of_eq hh
      clear hh
      have hs0 := hs
      go_wp2_with fail
      go_loopw [7, 61] (fun _ i wr => ∃ k : Nat, k ≤ 256 ∧ i = .int .i64 k ∧ Tbl wr h (idT k) ∧ Ext w wr) (fun _ i _ => 256 - (intOf i).toNat)
      case atStart => exact ⟨0, Nat.zero_le _, rfl, hT0.out.of fun j _ => rfl, hE0.out⟩
      case round =>
        clear hT0 hE0
        obtain ⟨k, hk, rfl, hT, hE⟩ := hrel
        by_cases hlt : k < 256
        · obtain ⟨x0, xf⟩ := hT k hlt
          have hst := hT.set (g := idT (k + 1)) k k hlt (fun j hj => by unfold idT; by_cases e : j = k; · rw [if_pos e, if_pos (by omega)]; exact e
                                                                        · rw [if_neg e]; by_cases e2 : j < k; · rw [if_pos (by omega), if_pos e2]
                                                                          · rw [if_neg (by omega), if_neg e2])
          have hEs := hE.setCell (p := ⟨h, k, none⟩) hwh (.int .u8 (k : Int))
          have hw8 : IntKind.u8.wrap (k : Int) = (k : Int) := by rw [IntKind.wrap_u8]; omega
          clear hT hE
          generalize idT k k = z at *
          replace hst := hide hst
          replace hEs := hide hEs
          go_wp2_with fail
          go_roundw
          case rel => exact ⟨k + 1, by omega, by go_num, hst.out, hEs.out⟩
          case measure => simp [intOf]; omega
        · obtain rfl : k = 256 := by omega
          replace hT : Tbl wr h id := hT.of fun j hj => by unfold idT; rw [if_pos hj]; rfl
          clear hlt hk
          replace hT := hide hT
          replace hE := hide hE
          go_wp2_with fail
          obtain ⟨wo, rfl⟩ : ∃ wo : World, wo = wr := ⟨_, rfl⟩
          go_loopw [8, 9, 10] (fun i _ _ wr => ((i = .int .i64 2 ∧ Tbl wr h id) ∨ (i = .int .i64 0 ∧ Tbl wr h colN) ∨ (i = .int .i64 (-2) ∧ Tbl wr h dashN)) ∧ Ext w wr) (fun i _ _ _ => (intOf i + 2).toNat)
          case atStart => exact ⟨.inl ⟨rfl, hT.out⟩, hE.out⟩
          case round =>
            clear hT hE
            obtain ⟨hi, hE⟩ := hrel
            have s0 : wr.cell? ⟨s, 0, none⟩ = some (.string ⟨#[46]⟩) := (hs.out.ext hE).c0
            have s1 : wr.cell? ⟨s, 1, none⟩ = some (.string ⟨#[45]⟩) := (hs.out.ext hE).c1
            have s2 : wr.cell? ⟨s, 2, none⟩ = some (.string ⟨#[58]⟩) := (hs.out.ext hE).c2
            have s3 : wr.cell? ⟨s, 3, none⟩ = some (.string ⟨#[45]⟩) := (hs.out.ext hE).c3
            have i58 : ∀ (q : 0 < (ByteArray.mk #[58]).size), (ByteArray.mk #[58])[0].toNat = 58 := fun _ => rfl
            have i45 : ∀ (q : 0 < (ByteArray.mk #[45]).size), (ByteArray.mk #[45])[0].toNat = 45 := fun _ => rfl
            have i46 : ∀ (q : 0 < (ByteArray.mk #[46]).size), (ByteArray.mk #[46])[0].toNat = 46 := fun _ => rfl
            rcases hi with ⟨rfl, hT⟩ | ⟨rfl, hT⟩ | ⟨rfl, hT⟩
            · obtain ⟨x0, xf⟩ := hT 58 (by decide)
              have hst := hT.set (g := colN) 58 45 (by decide) (fun j hj => rfl)
              have hEs := hE.setCell (p := ⟨h, 58, none⟩) hwh (.int .u8 ((45 : Nat) : Int))
              clear hT hE
              replace hst := hide hst
              replace hEs := hide hEs
              go_wp2_with fail
              go_roundw
              case rel => exact ⟨.inr (.inl ⟨rfl, hst.out⟩), hEs.out⟩
              case measure => simp [intOf]
            · obtain ⟨x0, xf⟩ := hT 46 (by decide)
              have hst := hT.set (g := dashN) 46 45 (by decide) (fun j hj => by unfold dashN colN; by_cases e : j = 46; · rw [if_pos (.inl e), if_pos e]
                                                                                · rw [if_neg e]; by_cases e2 : j = 58; · rw [if_pos (.inr e2), if_pos e2]
                                                                                  · rw [if_neg (by omega), if_neg e2])
              have hEs := hE.setCell (p := ⟨h, 46, none⟩) hwh (.int .u8 ((45 : Nat) : Int))
              clear hT hE
              replace hst := hide hst
              replace hEs := hide hEs
              go_wp2_with fail
              go_roundw
              case rel => exact ⟨.inr (.inr ⟨rfl, hst.out⟩), hEs.out⟩
              case measure => simp [intOf]
            · have hlt : h < wr.heap.size := World.block_lt_of_cell? wr _ (hT 0 (by decide)).1
              clear s0 s1 s2 s3
              replace hT := hide hT
              replace hE := hide hE
              go_wp2
              go_ret
              exact ⟨h, rfl, hE.out, hwh, hlt, hT.out⟩
end Go.Proofs.YtmhmcdpadmimlaaGreatDoor
