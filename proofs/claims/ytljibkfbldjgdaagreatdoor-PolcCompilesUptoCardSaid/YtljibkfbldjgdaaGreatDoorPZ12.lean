/- Chapter 16, walks: the document's OwnSets. Chapter 16, walks: slices.Equal at conditions and actions; are two terms the same (polc.Same$1)? Printed by genfj.py. Chapter 16, walks: slices.EqualFunc at terms; polc.Same. Chapter 16, walks: the document's Same and Own of policies. Arguments of chapter 16, opened: policies, with what their slices' capacities are. Chapter 16: the law PolcCompiles, walked. -/
import Derived.Lib.SplitLaws
import Derived.Lib.ParseIntB
import Derived.Lib.ParseIntBCases
import Derived.Lib.ItoaNum
import Derived.Lib.Join
import Derived.WalkKit
import Derived.Below
import Derived.Outline
import Derived.LoopTactic
import Derived.Laws.OwnMore
import Derived.Deep.AppendLies
import Derived.Deep.Draws
import Derived.Lib.Hide
import Derived.BigQuiet
import Derived.Deep.QuietTactic
import Derived.WalkSpells
import Derived.WalkLawsBesides
import Derived.Deep.RegionHeld3
import Derived.Deep.DrawnRows
import Derived.Deep.RegionLaw
import Derived.Lib.ConvBytes
import Derived.Lib.Bytealg
import Derived.Lib.Small
import Derived.Test.YtljibkfbldjgdaaGreatDoorRows
import Derived.ProofKit
import Derived.Deep.Slices
import Derived.Shelf.GgClosure.StringsRunes
import Derived.Test.YtljibkfbldjgdaaGreatDoorProg
import Derived.Test.YtljibkfbldjgdaaGreatDoorShelf
import Derived.Orders
import Derived.StillTail
import Derived.Test.YtljibkfbldjgdaaGreatDoorShelf2
import Derived.Lib.UnsafeStr
import Derived.Shelf.RegionOpenPlain
import Derived.Laws.StructEq
import Derived.Lib.QuietBelow
import Derived.Lib.ItoaMem
import Derived.Lib.ItoaLen
import Derived.Deep.DeepCutAuto
import Derived.Defers
import Derived.Recover
import Derived.Maps.OwnSet
import Derived.Maps.Views
import Derived.Maps.Range
import Derived.DeepKeys5
import Derived.Deep.Cut
import Derived.Deep.MidRow
import Derived.Test.YtljibkfbldjgdaaGreatDoorPZ01
import Derived.Test.YtljibkfbldjgdaaGreatDoorPZ02
import Derived.Test.YtljibkfbldjgdaaGreatDoorPZ03
import Derived.Test.YtljibkfbldjgdaaGreatDoorPZ04
import Derived.Test.YtljibkfbldjgdaaGreatDoorPZ05
import Derived.Test.YtljibkfbldjgdaaGreatDoorPZ06
import Derived.Test.YtljibkfbldjgdaaGreatDoorPZ07
import Derived.Test.YtljibkfbldjgdaaGreatDoorPZ08
import Derived.Test.YtljibkfbldjgdaaGreatDoorPZ09
import Derived.Test.YtljibkfbldjgdaaGreatDoorPZ10
import Derived.Test.YtljibkfbldjgdaaGreatDoorPZ11
namespace Go.Proofs.YtljibkfbldjgdaaGreatDoor
section
open Go.RowKit Go.Sort
set_option linter.unusedVariables false
theorem okSetN : ElemOk Tryz.prog 52 67 ESet.sz 96 := elemOk (z := .agg #[.string ⟨#[]⟩, .int .i64 0, .slice none 0 0, .slice none 0 0, .slice none 0 0]) Tryz.underlying52 (by kernel_rfl) rfl
theorem okPatN : ElemOk Tryz.prog 65 73 EAtm.slice.sz 24 := elemOk (z := .slice none 0 0) Tryz.underlying65 (by kernel_rfl) rfl
set_option maxRecDepth 20000 in
set_option maxHeartbeats 4000000 in
theorem DOwnSets_any (a : Option Addr) (c : Nat) (l : List StS) (w : World) (hl : l.length ≤ 16777216) (hs : Sl ESet w (· < w.heap.size) a l) :
    Calls Tryz.prog 24 #[.slice a l.length c] w fun e w' => ∃ v, e = .returned v ∧ Ext w w' ∧ Own ESet 67 w' w.heap.size v l := by
  replace hs := hide hs
  go_enter Tryz.func24, Tryz.ntmps24
  go_wp2_with fail
  go_loopw [3, 4] (fun v i wr => ∃ k : Nat, k ≤ l.length ∧ i = .int .i64 k ∧ Own ESet 67 wr w.heap.size v (l.take k) ∧ Ext w wr) (fun _ i _ => l.length - (intOf i).toNat)
  case atStart => exact ⟨0, Nat.zero_le _, rfl, Own.nil, Ext.refl _⟩
  case round =>
    obtain ⟨k, hk, rfl, hown, hE⟩ := hrel
    by_cases hlt : k < l.length
    · obtain ⟨b, off, a1, c1, a2, c2, a3, c3, rfl, hi, y0, y1, y2, y3, y4⟩ := ESet.at16 (hs.out.ext hE) k hlt
      have hsn := take_snoc' _ _ hlt
      have hlk : (l.take k).length = k := by simp; omega
      have hsz := hE.size
      have hin := hi.name
      have hik := hi.kind
      have n1 := hi.nItems
      have n2 := hi.nComms
      have n3 := hi.nPaths
      generalize l[k] = x at *
      generalize l.take k = L at *
      have A0 := Blk.new wr 67 #[.string ⟨x.name.toArray⟩, .int .i64 x.kind, .slice a1 x.items.length c1, .slice a2 x.comms.length c2, .slice a3 x.paths.length c3]
      have F0 := (Ext.refl wr).alloc (Obj.cells #[.string ⟨x.name.toArray⟩, .int .i64 x.kind, .slice a1 x.items.length c1, .slice a2 x.comms.length c2, .slice a3 x.paths.length c3] 67)
      obtain ⟨gx, hgx⟩ : ∃ g, wr.heap.size = g := ⟨_, rfl⟩
      have z1 : Sl (Enc.cells itmCs ItmIn 6 (fun _ => rfl) EItm_oneZ) (wr.alloc (Obj.cells #[.string ⟨x.name.toArray⟩, .int .i64 x.kind, .slice a1 x.items.length c1, .slice a2 x.comms.length c2, .slice a3 x.paths.length c3] 67)) (· < (wr.alloc (Obj.cells #[.string ⟨x.name.toArray⟩, .int .i64 x.kind, .slice a1 x.items.length c1, .slice a2 x.comms.length c2, .slice a3 x.paths.length c3] 67)).heap.size) a1 x.items := hi.items.ext F0
      have hi2 := fun W (h : Ext wr W) => hi.comms.ext h
      have hi3 := fun W (h : Ext wr W) => hi.paths.ext h
      have hY := fun W (h : Ext wr W) => h.cell y4
      have hm1 : (wr.alloc (Obj.cells #[.string ⟨x.name.toArray⟩, .int .i64 x.kind, .slice a1 x.items.length c1, .slice a2 x.comms.length c2, .slice a3 x.paths.length c3] 67)).heap.size = gx + 1 := by simp [hgx]
      generalize hWx : wr.alloc (Obj.cells #[.string ⟨x.name.toArray⟩, .int .i64 x.kind, .slice a1 x.items.length c1, .slice a2 x.comms.length c2, .slice a3 x.paths.length c3] 67) = Wx at A0 F0 z1 hm1
      rw [hgx] at A0
      clear hi
      replace hown := hide hown
      replace hE := hide hE
      replace hsn := hide hsn
      replace hlk := hide hlk
      replace z1 := hide z1
      replace hi2 := hide hi2
      replace hi3 := hide hi3
      replace A0 := hide A0
      replace F0 := hide F0
      replace hY := hide hY
      replace hsz := hide hsz
      replace hm1 := hide hm1
      replace hgx := hide hgx
      replace hWx := hide hWx
      replace n1 : Tiny x.items.length := ⟨n1⟩
      replace n2 : Tiny x.comms.length := ⟨n2⟩
      have tok1 := trivial
      go_wp2_with (
        first
        | (
           at_builtin
           have tok2 := tok1; clear tok1
           rw [hWx.out, hgx.out]
           go_must (refine wpList_pushesC (f := itmCs) (P := ItmIn) (n := 6) (hn := fun _ => rfl) (h1 := EItm_oneZ) (B := Wx.heap.size) (v := .slice none 0 0) (l := []) (l2 := x.items) (a := a1) (c := c1) rfl _ _ _ rfl (by decide) okItmZ (by decide) rfl Own.nil (Nat.le_refl _) rfl (by rw [List.length_nil, Nat.zero_add]; have := n1.out; omega) z1.out ?_)
           intro v1 w1 hown1 hg1 hat1
           have he1 := ext_pushNilT hg1
           have hO1 : Own EItm 72 w1 Wx.heap.size v1 x.items := hown1
           clear hat1 hg1 hown1 z1
           have A1 := A0.out.ext he1
           have F1 := F0.out.trans he1
           have hs1 := he1.size
           have mf := fun i => A1.frozen i
           have m0 := A1.cell 0
           have m1 := A1.cell 1
           have m2 := A1.cell 2
           have m3 := A1.cell 3
           have m4 := A1.cell 4
           simp at m0 m1 m2 m3 m4
           obtain ⟨x1, d1, rfl⟩ := hO1.form
           clear he1 A0 F0
           replace A1 := hide A1; replace F1 := hide F1; replace hO1 := hide hO1; replace hs1 := hide hs1)
        | (
           at_builtin
           have tok3 := tok2; clear tok2
           have A2 : Blk (w1.setCell ⟨gx, 2, none⟩ (.slice x1 x.items.length d1)) gx 67 #[.string ⟨x.name.toArray⟩, .int .i64 x.kind, .slice x1 x.items.length d1, .slice a2 x.comms.length c2, .slice a3 x.paths.length c3] := A1.out.set_ 2 _
           have F2 := F1.out.setCell (p := ⟨gx, 2, none⟩) (Nat.le_of_eq hgx.out) (.slice x1 x.items.length d1)
           have O1 := hO1.out.asideS (p := ⟨gx, 2, none⟩) (show gx < Wx.heap.size by have := hm1.out; omega) (.slice x1 x.items.length d1)
           have y2' := hi2.out _ F2
           have hs2 : Wx.heap.size ≤ (w1.setCell ⟨gx, 2, none⟩ (.slice x1 x.items.length d1)).heap.size := by have := hs1.out; simpa using this
           go_must (refine wpList_pushes (B := (w1.setCell ⟨gx, 2, none⟩ (.slice x1 x.items.length d1)).heap.size) (v := .slice none 0 0) (l := []) (l2 := x.comms) (a := a2) (c := c2) rfl _ _ _ rfl okU32 (by decide) rfl Own.nil (Nat.le_refl _) rfl (by rw [List.length_nil, Nat.zero_add]; have := n2.out; omega) y2' ?_)
           intro v2 w2 hown2 hg2 hat2
           have he2 := ext_pushNilT hg2
           rw [List.nil_append] at hown2
           have hO2 : Own EU32 49 w2 Wx.heap.size v2 x.comms := Own.low hown2 hs2
           clear hat2 hg2 hown2 y2' mf m0 m1 m2 m3 m4
           have A3 := A2.ext he2
           have F3 := F2.trans he2
           have O3 := O1.ext he2
           have mf := fun i => A3.frozen i
           have m0 := A3.cell 0
           have m1 := A3.cell 1
           have m2 := A3.cell 2
           have m3 := A3.cell 3
           have m4 := A3.cell 4
           simp at m0 m1 m2 m3 m4
           obtain ⟨x2, d2, rfl⟩ := hO2.form
           clear he2 A1 A2 F1 F2 O1 hO1
           replace A3 := hide A3; replace F3 := hide F3; replace O3 := hide O3; replace hO2 := hide hO2; clear hs2))
      have A4 : Blk (w2.setCell ⟨gx, 3, none⟩ (.slice x2 x.comms.length d2)) gx 67 #[.string ⟨x.name.toArray⟩, .int .i64 x.kind, .slice x1 x.items.length d1, .slice x2 x.comms.length d2, .slice a3 x.paths.length c3] := A3.out.set_ 3 _
      have F4 := F3.out.setCell (p := ⟨gx, 3, none⟩) (Nat.le_of_eq hgx.out) (.slice x2 x.comms.length d2)
      have O4 := hide (O3.out.asideS (p := ⟨gx, 3, none⟩) (show gx < Wx.heap.size by have := hm1.out; omega) (.slice x2 x.comms.length d2))
      have P4 := hide (hO2.out.asideS (p := ⟨gx, 3, none⟩) (show gx < Wx.heap.size by have := hm1.out; omega) (.slice x2 x.comms.length d2))
      clear mf m0 m1 m2 m3 m4 A3 F3 O3 hO2 tok3 hs1 y0 y1 y2 y3 y4
      generalize w2.setCell ⟨gx, 3, none⟩ (.slice x2 x.comms.length d2) = W4 at A4 F4 O4 P4 ⊢
      have hW4 : Wx.heap.size ≤ W4.heap.size := by have := A4.lt; have := hm1.out; omega
      have hwW : w.heap.size ≤ Wx.heap.size := by have := hm1.out; have := hgx.out; have := hsz.out; omega
      have hwx : wr.heap.size ≤ Wx.heap.size := by have := hm1.out; have := hgx.out; omega
      clear hWx hi2
      replace A4 := hide A4
      replace F4 := hide F4
      replace hwW := hide hwW
      replace hwx := hide hwx
      go_loopw [8, 9] (fun v i wq => ∃ j : Nat, j ≤ x.paths.length ∧ i = .int .i64 j ∧ Own EAtm.slice 73 wq W4.heap.size v (x.paths.take j) ∧ Ext W4 wq) (fun _ i _ => x.paths.length - (intOf i).toNat)
      case atStart => exact ⟨0, Nat.zero_le _, rfl, Own.nil, Ext.refl _⟩
      case round =>
        obtain ⟨j, hj, rfl, hwn, hG⟩ := hrel
        rename World => wq
        have y4 := hY.out _ (F4.out.trans hG)
        have hgz := hG.size
        by_cases hlj : j < x.paths.length
        · obtain ⟨b', off', ak, ck, rfl, _, x0, hmk, hsk⟩ := EPat.at (hi3.out wq (F4.out.trans hG)) j hlj
          have hsn2 := take_snoc' _ _ hlj
          have hlk2 : (x.paths.take j).length = j := by simp; omega
          generalize x.paths[j] = pk at *
          generalize x.paths.take j = L2 at *
          replace hmk : Tiny pk.length := ⟨hmk⟩
          replace hG := hide hG
          replace hwn := hide hwn
          replace hsk := hide hsk
          replace hsn2 := hide hsn2
          replace hlk2 := hide hlk2
          go_wp2_with (first
            | (at_builtin; refine wpList_pushesC (f := atmCs) (P := fun a => i64 a.1) (n := 2) (hn := fun _ => rfl) (h1 := EAtm_oneZ) (B := wq.heap.size) (v := .slice none 0 0) (l := []) rfl _ _ _ rfl (by decide) okAtmZ (by decide) rfl Own.nil (Nat.le_refl _) rfl (by rw [List.length_nil, Nat.zero_add]; have := hmk.out; omega) hsk.out ?_
               intro v1 w1 hown1 hg1 hat1
               have he1 := ext_pushNilT hg1
               rw [List.nil_append] at hown1
               have hs1 := he1.size
               obtain ⟨za, zc, hv1, hC1⟩ := hown1.sl
               subst hv1
               clear hown1 hat1 hg1
               replace he1 := hide he1; replace hC1 := hide hC1)
            | (at_builtin
               have hox := (hwn.out.ext he1.out).alloc (Obj.cells #[.slice za pk.length zc] 73)
               have hsp : EAtm.slice.R (w1.alloc (.cells #[.slice za pk.length zc] 73)) (fun b => W4.heap.size ≤ b ∧ b < (w1.alloc (.cells #[.slice za pk.length zc] 73)).heap.size ∧ some b ≠ u8.ownBlock) pk [.slice za pk.length zc] :=
                 ⟨za, zc, rfl, hmk.out, (hC1.out.frame fun b hb => Below.heap_alloc _ _ _ hb.2).mono fun b hb => ⟨Nat.le_trans hgz hb.1, by have := hb.2; simp; omega, fun he => by have := (hwn.out.lt b he.symm).2; have := hb.1; omega⟩⟩
               go_must (refine wpList_push (E := EAtm.slice) (l := L2) rfl _ _ _ rfl okPatN (by decide) (by decide) rfl hox (by rw [hlk2.out]; omega) (Nat.le_trans hgz (Nat.le_trans hs1 (by simp))) rfl hsp (cells_new w1 #[.slice za pk.length zc] _) ?_)
               intro v' w2 hown' hg hat))
          go_roundw
          case rel => exact ⟨j + 1, by omega, by go_num, by rw [hsn2.out]; exact hown', ((hG.out.trans he1.out).alloc _).push (fun j hj => by have := (hwn.out.lt j hj).1; omega) hg⟩
          case measure => simp [intOf]; omega
        · obtain rfl : j = x.paths.length := by omega
          rw [List.take_length] at hwn
          replace hwn := hwn.low hW4
          obtain ⟨x3, d3, rfl⟩ := hwn.form
          have A5 := A4.out.ext hG
          have O5 := O4.out.ext hG
          have P5 := P4.out.ext hG
          have F5 := F4.out.trans hG
          have m0 := A5.cell 0
          have m1 := A5.cell 1
          have m2 := A5.cell 2
          have m3 := A5.cell 3
          have m4 := A5.cell 4
          have mf := fun i => A5.frozen i
          simp at m0 m1 m2 m3 m4
          have hgl : gx < Wx.heap.size := by have := hm1.out; omega
          have F6 := F5.setCell (p := ⟨gx, 4, none⟩) (Nat.le_of_eq hgx.out) (.slice x3 x.paths.length d3)
          have O6 := O5.asideS (p := ⟨gx, 4, none⟩) hgl (.slice x3 x.paths.length d3)
          have P6 := P5.asideS (p := ⟨gx, 4, none⟩) hgl (.slice x3 x.paths.length d3)
          have Q6 := hwn.asideS (p := ⟨gx, 4, none⟩) hgl (.slice x3 x.paths.length d3)
          obtain ⟨_, _, e1, s1⟩ := O6.sl
          obtain ⟨_, _, e2, s2⟩ := P6.sl
          obtain ⟨_, _, e3, s3⟩ := Q6.sl
          injection e1 with e1 _ e4
          injection e2 with e2 _ e5
          injection e3 with e3 _ e6
          subst e1 e2 e3 e4 e5 e6
          have hox := ((hown.out.ext F6).alloc (Obj.cells #[.string ⟨x.name.toArray⟩, .int .i64 x.kind, .slice x1 x.items.length d1, .slice x2 x.comms.length d2, .slice x3 x.paths.length d3] 67))
          have F7 := (hE.out.trans F6).alloc (Obj.cells #[.string ⟨x.name.toArray⟩, .int .i64 x.kind, .slice x1 x.items.length d1, .slice x2 x.comms.length d2, .slice x3 x.paths.length d3] 67)
          have hcell := cells_new (wq.setCell ⟨gx, 4, none⟩ (.slice x3 x.paths.length d3)) #[.string ⟨x.name.toArray⟩, .int .i64 x.kind, .slice x1 x.items.length d1, .slice x2 x.comms.length d2, .slice x3 x.paths.length d3] 67
          rw [show ((wq.setCell ⟨gx, 4, none⟩ (.slice x3 x.paths.length d3))).heap.size = wq.heap.size by simp [World.setCell]] at hcell
          replace hcell : ∀ (j : Nat) (u : Value), ([.string ⟨x.name.toArray⟩, .int .i64 x.kind, .slice x1 x.items.length d1, .slice x2 x.comms.length d2, .slice x3 x.paths.length d3] : List Value)[j]? = some u → _ := hcell
          have hzz : (((wq.setCell ⟨gx, 4, none⟩ (.slice x3 x.paths.length d3))).alloc (Obj.cells #[.string ⟨x.name.toArray⟩, .int .i64 x.kind, .slice x1 x.items.length d1, .slice x2 x.comms.length d2, .slice x3 x.paths.length d3] 67)).heap.size = ((wq.setCell ⟨gx, 4, none⟩ (.slice x3 x.paths.length d3))).heap.size + 1 := by simp
          have hS : ∀ b, (Wx.heap.size ≤ b ∧ b < ((wq.setCell ⟨gx, 4, none⟩ (.slice x3 x.paths.length d3))).heap.size) → (w.heap.size ≤ b ∧ b < (((wq.setCell ⟨gx, 4, none⟩ (.slice x3 x.paths.length d3))).alloc (Obj.cells #[.string ⟨x.name.toArray⟩, .int .i64 x.kind, .slice x1 x.items.length d1, .slice x2 x.comms.length d2, .slice x3 x.paths.length d3] 67)).heap.size ∧ some b ≠ u3.ownBlock) := fun b hb => ⟨by have := hwW.out; omega, by omega, fun he => by have := (hown.out.lt b he.symm).2; have := hwx.out; omega⟩
          have hsp : ESet.R (((wq.setCell ⟨gx, 4, none⟩ (.slice x3 x.paths.length d3))).alloc (Obj.cells #[.string ⟨x.name.toArray⟩, .int .i64 x.kind, .slice x1 x.items.length d1, .slice x2 x.comms.length d2, .slice x3 x.paths.length d3] 67)) (fun b => w.heap.size ≤ b ∧ b < (((wq.setCell ⟨gx, 4, none⟩ (.slice x3 x.paths.length d3))).alloc (Obj.cells #[.string ⟨x.name.toArray⟩, .int .i64 x.kind, .slice x1 x.items.length d1, .slice x2 x.comms.length d2, .slice x3 x.paths.length d3] 67)).heap.size ∧ some b ≠ u3.ownBlock) x [.string ⟨x.name.toArray⟩, .int .i64 x.kind, .slice x1 x.items.length d1, .slice x2 x.comms.length d2, .slice x3 x.paths.length d3] :=
            ESet.iff.2 ⟨x1, d1, x2, d2, x3, d3, rfl, hin, hik, n1.out, (s1.frame fun b hb => Below.heap_alloc _ _ _ hb.2).mono hS, n2.out, (s2.frame fun b hb => Below.heap_alloc _ _ _ hb.2).mono hS, n3, (s3.frame fun b hb => Below.heap_alloc _ _ _ hb.2).mono hS⟩
          have hWz : w.heap.size ≤ (((wq.setCell ⟨gx, 4, none⟩ (.slice x3 x.paths.length d3))).alloc (Obj.cells #[.string ⟨x.name.toArray⟩, .int .i64 x.kind, .slice x1 x.items.length d1, .slice x2 x.comms.length d2, .slice x3 x.paths.length d3] 67)).heap.size := F7.size
          clear s1 s2 s3 O6 P6 Q6 F6 F5 A5 O5 P5 hS hwn hG hgl hzz
          replace hox := hide hox
          replace F7 := hide F7
          replace hcell := hide hcell
          replace hsp := hide hsp
          replace hWz := hide hWz
          go_wp2_with (
            at_builtin
            go_must (refine wpList_push (E := ESet) (l := L) rfl _ _ _ rfl okSetN (by decide) (by decide) rfl hox.out (by rw [hlk.out]; omega) hWz.out rfl hsp.out hcell.out ?_)
            intro v' w9 hown' hg hat)
          go_roundw
          case rel => exact ⟨k + 1, by omega, by go_num, by rw [hsn.out]; exact hown', F7.out.push (fun j hj => (hown.out.lt j hj).1) hg⟩
          case measure => simp [intOf]; omega
    · obtain rfl : k = l.length := by omega
      rw [List.take_length] at hown
      replace hown := hide hown
      replace hE := hide hE
      go_wp2_with fail
      go_ret
      exact ⟨_, rfl, hE.out, hown.out⟩
end
section
section
open Go.RowKit
set_option linter.unusedVariables false
end
section
open Go.RowKit
set_option linter.unusedVariables false
/-- Are two policies the same? -/
def samePol (p q : PolS) : Bool := decide (p.name = q.name) && (decide (p.els = q.els) && decide (p.terms = q.terms))
end
end
section
section
open Go.RowKit Go.Sort
set_option linter.unusedVariables false
set_option maxRecDepth 20000 in
set_option maxHeartbeats 4000000 in
theorem DSame16_any (p : PolS) (a : Option Addr) (ca : Nat) (q : PolS) (b : Option Addr) (cb : Nat) (w : World) (hl : p.terms.length ≤ 16777216) (hm : q.terms.length ≤ 16777216)
    (s1 : Sl ETerm w (· < w.heap.size) a p.terms) (s2 : Sl ETerm w (· < w.heap.size) b q.terms) :
    Calls Tryz.prog 17 #[.agg #[.string ⟨p.name.toArray⟩, .slice a p.terms.length ca, .bool p.els], .agg #[.string ⟨q.name.toArray⟩, .slice b q.terms.length cb, .bool q.els]] w fun e w' => e = .returned (.bool (samePol p q)) ∧ Ext w w' := by
  have mixed : Tryz.prog.follows Departure.mixedOrders = true := by kernel_rfl
  unfold samePol
  obtain ⟨n1, l, e1⟩ := p
  obtain ⟨n2, m, e2⟩ := q
  dsimp only at *
  have S := (Blk.new w 35 #[.string ⟨n1.toArray⟩, .slice a l.length ca, .bool e1]).alloc (Obj.cells #[.string ⟨n2.toArray⟩, .slice b m.length cb, .bool e2] 35)
  have T := Blk.new (w.alloc (Obj.cells #[.string ⟨n1.toArray⟩, .slice a l.length ca, .bool e1] 35)) 35 #[.string ⟨n2.toArray⟩, .slice b m.length cb, .bool e2]
  have E := ((Ext.refl w).alloc (Obj.cells #[.string ⟨n1.toArray⟩, .slice a l.length ca, .bool e1] 35)).alloc (Obj.cells #[.string ⟨n2.toArray⟩, .slice b m.length cb, .bool e2] 35)
  rw [show (w.alloc (Obj.cells #[.string ⟨n1.toArray⟩, .slice a l.length ca, .bool e1] 35)).heap.size = w.heap.size + 1 by simp] at T
  by_cases hn : n1 = n2
  case neg =>
    have hnb : (n1 == n2) = false := by rw [beq_eq_false_iff_ne]; exact hn
    rw [decide_eq_false hn, Bool.false_and]
    clear s1 s2 S T
    replace E := hide E
    go_enter Tryz.func17, Tryz.ntmps17
    go_wp2_with fail
    go_ret
    exact ⟨rfl, E.out⟩
  subst hn
  by_cases he : e1 = e2
  case neg =>
    have heb : (e1 == e2) = false := by rw [beq_eq_false_iff_ne]; exact he
    rw [decide_eq_false he, Bool.false_and, Bool.and_false]
    clear s1 s2 S T
    replace E := hide E
    go_enter Tryz.func17, Tryz.ntmps17
    go_wp2_with fail
    go_ret
    exact ⟨rfl, E.out⟩
  subst he
  rw [decide_eq_true rfl, decide_eq_true rfl, Bool.true_and, Bool.true_and]
  by_cases hn : l.length = m.length
  case neg =>
    rw [decide_eq_false fun e => hn (by rw [e])]
    have g1 : ((l.length : Int) == (m.length : Int)) = false := by rw [beq_eq_false_iff_ne]; omega
    clear s1 s2 S T
    replace E := hide E
    go_enter Tryz.func17, Tryz.ntmps17
    go_wp2_with fail
    go_ret
    exact ⟨rfl, E.out⟩
  clear hm
  rw [← hn] at S T E ⊢
  generalize hW0 : ((w.alloc (Obj.cells #[.string ⟨n1.toArray⟩, .slice a l.length ca, .bool e1] 35))).alloc (Obj.cells #[.string ⟨n1.toArray⟩, .slice b l.length cb, .bool e1] 35) = W0 at S T E
  have s1' := s1.ext E
  have s2' := s2.ext E
  clear s1 s2
  generalize hg0 : w.heap.size = g0 at S T
  replace S := hide S
  replace T := hide T
  replace E := hide E
  replace s1' := hide s1'
  replace s2' := hide s2'
  replace hn := hide hn
  go_enter Tryz.func17, Tryz.ntmps17
  have S_0 : W0.cell? ⟨g0, 0, none⟩ = some (.string ⟨n1.toArray⟩) := S.out.cell 0
  have S_1 : W0.cell? ⟨g0, 1, none⟩ = some (.slice a l.length ca) := S.out.cell 1
  have S_2 : W0.cell? ⟨g0, 2, none⟩ = some (.bool e1) := S.out.cell 2
  have T_0 : W0.cell? ⟨g0 + 1, 0, none⟩ = some (.string ⟨n1.toArray⟩) := T.out.cell 0
  have T_1 : W0.cell? ⟨g0 + 1, 1, none⟩ = some (.slice b l.length cb) := T.out.cell 1
  have T_2 : W0.cell? ⟨g0 + 1, 2, none⟩ = some (.bool e1) := T.out.cell 2
  go_wp2_with fail
  clear S_0 S_1 S_2 T_0 T_1 T_2
  clear hW0 hg0
  go_loopw [5] (fun i wr => ∃ k : Nat, k ≤ l.length ∧ i = .int .i64 k ∧ Ext W0 wr ∧ l.take k = m.take k) (fun i _ => l.length - (intOf i).toNat)
  case atStart => exact ⟨0, Nat.zero_le _, rfl, Ext.refl _, rfl⟩
  case round =>
    obtain ⟨k, hk, rfl, hE, htk⟩ := hrel
    have S1 := S.out.ext hE
    have T1 := T.out.ext hE
    have g1 : wr.cell? ⟨g0, 1, none⟩ = some (.slice a l.length ca) := S1.cell 1
    by_cases hlt : k < l.length
    · obtain ⟨b1, o1, x1, p1, x2, p2, rfl, _, i1, i2, n3, r1, n4, r2⟩ := ETerm.at (s1'.out.ext hE) k hlt
      obtain ⟨b2, o2, y1, q1, y2, q2, rfl, _, f1, f2, n5, r3, n6, r4⟩ := ETerm.at (s2'.out.ext hE) k (hn.out ▸ hlt)
      have hst := take_step htk hlt (hn.out ▸ hlt)
      have hne : ¬ l[k] = m[k]'(hn.out ▸ hlt) → ¬ l = m := fun h e => h (by subst e; rfl)
      generalize l[k] = x at *
      generalize m[k]'(hn.out ▸ hlt) = y at *
      have qs := fun W (h : Ext wr W) => DSameTerm_any x1 p1 x2 p2 x y1 q1 y2 q2 y W n3 n4 n5 n6 (r1.ext h) (r2.ext h) (r3.ext h) (r4.ext h)
      have hb : (decide (x = y) = true → x = y) ∧ (decide (x = y) = false → ¬ x = y) := ⟨of_decide_eq_true, of_decide_eq_false⟩
      generalize decide (x = y) = bb at *
      clear n3 n4 n5 n6 r1 r2 r3 r4
      have E2 := hE
      have er := Ext.refl wr
      have hk10 : k < l.length := hlt
      replace hE := hide hE
      replace hst := hide hst
      replace hne := hide hne
      replace htk := hide htk
      replace qs := hide qs
      replace hb := hide hb
      replace E2 := hide E2
      replace er := hide er
      replace S1 := hide S1
      replace T1 := hide T1
      go_wp2_with fail
      clear g1
      have i1r := cell_regrown i1
      have i2r := cell_regrown i2
      have f1r := cell_regrown f1
      have f2r := cell_regrown f2
      clear i1 i2 f1 f2
      have S1_0 : ∀ d os, (grow (redrawn wr d) os).cell? ⟨g0, 0, none⟩ = some (.string ⟨n1.toArray⟩) := cell_regrown (S1.out.cell 0)
      have S1_1 : ∀ d os, (grow (redrawn wr d) os).cell? ⟨g0, 1, none⟩ = some (.slice (some ⟨b1, o1, none⟩) l.length ca) := cell_regrown (S1.out.cell 1)
      have S1_2 : ∀ d os, (grow (redrawn wr d) os).cell? ⟨g0, 2, none⟩ = some (.bool e1) := cell_regrown (S1.out.cell 2)
      have T1_0 : ∀ d os, (grow (redrawn wr d) os).cell? ⟨g0 + 1, 0, none⟩ = some (.string ⟨n1.toArray⟩) := cell_regrown (T1.out.cell 0)
      have T1_1 : ∀ d os, (grow (redrawn wr d) os).cell? ⟨g0 + 1, 1, none⟩ = some (.slice (some ⟨b2, o2, none⟩) l.length cb) := cell_regrown (T1.out.cell 1)
      have T1_2 : ∀ d os, (grow (redrawn wr d) os).cell? ⟨g0 + 1, 2, none⟩ = some (.bool e1) := cell_regrown (T1.out.cell 2)
      have cq0 := Calls.regrE qs.out er.out
      refine wp_region_quiet_below (by assumption) (by kernel_rfl) ?_
      repeat (go_big_quiet_step (first | (with_reducible exact cq0 _ _)))
      refine wpQuiet_nil ?_
      intro _ hw_
      obtain ⟨⟨dq_, osq_⟩, hw_'⟩ := hw_
      subst hw_'
      replace E2 := hide (E2.out.trans (below_regrown _ dq_ osq_))
      replace S1 := hide (S1.out.ext (below_regrown _ dq_ osq_))
      replace T1 := hide (T1.out.ext (below_regrown _ dq_ osq_))
      clear S1_0 S1_1 S1_2 T1_0 T1_1 T1_2
      clear cq0
      generalize grow (redrawn wr dq_) osq_ = W6 at E2 S1 T1 ⊢
      have S1_0 : W6.cell? ⟨g0, 0, none⟩ = some (.string ⟨n1.toArray⟩) := S1.out.cell 0
      have S1_1 : W6.cell? ⟨g0, 1, none⟩ = some (.slice (some ⟨b1, o1, none⟩) l.length ca) := S1.out.cell 1
      have S1_2 : W6.cell? ⟨g0, 2, none⟩ = some (.bool e1) := S1.out.cell 2
      have T1_0 : W6.cell? ⟨g0 + 1, 0, none⟩ = some (.string ⟨n1.toArray⟩) := T1.out.cell 0
      have T1_1 : W6.cell? ⟨g0 + 1, 1, none⟩ = some (.slice (some ⟨b2, o2, none⟩) l.length cb) := T1.out.cell 1
      have T1_2 : W6.cell? ⟨g0 + 1, 2, none⟩ = some (.bool e1) := T1.out.cell 2
      clear qs er i1r i2r f1r f2r
      cases bb with
      | false =>
        have hr := hide (hne.out (hb.out.2 rfl))
        clear hst hne hb
        go_wp2_with fail
        go_ret
        exact ⟨by rw [decide_eq_false hr.out]; rfl, E.out.trans E2.out⟩
      | true =>
        have hs := hide (hst.out (hb.out.1 rfl))
        clear hst hne hb
        go_wp2_with fail
        go_roundw
        case rel => exact ⟨k + 1, by omega, by go_num, E2.out, hs.out⟩
        case measure => simp [intOf]; omega
    · obtain rfl : k = l.length := by omega
      have hall : l = m := by
        have h2 : l.take l.length = m.take m.length := by rw [htk, hn.out]
        rwa [List.take_length, List.take_length] at h2
      have hEE := E.out.trans hE
      clear hlt hk htk S1 T1
      replace hE := hide hE
      replace hall := hide hall
      replace hEE := hide hEE
      go_wp2_with fail
      go_ret
      exact ⟨by rw [decide_eq_true hall.out]; rfl, hEE.out⟩
set_option maxRecDepth 20000 in
set_option maxHeartbeats 4000000 in
theorem DOwn16_any (p : PolS) (a : Option Addr) (ca : Nat) (w : World) (hl : p.terms.length ≤ 16777216) (s1 : Sl ETerm w (· < w.heap.size) a p.terms) :
  Calls Tryz.prog 18 #[.agg #[.string ⟨p.name.toArray⟩, .slice a p.terms.length ca, .bool p.els]] w fun e w' => ∃ v, e = .returned (.agg #[.string ⟨p.name.toArray⟩, v, .bool p.els]) ∧ Ext w w' ∧ Own ETermC 25 w' w.heap.size v p.terms := by
 have S := (Blk.new w 35 #[.string ⟨p.name.toArray⟩, .slice a p.terms.length ca, .bool p.els]).alloc (Obj.cells #[.string ⟨#[]⟩, .slice none 0 0, .bool false] 35)
 have R := Blk.new (w.alloc (Obj.cells #[.string ⟨p.name.toArray⟩, .slice a p.terms.length ca, .bool p.els] 35)) 35 #[.string ⟨#[]⟩, .slice none 0 0, .bool false]
 have E := ((Ext.refl w).alloc (Obj.cells #[.string ⟨p.name.toArray⟩, .slice a p.terms.length ca, .bool p.els] 35)).alloc (Obj.cells #[.string ⟨#[]⟩, .slice none 0 0, .bool false] 35)
 have hz : (w.alloc (Obj.cells #[.string ⟨p.name.toArray⟩, .slice a p.terms.length ca, .bool p.els] 35)).heap.size = w.heap.size + 1 := by simp
 rw [hz] at R
 have hzz : ((w.alloc (Obj.cells #[.string ⟨p.name.toArray⟩, .slice a p.terms.length ca, .bool p.els] 35)).alloc (Obj.cells #[.string ⟨#[]⟩, .slice none 0 0, .bool false] 35)).heap.size = w.heap.size + 2 := by simp
 generalize hW0 : (w.alloc (Obj.cells #[.string ⟨p.name.toArray⟩, .slice a p.terms.length ca, .bool p.els] 35)).alloc (Obj.cells #[.string ⟨#[]⟩, .slice none 0 0, .bool false] 35) = W0 at S R E hzz
 replace s1 := s1.ext E
 generalize hg0 : w.heap.size = g0 at S R hzz ⊢
 have hgw : w.heap.size ≤ g0 := Nat.le_of_eq hg0
 have hgw1 : w.heap.size ≤ g0 + 1 := by omega
 replace s1 := hide s1
 replace S := hide S
 replace R := hide R
 replace E := hide E
 replace hgw := hide hgw
 replace hgw1 := hide hgw1
 go_enter Tryz.func18, Tryz.ntmps18
 go_wp2_with fail
 clear hW0 hg0 hz
 go_loopw [3, 4] (fun v i wr => ∃ k : Nat, k ≤ p.terms.length ∧ i = .int .i64 k ∧ Own ETermC 25 wr W0.heap.size v (p.terms.take k) ∧ Ext W0 wr) (fun _ i _ => p.terms.length - (intOf i).toNat)
 case atStart => exact ⟨0, Nat.zero_le _, rfl, Own.nil, Ext.refl _⟩
 case round =>
  obtain ⟨k, hk, rfl, hown, hE⟩ := hrel
  have hsz := hE.size
  have S1 := S.out.ext hE
  have s3 : wr.cell? ⟨g0, 1, none⟩ = some (.slice a p.terms.length ca) := S1.cell 1
  by_cases hlt : k < p.terms.length
  ·obtain ⟨b1, o1, x1, p1, x2, p2, rfl, _, i1, i2, n3, r1, n4, r2⟩ := ETerm.at (s1.out.ext hE) k hlt
   have hsn := take_snoc' _ _ hlt
   have hlk : (p.terms.take k).length = k := by simp; omega
   generalize p.terms[k] = pk at *
   generalize p.terms.length = n3' at *
   generalize p.terms.take k = L at *
   have qo := fun W (h : Ext wr W) => DOwnTerm_any x1 p1 x2 p2 pk W n3 n4 (r1.ext h) (r2.ext h)
   clear r1 r2 R S S1
   replace hE := hide hE
   replace hown := hide hown
   replace hsn := hide hsn
   replace hlk := hide hlk
   replace qo := hide qo
   go_wp2_with fail
   (with_reducible refine (qo.out _ (Ext.refl _)).mono ?_)
   rintro e w1 ⟨v1, v2, rfl, oc, oa, he1⟩
   have hs1 := he1.size
   obtain ⟨z1, d1, rfl, _, _, hC1⟩ := oc.asC n3
   obtain ⟨z2, d2, rfl, _, _, hC2⟩ := oa.asC n4
   clear oc oa qo
   replace he1 := hide he1
   replace hC1 := hide hC1
   replace hC2 := hide hC2
   go_wp2_with (
    at_builtin
    have hox := (hown.out.ext he1.out).alloc (Obj.cells #[.slice z1 pk.conds.length d1, .slice z2 pk.acts.length d2] 25)
    have hsp : ETermC.R (w1.alloc (.cells #[.slice z1 pk.conds.length d1, .slice z2 pk.acts.length d2] 25)) (fun b => W0.heap.size ≤ b ∧ b < (w1.alloc (.cells #[.slice z1 pk.conds.length d1, .slice z2 pk.acts.length d2] 25)).heap.size ∧ some b ≠ u3.ownBlock) pk [.slice z1 pk.conds.length d1, .slice z2 pk.acts.length d2] :=
     ⟨[_], [_], rfl, ECond.sliceC.mono (fun b hb => ⟨by omega, by simp; omega, fun he => by have := (hown.out.lt b he.symm).2; omega⟩) (ECond.sliceC.frame (fun b hb => Below.heap_alloc _ _ _ hb.2) hC1.out),
      EAct.sliceC.mono (fun b hb => ⟨by omega, by simp; omega, fun he => by have := (hown.out.lt b he.symm).2; omega⟩) (EAct.sliceC.frame (fun b hb => Below.heap_alloc _ _ _ hb.2) hC2.out)⟩
    go_must (refine wpList_push (E := ETermC) (l := L) rfl _ _ _ rfl okTermC (by decide) (by decide) rfl hox (by rw [hlk.out]; omega) (by simp; omega) rfl hsp (cells_new w1 #[.slice z1 pk.conds.length d1, .slice z2 pk.acts.length d2] _) ?_)
    intro v' w2 hown' hg hat)
   go_roundw
   case rel => exact ⟨k + 1, by omega, by go_num, by rw [hsn.out]; exact hown', ((hE.out.trans he1.out).alloc _).push (fun j hj => (hown.out.lt j hj).1) hg⟩
   case measure => simp [intOf]; omega
  ·obtain rfl : k = p.terms.length := by omega
   rw [List.take_length] at hown
   have R1 := R.out.ext hE
   have hEw := E.out.trans hE
   have hog := hown.lt
   obtain ⟨b3, d3, rfl⟩ := hown.form
   have m0 : wr.cell? ⟨g0, 0, none⟩ = some (.string ⟨p.name.toArray⟩) := S1.cell 0
   have m2 : wr.cell? ⟨g0, 2, none⟩ = some (.bool p.els) := S1.cell 2
   have mf := fun i => S1.frozen i
   have nf := fun i => R1.frozen i
   have n0 : wr.cell? ⟨g0 + 1, 0, none⟩ = some (.string ⟨#[]⟩) := R1.cell 0
   have n1 : wr.cell? ⟨g0 + 1, 1, none⟩ = some (.slice none 0 0) := R1.cell 1
   have n2 : wr.cell? ⟨g0 + 1, 2, none⟩ = some (.bool false) := R1.cell 2
   have l0 : g0 < W0.heap.size := by omega
   have l1 : g0 + 1 < W0.heap.size := by omega
   have O := (((hown.asideS (p := ⟨g0, 1, none⟩) l0 (.slice b3 p.terms.length d3)).asideS (p := ⟨g0 + 1, 0, none⟩) l1 (.string ⟨p.name.toArray⟩)).asideS (p := ⟨g0 + 1, 1, none⟩) l1 (.slice b3 p.terms.length d3)).asideS (p := ⟨g0 + 1, 2, none⟩) l1 (.bool p.els)
   have EE := (((hEw.setCell (p := ⟨g0, 1, none⟩) hgw.out (.slice b3 p.terms.length d3)).setCell (p := ⟨g0 + 1, 0, none⟩) hgw1.out (.string ⟨p.name.toArray⟩)).setCell (p := ⟨g0 + 1, 1, none⟩) hgw1.out (.slice b3 p.terms.length d3)).setCell (p := ⟨g0 + 1, 2, none⟩) hgw1.out (.bool p.els)
   have Z := (((R1.far (p := ⟨g0, 1, none⟩) (show g0 + 1 ≠ g0 by omega) (.slice b3 p.terms.length d3)).set_ 0 (.string ⟨p.name.toArray⟩)).set_ 1 (.slice b3 p.terms.length d3)).set_ 2 (.bool p.els)
   replace O := O.low (show g0 ≤ W0.heap.size by omega)
   clear hown R S R1 S1 hog
   generalize hWf : (((wr.setCell ⟨g0, 1, none⟩ (.slice b3 p.terms.length d3)).setCell ⟨g0 + 1, 0, none⟩ (.string ⟨p.name.toArray⟩)).setCell ⟨g0 + 1, 1, none⟩ (.slice b3 p.terms.length d3)).setCell ⟨g0 + 1, 2, none⟩ (.bool p.els) = Wf at O EE Z
   have z0 : Wf.cell? ⟨g0 + 1, 0, none⟩ = some (.string ⟨p.name.toArray⟩) := Z.cell 0
   have z1 : Wf.cell? ⟨g0 + 1, 1, none⟩ = some (.slice b3 p.terms.length d3) := Z.cell 1
   have z2 : Wf.cell? ⟨g0 + 1, 2, none⟩ = some (.bool p.els) := Z.cell 2
   replace hE := hide hE
   replace hEw := hide hEw
   replace O := hide O
   replace EE := hide EE
   replace Z := hide Z
   replace hWf := hide hWf
   go_wp2_with fail
   rw [hWf.out]
   exact bodyPost_ret (v := .agg #[.string ⟨p.name.toArray⟩, .slice b3 p.terms.length d3, .bool p.els]) (by simp [results, Tryz.results18, go_sem, z0, z1, z2]) rfl ⟨_, rfl, EE.out, O.out⟩
end
end
section
open Go.RowKit Go.Sort
set_option linter.unusedVariables false
/-- Only cells of the blocks T have turned; what may be written may be written still. -/
structure Chg (T : Nat → Prop) (w w' : World) : Prop where
  os : w'.os = w.os
  tape : w'.tape = w.tape
  output : w'.output = w.output
  size : w'.heap.size = w.heap.size
  block : ∀ b, ¬ T b → w'.heap[b]? = w.heap[b]?
  there : ∀ b o n, w.there b o n → w'.there b o n
theorem Chg.refl (T : Nat → Prop) (w : World) : Chg T w w := ⟨rfl, rfl, rfl, rfl, fun _ _ => rfl, fun _ _ _ h => h⟩
theorem Chg.set {T : Nat → Prop} {w w' : World} (h : Chg T w w') {b : Nat} (hb : T b) (o : Nat) (u : Value) : Chg T w (w'.setCell ⟨b, o, none⟩ u) :=
 ⟨h.os, h.tape, h.output, by simpa [World.setCell] using h.size, fun k hk => (Below.heap_setCell _ _ _ _ (show k ≠ b from fun e => hk (e ▸ hb))).trans (h.block k hk), fun b' o' n hh => World.there_setCells (h.there b' o' n hh) b o [u]⟩
theorem Chg.cell {T : Nat → Prop} {w w' : World} (h : Chg T w w') {b : Nat} (hb : ¬ T b) (o : Nat) {u : Value} (hc : w.cell? ⟨b, o, none⟩ = some u) : w'.cell? ⟨b, o, none⟩ = some u :=
 (World.cell?_of_block (a := ⟨b, o, none⟩) (h.block b hb)).trans hc
theorem Chg.trans {T : Nat → Prop} {a b c : World} (h : Chg T a b) (h2 : Chg T b c) : Chg T a c :=
 ⟨h2.os.trans h.os, h2.tape.trans h.tape, h2.output.trans h.output, h2.size.trans h.size, fun k hk => (h2.block k hk).trans (h.block k hk), fun b o n hh => h2.there b o n (h.there b o n hh)⟩
theorem Chg.mono {T T' : Nat → Prop} {a b : World} (h : Chg T a b) (hT : ∀ k, T k → T' k) : Chg T' a b :=
 ⟨h.os, h.tape, h.output, h.size, fun k hk => h.block k fun hh => hk (hT k hh), h.there⟩
theorem Chg.ext {T : Nat → Prop} {a w w' : World} (h : Chg T w w') (hE : Ext a w) (hB : ∀ k, T k → a.heap.size ≤ k) : Ext a w' :=
 ⟨h.os.trans hE.os, h.tape.trans hE.tape, h.output.trans hE.output, by rw [h.size]; exact hE.size, fun b hb => (h.block b (fun hh => by have := hB b hh; omega)).trans (hE.block b hb)⟩
/-- A row's first block, writable. -/
def RowT (w : World) (S : Nat → Prop) (p : Option Nat) (a : Option Addr) (n sz : Nat) : Prop := n = 0 ∨ ∃ g, a = some ⟨g, 0, none⟩ ∧ S g ∧ p ≠ some g ∧ w.there g 0 (n * sz)
theorem setB_open {w : World} {S : Nat → Prop} {x : StS} {v1 v2 v3 : Value} (h : SetB16 w S x v1 v2 v3) :
    ∃ a1 c1 a2 c2 a3 c3 p, v1 = .slice a1 x.items.length c1 ∧ v2 = .slice a2 x.comms.length c2 ∧ v3 = .slice a3 x.paths.length c3 ∧ RowT w S p a1 x.items.length 6 ∧ RowT w S p a2 x.comms.length 1 ∧
      (x.paths.length = 0 ∨ ∃ g, a3 = some ⟨g, 0, none⟩ ∧ p = some g ∧ S g ∧ ∀ k (hk : k < x.paths.length), ∃ b d, w.cell? ⟨g, k, none⟩ = some (.slice b x.paths[k].length d) ∧ x.paths[k].length ≤ 16777216 ∧ RowT w S p b x.paths[k].length 2) := by
  obtain ⟨h1, h2, h3, h4, h5, ⟨a1, c1, rfl, s1, t1⟩, ⟨a2, c2, rfl, s2, t2⟩, a3, c3, rfl, h8⟩ := h
  rcases h8 with h8 | ⟨g, rfl, hg, ht, n1, n2, hk⟩
  · refine ⟨a1, c1, a2, c2, a3, c3, none, rfl, rfl, rfl, ?_, ?_, .inl (by rw [h8]; rfl)⟩
    · rcases t1 with t1 | ⟨g, rfl, hg, ht⟩
      · exact .inl (by rw [t1]; rfl)
      · exact .inr ⟨g, rfl, hg, (fun e => by cases e), ht⟩
    · rcases t2 with t2 | ⟨g, rfl, hg, ht⟩
      · exact .inl (by rw [t2]; rfl)
      · exact .inr ⟨g, rfl, hg, (fun e => by cases e), ht⟩
  · refine ⟨a1, c1, a2, c2, some ⟨g, 0, none⟩, c3, some g, rfl, rfl, rfl, ?_, ?_, .inr ⟨g, rfl, rfl, hg, fun k hk' => ?_⟩⟩
    · rcases t1 with t1 | ⟨q, rfl, hq, ht⟩
      · exact .inl (by rw [t1]; rfl)
      · exact .inr ⟨q, rfl, hq, (fun e => by injection e with e; subst e; exact n1 rfl), ht⟩
    · rcases t2 with t2 | ⟨q, rfl, hq, ht⟩
      · exact .inl (by rw [t2]; rfl)
      · exact .inr ⟨q, rfl, hq, (fun e => by injection e with e; subst e; exact n2 rfl), ht⟩
    · obtain ⟨u, hu, hm, b, d, rfl, hs, hr⟩ := hk k hk'
      refine ⟨b, d, hu, hm, ?_⟩
      rcases hr with hr | ⟨q, rfl, hq, ht⟩
      · exact .inl (by rw [hr]; rfl)
      · exact .inr ⟨q, rfl, hq.1, (fun e => by injection e with e; exact hq.2 e.symm), ht⟩
theorem there_cell {w : World} {g n : Nat} (h : w.there g 0 n) {j : Nat} (hj : j < n) : (∃ u, w.cell? ⟨g, j, none⟩ = some u) ∧ w.frozen? ⟨g, j, none⟩ = false := by
 have h1 := h j hj
 rw [Nat.zero_add] at h1
 exact ⟨Option.isSome_iff_exists.1 h1.1, h1.2⟩
/-- The sets' row at a later world: from set i on as it was. -/
structure Lft (m : Nat) (w w' : World) (g : Nat) (ls : List (StS × Nat × Nat)) (i : Nat) : Prop where
  cell : ∀ q, i * 5 ≤ q → q < ls.length * 5 → w'.cell? ⟨g, q, none⟩ = w.cell? ⟨g, q, none⟩
  blk : ∀ j (hj : j < ls.length), i ≤ j → ∀ b, m ≤ b → ls[j].2.1 ≤ b → b ≠ g → w'.heap[b]? = w.heap[b]?
theorem Lft.set {m : Nat} {w w' : World} {g : Nat} {ls : List (StS × Nat × Nat)} {k : Nat} (h : Lft m w w' g ls (k + 1)) {o : Nat} (ho : o < (k + 1) * 5) (u : Value) : Lft m w (w'.setCell ⟨g, o, none⟩ u) g ls (k + 1) :=
 ⟨fun q hq hl => (World.cell?_setCell_other _ _ _ _ (by intro e; injection e with _ e _; omega)).trans (h.cell q hq hl), fun j hj hk b hb hlo hne => (Below.heap_setCell _ _ _ _ hne).trans (h.blk j hj hk b hb hlo hne)⟩
theorem Lft.chg {m : Nat} {w w' w'' : World} {g : Nat} {ls : List (StS × Nat × Nat)} {k : Nat} (h : Lft m w w' g ls k) {T : Nat → Prop} (hc : Chg T w' w'') (hT : ∀ b, T b → b ≠ g ∧ ∀ j (hj : j < ls.length), k < j → b < ls[j].2.1) : Lft m w w'' g ls (k + 1) :=
 ⟨fun q hq hl => (World.cell?_of_block (a := ⟨g, q, none⟩) (hc.block g fun hh => (hT g hh).1 rfl)).trans (h.cell q (by omega) hl), fun j hj hk b hb hlo hne => (hc.block b fun hh => by have := (hT b hh).2 j hj (by omega); omega).trans (h.blk j hj (by omega) b hb hlo hne)⟩
theorem Lft.start {m : Nat} {w w' : World} {g : Nat} {ls : List (StS × Nat × Nat)} {T : Nat → Prop} (h : Chg T w w') (hT : ∀ b, T b → b < m) (hg : 0 < ls.length → m ≤ g) : Lft m w w' g ls 0 :=
 ⟨fun q _ hl => World.cell?_of_block (a := ⟨g, q, none⟩) (h.block g fun hh => by have := hT g hh; have := hg (by omega); omega), fun j _ _ b hb _ _ => h.block b fun hh => by have := hT b hh; omega⟩
theorem ownSetB_at {e : TypeId} {w : World} {B g n c : Nat} {ls : List (StS × Nat × Nat)} (h : Own ESetB e w B (.slice (some ⟨g, 0, none⟩) n c) ls) (k : Nat) (hk : k < ls.length) :
  ∃ v1 v2 v3, w.cell? ⟨g, k * 5 + 2, none⟩ = some v1 ∧ w.cell? ⟨g, k * 5 + 3, none⟩ = some v2 ∧ w.cell? ⟨g, k * 5 + 4, none⟩ = some v3 ∧ SetB16 w (fun b => (B ≤ b ∧ b < w.heap.size ∧ b ≠ g) ∧ ls[k].2.1 ≤ b ∧ b < ls[k].2.2) ls[k].1 v1 v2 v3 := by
 obtain ⟨xs, h1, h2⟩ := h
 obtain ⟨cs, ⟨v1, v2, v3, rfl, hb⟩, hc⟩ := h2 k ls[k] (List.getElem?_eq_getElem hk)
 have hx : ∀ j u, ([.string ⟨ls[k].1.name.toArray⟩, .int .i64 ls[k].1.kind, v1, v2, v3] : List Value)[j]? = some u → w.cell? ⟨g, k * 5 + j, none⟩ = some u := fun j u hu => by
  have h3 := h1.cells (g := g) rfl (k * 5 + j) u (hc j u hu)
  have hadd : (⟨g, 0, none⟩ : Addr).add (k * 5 + j) = ⟨g, k * 5 + j, none⟩ := by unfold Addr.add; split <;> simp_all
  rwa [hadd] at h3
 exact ⟨v1, v2, v3, hx 2 _ rfl, hx 3 _ rfl, hx 4 _ rfl, hb.mono fun b hh => ⟨⟨hh.1.1, hh.1.2.1, fun e => hh.1.2.2 (by rw [e]; rfl)⟩, hh.2⟩⟩
/-- What is known of each set's rows, at a later world. -/
structure SetT (w : World) (m H g : Nat) (x : StS × Nat × Nat) (k : Nat) (a1 : Option Addr) (c1 : Nat) (a2 : Option Addr) (c2 : Nat) (a3 : Option Addr) (c3 : Nat) (p : Option Nat) : Prop where
  b : SetB16 w (fun b => (m ≤ b ∧ b < H ∧ b ≠ g) ∧ x.2.1 ≤ b ∧ b < x.2.2) x.1 (.slice a1 x.1.items.length c1) (.slice a2 x.1.comms.length c2) (.slice a3 x.1.paths.length c3)
  y2 : w.cell? ⟨g, k * 5 + 2, none⟩ = some (.slice a1 x.1.items.length c1)
  y3 : w.cell? ⟨g, k * 5 + 3, none⟩ = some (.slice a2 x.1.comms.length c2)
  y4 : w.cell? ⟨g, k * 5 + 4, none⟩ = some (.slice a3 x.1.paths.length c3)
  t1 : RowT w (fun b => (m ≤ b ∧ b < H ∧ b ≠ g) ∧ x.2.1 ≤ b ∧ b < x.2.2) p a1 x.1.items.length 6
  t2 : RowT w (fun b => (m ≤ b ∧ b < H ∧ b ≠ g) ∧ x.2.1 ≤ b ∧ b < x.2.2) p a2 x.1.comms.length 1
  t3 : x.1.paths.length = 0 ∨ ∃ q, a3 = some ⟨q, 0, none⟩ ∧ p = some q ∧ ((m ≤ q ∧ q < H ∧ q ≠ g) ∧ x.2.1 ≤ q ∧ q < x.2.2) ∧ ∀ j (hj : j < x.1.paths.length), ∃ b d, w.cell? ⟨q, j, none⟩ = some (.slice b x.1.paths[j].length d) ∧ x.1.paths[j].length ≤ 16777216 ∧ RowT w (fun b => (m ≤ b ∧ b < H ∧ b ≠ g) ∧ x.2.1 ≤ b ∧ b < x.2.2) p b x.1.paths[j].length 2
theorem ins_open {e : TypeId} {w w' : World} {B m n c : Nat} {x1 : Option Addr} {I : List InsS} (h : Own EIns e w B (.slice x1 n c) I) (hE : Ext w w') (hm : ∀ b, (Value.slice x1 n c).ownBlock = some b → b < m) (k : Nat) (hk : k < I.length) :
  ∃ g, x1 = some ⟨g, 0, none⟩ ∧ (B ≤ g ∧ g < w.heap.size) ∧ g < m ∧ w'.there g 0 (I.length * 11) := by
 obtain ⟨g, c', hf, h1, h2⟩ := h.formNe (by intro e; rw [e] at hk; exact absurd hk (Nat.not_lt_zero _))
 injection hf with hf hn hc
 subst hf
 exact ⟨g, rfl, ⟨h1, h2⟩, hm g rfl, there_frame (own_thereK h) (hE.block g h2)⟩
theorem sets_open {e : TypeId} {w w' : World} {m n c : Nat} {x2 : Option Addr} {ls : List (StS × Nat × Nat)} (h : Own ESetB e w m (.slice x2 n c) ls) (hE : Ext w w') :
  ∃ g, ∀ k (hk : k < ls.length), x2 = some ⟨g, 0, none⟩ ∧ m ≤ g ∧ g < w.heap.size ∧ w'.there g 0 (ls.length * 5) ∧ ∃ a1 c1 a2 c2 a3 c3 p, SetT w' m w.heap.size g ls[k] k a1 c1 a2 c2 a3 c3 p := by
 by_cases hl : ls = []
 ·exact ⟨0, fun k hk => absurd hk (by rw [hl]; exact Nat.not_lt_zero k)⟩
 ·obtain ⟨g, c', hf, hg1, hg2⟩ := h.formNe hl
  injection hf with hf hn hc
  subst hf
  refine ⟨g, fun k hk => ⟨rfl, hg1, hg2, there_frame (own_thereK h) (hE.block g hg2), ?_⟩⟩
  obtain ⟨v1, v2, v3, y2, y3, y4, hb⟩ := ownSetB_at h k hk
  replace hb := hb.frame (w' := w') fun b hh => hE.block b hh.1.2.1
  obtain ⟨a1, c1, a2, c2, a3, c3, p, rfl, rfl, rfl, t1, t2, t3⟩ := setB_open hb
  exact ⟨a1, c1, a2, c2, a3, c3, p, hb, hE.cell y2, hE.cell y3, hE.cell y4, t1, t2, t3⟩
theorem samePol_self (p : PolS) : samePol p p = true := by simp [samePol]
noncomputable def insR (p : PolS) (l : List StS) : List InsS := if checkP p l = 0 then insP p else []
noncomputable def setR (p : PolS) (l : List StS) : List StS := if checkP p l = 0 then setsP p l else []
theorem CompP.all {p : PolS} {l : List StS} {w : World} {e : Ending} {w' : World} (h : CompP p l w e w') :
  ∃ a1 c1 a2 c2 ls m, e = .returned (.tuple #[.agg #[.slice a1 (insR p l).length c1, .slice a2 ls.length c2], .int .i64 (checkP p l)]) ∧ Ext w w' ∧ w.heap.size ≤ m ∧ (∀ b, (Value.slice a1 (insR p l).length c1).ownBlock = some b → b < m) ∧ Own EIns 62 w' w.heap.size (.slice a1 (insR p l).length c1) (insR p l) ∧ Own ESetB 67 w' m (.slice a2 ls.length c2) ls ∧ ls.map (·.1) = setR p l ∧ ls.Pairwise fun x y => x.2.2 ≤ y.2.1 := by
 obtain ⟨hE, h⟩ := h
 unfold insR setR
 rcases h with ⟨h0, rfl⟩ | ⟨h0, v1, v2, ls, m, rfl, hm, hvm, o1, o2, hmap, hpw⟩
 ·rw [if_neg h0, if_neg h0]
  exact ⟨none, 0, none, 0, [], w.heap.size, rfl, hE, Nat.le_refl _, (fun b hb => by cases hb), Own.nil, Own.nil, rfl, List.Pairwise.nil⟩
 ·rw [if_pos h0, if_pos h0]
  obtain ⟨a1, c1, rfl⟩ := o1.form
  obtain ⟨a2, c2, rfl⟩ := o2.form
  exact ⟨a1, c1, a2, c2, ls, m, by rw [h0], hE, hm, hvm, o1, o2, hmap, hpw⟩
theorem DCompP.all {p : PolS} {l : List StS} {w : World} {e : Ending} {w' : World} (h : DCompP p l w e w') :
  ∃ a1 c1 a2 c2, e = .returned (.tuple #[.agg #[.slice a1 (insR p l).length c1, .slice a2 (setR p l).length c2], .int .i64 (checkP p l)]) ∧ Ext w w' ∧ Sl EIns w' (· < w'.heap.size) a1 (insR p l) ∧ Sl ESet w' (· < w'.heap.size) a2 (setR p l) := by
 obtain ⟨hE, h⟩ := h
 unfold insR setR
 rcases h with ⟨h0, rfl⟩ | ⟨h0, v1, v2, hs, rfl, o1, o2, hmap, hin⟩
 ·rw [if_neg h0, if_neg h0]
  exact ⟨none, 0, none, 0, rfl, hE, Sl.nil, Sl.nil⟩
 ·rw [if_pos h0, if_pos h0]
  obtain ⟨a1, c1, rfl, s1⟩ := o1.sl
  obtain ⟨a2, c2, rfl, s2⟩ := o2.sl
  have := sl_hd (s2.mono fun _ h => h.2) (fun x hx => (hin x hx).ext hE)
  rw [hmap] at this
  refine ⟨a1, c1, a2, c2, ?_, hE, s1.mono fun _ h => h.2, this⟩
  rw [h0, ← hmap, List.length_map]
theorem insR_len (p : PolS) (l : List StS) : (insR p l).length ≤ 16777216 := by
  unfold insR
  by_cases h : checkP p l = 0
  · rw [if_pos h, insP_len]
    obtain ⟨h1, h2⟩ := PolB.of (p := p) (by
      cases hp : polOk p with
      | true => rfl
      | false => rw [checkP_bad hp] at h; cases h)
    have key : ∀ (T : List TermS) (off : Nat), (∀ t ∈ T, t.conds.length ≤ 64 ∧ t.acts.length ≤ 64) → (insL off T).length ≤ 128 * T.length := by
      intro T
      induction T with
      | nil => intro off _; exact Nat.zero_le _
      | cons t r ih =>
        intro off hT
        have h3 := hT t (List.mem_cons_self ..)
        have h4 := ih (off + t.conds.length + t.acts.length) fun x hx => hT x (List.mem_cons_of_mem _ hx)
        show (insT off t ++ insL (off + t.conds.length + t.acts.length) r).length ≤ _
        rw [List.length_append, insT_len, List.length_cons]
        omega
    have := key p.terms 0 h2
    omega
  · rw [if_neg h]
    exact Nat.zero_le _
theorem setR_len (p : PolS) (l : List StS) : (setR p l).length ≤ l.length := by
 unfold setR
 by_cases h : checkP p l = 0
 ·rw [if_pos h]
  exact List.length_filter_le _ _
 ·rw [if_neg h]
  exact Nat.zero_le _
set_option maxRecDepth 20000 in
set_option maxHeartbeats 8000000 in
theorem PolcCompiles_walk (p : PolS) (a : Option Addr) (ca : Nat) (l : List StS) (b : Option Addr) (cb : Nat) (w : World) (hl : p.terms.length ≤ 16777216) (hm : l.length ≤ 1048576)
  (s1 : Sl ETerm w (· < w.heap.size) a p.terms) (s2 : Sl ESet w (· < w.heap.size) b l) (hT : Tab w) (hD : Deb w) (hV : Vars w) :
  Calls Tryz.prog 8 #[.agg #[.string ⟨p.name.toArray⟩, .slice a p.terms.length ca, .bool p.els], .slice b l.length cb] w fun e w' => e = .returned (.bool true) ∧ Ext w w' := by
 have mixed : Tryz.prog.follows Departure.mixedOrders = true := by kernel_rfl
 have qw := fun W (h : Ext w W) => PWorks_any W (hT.ext h) (hD.ext h) (hV.ext h)
 have q1 := fun W (h : Ext w W) => DOwn16_any p a ca W hl (s1.ext h)
 have q2 := fun W (h : Ext w W) => DOwnSets_any b cb l W (by omega) (s2.ext h)
 have q4 := fun W (h : Ext w W) => (DCompile16_any p a ca l b cb W hl (by omega) (s1.ext h) (s2.ext h)).mono fun e w' h => h.all
 have q6 := fun W (h : Ext w W) => DCheck16_any p a ca l b cb W hl (by omega) (s1.ext h) (s2.ext h)
 have hIl := insR_len p l
 have hSl := setR_len p l
 have S := Blk.new w 35 #[.string ⟨p.name.toArray⟩, .slice a p.terms.length ca, .bool p.els]
 have E := (Ext.refl w).alloc (Obj.cells #[.string ⟨p.name.toArray⟩, .slice a p.terms.length ca, .bool p.els] 35)
 generalize hW0 : w.alloc (Obj.cells #[.string ⟨p.name.toArray⟩, .slice a p.terms.length ca, .bool p.els] 35) = W0 at S E
 obtain ⟨g0, hg0⟩ : ∃ g0, w.heap.size = g0 := ⟨_, rfl⟩
 rw [hg0] at S
 clear hT hD hV
 replace qw := hide qw
 replace q1 := hide q1
 replace q2 := hide q2
 replace q4 := hide q4
 replace q6 := hide q6
 replace S := hide S
 replace E := hide E
 replace s1 := hide s1
 replace s2 := hide s2
 go_enter Tryz.func8, Tryz.ntmps8
 have S_0 : W0.cell? ⟨g0, 0, none⟩ = some (.string ⟨p.name.toArray⟩) := S.out.cell 0
 have S_1 : W0.cell? ⟨g0, 1, none⟩ = some (.slice a p.terms.length ca) := S.out.cell 1
 have S_2 : W0.cell? ⟨g0, 2, none⟩ = some (.bool p.els) := S.out.cell 2
 go_wp2_with fail
 clear S_0 S_1 S_2
 (with_reducible refine (q1.out _ E.out).mono ?_)
 rintro e W1 ⟨v, rfl, he, o1⟩
 have hB0 := E.out.size
 obtain ⟨zp, d1, rfl⟩ := o1.form
 replace E := hide (E.out.trans he)
 replace S := hide (S.out.ext he)
 replace o1 := hide (o1.low hB0)
 clear he q1 hW0 hg0
 go_wp2_with fail
 (with_reducible refine (q2.out _ E.out).mono ?_)
 rintro e W2 ⟨v, rfl, he, o2⟩
 have hB1 := E.out.size
 obtain ⟨z2, d2, rfl⟩ := o2.form
 replace E := E.out.trans he
 replace S := S.out.ext he
 replace o1 := o1.out.ext he
 replace o2 := o2.low hB1
 clear he q2 hB0 hB1
 have P := Blk.new W2 35 #[.string ⟨p.name.toArray⟩, .slice zp p.terms.length d1, .bool p.els]
 replace E := E.alloc (Obj.cells #[.string ⟨p.name.toArray⟩, .slice zp p.terms.length d1, .bool p.els] 35)
 replace S := S.alloc (Obj.cells #[.string ⟨p.name.toArray⟩, .slice zp p.terms.length d1, .bool p.els] 35)
 replace o1 := o1.alloc (Obj.cells #[.string ⟨p.name.toArray⟩, .slice zp p.terms.length d1, .bool p.els] 35)
 replace o2 := o2.alloc (Obj.cells #[.string ⟨p.name.toArray⟩, .slice zp p.terms.length d1, .bool p.els] 35)
 obtain ⟨g5, hg5⟩ : ∃ g5, W2.heap.size = g5 := ⟨_, rfl⟩
 rw [hg5] at P
 replace E := hide E
 replace S := hide S
 replace o1 := hide o1
 replace o2 := hide o2
 replace P := hide P
 go_upto_region 2 with fail
 try rw [hg5]
 generalize W2.alloc (Obj.cells #[.string ⟨p.name.toArray⟩, .slice zp p.terms.length d1, .bool p.els] 35) = W3 at E S o1 o2 P ⊢
 clear hg5
 obtain ⟨_, _, e1, t1⟩ := o1.out.sl
 obtain ⟨_, _, e2, t2⟩ := o2.out.sl
 injection e1 with e1 _ e3
 injection e2 with e2 _ e4
 subst e1 e2 e3 e4
 replace t1 : Sl ETermC W3 (· < W3.heap.size) zp p.terms := t1.mono fun _ h => h.2
 replace t2 : Sl ESet W3 (· < W3.heap.size) z2 l := t2.mono fun _ h => h.2
 have q3 := (PCompile_any p zp d1 l z2 d2 W3 hl (by omega) t1 t2).mono fun e w' h => h.all
 have q5 := fun W (h : Ext W3 W) => PCheck_any p zp d1 l z2 d2 W hl (by omega) (t1.ext h) (t2.ext h)
 have q7 := fun W (h : Ext W3 W) => DSame16_any p zp d1 p a ca W hl hl (t1.weakT.ext h) (s1.out.ext (E.out.trans h))
 rw [samePol_self] at q7
 have q8 := fun W (h : Ext W3 W) => DSameSets_eq z2 d2 b cb l W (by omega) (t2.ext h) (s2.out.ext (E.out.trans h))
 clear o1 o2 t1 t2 s1 s2
 generalize hI : insR p l = I at *
 generalize hL : setR p l = L at *
 clear hI hL
 generalize checkP p l = r at *
 replace q3 := hide q3
 replace q5 := hide q5
 replace q7 := hide q7
 replace q8 := hide q8
 have P_0 : W3.cell? ⟨g5, 0, none⟩ = some (.string ⟨p.name.toArray⟩) := P.out.cell 0
 have P_1 : W3.cell? ⟨g5, 1, none⟩ = some (.slice zp p.terms.length d1) := P.out.cell 1
 have P_2 : W3.cell? ⟨g5, 2, none⟩ = some (.bool p.els) := P.out.cell 2
 have S_0 : W3.cell? ⟨g0, 0, none⟩ = some (.string ⟨p.name.toArray⟩) := S.out.cell 0
 have S_1 : W3.cell? ⟨g0, 1, none⟩ = some (.slice a p.terms.length ca) := S.out.cell 1
 have S_2 : W3.cell? ⟨g0, 2, none⟩ = some (.bool p.els) := S.out.cell 2
 go_wp2_with fail
 clear P_0 P_1 P_2 S_0 S_1 S_2
 (with_reducible refine (q3.out).mono ?_)
 rintro e W4 ⟨x1, y1, x2, y2, ls, m, rfl, F, hm3, hvm, o1, o2, hmap, hpw⟩
 have hm4 := hide (show ls.length = L.length by rw [← hmap, List.length_map])
 have hFz := F.size
 have S4 := S.out.ext F
 have P4 := P.out.ext F
 have A4 := Blk.new W4 56 #[.slice x1 I.length y1, .slice x2 ls.length y2]
 obtain ⟨g7, hg7⟩ : ∃ g7, W4.heap.size = g7 := ⟨_, rfl⟩
 rw [hg7] at A4
 have F5 := F.alloc (Obj.cells #[.slice x1 I.length y1, .slice x2 ls.length y2] 56)
 have FW := (Ext.refl W4).alloc (Obj.cells #[.slice x1 I.length y1, .slice x2 ls.length y2] 56)
 replace S4 := S4.alloc (Obj.cells #[.slice x1 I.length y1, .slice x2 ls.length y2] 56)
 replace P4 := P4.alloc (Obj.cells #[.slice x1 I.length y1, .slice x2 ls.length y2] 56)
 have r1 := o1.alloc (Obj.cells #[.slice x1 I.length y1, .slice x2 ls.length y2] 56)
 have r2 := o2.alloc (Obj.cells #[.slice x1 I.length y1, .slice x2 ls.length y2] 56)
 clear q3
 have P3 := P
 have S3 := S
 replace F5 := hide F5
 replace S4 := hide S4
 replace P4 := hide P4
 replace r1 := hide r1
 replace r2 := hide r2
 replace A4 := hide A4
 replace F := hide F
 replace o1 := hide o1
 replace o2 := hide o2
 replace hmap := hide hmap
 replace hpw := hide hpw
 replace hvm := hide hvm
 replace FW := hide FW
 go_upto_region 3 with fail
 try rw [hg7]
 generalize W4.alloc (Obj.cells #[.slice x1 I.length y1, .slice x2 ls.length y2] 56) = W5 at F5 S4 P4 r1 r2 A4 FW ⊢
 replace hg7 := hide hg7
 have q4' := q4.out W5 (E.out.trans F5.out)
 clear q4
 replace q4' := hide q4'
 have S4_0 : W5.cell? ⟨g0, 0, none⟩ = some (.string ⟨p.name.toArray⟩) := S4.out.cell 0
 have S4_1 : W5.cell? ⟨g0, 1, none⟩ = some (.slice a p.terms.length ca) := S4.out.cell 1
 have S4_2 : W5.cell? ⟨g0, 2, none⟩ = some (.bool p.els) := S4.out.cell 2
 go_wp2_with fail
 clear S4_0 S4_1 S4_2
 (with_reducible refine (q4'.out).mono ?_)
 rintro e W6 ⟨x3, y3, x4, y4, rfl, G, k1, k2⟩
 have B6 := Blk.new W6 56 #[.slice x3 I.length y3, .slice x4 L.length y4]
 obtain ⟨g9, hg9⟩ : ∃ g9, W6.heap.size = g9 := ⟨_, rfl⟩
 rw [hg9] at B6
 have G7 := G.alloc (Obj.cells #[.slice x3 I.length y3, .slice x4 L.length y4] 56)
 have F7 := F5.out.trans G7
 replace FW := FW.out.trans G7
 have E7 := E.out.trans F7
 have S7 := S4.out.ext G7
 have P7 := P4.out.ext G7
 have A7 := A4.out.ext G7
 replace r1 := r1.out.ext G7
 replace r2 := r2.out.ext G7
 replace k1 := k1.ext ((Ext.refl W6).alloc (Obj.cells #[.slice x3 I.length y3, .slice x4 L.length y4] 56))
 replace k2 := k2.ext ((Ext.refl W6).alloc (Obj.cells #[.slice x3 I.length y3, .slice x4 L.length y4] 56))
 have hG7 := G7.size
 clear q4' S4 P4 A4
 replace G7 := hide G7
 replace F7 := hide F7
 replace E7 := hide E7
 replace S7 := hide S7
 replace P7 := hide P7
 replace A7 := hide A7
 replace r1 := hide r1
 replace r2 := hide r2
 replace k1 := hide k1
 replace k2 := hide k2
 replace B6 := hide B6
 replace FW := hide FW
 go_upto_region 4 with fail
 try rw [hg9]
 generalize W6.alloc (Obj.cells #[.slice x3 I.length y3, .slice x4 L.length y4] 56) = W7 at G7 F7 E7 S7 P7 A7 r1 r2 k1 k2 B6 FW ⊢
 clear hg9 G G7 hG7
 obtain ⟨_, _, e1, t1⟩ := r1.out.sl
 obtain ⟨_, _, e2, t2⟩ := r2.out.sl
 injection e1 with e1 _ e3
 injection e2 with e2 _ e4
 subst e1 e2 e3 e4
 have u2 := sl_setB t2
 rw [hmap.out] at u2
 have qsp := fun W (h : Ext W7 W) => DSameProg_eq I L x1 y1 x2 y2 x3 y3 x4 y4 W hIl (by have := hm4.out; omega) ((t1.mono fun _ h => h.2).ext h) ((u2.mono fun _ h => h.2).ext h) (k1.out.ext h) (k2.out.ext h)
 rw [← hm4.out] at qsp
 have qck := fun W (h : Ext W7 W) => q5.out W (F7.out.trans h)
 have qrc := fun W (h : Ext W7 W) => q6.out W (E7.out.trans h)
 have E0 := hide (Ext.refl W7)
 have hrr : (r != r) = false := by simp
 clear t1 t2 u2 k1 k2 q5 q6
 rw [← hm4.out] at B6
 replace qsp := hide qsp
 replace qck := hide qck
 replace qrc := hide qrc
 have S7_0 : ∀ d os, (grow (redrawn W7 d) os).cell? ⟨g0, 0, none⟩ = some (.string ⟨p.name.toArray⟩) := cell_regrown (S7.out.cell 0)
 have S7_1 : ∀ d os, (grow (redrawn W7 d) os).cell? ⟨g0, 1, none⟩ = some (.slice a p.terms.length ca) := cell_regrown (S7.out.cell 1)
 have S7_2 : ∀ d os, (grow (redrawn W7 d) os).cell? ⟨g0, 2, none⟩ = some (.bool p.els) := cell_regrown (S7.out.cell 2)
 have P7_0 : ∀ d os, (grow (redrawn W7 d) os).cell? ⟨g5, 0, none⟩ = some (.string ⟨p.name.toArray⟩) := cell_regrown (P7.out.cell 0)
 have P7_1 : ∀ d os, (grow (redrawn W7 d) os).cell? ⟨g5, 1, none⟩ = some (.slice zp p.terms.length d1) := cell_regrown (P7.out.cell 1)
 have P7_2 : ∀ d os, (grow (redrawn W7 d) os).cell? ⟨g5, 2, none⟩ = some (.bool p.els) := cell_regrown (P7.out.cell 2)
 have A7_0 : ∀ d os, (grow (redrawn W7 d) os).cell? ⟨g7, 0, none⟩ = some (.slice x1 I.length y1) := cell_regrown (A7.out.cell 0)
 have A7_1 : ∀ d os, (grow (redrawn W7 d) os).cell? ⟨g7, 1, none⟩ = some (.slice x2 ls.length y2) := cell_regrown (A7.out.cell 1)
 have B6_0 : ∀ d os, (grow (redrawn W7 d) os).cell? ⟨g9, 0, none⟩ = some (.slice x3 I.length y3) := cell_regrown (B6.out.cell 0)
 have B6_1 : ∀ d os, (grow (redrawn W7 d) os).cell? ⟨g9, 1, none⟩ = some (.slice x4 ls.length y4) := cell_regrown (B6.out.cell 1)
 have cq0 := Calls.regrE qsp.out E0.out
 have cq1 := Calls.regrE qck.out E0.out
 have cq2 := Calls.regrE qrc.out E0.out
 refine wp_region_quiet_below (by assumption) (by kernel_rfl) ?_
 repeat (go_big_quiet_step (first | (with_reducible exact cq0 _ _) | (with_reducible exact cq1 _ _) | (with_reducible exact cq2 _ _)))
 refine wpQuiet_nil ?_
 intro _ hw_
 obtain ⟨⟨dq_, osq_⟩, hw_'⟩ := hw_
 subst hw_'
 replace E0 := hide (E0.out.trans (below_regrown _ dq_ osq_))
 replace S7 := hide (S7.out.ext (below_regrown _ dq_ osq_))
 replace P7 := hide (P7.out.ext (below_regrown _ dq_ osq_))
 replace A7 := hide (A7.out.ext (below_regrown _ dq_ osq_))
 replace B6 := hide (B6.out.ext (below_regrown _ dq_ osq_))
 clear S7_0 S7_1 S7_2 P7_0 P7_1 P7_2 A7_0 A7_1 B6_0 B6_1
 clear cq0 cq1 cq2
 generalize grow (redrawn W7 dq_) osq_ = W8 at E0 S7 P7 A7 B6 ⊢
 have S7_0 : W8.cell? ⟨g0, 0, none⟩ = some (.string ⟨p.name.toArray⟩) := S7.out.cell 0
 have S7_1 : W8.cell? ⟨g0, 1, none⟩ = some (.slice a p.terms.length ca) := S7.out.cell 1
 have S7_2 : W8.cell? ⟨g0, 2, none⟩ = some (.bool p.els) := S7.out.cell 2
 have P7_0 : W8.cell? ⟨g5, 0, none⟩ = some (.string ⟨p.name.toArray⟩) := P7.out.cell 0
 have P7_1 : W8.cell? ⟨g5, 1, none⟩ = some (.slice zp p.terms.length d1) := P7.out.cell 1
 have P7_2 : W8.cell? ⟨g5, 2, none⟩ = some (.bool p.els) := P7.out.cell 2
 have A7_0 : W8.cell? ⟨g7, 0, none⟩ = some (.slice x1 I.length y1) := A7.out.cell 0
 have A7_1 : W8.cell? ⟨g7, 1, none⟩ = some (.slice x2 ls.length y2) := A7.out.cell 1
 have B6_0 : W8.cell? ⟨g9, 0, none⟩ = some (.slice x3 I.length y3) := B6.out.cell 0
 have B6_1 : W8.cell? ⟨g9, 1, none⟩ = some (.slice x4 ls.length y4) := B6.out.cell 1
 clear S7_0 S7_1 S7_2 P7_0 P7_1 P7_2 A7_0 A7_1 B6_0 B6_1
 clear qsp qck qrc B6
 have F8 := F7.out.trans E0.out
 have hg3 : W3.heap.size ≤ g7 := by rw [← hg7.out]; exact F.out.size
 have FW8 := FW.out.trans E0.out
 obtain ⟨g2, hset⟩ := sets_open o2.out FW8
 have hins := ins_open o1.out FW8 hvm.out
 rw [hg7.out] at hset hins
 have hm3' := hm3
 have hls : ls.length ≤ 1048576 := by have := hm4.out; omega
 clear F7 E7 E0 hrr F5 F FW FW8 o1 o2 r1 r2 hmap hvm S7 P7 hg7
 have hmg : 0 < ls.length → m ≤ g2 := fun h => (hset 0 h).2.1
 replace hset := hide hset
 replace hins := hide hins
 replace F8 := hide F8
 replace hpw := hide hpw
 replace hmg := hide hmg
 have A7_0 : W8.cell? ⟨g7, 0, none⟩ = some (.slice x1 I.length y1) := A7.out.cell 0
 have A7_1 : W8.cell? ⟨g7, 1, none⟩ = some (.slice x2 ls.length y2) := A7.out.cell 1
 go_wp2_with fail
 clear A7_0 A7_1
 go_loopw [11] (fun i wr => ∃ k : Nat, k ≤ I.length ∧ i = .int .i64 k ∧ Chg (fun b => (W3.heap.size ≤ b ∧ b < g7) ∧ b < m) W8 wr) (fun i _ => I.length - (intOf i).toNat)
 case atStart => exact ⟨0, Nat.zero_le _, rfl, Chg.refl _ _⟩
 case round =>
  obtain ⟨k, hk, rfl, hc⟩ := hrel
  have z0 : wr.cell? ⟨g7, 0, none⟩ = some (.slice x1 I.length y1) := hc.cell (by omega) 0 (A7.out.cell 0)
  by_cases hlt : k < I.length
  ·obtain ⟨g1, rfl, hb1, hb2, hth⟩ := hins.out k hlt
   replace hth := hc.there g1 0 _ hth
   obtain ⟨⟨w0, hw0⟩, hf0⟩ := there_cell hth (j := k * 11) (by omega)
   obtain ⟨⟨w1, hw1⟩, hf1⟩ := there_cell hth (j := k * 11 + 1) (by omega)
   obtain ⟨⟨w2, hw2⟩, hf2⟩ := there_cell hth (j := k * 11 + 2) (by omega)
   obtain ⟨⟨w3, hw3⟩, hf3⟩ := there_cell hth (j := k * 11 + 3) (by omega)
   obtain ⟨⟨w4, hw4⟩, hf4⟩ := there_cell hth (j := k * 11 + 4) (by omega)
   obtain ⟨⟨w5, hw5⟩, hf5⟩ := there_cell hth (j := k * 11 + 5) (by omega)
   obtain ⟨⟨w6, hw6⟩, hf6⟩ := there_cell hth (j := k * 11 + 6) (by omega)
   obtain ⟨⟨w7, hw7⟩, hf7⟩ := there_cell hth (j := k * 11 + 7) (by omega)
   obtain ⟨⟨w8, hw8⟩, hf8⟩ := there_cell hth (j := k * 11 + 8) (by omega)
   obtain ⟨⟨w9, hw9⟩, hf9⟩ := there_cell hth (j := k * 11 + 9) (by omega)
   obtain ⟨⟨w10, hw10⟩, hf10⟩ := there_cell hth (j := k * 11 + 10) (by omega)
   have hs2 := (((((((((((hc.set (show _ ∧ _ from ⟨hb1, hb2⟩) (k * 11) (.int .i64 0)).set (show _ ∧ _ from ⟨hb1, hb2⟩) (k * 11 + 1) (.int .i64 0)).set (show _ ∧ _ from ⟨hb1, hb2⟩) (k * 11 + 2) (.bool false)).set (show _ ∧ _ from ⟨hb1, hb2⟩) (k * 11 + 3) (.string ⟨#[]⟩)).set (show _ ∧ _ from ⟨hb1, hb2⟩) (k * 11 + 4) (.int .i64 0)).set (show _ ∧ _ from ⟨hb1, hb2⟩) (k * 11 + 5) (.int .i64 0)).set (show _ ∧ _ from ⟨hb1, hb2⟩) (k * 11 + 6) (.string ⟨#[]⟩)).set (show _ ∧ _ from ⟨hb1, hb2⟩) (k * 11 + 7) (.int .u32 0)).set (show _ ∧ _ from ⟨hb1, hb2⟩) (k * 11 + 8) (.string ⟨#[]⟩)).set (show _ ∧ _ from ⟨hb1, hb2⟩) (k * 11 + 9) (.int .i64 0)).set (show _ ∧ _ from ⟨hb1, hb2⟩) (k * 11 + 10) (.int .i64 0))
   clear hth hc
   replace hs2 := hide hs2
   go_wp2_with fail
   go_roundw
   case rel => exact ⟨k + 1, by omega, by go_num, hs2.out⟩
   case measure => simp [intOf]; omega
  ·obtain rfl : k = I.length := by omega
   rename World => W9
   have hL0 := Lft.start (ls := ls) hc (fun b hb => hb.2) hmg.out
   have hc0 := hc.mono (T' := fun b => W3.heap.size ≤ b ∧ b < g7) fun b hb => hb.1
   clear hins hc
   replace hL0 := hide hL0
   replace hc0 := hide hc0
   go_wp2_with fail
   clear z0
   go_loopw [12] (fun i wr => ∃ k : Nat, k ≤ ls.length ∧ i = .int .i64 k ∧ Chg (fun b => W3.heap.size ≤ b ∧ b < g7) W8 wr ∧ Lft m W8 wr g2 ls k) (fun i _ => ls.length - (intOf i).toNat)
   case atStart => exact ⟨0, Nat.zero_le _, rfl, hc0.out, hL0.out⟩
   case round =>
    clear hL0 hc0
    obtain ⟨k, hk, rfl, hc, hLk⟩ := hrel
    rename World => W10
    have z1 : W10.cell? ⟨g7, 1, none⟩ = some (.slice x2 ls.length y2) := hc.cell (by omega) 1 (A7.out.cell 1)
    by_cases hlt : k < ls.length
    ·obtain ⟨hx2, hmg2, hgH, hth, a1, c1, a2, c2, a3, c3, pp, ST⟩ := hset.out k hlt
     have hy2 := (hLk.cell (k * 5 + 2) (by omega) (by omega)).trans ST.y2
     have hy3 := (hLk.cell (k * 5 + 3) (by omega) (by omega)).trans ST.y3
     have hy4 := (hLk.cell (k * 5 + 4) (by omega) (by omega)).trans ST.y4
     have nI := ST.b.nItems
     have nC := ST.b.nComms
     have nP := ST.b.nPaths
     have hT1 := ST.t1
     have hT2 := ST.t2
     have hT3 := ST.t3
     have hnx : ∀ j (hj : j < ls.length), k < j → ls[k].2.2 ≤ ls[j].2.1 := fun j hj hkj => List.pairwise_iff_getElem.1 hpw.out k j hlt hj hkj
     clear ST
     generalize hX : ls[k] = X at *
     subst hx2
     have hnext : ∀ wq, Chg (fun b => ((m ≤ b ∧ b < g7 ∧ b ≠ g2) ∧ X.2.1 ≤ b ∧ b < X.2.2) ∧ pp ≠ some b) W10 wq → Lft m W8 wq g2 ls (k + 1) := fun wq h => hLk.chg h fun b hb => ⟨hb.1.1.2.2, fun j hj hkj => by have := hnx j hj hkj; have := hb.1.2.2; omega⟩
     have hbig : ∀ wq, Chg (fun b => ((m ≤ b ∧ b < g7 ∧ b ≠ g2) ∧ X.2.1 ≤ b ∧ b < X.2.2) ∧ pp ≠ some b) W10 wq → Chg (fun b => W3.heap.size ≤ b ∧ b < g7) W8 wq := fun wq h => hc.trans (h.mono fun b hb => ⟨by have := hb.1.1.1; omega, hb.1.1.2.1⟩)
     have hPq : ∀ q, ((m ≤ q ∧ q < g7 ∧ q ≠ g2) ∧ X.2.1 ≤ q ∧ q < X.2.2) → W10.heap[q]? = W8.heap[q]? := fun q h => hLk.blk k hlt (Nat.le_refl _) q h.1.1 (by rw [hX]; exact h.2.1) h.1.2.2
     clear hX hnx hLk
     generalize hZ : (fun b => ((m ≤ b ∧ b < g7 ∧ b ≠ g2) ∧ X.2.1 ≤ b ∧ b < X.2.2) ∧ pp ≠ some b) = Z at hnext hbig
     have hZ7 : ¬ Z g7 := by subst hZ; intro h; omega
     have hZ2 : ¬ Z g2 := by subst hZ; intro h; exact h.1.1.2.2 rfl
     have hZi : ∀ q, ((m ≤ q ∧ q < g7 ∧ q ≠ g2) ∧ X.2.1 ≤ q ∧ q < X.2.2) → pp ≠ some q → Z q := by subst hZ; exact fun q h1 h2 => ⟨h1, h2⟩
     have hZp : ∀ q, pp = some q → ¬ Z q := by subst hZ; exact fun q h1 h2 => h2.2 h1
     clear hZ
     obtain ⟨⟨nm, kd, I2, C2, P2⟩, lo, hi⟩ := X
     dsimp only at *
     replace hc := hide hc
     replace hset := hide hset
     replace hT1 := hide hT1
     replace hT2 := hide hT2
     replace hT3 := hide hT3
     replace hnext := hide hnext
     replace hbig := hide hbig
     replace hZ7 := hide hZ7
     replace hZ2 := hide hZ2
     replace hZi := hide hZi
     replace hZp := hide hZp
     replace hth := hide hth
     replace hPq := hide hPq
     go_wp2_with fail
     go_loopw [13] (fun i wq => ∃ j : Nat, j ≤ C2.length ∧ i = .int .i64 j ∧ Chg Z W10 wq) (fun i _ => C2.length - (intOf i).toNat)
     case atStart => exact ⟨0, Nat.zero_le _, rfl, Chg.refl _ _⟩
     case round =>
      obtain ⟨j, hj, rfl, hd⟩ := hrel
      rename World => wq
      have z1 : wq.cell? ⟨g7, 1, none⟩ = some (.slice (some ⟨g2, 0, none⟩) ls.length y2) := hd.cell hZ7.out 1 z1
      have v3 : wq.cell? ⟨g2, k * 5 + 3, none⟩ = some (.slice a2 C2.length c2) := hd.cell hZ2.out _ hy3
      by_cases hlj : j < C2.length
      ·rcases hT2.out with h0 | ⟨q, rfl, hq, hpq, htq⟩
       ·exact absurd hlj (by omega)
       replace htq := hd.there q 0 _ (hc.out.there q 0 _ htq)
       obtain ⟨⟨w0, hw0⟩, hf0⟩ := there_cell htq (j := j) (by omega)
       have hs2 := (hd.set (hZi.out q hq hpq) (j) (.int .u32 77))
       clear htq hd
       replace hs2 := hide hs2
       go_wp2_with fail
       go_roundw
       case rel => exact ⟨j + 1, by omega, by go_num, hs2.out⟩
       case measure => simp [intOf]; omega
      ·obtain rfl : j = C2.length := by omega
       have hd0 := hide hd
       clear hd
       go_wp2_with fail
       clear z1 v3
       go_loopw [14] (fun i wq => ∃ j : Nat, j ≤ I2.length ∧ i = .int .i64 j ∧ Chg Z W10 wq) (fun i _ => I2.length - (intOf i).toNat)
       case atStart => exact ⟨0, Nat.zero_le _, rfl, hd0.out⟩
       case round =>
        clear hd0
        obtain ⟨j, hj, rfl, hd⟩ := hrel
        rename World => wq
        have z1 : wq.cell? ⟨g7, 1, none⟩ = some (.slice (some ⟨g2, 0, none⟩) ls.length y2) := hd.cell hZ7.out 1 z1
        have v2 : wq.cell? ⟨g2, k * 5 + 2, none⟩ = some (.slice a1 I2.length c1) := hd.cell hZ2.out _ hy2
        by_cases hlj : j < I2.length
        ·rcases hT1.out with h0 | ⟨q, rfl, hq, hpq, htq⟩
         ·exact absurd hlj (by omega)
         replace htq := hd.there q 0 _ (hc.out.there q 0 _ htq)
         obtain ⟨⟨w0, hw0⟩, hf0⟩ := there_cell htq (j := j * 6) (by omega)
         obtain ⟨⟨w1, hw1⟩, hf1⟩ := there_cell htq (j := j * 6 + 1) (by omega)
         obtain ⟨⟨w2, hw2⟩, hf2⟩ := there_cell htq (j := j * 6 + 2) (by omega)
         obtain ⟨⟨w3, hw3⟩, hf3⟩ := there_cell htq (j := j * 6 + 3) (by omega)
         obtain ⟨⟨w4, hw4⟩, hf4⟩ := there_cell htq (j := j * 6 + 4) (by omega)
         obtain ⟨⟨w5, hw5⟩, hf5⟩ := there_cell htq (j := j * 6 + 5) (by omega)
         have hs2 := ((((((hd.set (hZi.out q hq hpq) (j * 6) (.int .i64 0)).set (hZi.out q hq hpq) (j * 6 + 1) (.int .u64 0)).set (hZi.out q hq hpq) (j * 6 + 2) (.string ⟨#[]⟩)).set (hZi.out q hq hpq) (j * 6 + 3) (.int .i64 0)).set (hZi.out q hq hpq) (j * 6 + 4) (.int .i64 0)).set (hZi.out q hq hpq) (j * 6 + 5) (.int .i64 0))
         clear htq hd
         replace hs2 := hide hs2
         go_wp2_with fail
         go_roundw
         case rel => exact ⟨j + 1, by omega, by go_num, hs2.out⟩
         case measure => simp [intOf]; omega
        ·obtain rfl : j = I2.length := by omega
         have hd0 := hide hd
         clear hd
         go_wp2_with fail
         clear z1 v2
         go_loopw [15] (fun i wq => ∃ j : Nat, j ≤ P2.length ∧ i = .int .i64 j ∧ Chg Z W10 wq) (fun i _ => P2.length - (intOf i).toNat)
         case atStart => exact ⟨0, Nat.zero_le _, rfl, hd0.out⟩
         case round =>
          clear hd0
          obtain ⟨j, hj, rfl, hd⟩ := hrel
          rename World => wq
          have z1' := z1
          have z1 : wq.cell? ⟨g7, 1, none⟩ = some (.slice (some ⟨g2, 0, none⟩) ls.length y2) := hd.cell hZ7.out 1 z1'
          have v4 : wq.cell? ⟨g2, k * 5 + 4, none⟩ = some (.slice a3 P2.length c3) := hd.cell hZ2.out _ hy4
          by_cases hlj : j < P2.length
          ·rcases hT3.out with h0 | ⟨q, rfl, hpq, hq, hrow⟩
           ·exact absurd hlj (by omega)
           obtain ⟨bk, dk, hcell, hmk, htk⟩ := hrow j hlj
           generalize P2[j] = Q at hcell hmk htk
           have hq3 := hide (hZp.out q hpq)
           have hxW : W10.cell? ⟨q, j, none⟩ = some (.slice bk Q.length dk) := (World.cell?_of_block (a := ⟨q, j, none⟩) (hPq.out q hq)).trans hcell
           have hx1 : wq.cell? ⟨q, j, none⟩ = some (.slice bk Q.length dk) := hd.cell hq3.out _ hxW
           have hxh := hide hxW
           have hd0 := hide hd
           clear hcell hd hq hxW
           replace hrow := hide hrow
           replace htk := hide htk
           replace hpq := hide hpq
           go_wp2_with fail
           clear z1 v4 hx1
           go_loopw [16] (fun i wq => ∃ n : Nat, n ≤ Q.length ∧ i = .int .i64 n ∧ Chg Z W10 wq) (fun i _ => Q.length - (intOf i).toNat)
           case atStart => exact ⟨0, Nat.zero_le _, rfl, hd0.out⟩
           case round =>
            clear hd0
            obtain ⟨n, hn, rfl, hd⟩ := hrel
            rename World => wp
            have z1 : wp.cell? ⟨g7, 1, none⟩ = some (.slice (some ⟨g2, 0, none⟩) ls.length y2) := hd.cell hZ7.out 1 z1'
            have v4 : wp.cell? ⟨g2, k * 5 + 4, none⟩ = some (.slice (some ⟨q, 0, none⟩) P2.length c3) := hd.cell hZ2.out _ hy4
            have hx1 : wp.cell? ⟨q, j, none⟩ = some (.slice bk Q.length dk) := hd.cell hq3.out _ hxh.out
            by_cases hlq : n < Q.length
            ·rcases htk.out with h0 | ⟨f, rfl, hf, hpf, htf⟩
             ·exact absurd hlq (by omega)
             replace htf := hd.there f 0 _ (hc.out.there f 0 _ htf)
             obtain ⟨⟨w0, hw0⟩, hf0⟩ := there_cell htf (j := n * 2) (by omega)
             obtain ⟨⟨w1, hw1⟩, hf1⟩ := there_cell htf (j := n * 2 + 1) (by omega)
             have hs2 := ((hd.set (hZi.out f hf hpf) (n * 2) (.int .i64 0)).set (hZi.out f hf hpf) (n * 2 + 1) (.int .u32 0))
             clear htf hd
             replace hs2 := hide hs2
             go_wp2_with fail
             go_roundw
             case rel => exact ⟨n + 1, by omega, by go_num, hs2.out⟩
             case measure => simp [intOf]; omega
            ·obtain rfl : n = Q.length := by omega
             have hd0 := hide hd
             clear hd
             go_wp2_with fail
             go_roundw
             case rel => exact ⟨j + 1, by omega, by go_num, hd0.out⟩
             case measure => simp [intOf]; omega
          ·obtain rfl : j = P2.length := by omega
           have hth2 := hd.there g2 0 _ (hc.out.there g2 0 _ hth.out)
           obtain ⟨⟨w0, hw0⟩, hf0⟩ := there_cell hth2 (j := k * 5) (by omega)
           obtain ⟨⟨w1, hw1⟩, hf1⟩ := there_cell hth2 (j := k * 5 + 1) (by omega)
           obtain ⟨⟨w2, hw2⟩, hf2⟩ := there_cell hth2 (j := k * 5 + 2) (by omega)
           obtain ⟨⟨w3, hw3⟩, hf3⟩ := there_cell hth2 (j := k * 5 + 3) (by omega)
           obtain ⟨⟨w4, hw4⟩, hf4⟩ := there_cell hth2 (j := k * 5 + 4) (by omega)
           have hL2 := ((((((hnext.out _ hd).set (o := k * 5) (by omega) (.string ⟨#[]⟩)).set (o := k * 5 + 1) (by omega) (.int .i64 0)).set (o := k * 5 + 2) (by omega) (.slice none 0 0)).set (o := k * 5 + 3) (by omega) (.slice none 0 0)).set (o := k * 5 + 4) (by omega) (.slice none 0 0))
           have hg2T : W3.heap.size ≤ g2 ∧ g2 < g7 := ⟨by omega, hgH⟩
           have hC2 := ((((((hbig.out _ hd).set hg2T (k * 5) (.string ⟨#[]⟩)).set hg2T (k * 5 + 1) (.int .i64 0)).set hg2T (k * 5 + 2) (.slice none 0 0)).set hg2T (k * 5 + 3) (.slice none 0 0)).set hg2T (k * 5 + 4) (.slice none 0 0))
           clear hd hth2
           replace hL2 := hide hL2
           replace hC2 := hide hC2
           go_wp2_with fail
           go_roundw
           case rel => exact ⟨k + 1, by omega, by go_num, hC2.out, hL2.out⟩
           case measure => simp [intOf]; omega
    ·obtain rfl : k = ls.length := by omega
     have FE := hide (hc.ext F8.out fun k h => h.1)
     clear hc hLk hset hpw
     have S9 := hide (S3.out.ext FE.out)
     have P9 := hide (P3.out.ext FE.out)
     have q7' := hide (q7.out _ FE.out)
     clear q7
     have S9_0 : W10.cell? ⟨g0, 0, none⟩ = some (.string ⟨p.name.toArray⟩) := S9.out.cell 0
     have S9_1 : W10.cell? ⟨g0, 1, none⟩ = some (.slice a p.terms.length ca) := S9.out.cell 1
     have S9_2 : W10.cell? ⟨g0, 2, none⟩ = some (.bool p.els) := S9.out.cell 2
     have P9_0 : W10.cell? ⟨g5, 0, none⟩ = some (.string ⟨p.name.toArray⟩) := P9.out.cell 0
     have P9_1 : W10.cell? ⟨g5, 1, none⟩ = some (.slice zp p.terms.length d1) := P9.out.cell 1
     have P9_2 : W10.cell? ⟨g5, 2, none⟩ = some (.bool p.els) := P9.out.cell 2
     go_wp2_with fail
     clear S9_0 S9_1 S9_2 P9_0 P9_1 P9_2
     (with_reducible refine q7'.out.mono ?_)
     rintro e W11 ⟨rfl, he⟩
     replace FE := hide (FE.out.trans he)
     clear he q7' z1
     go_wp2_with fail
     (with_reducible refine (q8.out _ FE.out).mono ?_)
     rintro e W12 ⟨rfl, he⟩
     have EE := hide (E.out.trans (FE.out.trans he))
     clear he q8
     go_wp2_with fail
     (with_reducible refine (qw.out _ EE.out).mono ?_)
     rintro e W13 ⟨rfl, he⟩
     replace EE := hide (EE.out.trans he)
     clear he qw
     go_wp2_with fail
     go_ret
     exact ⟨rfl, EE.out⟩
end
end Go.Proofs.YtljibkfbldjgdaaGreatDoor
