/- The walk of SetsFind. -/
import Derived.Test.YtoghdmoldcjedaaGreatDoorYG
import Derived.Test.YtoghdmoldcjedaaGreatDoorYB
import Derived.Test.YtoghdmoldcjedaaGreatDoorV22
namespace Go.Proofs.YtoghdmoldcjedaaGreatDoor
open Go.RowKit Go.Sort
set_option linter.unusedVariables false

theorem Sp.ext {B H : Nat} {p : Option Nat} {a w w' : World} (h : Sp B H p w w') (hE : Ext a w) (hB : a.heap.size ≤ B) : Ext a w' :=
  ⟨h.os.trans hE.os, h.tape.trans hE.tape, h.output.trans hE.output, by rw [h.size]; exact hE.size, fun b hb => (h.block b (.inl (by omega))).trans (hE.block b hb)⟩
theorem okSetE : ElemOk Tryz.prog 22 27 ESet.sz 96 := elemOk (z := .agg #[.string ⟨#[]⟩, .int .i64 0, .slice none 0 0, .slice none 0 0, .slice none 0 0]) Tryz.underlying22 (by kernel_rfl) rfl
set_option maxRecDepth 20000 in
set_option maxHeartbeats 4000000 in
theorem SetsFind_walk (a : Option Addr) (c : Nat) (l : List StS) (name : List UInt8) (w : World) (hl : l.length ≤ 16777216) (hs : Sl ESetC w (· < w.heap.size) a l) (hT : Tab w) (hD : Deb w) (hV : Vars w) :
    Calls Tryz.prog 3 #[.slice a l.length c, .string ⟨name.toArray⟩] w fun e w' => e = .returned (.bool true) ∧ Ext w w' := by
  have mixed : Tryz.prog.follows Departure.mixedOrders = true := by kernel_rfl
  have qw := fun W (h : Ext w W) => LWorks_any W (hT.ext h) (hD.ext h) (hV.ext h)
  clear hT hD hV
  replace qw := hide qw
  replace hs := hide hs
  go_enter Tryz.func3, Tryz.ntmps3
  go_wp2_with fail
  go_loopw [5, 6] (fun v i wr => ∃ k : Nat, k ≤ l.length ∧ i = .int .i64 (k : Int) ∧ Own ESet 27 wr w.heap.size v ((l.take k).map cutSt) ∧ Ext w wr) (fun _ i _ => l.length - (intOf i).toNat)
  case atStart => exact ⟨0, Nat.zero_le _, rfl, Own.nil, Ext.refl _⟩
  case round =>
    obtain ⟨k, hk, rfl, hown, hE⟩ := hrel
    have hsz := hE.size
    have hcs : (k < l.length ∧ k < 40) ∨ (k < l.length ∧ 40 ≤ k) ∨ k = l.length := by omega
    have hLl : ((l.take k).map cutSt).length ≤ 16777216 := by simp; omega
    rcases hcs with ⟨hlt, h40⟩ | ⟨hlt, h40⟩ | rfl
    · obtain ⟨b, off, a1, c1, a2, c2, a3, c3, rfl, hi, hcap, hc⟩ := ESetC.at hs.out k hlt
      have hic := hi.ext hE
      have q := cut15_any l[k] a1 a2 a3 c1 c2 c3 wr hic hcap.h1 hcap.m1 hcap.h2 hcap.m2 hcap.h3 hcap.m3
      have x0 : wr.cell? ⟨b, off + k * 5, none⟩ = some (.string ⟨l[k].name.toArray⟩) := hE.cell (hc 0 _ rfl)
      have x1 : wr.cell? ⟨b, off + k * 5 + 1, none⟩ = some (.int .i64 l[k].kind) := hE.cell (hc 1 _ rfl)
      have x2 : wr.cell? ⟨b, off + k * 5 + 2, none⟩ = some (.slice a1 l[k].items.length c1) := hE.cell (hc 2 _ rfl)
      have x3 : wr.cell? ⟨b, off + k * 5 + 3, none⟩ = some (.slice a2 l[k].comms.length c2) := hE.cell (hc 3 _ rfl)
      have x4 : wr.cell? ⟨b, off + k * 5 + 4, none⟩ = some (.slice a3 l[k].paths.length c3) := hE.cell (hc 4 _ rfl)
      have d1 : decide ((k : Int) < (l.length : Int)) = true := decide_eq_true (by omega)
      have d2 : decide ((k : Int) < 40) = true := decide_eq_true (by omega)
      have hsn : (l.take (k + 1)).map cutSt = (l.take k).map cutSt ++ [cutSt l[k]] := by rw [take_snoc' _ _ hlt, List.map_append]; rfl
      have hlk : ((l.take k).map cutSt).length = k := by simp; omega
      have hkl : k ≤ 40 := by omega
      clear hc hi hic hcap
      generalize cutSt l[k] = X at q hsn
      generalize l[k] = y at *
      obtain ⟨ynm, ykd, yI, yC, yP⟩ := y
      dsimp only at *
      generalize (l.take k).map cutSt = L at *
      generalize yI.length = n1 at *
      generalize yC.length = n2 at *
      generalize yP.length = n3 at *
      replace hE := hide hE
      replace hown := hide hown
      replace q := hide q
      replace hsn := hide hsn
      replace hlk := hide hlk
      replace hLl := hide hLl
      go_wp2_with (first
        | (refine q.out.mono ?_
           rintro e w1 ⟨b1, e1, b2, e2, b3, e3, rfl, he1, hi1⟩
           replace he1 := hide he1; replace hi1 := hide hi1)
        | (at_builtin
           have hox := (hown.out.ext he1.out).alloc (Obj.cells #[.string ⟨X.name.toArray⟩, .int .i64 X.kind, .slice b1 X.items.length e1, .slice b2 X.comms.length e2, .slice b3 X.paths.length e3] 27)
           have hs1 := he1.out.size
           have hsp : ESet.R (w1.alloc (.cells #[.string ⟨X.name.toArray⟩, .int .i64 X.kind, .slice b1 X.items.length e1, .slice b2 X.comms.length e2, .slice b3 X.paths.length e3] 27)) (fun b => w.heap.size ≤ b ∧ b < (w1.alloc (.cells #[.string ⟨X.name.toArray⟩, .int .i64 X.kind, .slice b1 X.items.length e1, .slice b2 X.comms.length e2, .slice b3 X.paths.length e3] 27)).heap.size ∧ some b ≠ u5.ownBlock) X [.string ⟨X.name.toArray⟩, .int .i64 X.kind, .slice b1 X.items.length e1, .slice b2 X.comms.length e2, .slice b3 X.paths.length e3] :=
             ESet.iff.2 ⟨b1, e1, b2, e2, b3, e3, rfl, (hi1.out.frame fun b hb => Below.heap_alloc _ _ _ hb.2).mono fun b hb => ⟨by omega, by simp; omega, fun he => by have := (hown.out.lt b he.symm).2; omega⟩⟩
           go_must (refine wpList_push (E := ESet) (l := L) rfl _ _ _ rfl okSetE (by decide) (by decide) rfl hox (by rw [hlk.out]; omega) (by simp; omega) rfl hsp (cells_new w1 #[.string ⟨X.name.toArray⟩, .int .i64 X.kind, .slice b1 X.items.length e1, .slice b2 X.comms.length e2, .slice b3 X.paths.length e3] _) ?_)
           intro v' w2 hown' hg hat))
      go_roundw
      case rel => exact ⟨k + 1, by omega, by go_num, by rw [hsn.out]; exact hown', ((hE.out.trans he1.out).alloc _).push (fun j hj => (hown.out.lt j hj).1) hg⟩
      case measure => simp [intOf]; omega
    · have d1 : decide ((k : Int) < (l.length : Int)) = true := decide_eq_true (by omega)
      have d2 : decide ((k : Int) < 40) = false := decide_eq_false (by omega)
      generalize (l.take _).map cutSt = L at hown hLl
      obtain ⟨a5, c5, rfl⟩ := hown.form
      have hsl : Sl ESet wr (· < wr.heap.size) a5 L := hown.slAt.mono fun _ h => h.2
      have qf : ∀ W, Sl ESet W (· < W.heap.size) a5 L → _ := fun W h => (SFind_any a5 c5 L name W hLl h).mono fun e w' h => h.all
      have qr : ∀ W, Sl ESet W (· < W.heap.size) a5 L → _ := fun W h => (RFind15_any a5 c5 L name W hLl h).mono fun e w' h => h.all
      generalize gotS L name = X at qf qr
      generalize isS L name = is at qf qr
      clear hs hown
      replace qf := hide qf
      replace qr := hide qr
      replace hsl := hide hsl
      replace hE := hide hE
      go_wp2_with fail
      refine (qf.out _ hsl.out).mono ?_
      rintro e w6 ⟨a1, c1, a2, c2, a3, c3, rfl, E6, o1, o2, o3, hne, hin⟩
      replace E6 := hide E6
      replace o1 := hide o1
      replace o2 := hide o2
      replace o3 := hide o3
      replace hne := hide hne
      replace hin := hide hin
      have S := Blk.new w6 27 #[.string ⟨#[]⟩, .int .i64 0, .slice none 0 0, .slice none 0 0, .slice none 0 0]
      have EW7 := (Ext.refl w6).alloc (Obj.cells #[.string ⟨#[]⟩, .int .i64 0, .slice none 0 0, .slice none 0 0, .slice none 0 0] 27)
      generalize hW2 : w6.alloc (Obj.cells #[.string ⟨#[]⟩, .int .i64 0, .slice none 0 0, .slice none 0 0, .slice none 0 0] 27) = W7a at S EW7
      generalize hg7 : w6.heap.size = g7 at S
      have y0 : W7a.cell? ⟨g7, 0, none⟩ = some (.string ⟨#[]⟩) := S.cell 0
      have y1 : W7a.cell? ⟨g7, 1, none⟩ = some (.int .i64 0) := S.cell 1
      have y2 : W7a.cell? ⟨g7, 2, none⟩ = some (.slice none 0 0) := S.cell 2
      have y3 : W7a.cell? ⟨g7, 3, none⟩ = some (.slice none 0 0) := S.cell 3
      have y4 : W7a.cell? ⟨g7, 4, none⟩ = some (.slice none 0 0) := S.cell 4
      have yf := fun i => S.frozen i
      have Bg7 := S.set5w (.string ⟨X.name.toArray⟩) (.int .i64 X.kind) (.slice a1 X.items.length c1) (.slice a2 X.comms.length c2) (.slice a3 X.paths.length c3)
      have hon : OnlyAt g7 W7a _ := OnlyAt.set5w (g := g7) (w := W7a) (.string ⟨X.name.toArray⟩) (.int .i64 X.kind) (.slice a1 X.items.length c1) (.slice a2 X.comms.length c2) (.slice a3 X.paths.length c3)
      replace EW7 := hon.ext EW7 (Nat.le_of_eq hg7)
      clear S hon
      replace Bg7 := hide Bg7
      replace EW7 := hide EW7
      go_upto_region 7 with fail
      replace Bg7 := Bg7.out
      replace EW7 := EW7.out
      generalize (((((W7a.setCell ⟨g7, 0, none⟩ (.string ⟨X.name.toArray⟩)).setCell ⟨g7, 1, none⟩ (.int .i64 X.kind)).setCell ⟨g7, 2, none⟩ (.slice a1 X.items.length c1)).setCell ⟨g7, 3, none⟩ (.slice a2 X.comms.length c2)).setCell ⟨g7, 4, none⟩ (.slice a3 X.paths.length c3)) = W7 at Bg7 EW7 ⊢
      clear y0 y1 y2 y3 y4 yf hW2
      have F7 := hide EW7
      have E7 := hide ((hE.out.trans E6.out).trans EW7)
      have hsl7 := hide ((hsl.out.ext E6.out).ext EW7)
      replace Bg7 := hide Bg7
      clear EW7
      go_wp2_with fail
      refine (qr.out _ hsl7.out).mono ?_
      rintro e w8 ⟨p1, r1, p2, r2, p3, r3, rfl, E8, hi⟩
      replace E8 := hide E8
      replace hi := hide hi
      have S := Blk.new w8 27 #[.string ⟨#[]⟩, .int .i64 0, .slice none 0 0, .slice none 0 0, .slice none 0 0]
      have EW9 := (Ext.refl w8).alloc (Obj.cells #[.string ⟨#[]⟩, .int .i64 0, .slice none 0 0, .slice none 0 0, .slice none 0 0] 27)
      generalize hW2 : w8.alloc (Obj.cells #[.string ⟨#[]⟩, .int .i64 0, .slice none 0 0, .slice none 0 0, .slice none 0 0] 27) = W9a at S EW9
      generalize hg9 : w8.heap.size = g9 at S
      have y0 : W9a.cell? ⟨g9, 0, none⟩ = some (.string ⟨#[]⟩) := S.cell 0
      have y1 : W9a.cell? ⟨g9, 1, none⟩ = some (.int .i64 0) := S.cell 1
      have y2 : W9a.cell? ⟨g9, 2, none⟩ = some (.slice none 0 0) := S.cell 2
      have y3 : W9a.cell? ⟨g9, 3, none⟩ = some (.slice none 0 0) := S.cell 3
      have y4 : W9a.cell? ⟨g9, 4, none⟩ = some (.slice none 0 0) := S.cell 4
      have yf := fun i => S.frozen i
      have Bg9 := S.set5w (.string ⟨X.name.toArray⟩) (.int .i64 X.kind) (.slice p1 X.items.length r1) (.slice p2 X.comms.length r2) (.slice p3 X.paths.length r3)
      have hon : OnlyAt g9 W9a _ := OnlyAt.set5w (g := g9) (w := W9a) (.string ⟨X.name.toArray⟩) (.int .i64 X.kind) (.slice p1 X.items.length r1) (.slice p2 X.comms.length r2) (.slice p3 X.paths.length r3)
      replace EW9 := hon.ext EW9 (Nat.le_of_eq hg9)
      clear S hon
      replace Bg9 := hide Bg9
      replace EW9 := hide EW9
      go_upto_region 8 with fail
      replace Bg9 := Bg9.out
      replace EW9 := EW9.out
      generalize (((((W9a.setCell ⟨g9, 0, none⟩ (.string ⟨X.name.toArray⟩)).setCell ⟨g9, 1, none⟩ (.int .i64 X.kind)).setCell ⟨g9, 2, none⟩ (.slice p1 X.items.length r1)).setCell ⟨g9, 3, none⟩ (.slice p2 X.comms.length r2)).setCell ⟨g9, 4, none⟩ (.slice p3 X.paths.length r3)) = W9 at Bg9 EW9 ⊢
      clear y0 y1 y2 y3 y4 yf hW2
      have F9 := F7.out.trans (E8.out.trans EW9)
      have E9 := hide (E7.out.trans (E8.out.trans EW9))
      replace Bg7 := Bg7.out.ext (E8.out.trans EW9)
      have hi9 := hi.out.ext (E8.out.trans EW9)
      have hb := hi.out.b
      have ha9 := setIn_own hb (o1.out.ext F9) (o2.out.ext F9) (o3.out.ext F9)
      have qs := RSame15_eq X a1 c1 a2 c2 a3 c3 p1 r1 p2 r2 p3 r3 W9 ha9 hi9
      have x0 : W9.cell? ⟨g7, 0, none⟩ = some (.string ⟨X.name.toArray⟩) := Bg7.cell 0
      have x1 : W9.cell? ⟨g7, 1, none⟩ = some (.int .i64 X.kind) := Bg7.cell 1
      have x2 : W9.cell? ⟨g7, 2, none⟩ = some (.slice a1 X.items.length c1) := Bg7.cell 2
      have x3 : W9.cell? ⟨g7, 3, none⟩ = some (.slice a2 X.comms.length c2) := Bg7.cell 3
      have x4 : W9.cell? ⟨g7, 4, none⟩ = some (.slice a3 X.paths.length c3) := Bg7.cell 4
      have y0 : W9.cell? ⟨g9, 0, none⟩ = some (.string ⟨X.name.toArray⟩) := Bg9.cell 0
      have y1 : W9.cell? ⟨g9, 1, none⟩ = some (.int .i64 X.kind) := Bg9.cell 1
      have y2 : W9.cell? ⟨g9, 2, none⟩ = some (.slice p1 X.items.length r1) := Bg9.cell 2
      have y3 : W9.cell? ⟨g9, 3, none⟩ = some (.slice p2 X.comms.length r2) := Bg9.cell 3
      have y4 : W9.cell? ⟨g9, 4, none⟩ = some (.slice p3 X.paths.length r3) := Bg9.cell 4
      have e1 : (is != is) = false := by simp
      clear EW9 ha9 hi E8 E7 F7 hsl7
      replace F9 := hide F9
      replace Bg7 := hide Bg7
      replace Bg9 := hide Bg9
      replace hi9 := hide hi9
      replace qs := hide qs
      replace hb := hide hb
      go_wp2_with fail
      refine qs.out.mono ?_
      rintro e w10 ⟨rfl, E10⟩
      have hi10 := hi9.out.ext E10
      have qo := ROwn15_any X p1 p2 p3 r1 r2 r3 w10 hi10
      replace y0 : w10.cell? ⟨g9, 0, none⟩ = some (.string ⟨X.name.toArray⟩) := E10.cell y0
      replace y1 : w10.cell? ⟨g9, 1, none⟩ = some (.int .i64 X.kind) := E10.cell y1
      replace y2 : w10.cell? ⟨g9, 2, none⟩ = some (.slice p1 X.items.length r1) := E10.cell y2
      replace y3 : w10.cell? ⟨g9, 3, none⟩ = some (.slice p2 X.comms.length r2) := E10.cell y3
      replace y4 : w10.cell? ⟨g9, 4, none⟩ = some (.slice p3 X.paths.length r3) := E10.cell y4
      replace Bg7 := hide (Bg7.out.ext E10)
      replace F9 := hide (F9.out.trans E10)
      replace E9 := hide (E9.out.trans E10)
      clear x0 x1 x2 x3 x4 E10 hi9 hi10 Bg9 qs e1
      replace qo := hide qo
      go_wp2_with fail
      refine qo.out.mono ?_
      rintro e w11 ⟨v1, v2, v3, rfl, E11, m1, m2, m3, _⟩
      obtain ⟨s1, t1, rfl⟩ := m1.form
      obtain ⟨s2, t2, rfl⟩ := m2.form
      obtain ⟨s3, t3, rfl⟩ := m3.form
      clear y0 y1 y2 y3 y4 qo
      replace E11 := hide E11
      replace m1 := hide m1
      replace m2 := hide m2
      replace m3 := hide m3
      have S := Blk.new w11 27 #[.string ⟨#[]⟩, .int .i64 0, .slice none 0 0, .slice none 0 0, .slice none 0 0]
      have EW12 := (Ext.refl w11).alloc (Obj.cells #[.string ⟨#[]⟩, .int .i64 0, .slice none 0 0, .slice none 0 0, .slice none 0 0] 27)
      generalize hW2 : w11.alloc (Obj.cells #[.string ⟨#[]⟩, .int .i64 0, .slice none 0 0, .slice none 0 0, .slice none 0 0] 27) = W12a at S EW12
      generalize hg11 : w11.heap.size = g11 at S
      have y0 : W12a.cell? ⟨g11, 0, none⟩ = some (.string ⟨#[]⟩) := S.cell 0
      have y1 : W12a.cell? ⟨g11, 1, none⟩ = some (.int .i64 0) := S.cell 1
      have y2 : W12a.cell? ⟨g11, 2, none⟩ = some (.slice none 0 0) := S.cell 2
      have y3 : W12a.cell? ⟨g11, 3, none⟩ = some (.slice none 0 0) := S.cell 3
      have y4 : W12a.cell? ⟨g11, 4, none⟩ = some (.slice none 0 0) := S.cell 4
      have yf := fun i => S.frozen i
      have Bg11 := S.set5w (.string ⟨X.name.toArray⟩) (.int .i64 X.kind) (.slice s1 X.items.length t1) (.slice s2 X.comms.length t2) (.slice s3 X.paths.length t3)
      have hon : OnlyAt g11 W12a _ := OnlyAt.set5w (g := g11) (w := W12a) (.string ⟨X.name.toArray⟩) (.int .i64 X.kind) (.slice s1 X.items.length t1) (.slice s2 X.comms.length t2) (.slice s3 X.paths.length t3)
      replace EW12 := hon.ext EW12 (Nat.le_of_eq hg11)
      clear S hon
      replace Bg11 := hide Bg11
      replace EW12 := hide EW12
      go_upto_region 11 with fail
      replace Bg11 := Bg11.out
      replace EW12 := EW12.out
      generalize (((((W12a.setCell ⟨g11, 0, none⟩ (.string ⟨X.name.toArray⟩)).setCell ⟨g11, 1, none⟩ (.int .i64 X.kind)).setCell ⟨g11, 2, none⟩ (.slice s1 X.items.length t1)).setCell ⟨g11, 3, none⟩ (.slice s2 X.comms.length t2)).setCell ⟨g11, 4, none⟩ (.slice s3 X.paths.length t3)) = W12 at Bg11 EW12 ⊢
      clear y0 y1 y2 y3 y4 yf hW2
      have hG := hide (E11.out.trans EW12)
      have F := hide (F9.out.trans hG.out)
      replace E9 := hide (E9.out.trans hG.out)
      replace Bg7 := hide (Bg7.out.ext hG.out)
      replace m1 := hide (m1.out.ext EW12)
      replace m2 := hide (m2.out.ext EW12)
      replace m3 := hide (m3.out.ext EW12)
      have hz1 := F9.out.size
      have hz3 : w6.heap.size ≤ g11 := by have h1 := E11.out.size; omega
      have hz2 := F.out.size
      have slB : Sl ESet W12 (· < wr.heap.size) a5 L := hsl.out.frame fun b hb => (E6.out.trans F.out).block b hb
      have hB6 := E6.out.size
      have hin12 := fun k (hk : k < X.paths.length) b a c hb hc => hin.out k hk b a c hb hc
      generalize hpp : (Value.slice a3 X.paths.length c3).ownBlock = pp at hne hin
      clear F9 hG E11 EW12 hin12
      replace hpp := hide hpp
      replace slB := hide slB
      replace hB6 := hide hB6
      replace hz1 := hide hz1
      replace hz2 := hide hz2
      replace hz3 := hide hz3
      replace hg9 := hide hg9
      replace hg11 := hide hg11
      replace hg7 := hide hg7
      have nI := hb.out.nItems
      have nC := hb.out.nComms
      have nP := hb.out.nPaths
      go_wp2_with fail
      go_loopw [12] (fun q wq => ∃ m : Nat, m ≤ X.items.length ∧ q = .int .i64 (m : Int) ∧ Sp wr.heap.size w6.heap.size pp W12 wq) (fun q _ => X.items.length - (intOf q).toNat)
      case atStart => exact ⟨0, Nat.zero_le _, rfl, Sp.refl _ _ _ _⟩
      case round =>
        obtain ⟨m, hm, rfl, hsp⟩ := hrel
        rename World => wq
        have z2 : wq.cell? ⟨g7, 2, none⟩ = some (.slice a1 X.items.length c1) := hsp.cell (.inr (.inl (Nat.le_of_eq hg7.out))) 2 (Bg7.out.cell 2)
        by_cases hlt : m < X.items.length
        · obtain ⟨gi, ci, hv, hgi1, hgi2⟩ := o1.out.formNe (by intro e; rw [e] at hlt; simp at hlt)
          injection hv with ha hn hc'
          subst ha hc'
          have hth := hsp.there gi 0 _ (o1.out.ext F.out).thereS (m * 6 + 4) (by show m * 6 + 4 < X.items.length * 6; omega)
          rw [Nat.zero_add] at hth
          obtain ⟨u, hu⟩ := Option.isSome_iff_exists.1 hth.1
          have hf := hth.2
          have hnp : pp ≠ some gi := fun e => (hne.out gi e).1 rfl
          have hs2 := hsp.set hgi1 hgi2 hnp (m * 6 + 4) (.int .i64 (-9))
          clear hth hsp hnp hn
          replace hs2 := hide hs2
          go_wp2_with fail
          go_roundw
          case rel => exact ⟨m + 1, by omega, by go_num, hs2.out⟩
          case measure => simp [intOf]; omega
        · have hsp3 := hide hsp
          clear hsp
          go_wp2_with fail
          clear z2 hlt hm
          go_loopw [13] (fun q wq => ∃ m : Nat, m ≤ X.comms.length ∧ q = .int .i64 (m : Int) ∧ Sp wr.heap.size w6.heap.size pp W12 wq) (fun q _ => X.comms.length - (intOf q).toNat)
          case atStart => exact ⟨0, Nat.zero_le _, rfl, hsp3.out⟩
          case round =>
            obtain ⟨m, hm, rfl, hsp⟩ := hrel
            rename World => wq
            clear hsp3
            have z3 : wq.cell? ⟨g7, 3, none⟩ = some (.slice a2 X.comms.length c2) := hsp.cell (.inr (.inl (Nat.le_of_eq hg7.out))) 3 (Bg7.out.cell 3)
            by_cases hlt : m < X.comms.length
            · obtain ⟨gi, ci, hv, hgi1, hgi2⟩ := o2.out.formNe (by intro e; rw [e] at hlt; simp at hlt)
              injection hv with ha hn hc'
              subst ha hc'
              have hth := hsp.there gi 0 _ (o2.out.ext F.out).thereS m (by show m < X.comms.length * 1; omega)
              rw [Nat.zero_add] at hth
              obtain ⟨u, hu⟩ := Option.isSome_iff_exists.1 hth.1
              have hf := hth.2
              have hnp : pp ≠ some gi := fun e => (hne.out gi e).2 rfl
              have hs2 := hsp.set hgi1 hgi2 hnp m (.int .u32 99)
              clear hth hsp hnp hn
              replace hs2 := hide hs2
              go_wp2_with fail
              go_roundw
              case rel => exact ⟨m + 1, by omega, by go_num, hs2.out⟩
              case measure => simp [intOf]; omega
            · have hsp4 := hide hsp
              clear hsp
              go_wp2_with fail
              clear z3 hlt hm
              go_loopw [14] (fun q wq => ∃ m : Nat, m ≤ X.paths.length ∧ q = .int .i64 (m : Int) ∧ Sp wr.heap.size w6.heap.size pp W12 wq) (fun q _ => X.paths.length - (intOf q).toNat)
              case atStart => exact ⟨0, Nat.zero_le _, rfl, hsp4.out⟩
              case round =>
                obtain ⟨m, hm, rfl, hsp⟩ := hrel
                rename World => wq
                clear hsp4
                have z4 : wq.cell? ⟨g7, 4, none⟩ = some (.slice a3 X.paths.length c3) := hsp.cell (.inr (.inl (Nat.le_of_eq hg7.out))) 4 (Bg7.out.cell 4)
                by_cases hlt : m < X.paths.length
                · obtain ⟨gp, cp, hv, hgp1, hgp2⟩ := o3.out.formNe (by intro e; rw [e] at hlt; simp at hlt)
                  injection hv with ha hn hc'
                  subst ha hc'
                  have hppe : some gp = pp := hpp.out
                  obtain ⟨ak, ck, hcell, hfz, hmk, hcc, hcm, hsk⟩ := o3.out.atC m hlt
                  have hin0 := hin.out m hlt gp ak ck hppe.symm hcell
                  have hc12 : W12.cell? ⟨gp, m, none⟩ = some (.slice ak X.paths[m].length ck) := F.out.cell hcell
                  clear hcell hfz hcc hcm hn
                  generalize X.paths[m] = Q at hc12 hin0 hsk hmk
                  have x12 : wq.cell? ⟨gp, m, none⟩ = some (.slice ak Q.length ck) := hsp.cell (.inr (.inr hppe.symm)) m hc12
                  have hspq := hide hsp
                  clear hsp
                  replace hc12 := hide hc12
                  replace hin0 := hide hin0
                  replace hsk := hide hsk
                  replace hppe := hide hppe
                  replace hgp1 := hide hgp1
                  replace hgp2 := hide hgp2
                  go_wp2_with fail
                  clear z4 x12
                  go_loopw [15] (fun q wq => ∃ j : Nat, j ≤ Q.length ∧ q = .int .i64 (j : Int) ∧ Sp wr.heap.size w6.heap.size pp W12 wq) (fun q _ => Q.length - (intOf q).toNat)
                  case atStart => exact ⟨0, Nat.zero_le _, rfl, hspq.out⟩
                  case round =>
                    obtain ⟨j, hj, rfl, hsp⟩ := hrel
                    rename World => wp
                    clear hspq
                    have z4 : wp.cell? ⟨g7, 4, none⟩ = some (.slice (some ⟨gp, 0, none⟩) X.paths.length c3) := hsp.cell (.inr (.inl (Nat.le_of_eq hg7.out))) 4 (Bg7.out.cell 4)
                    have x12 : wp.cell? ⟨gp, m, none⟩ = some (.slice ak Q.length ck) := hsp.cell (.inr (.inr hppe.out.symm)) m hc12.out
                    by_cases hlj : j < Q.length
                    · obtain ⟨gi, ci, hv, hgi1, hgi2⟩ := hin0.out.formNe (by intro e; rw [e] at hlj; simp at hlj)
                      injection hv with ha hn hc'
                      subst ha hc'
                      have hnp : pp ≠ some gi := fun e => by
                        obtain ⟨b, off, cs, he, hS, _⟩ := hsk.out.at j hlj
                        injection he with he
                        injection he with he _ _
                        have h1 := Option.some.inj (hppe.out.trans e)
                        exact hS.2.2 (by omega)
                      have hth := hsp.there gi 0 _ (hin0.out.ext F.out).thereS (j * 2) (by show j * 2 < Q.length * 2; omega)
                      rw [Nat.zero_add] at hth
                      obtain ⟨u, hu⟩ := Option.isSome_iff_exists.1 hth.1
                      have hf := hth.2
                      have hs2 := hsp.set hgi1 hgi2 hnp (j * 2) (.int .i64 9)
                      clear hth hsp hnp hn
                      replace hs2 := hide hs2
                      go_wp2_with fail
                      go_roundw
                      case rel => exact ⟨j + 1, by omega, by go_num, hs2.out⟩
                      case measure => simp [intOf]; omega
                    · have hspx := hide hsp
                      clear hsp
                      go_wp2_with fail
                      go_roundw
                      case rel => exact ⟨m + 1, by omega, by go_num, hspx.out⟩
                      case measure => simp [intOf]; omega
                · have hsp5 := hide hsp
                  clear hsp
                  go_wp2_with fail
                  clear z4 hlt hm
                  have hsq := hsp5.out.size
                  have slq : Sl ESet wq (· < wq.heap.size) a5 L := (hsp5.out.sl slB.out).mono fun b hb => by have h1 := hB6.out; have h2 := hz2.out; omega
                  have Eq := hide (hsp5.out.ext E9.out hE.out.size)
                  have Bq := hide ((hsp5.out.block g11 (.inr (.inl hz3.out))).trans Bg11)
                  replace m1 := hide (hsp5.out.own hz1.out m1.out)
                  replace m2 := hide (hsp5.out.own hz1.out m2.out)
                  replace m3 := hide (hsp5.out.own hz1.out m3.out)
                  clear hsp5 hin hne hpp o1 o2 o3 slB hsl E9 Bg7 Bg11 E6 F hE nI nC nP
                  refine (qf.out _ slq).mono ?_
                  rintro e w13 ⟨f1, i1, f2, i2, f3, i3, rfl, E13, n1, n2, n3, _, _⟩
                  clear slq qf qr
                  replace E13 := hide E13
                  replace n1 := hide n1
                  replace n2 := hide n2
                  replace n3 := hide n3
                  have S := Blk.new w13 27 #[.string ⟨#[]⟩, .int .i64 0, .slice none 0 0, .slice none 0 0, .slice none 0 0]
                  have EW14 := (Ext.refl w13).alloc (Obj.cells #[.string ⟨#[]⟩, .int .i64 0, .slice none 0 0, .slice none 0 0, .slice none 0 0] 27)
                  generalize hW2 : w13.alloc (Obj.cells #[.string ⟨#[]⟩, .int .i64 0, .slice none 0 0, .slice none 0 0, .slice none 0 0] 27) = W14a at S EW14
                  generalize hg16 : w13.heap.size = g16 at S
                  have y0 : W14a.cell? ⟨g16, 0, none⟩ = some (.string ⟨#[]⟩) := S.cell 0
                  have y1 : W14a.cell? ⟨g16, 1, none⟩ = some (.int .i64 0) := S.cell 1
                  have y2 : W14a.cell? ⟨g16, 2, none⟩ = some (.slice none 0 0) := S.cell 2
                  have y3 : W14a.cell? ⟨g16, 3, none⟩ = some (.slice none 0 0) := S.cell 3
                  have y4 : W14a.cell? ⟨g16, 4, none⟩ = some (.slice none 0 0) := S.cell 4
                  have yf := fun i => S.frozen i
                  have Bg16 := S.set5w (.string ⟨X.name.toArray⟩) (.int .i64 X.kind) (.slice f1 X.items.length i1) (.slice f2 X.comms.length i2) (.slice f3 X.paths.length i3)
                  have hon : OnlyAt g16 W14a _ := OnlyAt.set5w (g := g16) (w := W14a) (.string ⟨X.name.toArray⟩) (.int .i64 X.kind) (.slice f1 X.items.length i1) (.slice f2 X.comms.length i2) (.slice f3 X.paths.length i3)
                  replace EW14 := hon.ext EW14 (Nat.le_of_eq hg16)
                  clear S hon
                  replace Bg16 := hide Bg16
                  replace EW14 := hide EW14
                  go_upto_region 27 with fail
                  replace Bg16 := Bg16.out
                  replace EW14 := EW14.out
                  generalize (((((W14a.setCell ⟨g16, 0, none⟩ (.string ⟨X.name.toArray⟩)).setCell ⟨g16, 1, none⟩ (.int .i64 X.kind)).setCell ⟨g16, 2, none⟩ (.slice f1 X.items.length i1)).setCell ⟨g16, 3, none⟩ (.slice f2 X.comms.length i2)).setCell ⟨g16, 4, none⟩ (.slice f3 X.paths.length i3)) = W14 at Bg16 EW14 ⊢
                  clear y0 y1 y2 y3 y4 yf hW2
                  have Ez := E13.out.trans EW14
                  have sa := setIn_own hb.out (n1.out.ext EW14) (n2.out.ext EW14) (n3.out.ext EW14)
                  have sb := setIn_own hb.out (m1.out.ext Ez) (m2.out.ext Ez) (m3.out.ext Ez)
                  have qs := RSame15_eq X f1 i1 f2 i2 f3 i3 s1 t1 s2 t2 s3 t3 W14 sa sb
                  have B11 : Blk W14 g11 27 _ := Blk.ext Bq.out Ez
                  have x0 : W14.cell? ⟨g16, 0, none⟩ = some (.string ⟨X.name.toArray⟩) := Bg16.cell 0
                  have x1 : W14.cell? ⟨g16, 1, none⟩ = some (.int .i64 X.kind) := Bg16.cell 1
                  have x2 : W14.cell? ⟨g16, 2, none⟩ = some (.slice f1 X.items.length i1) := Bg16.cell 2
                  have x3 : W14.cell? ⟨g16, 3, none⟩ = some (.slice f2 X.comms.length i2) := Bg16.cell 3
                  have x4 : W14.cell? ⟨g16, 4, none⟩ = some (.slice f3 X.paths.length i3) := Bg16.cell 4
                  have y0 : W14.cell? ⟨g11, 0, none⟩ = some (.string ⟨X.name.toArray⟩) := B11.cell 0
                  have y1 : W14.cell? ⟨g11, 1, none⟩ = some (.int .i64 X.kind) := B11.cell 1
                  have y2 : W14.cell? ⟨g11, 2, none⟩ = some (.slice s1 X.items.length t1) := B11.cell 2
                  have y3 : W14.cell? ⟨g11, 3, none⟩ = some (.slice s2 X.comms.length t2) := B11.cell 3
                  have y4 : W14.cell? ⟨g11, 4, none⟩ = some (.slice s3 X.paths.length t3) := B11.cell 4
                  have e1 : (is == is) = true := by simp
                  replace Eq := hide (Eq.out.trans Ez)
                  clear Ez sa sb Bg16 B11 Bq E13 n1 n2 n3 m1 m2 m3 EW14
                  replace qs := hide qs
                  go_wp2_with fail
                  refine qs.out.mono ?_
                  rintro e w15 ⟨rfl, E15⟩
                  replace Eq := hide (Eq.out.trans E15)
                  clear x0 x1 x2 x3 x4 y0 y1 y2 y3 y4 E15 qs
                  go_wp2_with fail
                  refine (qw.out _ Eq.out).mono ?_
                  rintro e w16 ⟨rfl, E16⟩
                  replace Eq := hide (Eq.out.trans E16)
                  clear E16
                  go_wp2
                  go_ret
                  exact ⟨rfl, Eq.out⟩
    · have d1 : decide ((l.length : Int) < (l.length : Int)) = false := decide_eq_false (by omega)
      generalize (l.take _).map cutSt = L at hown hLl
      obtain ⟨a5, c5, rfl⟩ := hown.form
      have hsl : Sl ESet wr (· < wr.heap.size) a5 L := hown.slAt.mono fun _ h => h.2
      have qf : ∀ W, Sl ESet W (· < W.heap.size) a5 L → _ := fun W h => (SFind_any a5 c5 L name W hLl h).mono fun e w' h => h.all
      have qr : ∀ W, Sl ESet W (· < W.heap.size) a5 L → _ := fun W h => (RFind15_any a5 c5 L name W hLl h).mono fun e w' h => h.all
      generalize gotS L name = X at qf qr
      generalize isS L name = is at qf qr
      clear hs hown
      replace qf := hide qf
      replace qr := hide qr
      replace hsl := hide hsl
      replace hE := hide hE
      go_wp2_with fail
      refine (qf.out _ hsl.out).mono ?_
      rintro e w6 ⟨a1, c1, a2, c2, a3, c3, rfl, E6, o1, o2, o3, hne, hin⟩
      replace E6 := hide E6
      replace o1 := hide o1
      replace o2 := hide o2
      replace o3 := hide o3
      replace hne := hide hne
      replace hin := hide hin
      have S := Blk.new w6 27 #[.string ⟨#[]⟩, .int .i64 0, .slice none 0 0, .slice none 0 0, .slice none 0 0]
      have EW7 := (Ext.refl w6).alloc (Obj.cells #[.string ⟨#[]⟩, .int .i64 0, .slice none 0 0, .slice none 0 0, .slice none 0 0] 27)
      generalize hW2 : w6.alloc (Obj.cells #[.string ⟨#[]⟩, .int .i64 0, .slice none 0 0, .slice none 0 0, .slice none 0 0] 27) = W7a at S EW7
      generalize hg7 : w6.heap.size = g7 at S
      have y0 : W7a.cell? ⟨g7, 0, none⟩ = some (.string ⟨#[]⟩) := S.cell 0
      have y1 : W7a.cell? ⟨g7, 1, none⟩ = some (.int .i64 0) := S.cell 1
      have y2 : W7a.cell? ⟨g7, 2, none⟩ = some (.slice none 0 0) := S.cell 2
      have y3 : W7a.cell? ⟨g7, 3, none⟩ = some (.slice none 0 0) := S.cell 3
      have y4 : W7a.cell? ⟨g7, 4, none⟩ = some (.slice none 0 0) := S.cell 4
      have yf := fun i => S.frozen i
      have Bg7 := S.set5w (.string ⟨X.name.toArray⟩) (.int .i64 X.kind) (.slice a1 X.items.length c1) (.slice a2 X.comms.length c2) (.slice a3 X.paths.length c3)
      have hon : OnlyAt g7 W7a _ := OnlyAt.set5w (g := g7) (w := W7a) (.string ⟨X.name.toArray⟩) (.int .i64 X.kind) (.slice a1 X.items.length c1) (.slice a2 X.comms.length c2) (.slice a3 X.paths.length c3)
      replace EW7 := hon.ext EW7 (Nat.le_of_eq hg7)
      clear S hon
      replace Bg7 := hide Bg7
      replace EW7 := hide EW7
      go_upto_region 7 with fail
      replace Bg7 := Bg7.out
      replace EW7 := EW7.out
      generalize (((((W7a.setCell ⟨g7, 0, none⟩ (.string ⟨X.name.toArray⟩)).setCell ⟨g7, 1, none⟩ (.int .i64 X.kind)).setCell ⟨g7, 2, none⟩ (.slice a1 X.items.length c1)).setCell ⟨g7, 3, none⟩ (.slice a2 X.comms.length c2)).setCell ⟨g7, 4, none⟩ (.slice a3 X.paths.length c3)) = W7 at Bg7 EW7 ⊢
      clear y0 y1 y2 y3 y4 yf hW2
      have F7 := hide EW7
      have E7 := hide ((hE.out.trans E6.out).trans EW7)
      have hsl7 := hide ((hsl.out.ext E6.out).ext EW7)
      replace Bg7 := hide Bg7
      clear EW7
      go_wp2_with fail
      refine (qr.out _ hsl7.out).mono ?_
      rintro e w8 ⟨p1, r1, p2, r2, p3, r3, rfl, E8, hi⟩
      replace E8 := hide E8
      replace hi := hide hi
      have S := Blk.new w8 27 #[.string ⟨#[]⟩, .int .i64 0, .slice none 0 0, .slice none 0 0, .slice none 0 0]
      have EW9 := (Ext.refl w8).alloc (Obj.cells #[.string ⟨#[]⟩, .int .i64 0, .slice none 0 0, .slice none 0 0, .slice none 0 0] 27)
      generalize hW2 : w8.alloc (Obj.cells #[.string ⟨#[]⟩, .int .i64 0, .slice none 0 0, .slice none 0 0, .slice none 0 0] 27) = W9a at S EW9
      generalize hg9 : w8.heap.size = g9 at S
      have y0 : W9a.cell? ⟨g9, 0, none⟩ = some (.string ⟨#[]⟩) := S.cell 0
      have y1 : W9a.cell? ⟨g9, 1, none⟩ = some (.int .i64 0) := S.cell 1
      have y2 : W9a.cell? ⟨g9, 2, none⟩ = some (.slice none 0 0) := S.cell 2
      have y3 : W9a.cell? ⟨g9, 3, none⟩ = some (.slice none 0 0) := S.cell 3
      have y4 : W9a.cell? ⟨g9, 4, none⟩ = some (.slice none 0 0) := S.cell 4
      have yf := fun i => S.frozen i
      have Bg9 := S.set5w (.string ⟨X.name.toArray⟩) (.int .i64 X.kind) (.slice p1 X.items.length r1) (.slice p2 X.comms.length r2) (.slice p3 X.paths.length r3)
      have hon : OnlyAt g9 W9a _ := OnlyAt.set5w (g := g9) (w := W9a) (.string ⟨X.name.toArray⟩) (.int .i64 X.kind) (.slice p1 X.items.length r1) (.slice p2 X.comms.length r2) (.slice p3 X.paths.length r3)
      replace EW9 := hon.ext EW9 (Nat.le_of_eq hg9)
      clear S hon
      replace Bg9 := hide Bg9
      replace EW9 := hide EW9
      go_upto_region 8 with fail
      replace Bg9 := Bg9.out
      replace EW9 := EW9.out
      generalize (((((W9a.setCell ⟨g9, 0, none⟩ (.string ⟨X.name.toArray⟩)).setCell ⟨g9, 1, none⟩ (.int .i64 X.kind)).setCell ⟨g9, 2, none⟩ (.slice p1 X.items.length r1)).setCell ⟨g9, 3, none⟩ (.slice p2 X.comms.length r2)).setCell ⟨g9, 4, none⟩ (.slice p3 X.paths.length r3)) = W9 at Bg9 EW9 ⊢
      clear y0 y1 y2 y3 y4 yf hW2
      have F9 := F7.out.trans (E8.out.trans EW9)
      have E9 := hide (E7.out.trans (E8.out.trans EW9))
      replace Bg7 := Bg7.out.ext (E8.out.trans EW9)
      have hi9 := hi.out.ext (E8.out.trans EW9)
      have hb := hi.out.b
      have ha9 := setIn_own hb (o1.out.ext F9) (o2.out.ext F9) (o3.out.ext F9)
      have qs := RSame15_eq X a1 c1 a2 c2 a3 c3 p1 r1 p2 r2 p3 r3 W9 ha9 hi9
      have x0 : W9.cell? ⟨g7, 0, none⟩ = some (.string ⟨X.name.toArray⟩) := Bg7.cell 0
      have x1 : W9.cell? ⟨g7, 1, none⟩ = some (.int .i64 X.kind) := Bg7.cell 1
      have x2 : W9.cell? ⟨g7, 2, none⟩ = some (.slice a1 X.items.length c1) := Bg7.cell 2
      have x3 : W9.cell? ⟨g7, 3, none⟩ = some (.slice a2 X.comms.length c2) := Bg7.cell 3
      have x4 : W9.cell? ⟨g7, 4, none⟩ = some (.slice a3 X.paths.length c3) := Bg7.cell 4
      have y0 : W9.cell? ⟨g9, 0, none⟩ = some (.string ⟨X.name.toArray⟩) := Bg9.cell 0
      have y1 : W9.cell? ⟨g9, 1, none⟩ = some (.int .i64 X.kind) := Bg9.cell 1
      have y2 : W9.cell? ⟨g9, 2, none⟩ = some (.slice p1 X.items.length r1) := Bg9.cell 2
      have y3 : W9.cell? ⟨g9, 3, none⟩ = some (.slice p2 X.comms.length r2) := Bg9.cell 3
      have y4 : W9.cell? ⟨g9, 4, none⟩ = some (.slice p3 X.paths.length r3) := Bg9.cell 4
      have e1 : (is != is) = false := by simp
      clear EW9 ha9 hi E8 E7 F7 hsl7
      replace F9 := hide F9
      replace Bg7 := hide Bg7
      replace Bg9 := hide Bg9
      replace hi9 := hide hi9
      replace qs := hide qs
      replace hb := hide hb
      go_wp2_with fail
      refine qs.out.mono ?_
      rintro e w10 ⟨rfl, E10⟩
      have hi10 := hi9.out.ext E10
      have qo := ROwn15_any X p1 p2 p3 r1 r2 r3 w10 hi10
      replace y0 : w10.cell? ⟨g9, 0, none⟩ = some (.string ⟨X.name.toArray⟩) := E10.cell y0
      replace y1 : w10.cell? ⟨g9, 1, none⟩ = some (.int .i64 X.kind) := E10.cell y1
      replace y2 : w10.cell? ⟨g9, 2, none⟩ = some (.slice p1 X.items.length r1) := E10.cell y2
      replace y3 : w10.cell? ⟨g9, 3, none⟩ = some (.slice p2 X.comms.length r2) := E10.cell y3
      replace y4 : w10.cell? ⟨g9, 4, none⟩ = some (.slice p3 X.paths.length r3) := E10.cell y4
      replace Bg7 := hide (Bg7.out.ext E10)
      replace F9 := hide (F9.out.trans E10)
      replace E9 := hide (E9.out.trans E10)
      clear x0 x1 x2 x3 x4 E10 hi9 hi10 Bg9 qs e1
      replace qo := hide qo
      go_wp2_with fail
      refine qo.out.mono ?_
      rintro e w11 ⟨v1, v2, v3, rfl, E11, m1, m2, m3, _⟩
      obtain ⟨s1, t1, rfl⟩ := m1.form
      obtain ⟨s2, t2, rfl⟩ := m2.form
      obtain ⟨s3, t3, rfl⟩ := m3.form
      clear y0 y1 y2 y3 y4 qo
      replace E11 := hide E11
      replace m1 := hide m1
      replace m2 := hide m2
      replace m3 := hide m3
      have S := Blk.new w11 27 #[.string ⟨#[]⟩, .int .i64 0, .slice none 0 0, .slice none 0 0, .slice none 0 0]
      have EW12 := (Ext.refl w11).alloc (Obj.cells #[.string ⟨#[]⟩, .int .i64 0, .slice none 0 0, .slice none 0 0, .slice none 0 0] 27)
      generalize hW2 : w11.alloc (Obj.cells #[.string ⟨#[]⟩, .int .i64 0, .slice none 0 0, .slice none 0 0, .slice none 0 0] 27) = W12a at S EW12
      generalize hg11 : w11.heap.size = g11 at S
      have y0 : W12a.cell? ⟨g11, 0, none⟩ = some (.string ⟨#[]⟩) := S.cell 0
      have y1 : W12a.cell? ⟨g11, 1, none⟩ = some (.int .i64 0) := S.cell 1
      have y2 : W12a.cell? ⟨g11, 2, none⟩ = some (.slice none 0 0) := S.cell 2
      have y3 : W12a.cell? ⟨g11, 3, none⟩ = some (.slice none 0 0) := S.cell 3
      have y4 : W12a.cell? ⟨g11, 4, none⟩ = some (.slice none 0 0) := S.cell 4
      have yf := fun i => S.frozen i
      have Bg11 := S.set5w (.string ⟨X.name.toArray⟩) (.int .i64 X.kind) (.slice s1 X.items.length t1) (.slice s2 X.comms.length t2) (.slice s3 X.paths.length t3)
      have hon : OnlyAt g11 W12a _ := OnlyAt.set5w (g := g11) (w := W12a) (.string ⟨X.name.toArray⟩) (.int .i64 X.kind) (.slice s1 X.items.length t1) (.slice s2 X.comms.length t2) (.slice s3 X.paths.length t3)
      replace EW12 := hon.ext EW12 (Nat.le_of_eq hg11)
      clear S hon
      replace Bg11 := hide Bg11
      replace EW12 := hide EW12
      go_upto_region 11 with fail
      replace Bg11 := Bg11.out
      replace EW12 := EW12.out
      generalize (((((W12a.setCell ⟨g11, 0, none⟩ (.string ⟨X.name.toArray⟩)).setCell ⟨g11, 1, none⟩ (.int .i64 X.kind)).setCell ⟨g11, 2, none⟩ (.slice s1 X.items.length t1)).setCell ⟨g11, 3, none⟩ (.slice s2 X.comms.length t2)).setCell ⟨g11, 4, none⟩ (.slice s3 X.paths.length t3)) = W12 at Bg11 EW12 ⊢
      clear y0 y1 y2 y3 y4 yf hW2
      have hG := hide (E11.out.trans EW12)
      have F := hide (F9.out.trans hG.out)
      replace E9 := hide (E9.out.trans hG.out)
      replace Bg7 := hide (Bg7.out.ext hG.out)
      replace m1 := hide (m1.out.ext EW12)
      replace m2 := hide (m2.out.ext EW12)
      replace m3 := hide (m3.out.ext EW12)
      have hz1 := F9.out.size
      have hz3 : w6.heap.size ≤ g11 := by have h1 := E11.out.size; omega
      have hz2 := F.out.size
      have slB : Sl ESet W12 (· < wr.heap.size) a5 L := hsl.out.frame fun b hb => (E6.out.trans F.out).block b hb
      have hB6 := E6.out.size
      have hin12 := fun k (hk : k < X.paths.length) b a c hb hc => hin.out k hk b a c hb hc
      generalize hpp : (Value.slice a3 X.paths.length c3).ownBlock = pp at hne hin
      clear F9 hG E11 EW12 hin12
      replace hpp := hide hpp
      replace slB := hide slB
      replace hB6 := hide hB6
      replace hz1 := hide hz1
      replace hz2 := hide hz2
      replace hz3 := hide hz3
      replace hg9 := hide hg9
      replace hg11 := hide hg11
      replace hg7 := hide hg7
      have nI := hb.out.nItems
      have nC := hb.out.nComms
      have nP := hb.out.nPaths
      go_wp2_with fail
      go_loopw [12] (fun q wq => ∃ m : Nat, m ≤ X.items.length ∧ q = .int .i64 (m : Int) ∧ Sp wr.heap.size w6.heap.size pp W12 wq) (fun q _ => X.items.length - (intOf q).toNat)
      case atStart => exact ⟨0, Nat.zero_le _, rfl, Sp.refl _ _ _ _⟩
      case round =>
        obtain ⟨m, hm, rfl, hsp⟩ := hrel
        rename World => wq
        have z2 : wq.cell? ⟨g7, 2, none⟩ = some (.slice a1 X.items.length c1) := hsp.cell (.inr (.inl (Nat.le_of_eq hg7.out))) 2 (Bg7.out.cell 2)
        by_cases hlt : m < X.items.length
        · obtain ⟨gi, ci, hv, hgi1, hgi2⟩ := o1.out.formNe (by intro e; rw [e] at hlt; simp at hlt)
          injection hv with ha hn hc'
          subst ha hc'
          have hth := hsp.there gi 0 _ (o1.out.ext F.out).thereS (m * 6 + 4) (by show m * 6 + 4 < X.items.length * 6; omega)
          rw [Nat.zero_add] at hth
          obtain ⟨u, hu⟩ := Option.isSome_iff_exists.1 hth.1
          have hf := hth.2
          have hnp : pp ≠ some gi := fun e => (hne.out gi e).1 rfl
          have hs2 := hsp.set hgi1 hgi2 hnp (m * 6 + 4) (.int .i64 (-9))
          clear hth hsp hnp hn
          replace hs2 := hide hs2
          go_wp2_with fail
          go_roundw
          case rel => exact ⟨m + 1, by omega, by go_num, hs2.out⟩
          case measure => simp [intOf]; omega
        · have hsp3 := hide hsp
          clear hsp
          go_wp2_with fail
          clear z2 hlt hm
          go_loopw [13] (fun q wq => ∃ m : Nat, m ≤ X.comms.length ∧ q = .int .i64 (m : Int) ∧ Sp wr.heap.size w6.heap.size pp W12 wq) (fun q _ => X.comms.length - (intOf q).toNat)
          case atStart => exact ⟨0, Nat.zero_le _, rfl, hsp3.out⟩
          case round =>
            obtain ⟨m, hm, rfl, hsp⟩ := hrel
            rename World => wq
            clear hsp3
            have z3 : wq.cell? ⟨g7, 3, none⟩ = some (.slice a2 X.comms.length c2) := hsp.cell (.inr (.inl (Nat.le_of_eq hg7.out))) 3 (Bg7.out.cell 3)
            by_cases hlt : m < X.comms.length
            · obtain ⟨gi, ci, hv, hgi1, hgi2⟩ := o2.out.formNe (by intro e; rw [e] at hlt; simp at hlt)
              injection hv with ha hn hc'
              subst ha hc'
              have hth := hsp.there gi 0 _ (o2.out.ext F.out).thereS m (by show m < X.comms.length * 1; omega)
              rw [Nat.zero_add] at hth
              obtain ⟨u, hu⟩ := Option.isSome_iff_exists.1 hth.1
              have hf := hth.2
              have hnp : pp ≠ some gi := fun e => (hne.out gi e).2 rfl
              have hs2 := hsp.set hgi1 hgi2 hnp m (.int .u32 99)
              clear hth hsp hnp hn
              replace hs2 := hide hs2
              go_wp2_with fail
              go_roundw
              case rel => exact ⟨m + 1, by omega, by go_num, hs2.out⟩
              case measure => simp [intOf]; omega
            · have hsp4 := hide hsp
              clear hsp
              go_wp2_with fail
              clear z3 hlt hm
              go_loopw [14] (fun q wq => ∃ m : Nat, m ≤ X.paths.length ∧ q = .int .i64 (m : Int) ∧ Sp wr.heap.size w6.heap.size pp W12 wq) (fun q _ => X.paths.length - (intOf q).toNat)
              case atStart => exact ⟨0, Nat.zero_le _, rfl, hsp4.out⟩
              case round =>
                obtain ⟨m, hm, rfl, hsp⟩ := hrel
                rename World => wq
                clear hsp4
                have z4 : wq.cell? ⟨g7, 4, none⟩ = some (.slice a3 X.paths.length c3) := hsp.cell (.inr (.inl (Nat.le_of_eq hg7.out))) 4 (Bg7.out.cell 4)
                by_cases hlt : m < X.paths.length
                · obtain ⟨gp, cp, hv, hgp1, hgp2⟩ := o3.out.formNe (by intro e; rw [e] at hlt; simp at hlt)
                  injection hv with ha hn hc'
                  subst ha hc'
                  have hppe : some gp = pp := hpp.out
                  obtain ⟨ak, ck, hcell, hfz, hmk, hcc, hcm, hsk⟩ := o3.out.atC m hlt
                  have hin0 := hin.out m hlt gp ak ck hppe.symm hcell
                  have hc12 : W12.cell? ⟨gp, m, none⟩ = some (.slice ak X.paths[m].length ck) := F.out.cell hcell
                  clear hcell hfz hcc hcm hn
                  generalize X.paths[m] = Q at hc12 hin0 hsk hmk
                  have x12 : wq.cell? ⟨gp, m, none⟩ = some (.slice ak Q.length ck) := hsp.cell (.inr (.inr hppe.symm)) m hc12
                  have hspq := hide hsp
                  clear hsp
                  replace hc12 := hide hc12
                  replace hin0 := hide hin0
                  replace hsk := hide hsk
                  replace hppe := hide hppe
                  replace hgp1 := hide hgp1
                  replace hgp2 := hide hgp2
                  go_wp2_with fail
                  clear z4 x12
                  go_loopw [15] (fun q wq => ∃ j : Nat, j ≤ Q.length ∧ q = .int .i64 (j : Int) ∧ Sp wr.heap.size w6.heap.size pp W12 wq) (fun q _ => Q.length - (intOf q).toNat)
                  case atStart => exact ⟨0, Nat.zero_le _, rfl, hspq.out⟩
                  case round =>
                    obtain ⟨j, hj, rfl, hsp⟩ := hrel
                    rename World => wp
                    clear hspq
                    have z4 : wp.cell? ⟨g7, 4, none⟩ = some (.slice (some ⟨gp, 0, none⟩) X.paths.length c3) := hsp.cell (.inr (.inl (Nat.le_of_eq hg7.out))) 4 (Bg7.out.cell 4)
                    have x12 : wp.cell? ⟨gp, m, none⟩ = some (.slice ak Q.length ck) := hsp.cell (.inr (.inr hppe.out.symm)) m hc12.out
                    by_cases hlj : j < Q.length
                    · obtain ⟨gi, ci, hv, hgi1, hgi2⟩ := hin0.out.formNe (by intro e; rw [e] at hlj; simp at hlj)
                      injection hv with ha hn hc'
                      subst ha hc'
                      have hnp : pp ≠ some gi := fun e => by
                        obtain ⟨b, off, cs, he, hS, _⟩ := hsk.out.at j hlj
                        injection he with he
                        injection he with he _ _
                        have h1 := Option.some.inj (hppe.out.trans e)
                        exact hS.2.2 (by omega)
                      have hth := hsp.there gi 0 _ (hin0.out.ext F.out).thereS (j * 2) (by show j * 2 < Q.length * 2; omega)
                      rw [Nat.zero_add] at hth
                      obtain ⟨u, hu⟩ := Option.isSome_iff_exists.1 hth.1
                      have hf := hth.2
                      have hs2 := hsp.set hgi1 hgi2 hnp (j * 2) (.int .i64 9)
                      clear hth hsp hnp hn
                      replace hs2 := hide hs2
                      go_wp2_with fail
                      go_roundw
                      case rel => exact ⟨j + 1, by omega, by go_num, hs2.out⟩
                      case measure => simp [intOf]; omega
                    · have hspx := hide hsp
                      clear hsp
                      go_wp2_with fail
                      go_roundw
                      case rel => exact ⟨m + 1, by omega, by go_num, hspx.out⟩
                      case measure => simp [intOf]; omega
                · have hsp5 := hide hsp
                  clear hsp
                  go_wp2_with fail
                  clear z4 hlt hm
                  have hsq := hsp5.out.size
                  have slq : Sl ESet wq (· < wq.heap.size) a5 L := (hsp5.out.sl slB.out).mono fun b hb => by have h1 := hB6.out; have h2 := hz2.out; omega
                  have Eq := hide (hsp5.out.ext E9.out hE.out.size)
                  have Bq := hide ((hsp5.out.block g11 (.inr (.inl hz3.out))).trans Bg11)
                  replace m1 := hide (hsp5.out.own hz1.out m1.out)
                  replace m2 := hide (hsp5.out.own hz1.out m2.out)
                  replace m3 := hide (hsp5.out.own hz1.out m3.out)
                  clear hsp5 hin hne hpp o1 o2 o3 slB hsl E9 Bg7 Bg11 E6 F hE nI nC nP
                  refine (qf.out _ slq).mono ?_
                  rintro e w13 ⟨f1, i1, f2, i2, f3, i3, rfl, E13, n1, n2, n3, _, _⟩
                  clear slq qf qr
                  replace E13 := hide E13
                  replace n1 := hide n1
                  replace n2 := hide n2
                  replace n3 := hide n3
                  have S := Blk.new w13 27 #[.string ⟨#[]⟩, .int .i64 0, .slice none 0 0, .slice none 0 0, .slice none 0 0]
                  have EW14 := (Ext.refl w13).alloc (Obj.cells #[.string ⟨#[]⟩, .int .i64 0, .slice none 0 0, .slice none 0 0, .slice none 0 0] 27)
                  generalize hW2 : w13.alloc (Obj.cells #[.string ⟨#[]⟩, .int .i64 0, .slice none 0 0, .slice none 0 0, .slice none 0 0] 27) = W14a at S EW14
                  generalize hg16 : w13.heap.size = g16 at S
                  have y0 : W14a.cell? ⟨g16, 0, none⟩ = some (.string ⟨#[]⟩) := S.cell 0
                  have y1 : W14a.cell? ⟨g16, 1, none⟩ = some (.int .i64 0) := S.cell 1
                  have y2 : W14a.cell? ⟨g16, 2, none⟩ = some (.slice none 0 0) := S.cell 2
                  have y3 : W14a.cell? ⟨g16, 3, none⟩ = some (.slice none 0 0) := S.cell 3
                  have y4 : W14a.cell? ⟨g16, 4, none⟩ = some (.slice none 0 0) := S.cell 4
                  have yf := fun i => S.frozen i
                  have Bg16 := S.set5w (.string ⟨X.name.toArray⟩) (.int .i64 X.kind) (.slice f1 X.items.length i1) (.slice f2 X.comms.length i2) (.slice f3 X.paths.length i3)
                  have hon : OnlyAt g16 W14a _ := OnlyAt.set5w (g := g16) (w := W14a) (.string ⟨X.name.toArray⟩) (.int .i64 X.kind) (.slice f1 X.items.length i1) (.slice f2 X.comms.length i2) (.slice f3 X.paths.length i3)
                  replace EW14 := hon.ext EW14 (Nat.le_of_eq hg16)
                  clear S hon
                  replace Bg16 := hide Bg16
                  replace EW14 := hide EW14
                  go_upto_region 27 with fail
                  replace Bg16 := Bg16.out
                  replace EW14 := EW14.out
                  generalize (((((W14a.setCell ⟨g16, 0, none⟩ (.string ⟨X.name.toArray⟩)).setCell ⟨g16, 1, none⟩ (.int .i64 X.kind)).setCell ⟨g16, 2, none⟩ (.slice f1 X.items.length i1)).setCell ⟨g16, 3, none⟩ (.slice f2 X.comms.length i2)).setCell ⟨g16, 4, none⟩ (.slice f3 X.paths.length i3)) = W14 at Bg16 EW14 ⊢
                  clear y0 y1 y2 y3 y4 yf hW2
                  have Ez := E13.out.trans EW14
                  have sa := setIn_own hb.out (n1.out.ext EW14) (n2.out.ext EW14) (n3.out.ext EW14)
                  have sb := setIn_own hb.out (m1.out.ext Ez) (m2.out.ext Ez) (m3.out.ext Ez)
                  have qs := RSame15_eq X f1 i1 f2 i2 f3 i3 s1 t1 s2 t2 s3 t3 W14 sa sb
                  have B11 : Blk W14 g11 27 _ := Blk.ext Bq.out Ez
                  have x0 : W14.cell? ⟨g16, 0, none⟩ = some (.string ⟨X.name.toArray⟩) := Bg16.cell 0
                  have x1 : W14.cell? ⟨g16, 1, none⟩ = some (.int .i64 X.kind) := Bg16.cell 1
                  have x2 : W14.cell? ⟨g16, 2, none⟩ = some (.slice f1 X.items.length i1) := Bg16.cell 2
                  have x3 : W14.cell? ⟨g16, 3, none⟩ = some (.slice f2 X.comms.length i2) := Bg16.cell 3
                  have x4 : W14.cell? ⟨g16, 4, none⟩ = some (.slice f3 X.paths.length i3) := Bg16.cell 4
                  have y0 : W14.cell? ⟨g11, 0, none⟩ = some (.string ⟨X.name.toArray⟩) := B11.cell 0
                  have y1 : W14.cell? ⟨g11, 1, none⟩ = some (.int .i64 X.kind) := B11.cell 1
                  have y2 : W14.cell? ⟨g11, 2, none⟩ = some (.slice s1 X.items.length t1) := B11.cell 2
                  have y3 : W14.cell? ⟨g11, 3, none⟩ = some (.slice s2 X.comms.length t2) := B11.cell 3
                  have y4 : W14.cell? ⟨g11, 4, none⟩ = some (.slice s3 X.paths.length t3) := B11.cell 4
                  have e1 : (is == is) = true := by simp
                  replace Eq := hide (Eq.out.trans Ez)
                  clear Ez sa sb Bg16 B11 Bq E13 n1 n2 n3 m1 m2 m3 EW14
                  replace qs := hide qs
                  go_wp2_with fail
                  refine qs.out.mono ?_
                  rintro e w15 ⟨rfl, E15⟩
                  replace Eq := hide (Eq.out.trans E15)
                  clear x0 x1 x2 x3 x4 y0 y1 y2 y3 y4 E15 qs
                  go_wp2_with fail
                  refine (qw.out _ Eq.out).mono ?_
                  rintro e w16 ⟨rfl, E16⟩
                  replace Eq := hide (Eq.out.trans E16)
                  clear E16
                  go_wp2
                  go_ret
                  exact ⟨rfl, Eq.out⟩
end Go.Proofs.YtoghdmoldcjedaaGreatDoor
