/- The walk of AdmitNearest. -/
import Derived.Test.YtmhmcdpadmimlaaGreatDoorDR
import Derived.Test.YtmhmcdpadmimlaaGreatDoorPI
import Derived.Test.YtmhmcdpadmimlaaGreatDoorVZ
import Derived.Deep.CutBlock
import Derived.Lib.QuietBelow
namespace Go.Proofs.YtmhmcdpadmimlaaGreatDoor
open Go.RowKit Go.Sort
set_option linter.unusedVariables false

theorem OnlyAt.set4d {g : Nat} {w : World} (u0 u1 u2 u3 : Value) :
    OnlyAt g w ((((w.setCell ⟨g, 0, none⟩ u0).setCell ⟨g, 1, none⟩ u1).setCell ⟨g, 2, none⟩ u2).setCell ⟨g, 3, none⟩ u3) :=
  ((((OnlyAt.refl g w).setCell 0 u0).setCell 1 u1).setCell 2 u2).setCell 3 u3
theorem conv4 {T : TypeId} (g : Nat) (c0 c1 c2 c3 : UInt8) (w : World) (hB : Blk w g T #[.int .u8 (c0.toNat : Int), .int .u8 (c1.toNat : Int), .int .u8 (c2.toNat : Int), .int .u8 (c3.toNat : Int)]) :
    (convert 40 9 (.slice (some ⟨g, 0, none⟩) 4 4)).run Tryz.prog w = .ok (.string ⟨#[c0, c1, c2, c3]⟩) w := by
  refine run_convert_bytes_back w 40 9 5 ⟨g, 0, none⟩ 4 [c0, c1, c2, c3] Tryz.underlying40 Tryz.underlying5 Tryz.underlying9 fun j hj => ?_
  rw [add_lit, Nat.zero_add, hB.cell]
  match j, hj with
  | 0, _ => rfl
  | 1, _ => rfl
  | 2, _ => rfl
  | 3, _ => rfl
set_option maxRecDepth 20000 in
theorem okNbr : ElemOk Tryz.prog 22 31 ENbA.sz 232 := elemOk (z := .agg #[.string ⟨#[]⟩, .string ⟨#[]⟩, .int .i64 0, .int .u64 0, .string ⟨#[]⟩, .int .i64 0, .int .u32 0, .int .i64 0, .int .i64 0, .bool false, .bool false, .bool false, .slice none 0 0, .int .i64 0, .bool false, .int .i64 0, .bool false, .int .i64 0, .int .i64 0, .string ⟨#[]⟩, .string ⟨#[]⟩, .string ⟨#[]⟩, .bool false]) Tryz.underlying22 (by kernel_rfl) rfl
set_option maxRecDepth 20000 in
set_option maxHeartbeats 4000000 in
theorem AdmitNearest_walk (a : Option Addr) (c : Nat) (l : List NetS) (x0 x1 x2 x3 tt : UInt8) (w : World) (hl : l.length ≤ 16777216) (hs : Sl ENet w (· < w.heap.size) a l) (hT : Tab w) (hD : Deb w) (hV : Vars w) :
    Calls Tryz.prog 4 #[.slice a l.length c, .agg #[.int .u8 (x0.toNat : Int), .int .u8 (x1.toNat : Int), .int .u8 (x2.toNat : Int), .int .u8 (x3.toNat : Int)], .int .u8 (tt.toNat : Int)] w fun e w' => e = .returned (.bool true) ∧ Ext w w' := by
  have mixed : Tryz.prog.follows Departure.mixedOrders = true := by kernel_rfl
  have qw := fun W (h : Ext w W) => LWorks21 W (hT.ext h) (hD.ext h) (hV.ext h)
  have qd := fun (x : Nbr) (f : Option Addr) (fc : Nat) (b : List UInt8) (hb : b.length ≤ 1048576) W (h : Ext w W) (hin : NbrIn W (· < W.heap.size) x f) => Dynamic_any21 x f fc b hb W hin (hT.ext h) (hD.ext h)
  clear hT hD hV
  replace qw := hide qw
  replace qd := hide qd
  replace hs := hide hs
  go_enter Tryz.func4, Tryz.ntmps4
  have BX := Blk.new w 39 #[.int .u8 (x0.toNat : Int), .int .u8 (x1.toNat : Int), .int .u8 (x2.toNat : Int), .int .u8 (x3.toNat : Int)]
  have E := (Ext.refl w).alloc (Obj.cells #[.int .u8 (x0.toNat : Int), .int .u8 (x1.toNat : Int), .int .u8 (x2.toNat : Int), .int .u8 (x3.toNat : Int)] 39)
  generalize hW1 : w.alloc (Obj.cells #[.int .u8 (x0.toNat : Int), .int .u8 (x1.toNat : Int), .int .u8 (x2.toNat : Int), .int .u8 (x3.toNat : Int)] 39) = W1 at BX E
  generalize hgx : w.heap.size = gx at BX
  have hcv := conv4 gx x0 x1 x2 x3 W1 BX
  replace E := hide E
  go_upto_block 0 with fail
  clear hW1 hgx hcv BX
  go_cut [8, 9, 10, 11, 12] from 25 to 64 (fun v _ _ _ _ wr => Own ENbA 31 wr W1.heap.size v ((l.take 20).map nbrA) ∧ Ext W1 wr)
  case first =>
    go_wp2_with fail
    go_loopw [8, 9] (fun v i wr => ∃ k : Nat, k ≤ l.length ∧ k ≤ 20 ∧ i = .int .i64 (k : Int) ∧ Own ENbA 31 wr W1.heap.size v ((l.take k).map nbrA) ∧ Ext W1 wr) (fun _ i _ => l.length - (intOf i).toNat)
    case atStart => exact ⟨0, by omega, by omega, rfl, Own.nil, Ext.refl _⟩
    case round =>
      obtain ⟨k, hk, hk20, rfl, hown, hE⟩ := hrel
      rename World => W2
      have hcs : (k < l.length ∧ k < 20) ∨ (k < l.length ∧ k = 20) ∨ k = l.length := by omega
      rcases hcs with ⟨hlt, h20⟩ | ⟨hlt, rfl⟩ | rfl
      · obtain ⟨bl, off, rfl, _, y0, y1, y2⟩ := ENet.at hs.out k hlt
        have hEw := E.out.trans hE
        have xA := hEw.cell y0
        have xB := hEw.cell y1
        have xL := hEw.cell y2
        have d1 : decide ((k : Int) < (l.length : Int)) = true := decide_eq_true (by omega)
        have d2 : decide ((k : Int) < 20) = true := decide_eq_true (by omega)
        obtain ⟨hc17, _⟩ := rangeN_cut l[k]
        have hin := nbr_inS W2 (fun _ => True) (rangeN l[k]) (rangeN_in l[k])
        have hsn : (l.take (k + 1)).map nbrA = (l.take k).map nbrA ++ [({ zeroN with name := [114], range := rangeN l[k] }, none, 0)] := by rw [take_snoc' _ _ hlt, List.map_append]; rfl
        have hlk : ((l.take k).map nbrA).length = k := by simp; omega
        have hRi := rangeN_in l[k]
        generalize rangeN l[k] = R at *
        generalize l[k] = y at *
        obtain ⟨nA, nB, nL⟩ := y
        obtain ⟨qf, qr, qa, ql⟩ := R
        dsimp only at *
        have qcut := fun W => ACut_any ⟨1, 0, [nA, nB, 0, 0], 32⟩ ((nL.toNat % 17 : Nat) : Int) W (by show 4 ≤ _; decide)
        rw [hc17] at qcut
        simp only [valP] at qcut
        generalize (l.take k).map nbrA = L at *
        clear hc17 hin hEw y0 y1 y2
        replace hlt := hide hlt
        replace xA := hide xA
        replace xB := hide xB
        replace xL := hide xL
        replace qcut := hide qcut
        replace hE := hide hE
        replace hown := hide hown
        replace hsn := hide hsn
        replace hlk := hide hlk
        replace hRi := hide hRi
        go_wp2_with fail
        refine wp_region_JT 11 (J := JN W2 11 _ (fun i => match i with | 0 => .val (.slice (some ⟨bl, off, none⟩) l.length c) | 1 => .val (.int .i64 (k : Int)) | 2 => .val (.pointer (some ⟨bl, off + k * 3, none⟩)) | 3 => .val (.pointer (some ⟨bl, off + k * 3, none⟩)) | 4 => .val (.int .u8 (nA.toNat : Int)) | 5 => .val (.slice (some ⟨bl, off, none⟩) l.length c) | 6 => .val (.int .i64 (k : Int)) | 7 => .val (.pointer (some ⟨bl, off + k * 3, none⟩)) | 8 => .val (.pointer (some ⟨bl, off + k * 3 + 1, none⟩)) | 9 => .val (.int .u8 (nB.toNat : Int)) | 10 => .mk (fun g => .slice (some ⟨g, 0, none⟩) 4 4) 5 #[.int .u8 (nA.toNat : Int), .int .u8 (nB.toNat : Int), .int .u8 0, .int .u8 0] | _ => .val undef)) mixed (by kernel_rfl) (by kernel_rfl) (by kernel_rfl) (fun _ => undef) (JN.start _ _ _ _ _) (JN.keeps (by kernel_rfl) ?anys ?fill ?box ?steps) ?rest6
        case anys =>
          intro i R hi hR
          replace hi : i < 11 := hi
          match i, hi, hR with
          | 0, _, hR => cases hR
          | 1, _, hR => cases hR
          | 2, _, hR => cases hR
          | 3, _, hR => cases hR
          | 4, _, hR => cases hR
          | 5, _, hR => cases hR
          | 6, _, hR => cases hR
          | 7, _, hR => cases hR
          | 8, _, hR => cases hR
          | 9, _, hR => cases hR
          | 10, _, hR => cases hR
          | i + 11, h, _ => exact absurd h (by omega)
        case fill =>
          intro i b hi hb
          replace hi : i < 11 := hi
          match i, hi, hb with
          | 0, _, hb => cases hb
          | 1, _, hb => cases hb
          | 2, _, hb => cases hb
          | 3, _, hb => cases hb
          | 4, _, hb => cases hb
          | 5, _, hb => cases hb
          | 6, _, hb => cases hb
          | 7, _, hb => cases hb
          | 8, _, hb => cases hb
          | 9, _, hb => cases hb
          | 10, _, hb => cases hb
          | i + 11, h, _ => exact absurd h (by omega)
        case box =>
          intro b st t z cs hi hb
          replace hi : b < 11 := hi
          match b, hi, hb with
          | 0, _, hb => cases hb
          | 1, _, hb => cases hb
          | 2, _, hb => cases hb
          | 3, _, hb => cases hb
          | 4, _, hb => cases hb
          | 5, _, hb => cases hb
          | 6, _, hb => cases hb
          | 7, _, hb => cases hb
          | 8, _, hb => cases hb
          | 9, _, hb => cases hb
          | 10, _, hb => cases hb
          | i + 11, h, _ => exact absurd h (by omega)
        case steps =>
          intro i hi
          replace hi : i < 11 := hi
          match i, hi with
          | 0, _ =>
            refine ⟨_, rfl, rfl, ?_⟩
            intro a w9 done val G H hdn hdep hev hout hE9 hok hge9
            refine ⟨(fun v b hb => by cases hb), ?_⟩
            have u0 : a.eval (.tmp 0) = .slice (some ⟨bl, off, none⟩) l.length c := (hout 0 (by kernel_rfl)).trans rfl
            simp [Act.eval] at u0
            clear hdep hev hout hok hge9
            refine step_val (w'' := w9) ?_ (Ext.refl _)
            go_simp
          | 1, _ =>
            refine ⟨_, rfl, rfl, ?_⟩
            intro a w9 done val G H hdn hdep hev hout hE9 hok hge9
            refine ⟨(fun v b hb => by cases hb), ?_⟩
            have u9 : a.eval (.tmp 9) = .int .i64 (k : Int) := (hout 9 (by kernel_rfl)).trans rfl
            simp [Act.eval] at u9
            clear hdep hev hout hok hge9
            refine step_val (w'' := w9) ?_ (Ext.refl _)
            go_simp
          | 2, _ =>
            refine ⟨_, rfl, rfl, ?_⟩
            intro a w9 done val G H hdn hdep hev hout hE9 hok hge9
            refine ⟨(fun v b hb => by cases hb), ?_⟩
            have d0 : done 0 = true := by first | exact hdep ⟨0, .data⟩ (by simp) rfl | exact hdep ⟨0, .phase⟩ (by simp) rfl
            have e0 := hev 0 _ 35 rfl rfl (by simp) d0
            have k0 := hok 0 (by decide) d0
            replace k0 : val 0 = (.slice (some ⟨bl, off, none⟩) l.length c) := k0
            rw [k0] at e0
            clear k0
            simp [Act.eval] at e0
            clear d0
            have d1 : done 1 = true := by first | exact hdep ⟨1, .data⟩ (by simp) rfl | exact hdep ⟨1, .phase⟩ (by simp) rfl
            have e1 := hev 1 _ 36 rfl rfl (by simp) d1
            have k1 := hok 1 (by decide) d1
            replace k1 : val 1 = (.int .i64 (k : Int)) := k1
            rw [k1] at e1
            clear k1
            simp [Act.eval] at e1
            clear d1
            clear hdep hev hout hok hge9
            have hlt := hlt.out
            refine step_val (w'' := w9) ?_ (Ext.refl _)
            go_simp
          | 3, _ =>
            refine ⟨_, rfl, rfl, ?_⟩
            intro a w9 done val G H hdn hdep hev hout hE9 hok hge9
            refine ⟨(fun v b hb => by cases hb), ?_⟩
            have d2 : done 2 = true := by first | exact hdep ⟨2, .data⟩ (by simp) rfl | exact hdep ⟨2, .phase⟩ (by simp) rfl
            have e2 := hev 2 _ 37 rfl rfl (by simp) d2
            have k2 := hok 2 (by decide) d2
            replace k2 : val 2 = (.pointer (some ⟨bl, off + k * 3, none⟩)) := k2
            rw [k2] at e2
            clear k2
            simp [Act.eval] at e2
            clear d2
            clear hdep hev hout hok hge9
            refine step_val (w'' := w9) ?_ (Ext.refl _)
            go_simp
          | 4, _ =>
            refine ⟨_, rfl, rfl, ?_⟩
            intro a w9 done val G H hdn hdep hev hout hE9 hok hge9
            refine ⟨(fun v b hb => by cases hb), ?_⟩
            have d3 : done 3 = true := by first | exact hdep ⟨3, .data⟩ (by simp) rfl | exact hdep ⟨3, .phase⟩ (by simp) rfl
            have e3 := hev 3 _ 38 rfl rfl (by simp) d3
            have k3 := hok 3 (by decide) d3
            replace k3 : val 3 = (.pointer (some ⟨bl, off + k * 3, none⟩)) := k3
            rw [k3] at e3
            clear k3
            simp [Act.eval] at e3
            clear d3
            clear hdep hev hout hok hge9
            have y := hE9.cell xA.out
            refine step_val (w'' := w9) ?_ (Ext.refl _)
            go_simp
          | 5, _ =>
            refine ⟨_, rfl, rfl, ?_⟩
            intro a w9 done val G H hdn hdep hev hout hE9 hok hge9
            refine ⟨(fun v b hb => by cases hb), ?_⟩
            have u0 : a.eval (.tmp 0) = .slice (some ⟨bl, off, none⟩) l.length c := (hout 0 (by kernel_rfl)).trans rfl
            simp [Act.eval] at u0
            clear hdep hev hout hok hge9
            refine step_val (w'' := w9) ?_ (Ext.refl _)
            go_simp
          | 6, _ =>
            refine ⟨_, rfl, rfl, ?_⟩
            intro a w9 done val G H hdn hdep hev hout hE9 hok hge9
            refine ⟨(fun v b hb => by cases hb), ?_⟩
            have u9 : a.eval (.tmp 9) = .int .i64 (k : Int) := (hout 9 (by kernel_rfl)).trans rfl
            simp [Act.eval] at u9
            clear hdep hev hout hok hge9
            refine step_val (w'' := w9) ?_ (Ext.refl _)
            go_simp
          | 7, _ =>
            refine ⟨_, rfl, rfl, ?_⟩
            intro a w9 done val G H hdn hdep hev hout hE9 hok hge9
            refine ⟨(fun v b hb => by cases hb), ?_⟩
            have d5 : done 5 = true := by first | exact hdep ⟨5, .data⟩ (by simp) rfl | exact hdep ⟨5, .phase⟩ (by simp) rfl
            have e5 := hev 5 _ 40 rfl rfl (by simp) d5
            have k5 := hok 5 (by decide) d5
            replace k5 : val 5 = (.slice (some ⟨bl, off, none⟩) l.length c) := k5
            rw [k5] at e5
            clear k5
            simp [Act.eval] at e5
            clear d5
            have d6 : done 6 = true := by first | exact hdep ⟨6, .data⟩ (by simp) rfl | exact hdep ⟨6, .phase⟩ (by simp) rfl
            have e6 := hev 6 _ 41 rfl rfl (by simp) d6
            have k6 := hok 6 (by decide) d6
            replace k6 : val 6 = (.int .i64 (k : Int)) := k6
            rw [k6] at e6
            clear k6
            simp [Act.eval] at e6
            clear d6
            clear hdep hev hout hok hge9
            have hlt := hlt.out
            refine step_val (w'' := w9) ?_ (Ext.refl _)
            go_simp
          | 8, _ =>
            refine ⟨_, rfl, rfl, ?_⟩
            intro a w9 done val G H hdn hdep hev hout hE9 hok hge9
            refine ⟨(fun v b hb => by cases hb), ?_⟩
            have d7 : done 7 = true := by first | exact hdep ⟨7, .data⟩ (by simp) rfl | exact hdep ⟨7, .phase⟩ (by simp) rfl
            have e7 := hev 7 _ 42 rfl rfl (by simp) d7
            have k7 := hok 7 (by decide) d7
            replace k7 : val 7 = (.pointer (some ⟨bl, off + k * 3, none⟩)) := k7
            rw [k7] at e7
            clear k7
            simp [Act.eval] at e7
            clear d7
            clear hdep hev hout hok hge9
            refine step_val (w'' := w9) ?_ (Ext.refl _)
            go_simp
          | 9, _ =>
            refine ⟨_, rfl, rfl, ?_⟩
            intro a w9 done val G H hdn hdep hev hout hE9 hok hge9
            refine ⟨(fun v b hb => by cases hb), ?_⟩
            have d8 : done 8 = true := by first | exact hdep ⟨8, .data⟩ (by simp) rfl | exact hdep ⟨8, .phase⟩ (by simp) rfl
            have e8 := hev 8 _ 43 rfl rfl (by simp) d8
            have k8 := hok 8 (by decide) d8
            replace k8 : val 8 = (.pointer (some ⟨bl, off + k * 3 + 1, none⟩)) := k8
            rw [k8] at e8
            clear k8
            simp [Act.eval] at e8
            clear d8
            clear hdep hev hout hok hge9
            have y := hE9.cell xB.out
            refine step_val (w'' := w9) ?_ (Ext.refl _)
            go_simp
          | 10, _ =>
            refine ⟨_, rfl, rfl, ?_⟩
            intro a w9 done val G H hdn hdep hev hout hE9 hok hge9
            refine ⟨(fun v b hb => by cases hb), ?_⟩
            have d4 : done 4 = true := by first | exact hdep ⟨4, .data⟩ (by simp) rfl | exact hdep ⟨4, .phase⟩ (by simp) rfl
            have e4 := hev 4 _ 39 rfl rfl (by simp) d4
            have k4 := hok 4 (by decide) d4
            replace k4 : val 4 = (.int .u8 (nA.toNat : Int)) := k4
            rw [k4] at e4
            clear k4
            simp [Act.eval] at e4
            clear d4
            have d9 : done 9 = true := by first | exact hdep ⟨9, .data⟩ (by simp) rfl | exact hdep ⟨9, .phase⟩ (by simp) rfl
            have e9 := hev 9 _ 44 rfl rfl (by simp) d9
            have k9 := hok 9 (by decide) d9
            replace k9 : val 9 = (.int .u8 (nB.toNat : Int)) := k9
            rw [k9] at e9
            clear k9
            simp [Act.eval] at e9
            clear d9
            clear hdep hev hout hok hge9
            unfold StepW
            refine step_mk (v := .slice (some ⟨w9.heap.size, 0, none⟩) 4 4) ?_ (Nat.le_refl _) ((Ext.refl w9).alloc _) (Blk.new w9 _ _) (fun g => .slice (some ⟨g, 0, none⟩) 4 4) rfl
            go_simp
          | i + 11, h => exact absurd h (by omega)
        case rest6 =>
          rintro done val W3 hall htl ⟨⟨E3, G, H, hok, hge, hdis, _⟩, _⟩
          have e0 : done 0 = true := hall 0 (by decide)
          have e1 : done 1 = true := hall 1 (by decide)
          have e2 : done 2 = true := hall 2 (by decide)
          have e3 : done 3 = true := hall 3 (by decide)
          have e4 : done 4 = true := hall 4 (by decide)
          have e5 : done 5 = true := hall 5 (by decide)
          have e6 : done 6 = true := hall 6 (by decide)
          have e7 : done 7 = true := hall 7 (by decide)
          have e8 : done 8 = true := hall 8 (by decide)
          have e9 : done 9 = true := hall 9 (by decide)
          have e10 : done 10 = true := hall 10 (by decide)
          have e11 : done 11 = false := htl 11 (by decide)
          have k0 := hok 0 (by decide) e0
          replace k0 : val 0 = (.slice (some ⟨bl, off, none⟩) l.length c) := k0
          have k1 := hok 1 (by decide) e1
          replace k1 : val 1 = (.int .i64 (k : Int)) := k1
          have k2 := hok 2 (by decide) e2
          replace k2 : val 2 = (.pointer (some ⟨bl, off + k * 3, none⟩)) := k2
          have k3 := hok 3 (by decide) e3
          replace k3 : val 3 = (.pointer (some ⟨bl, off + k * 3, none⟩)) := k3
          have k4 := hok 4 (by decide) e4
          replace k4 : val 4 = (.int .u8 (nA.toNat : Int)) := k4
          have k5 := hok 5 (by decide) e5
          replace k5 : val 5 = (.slice (some ⟨bl, off, none⟩) l.length c) := k5
          have k6 := hok 6 (by decide) e6
          replace k6 : val 6 = (.int .i64 (k : Int)) := k6
          have k7 := hok 7 (by decide) e7
          replace k7 : val 7 = (.pointer (some ⟨bl, off + k * 3, none⟩)) := k7
          have k8 := hok 8 (by decide) e8
          replace k8 : val 8 = (.pointer (some ⟨bl, off + k * 3 + 1, none⟩)) := k8
          have k9 := hok 9 (by decide) e9
          replace k9 : val 9 = (.int .u8 (nB.toNat : Int)) := k9
          have k10 := hok 10 (by decide) e10
          obtain ⟨⟨k10, B10⟩, z10⟩ := k10
          clear hok hge hdis hall htl
          simp only [putD, e0, e1, e2, e3, e4, e5, e6, e7, e8, e9, e10, e11, if_true, if_false, Bool.false_eq_true, Nat.zero_add, Nat.reduceAdd, k0, k1, k2, k3, k4, k5, k6, k7, k8, k9, k10]
          clear e0 e1 e2 e3 e4 e5 e6 e7 e8 e9 e10 e11 k0 k1 k2 k3 k4 k5 k6 k7 k8 k9 k10 z10
          generalize G 10 = g_10 at *
          simp only [List.drop_succ_cons, List.drop_zero]
          have Bb := hide B10
          clear B10
          generalize g_10 = gb at *
          replace xL := hide (E3.cell xL.out)
          replace hown := hide (hown.out.ext E3)
          replace hE := hide (hE.out.trans E3)
          clear E3 xA xB
          have hm8 := hide (Int.tmod_eq_emod_of_nonneg (a := (nL.toNat : Int)) (b := 17) (by omega))
          have hm9 : Hid (IntKind.i64.wrap ((nL.toNat : Int) % 17) = (nL.toNat : Int) % 17) := hide (by rw [IntKind.wrap_i64]; omega)
          go_wp2_with fail
          refine wp_region_JM (J := JV W3 _ (fun i => match i with | 0 => .val (.slice (some ⟨gb, 0, none⟩) 4 4) | 1 => .val (.string ⟨#[nA, nB, 0, 0]⟩) | 2 => .val (.agg #[.int .i64 1, .int .u64 0, .string ⟨#[nA, nB, 0, 0]⟩, .int .i64 32]) | 3 => .val (.slice (some ⟨bl, off, none⟩) l.length c) | 4 => .val (.int .i64 (k : Int)) | 5 => .val (.pointer (some ⟨bl, off + k * 3, none⟩)) | 6 => .val (.pointer (some ⟨bl, off + k * 3 + 2, none⟩)) | 7 => .val (.int .u8 (nL.toNat : Int)) | 8 => .val (.int .u8 ((nL.toNat % 17 : Nat) : Int)) | 9 => .val (.int .i64 ((nL.toNat % 17 : Nat) : Int)) | 10 => .val (.tuple #[.agg #[.int .i64 qf, .int .u64 (qr : Int), .string ⟨qa.toArray⟩, .int .i64 ql], .int .i64 0]) | 11 => .val (.tuple #[.agg #[.int .i64 qf, .int .u64 (qr : Int), .string ⟨qa.toArray⟩, .int .i64 ql], .int .i64 0]) | 12 => .val (.agg #[.int .i64 qf, .int .u64 (qr : Int), .string ⟨qa.toArray⟩, .int .i64 ql]) | 13 => .val (.int .i64 0) | 14 => .box 15 27 #[.int .i64 0, .int .u64 0, .string ⟨#[]⟩, .int .i64 0] (fun _ => #[.int .i64 qf, .int .u64 (qr : Int), .string ⟨qa.toArray⟩, .int .i64 ql]) | 15 => .fill 14 | 16 => .val (.int .i64 0) | _ => .val undef)) mixed (by kernel_rfl) (by kernel_rfl) (fun _ => undef) (JV.start _ _ _ _) (JW.keeps (by kernel_rfl) ?anys ?fill ?box ?steps) ?rest7
          case anys =>
            intro i R hi hR
            replace hi : i < 17 := hi
            match i, hi, hR with
            | 0, _, hR => cases hR
            | 1, _, hR => cases hR
            | 2, _, hR => cases hR
            | 3, _, hR => cases hR
            | 4, _, hR => cases hR
            | 5, _, hR => cases hR
            | 6, _, hR => cases hR
            | 7, _, hR => cases hR
            | 8, _, hR => cases hR
            | 9, _, hR => cases hR
            | 10, _, hR => cases hR
            | 11, _, hR => cases hR
            | 12, _, hR => cases hR
            | 13, _, hR => cases hR
            | 14, _, hR => cases hR
            | 15, _, hR => cases hR
            | 16, _, hR => cases hR
            | i + 17, h, _ => exact absurd h (by omega)
          case fill =>
            intro i b hi hb
            replace hi : i < 17 := hi
            match i, hi, hb with
            | 0, _, hb => cases hb
            | 1, _, hb => cases hb
            | 2, _, hb => cases hb
            | 3, _, hb => cases hb
            | 4, _, hb => cases hb
            | 5, _, hb => cases hb
            | 6, _, hb => cases hb
            | 7, _, hb => cases hb
            | 8, _, hb => cases hb
            | 9, _, hb => cases hb
            | 10, _, hb => cases hb
            | 11, _, hb => cases hb
            | 12, _, hb => cases hb
            | 13, _, hb => cases hb
            | 14, _, hb => cases hb
            | 15, _, hb => injection hb with hb; subst hb; exact ⟨(by decide : 14 < 17), ⟨_, _, _, rfl⟩, _, rfl, ⟨14, .data⟩, by simp, rfl, rfl⟩
            | 16, _, hb => cases hb
            | i + 17, h, _ => exact absurd h (by omega)
          case box =>
            intro b st t z cs hi hb
            replace hi : b < 17 := hi
            match b, hi, hb with
            | 0, _, hb => cases hb
            | 1, _, hb => cases hb
            | 2, _, hb => cases hb
            | 3, _, hb => cases hb
            | 4, _, hb => cases hb
            | 5, _, hb => cases hb
            | 6, _, hb => cases hb
            | 7, _, hb => cases hb
            | 8, _, hb => cases hb
            | 9, _, hb => cases hb
            | 10, _, hb => cases hb
            | 11, _, hb => cases hb
            | 12, _, hb => cases hb
            | 13, _, hb => cases hb
            | 14, _, hb => injection hb with h1 h2 h3 h4; subst h1 h2 h3 h4; exact ⟨(by decide : 15 < 17), rfl, fun i val v done hi hdn hdw hd => rfl⟩
            | 15, _, hb => cases hb
            | 16, _, hb => cases hb
            | i + 17, h, _ => exact absurd h (by omega)
          case steps =>
            intro i hi
            replace hi : i < 17 := hi
            match i, hi with
            | 0, _ =>
              refine ⟨_, rfl, rfl, ?_⟩
              intro a w9 done val G H hdn hdep hev hout hE9 hok hge9
              refine ⟨(fun v b hb => by cases hb), ?_⟩
              have u10 : a.eval (.tmp 10) = .slice (some ⟨gb, 0, none⟩) 4 4 := (hout 10 (by kernel_rfl)).trans rfl
              simp [Act.eval] at u10
              clear hdep hev hout hok hge9
              refine step_val (w'' := w9) ?_ (Ext.refl _)
              go_simp
            | 1, _ =>
              refine ⟨_, rfl, rfl, ?_⟩
              intro a w9 done val G H hdn hdep hev hout hE9 hok hge9
              refine ⟨(fun v b hb => by cases hb), ?_⟩
              have d0 : done 0 = true := by first | exact hdep ⟨0, .data⟩ (by simp) rfl | exact hdep ⟨0, .phase⟩ (by simp) rfl
              have e0 := hev 0 _ 47 rfl rfl (by simp) d0
              have k0 := hok 0 (by decide) d0
              replace k0 : val 0 = (.slice (some ⟨gb, 0, none⟩) 4 4) := k0
              rw [k0] at e0
              clear k0
              simp [Act.eval] at e0
              clear d0
              clear hdep hev hout hok hge9
              have hcv := conv4 gb nA nB 0 0 w9 (Bb.out.ext hE9)
              refine step_val (w'' := w9) ?_ (Ext.refl _)
              go_simp
            | 2, _ =>
              refine ⟨_, rfl, rfl, ?_⟩
              intro a w9 done val G H hdn hdep hev hout hE9 hok hge9
              refine ⟨(fun v b hb => by cases hb), ?_⟩
              have d1 : done 1 = true := by first | exact hdep ⟨1, .data⟩ (by simp) rfl | exact hdep ⟨1, .phase⟩ (by simp) rfl
              have e1 := hev 1 _ 48 rfl rfl (by simp) d1
              have k1 := hok 1 (by decide) d1
              replace k1 : val 1 = (.string ⟨#[nA, nB, 0, 0]⟩) := k1
              rw [k1] at e1
              clear k1
              simp [Act.eval] at e1
              clear d1
              clear hdep hev hout hok hge9
              refine step_val (w'' := w9) ?_ (Ext.refl _)
              go_simp
            | 3, _ =>
              refine ⟨_, rfl, rfl, ?_⟩
              intro a w9 done val G H hdn hdep hev hout hE9 hok hge9
              refine ⟨(fun v b hb => by cases hb), ?_⟩
              have u0 : a.eval (.tmp 0) = .slice (some ⟨bl, off, none⟩) l.length c := (hout 0 (by kernel_rfl)).trans rfl
              simp [Act.eval] at u0
              clear hdep hev hout hok hge9
              refine step_val (w'' := w9) ?_ (Ext.refl _)
              go_simp
            | 4, _ =>
              refine ⟨_, rfl, rfl, ?_⟩
              intro a w9 done val G H hdn hdep hev hout hE9 hok hge9
              refine ⟨(fun v b hb => by cases hb), ?_⟩
              have u9 : a.eval (.tmp 9) = .int .i64 (k : Int) := (hout 9 (by kernel_rfl)).trans rfl
              simp [Act.eval] at u9
              clear hdep hev hout hok hge9
              refine step_val (w'' := w9) ?_ (Ext.refl _)
              go_simp
            | 5, _ =>
              refine ⟨_, rfl, rfl, ?_⟩
              intro a w9 done val G H hdn hdep hev hout hE9 hok hge9
              refine ⟨(fun v b hb => by cases hb), ?_⟩
              have d3 : done 3 = true := by first | exact hdep ⟨3, .data⟩ (by simp) rfl | exact hdep ⟨3, .phase⟩ (by simp) rfl
              have e3 := hev 3 _ 50 rfl rfl (by simp) d3
              have k3 := hok 3 (by decide) d3
              replace k3 : val 3 = (.slice (some ⟨bl, off, none⟩) l.length c) := k3
              rw [k3] at e3
              clear k3
              simp [Act.eval] at e3
              clear d3
              have d4 : done 4 = true := by first | exact hdep ⟨4, .data⟩ (by simp) rfl | exact hdep ⟨4, .phase⟩ (by simp) rfl
              have e4 := hev 4 _ 51 rfl rfl (by simp) d4
              have k4 := hok 4 (by decide) d4
              replace k4 : val 4 = (.int .i64 (k : Int)) := k4
              rw [k4] at e4
              clear k4
              simp [Act.eval] at e4
              clear d4
              clear hdep hev hout hok hge9
              have hlt := hlt.out
              refine step_val (w'' := w9) ?_ (Ext.refl _)
              go_simp
            | 6, _ =>
              refine ⟨_, rfl, rfl, ?_⟩
              intro a w9 done val G H hdn hdep hev hout hE9 hok hge9
              refine ⟨(fun v b hb => by cases hb), ?_⟩
              have d5 : done 5 = true := by first | exact hdep ⟨5, .data⟩ (by simp) rfl | exact hdep ⟨5, .phase⟩ (by simp) rfl
              have e5 := hev 5 _ 52 rfl rfl (by simp) d5
              have k5 := hok 5 (by decide) d5
              replace k5 : val 5 = (.pointer (some ⟨bl, off + k * 3, none⟩)) := k5
              rw [k5] at e5
              clear k5
              simp [Act.eval] at e5
              clear d5
              clear hdep hev hout hok hge9
              refine step_val (w'' := w9) ?_ (Ext.refl _)
              go_simp
            | 7, _ =>
              refine ⟨_, rfl, rfl, ?_⟩
              intro a w9 done val G H hdn hdep hev hout hE9 hok hge9
              refine ⟨(fun v b hb => by cases hb), ?_⟩
              have d6 : done 6 = true := by first | exact hdep ⟨6, .data⟩ (by simp) rfl | exact hdep ⟨6, .phase⟩ (by simp) rfl
              have e6 := hev 6 _ 53 rfl rfl (by simp) d6
              have k6 := hok 6 (by decide) d6
              replace k6 : val 6 = (.pointer (some ⟨bl, off + k * 3 + 2, none⟩)) := k6
              rw [k6] at e6
              clear k6
              simp [Act.eval] at e6
              clear d6
              clear hdep hev hout hok hge9
              have y := hE9.cell xL.out
              refine step_val (w'' := w9) ?_ (Ext.refl _)
              go_simp
            | 8, _ =>
              refine ⟨_, rfl, rfl, ?_⟩
              intro a w9 done val G H hdn hdep hev hout hE9 hok hge9
              refine ⟨(fun v b hb => by cases hb), ?_⟩
              have d7 : done 7 = true := by first | exact hdep ⟨7, .data⟩ (by simp) rfl | exact hdep ⟨7, .phase⟩ (by simp) rfl
              have e7 := hev 7 _ 54 rfl rfl (by simp) d7
              have k7 := hok 7 (by decide) d7
              replace k7 : val 7 = (.int .u8 (nL.toNat : Int)) := k7
              rw [k7] at e7
              clear k7
              simp [Act.eval] at e7
              clear d7
              clear hdep hev hout hok hge9
              refine step_val (w'' := w9) ?_ (Ext.refl _)
              go_simp
              exact hm8.out
            | 9, _ =>
              refine ⟨_, rfl, rfl, ?_⟩
              intro a w9 done val G H hdn hdep hev hout hE9 hok hge9
              refine ⟨(fun v b hb => by cases hb), ?_⟩
              have d8 : done 8 = true := by first | exact hdep ⟨8, .data⟩ (by simp) rfl | exact hdep ⟨8, .phase⟩ (by simp) rfl
              have e8 := hev 8 _ 55 rfl rfl (by simp) d8
              have k8 := hok 8 (by decide) d8
              replace k8 : val 8 = (.int .u8 ((nL.toNat % 17 : Nat) : Int)) := k8
              rw [k8] at e8
              clear k8
              simp [Act.eval] at e8
              clear d8
              clear hdep hev hout hok hge9
              refine step_val (w'' := w9) ?_ (Ext.refl _)
              go_simp
              exact hm9.out
            | 10, _ =>
              refine ⟨_, rfl, rfl, ?_⟩
              intro a w9 done val G H hdn hdep hev hout hE9 hok hge9
              refine ⟨(fun v b hb => by cases hb), ?_⟩
              have d2 : done 2 = true := by first | exact hdep ⟨2, .data⟩ (by simp) rfl | exact hdep ⟨2, .phase⟩ (by simp) rfl
              have e2 := hev 2 _ 49 rfl rfl (by simp) d2
              have k2 := hok 2 (by decide) d2
              replace k2 : val 2 = (.agg #[.int .i64 1, .int .u64 0, .string ⟨#[nA, nB, 0, 0]⟩, .int .i64 32]) := k2
              rw [k2] at e2
              clear k2
              simp [Act.eval] at e2
              clear d2
              have d9 : done 9 = true := by first | exact hdep ⟨9, .data⟩ (by simp) rfl | exact hdep ⟨9, .phase⟩ (by simp) rfl
              have e9 := hev 9 _ 56 rfl rfl (by simp) d9
              have k9 := hok 9 (by decide) d9
              replace k9 : val 9 = (.int .i64 ((nL.toNat % 17 : Nat) : Int)) := k9
              rw [k9] at e9
              clear k9
              simp [Act.eval] at e9
              clear d9
              clear hdep hev hout hok hge9
              exact step_go 14 #[.tmp 49, .tmp 56] #[27, 3] rfl Tryz.func14 (by kernel_rfl) (by kernel_rfl) _ (by simp [Act.eval, e2, e9]; try rfl) (qcut.out w9)
            | 11, _ =>
              refine ⟨_, rfl, rfl, ?_⟩
              intro a w9 done val G H hdn hdep hev hout hE9 hok hge9
              refine ⟨(fun v b hb => by cases hb), ?_⟩
              have d10 : done 10 = true := by first | exact hdep ⟨10, .data⟩ (by simp) rfl | exact hdep ⟨10, .phase⟩ (by simp) rfl
              have e10 := hev 10 _ 57 rfl rfl (by simp) d10
              have k10 := hok 10 (by decide) d10
              replace k10 : val 10 = (.tuple #[.agg #[.int .i64 qf, .int .u64 (qr : Int), .string ⟨qa.toArray⟩, .int .i64 ql], .int .i64 0]) := k10
              rw [k10] at e10
              clear k10
              simp [Act.eval] at e10
              clear d10
              clear hdep hev hout hok hge9
              refine step_val (w'' := w9) ?_ (Ext.refl _)
              go_simp
            | 12, _ =>
              refine ⟨_, rfl, rfl, ?_⟩
              intro a w9 done val G H hdn hdep hev hout hE9 hok hge9
              refine ⟨(fun v b hb => by cases hb), ?_⟩
              have d11 : done 11 = true := by first | exact hdep ⟨11, .data⟩ (by simp) rfl | exact hdep ⟨11, .phase⟩ (by simp) rfl
              have e11 := hev 11 _ 46 rfl rfl (by simp) d11
              have k11 := hok 11 (by decide) d11
              replace k11 : val 11 = (.tuple #[.agg #[.int .i64 qf, .int .u64 (qr : Int), .string ⟨qa.toArray⟩, .int .i64 ql], .int .i64 0]) := k11
              rw [k11] at e11
              clear k11
              simp [Act.eval] at e11
              clear d11
              clear hdep hev hout hok hge9
              refine step_val (w'' := w9) ?_ (Ext.refl _)
              go_simp
            | 13, _ =>
              refine ⟨_, rfl, rfl, ?_⟩
              intro a w9 done val G H hdn hdep hev hout hE9 hok hge9
              refine ⟨(fun v b hb => by cases hb), ?_⟩
              have d11 : done 11 = true := by first | exact hdep ⟨11, .data⟩ (by simp) rfl | exact hdep ⟨11, .phase⟩ (by simp) rfl
              have e11 := hev 11 _ 46 rfl rfl (by simp) d11
              have k11 := hok 11 (by decide) d11
              replace k11 : val 11 = (.tuple #[.agg #[.int .i64 qf, .int .u64 (qr : Int), .string ⟨qa.toArray⟩, .int .i64 ql], .int .i64 0]) := k11
              rw [k11] at e11
              clear k11
              simp [Act.eval] at e11
              clear d11
              clear hdep hev hout hok hge9
              refine step_val (w'' := w9) ?_ (Ext.refl _)
              go_simp
            | 14, _ =>
              refine ⟨_, rfl, rfl, ?_⟩
              intro a w9 done val G H hdn hdep hev hout hE9 hok hge9
              refine ⟨(fun v b hb => by cases hb), ?_⟩
              clear hdep hev hout hok hge9
              unfold StepW
              refine step_mk (v := .pointer (some ⟨w9.heap.size, 0, none⟩)) ?_ (Nat.le_refl _) ((Ext.refl w9).alloc _) (Blk.new w9 _ _) (fun g => .pointer (some ⟨g, 0, none⟩)) rfl
              go_simp
            | 15, _ =>
              refine ⟨_, rfl, rfl, ?_⟩
              intro a w9 done val G H hdn hdep hev hout hE9 hok hge9
              refine ⟨fun v b hb t z cs hcs => by injection hb with hb; subst hb; injection hcs with _ _ _ hcs; subst hcs; rfl, ?_⟩
              have d12 : done 12 = true := by first | exact hdep ⟨12, .data⟩ (by simp) rfl | exact hdep ⟨12, .phase⟩ (by simp) rfl
              have e12 := hev 12 _ 58 rfl rfl (by simp) d12
              have k12 := hok 12 (by decide) d12
              replace k12 : val 12 = (.agg #[.int .i64 qf, .int .u64 (qr : Int), .string ⟨qa.toArray⟩, .int .i64 ql]) := k12
              rw [k12] at e12
              clear k12
              simp [Act.eval] at e12
              clear d12
              have d14 : done 14 = true := by first | exact hdep ⟨14, .data⟩ (by simp) rfl | exact hdep ⟨14, .phase⟩ (by simp) rfl
              have e14 := hev 14 _ 11 rfl rfl (by simp) d14
              have k14 := hok 14 (by decide) d14
              obtain ⟨⟨k14, B14⟩, _⟩ := k14
              rw [k14] at e14
              clear k14
              have g14 := (hge9 14 (by decide) d14 rfl).1
              simp [Act.eval] at e14
              clear d14
              clear hdep hev hout hok hge9
              rw [if_neg (by rw [hdn]; decide)] at B14
              have z0 : w9.cell? ⟨G 14, 0, none⟩ = some (.int .i64 0) := B14.cell 0
              have z1 : w9.cell? ⟨G 14, 1, none⟩ = some (.int .u64 0) := B14.cell 1
              have z2 : w9.cell? ⟨G 14, 2, none⟩ = some (.string ⟨#[]⟩) := B14.cell 2
              have z3 : w9.cell? ⟨G 14, 3, none⟩ = some (.int .i64 0) := B14.cell 3
              have zf := fun i => B14.frozen i
              have hfin := B14.set4 (.int .i64 qf) (.int .u64 (qr : Int)) (.string ⟨qa.toArray⟩) (.int .i64 ql)
              clear B14
              refine step_fill ?_ rfl (OnlyAt.set4d (g := G 14) (w := w9) _ _ _ _) hfin
              clear hfin
              go_simp
            | 16, _ =>
              refine ⟨_, rfl, rfl, ?_⟩
              intro a w9 done val G H hdn hdep hev hout hE9 hok hge9
              refine ⟨(fun v b hb => by cases hb), ?_⟩
              have d13 : done 13 = true := by first | exact hdep ⟨13, .data⟩ (by simp) rfl | exact hdep ⟨13, .phase⟩ (by simp) rfl
              have e13 := hev 13 _ 59 rfl rfl (by simp) d13
              have k13 := hok 13 (by decide) d13
              replace k13 : val 13 = (.int .i64 0) := k13
              rw [k13] at e13
              clear k13
              simp [Act.eval] at e13
              clear d13
              clear hdep hev hout hok hge9
              refine step_val (w'' := w9) ?_ (Ext.refl _)
              go_simp
            | i + 17, h => exact absurd h (by omega)
          case rest7 =>
            rintro done val W4 hall ⟨⟨E4, G, H, hok, hge, hdis, _⟩, _⟩
            replace hall : ∀ i, i < 17 → done i = true := hall
            have e0 := hall 0 (by decide)
            have e1 := hall 1 (by decide)
            have e2 := hall 2 (by decide)
            have e3 := hall 3 (by decide)
            have e4 := hall 4 (by decide)
            have e5 := hall 5 (by decide)
            have e6 := hall 6 (by decide)
            have e7 := hall 7 (by decide)
            have e8 := hall 8 (by decide)
            have e9 := hall 9 (by decide)
            have e10 := hall 10 (by decide)
            have e11 := hall 11 (by decide)
            have e12 := hall 12 (by decide)
            have e13 := hall 13 (by decide)
            have e14 := hall 14 (by decide)
            have e15 := hall 15 (by decide)
            have e16 := hall 16 (by decide)
            have k0 := hok 0 (by decide) e0
            replace k0 : val 0 = (.slice (some ⟨gb, 0, none⟩) 4 4) := k0
            have k1 := hok 1 (by decide) e1
            replace k1 : val 1 = (.string ⟨#[nA, nB, 0, 0]⟩) := k1
            have k2 := hok 2 (by decide) e2
            replace k2 : val 2 = (.agg #[.int .i64 1, .int .u64 0, .string ⟨#[nA, nB, 0, 0]⟩, .int .i64 32]) := k2
            have k3 := hok 3 (by decide) e3
            replace k3 : val 3 = (.slice (some ⟨bl, off, none⟩) l.length c) := k3
            have k4 := hok 4 (by decide) e4
            replace k4 : val 4 = (.int .i64 (k : Int)) := k4
            have k5 := hok 5 (by decide) e5
            replace k5 : val 5 = (.pointer (some ⟨bl, off + k * 3, none⟩)) := k5
            have k6 := hok 6 (by decide) e6
            replace k6 : val 6 = (.pointer (some ⟨bl, off + k * 3 + 2, none⟩)) := k6
            have k7 := hok 7 (by decide) e7
            replace k7 : val 7 = (.int .u8 (nL.toNat : Int)) := k7
            have k8 := hok 8 (by decide) e8
            replace k8 : val 8 = (.int .u8 ((nL.toNat % 17 : Nat) : Int)) := k8
            have k9 := hok 9 (by decide) e9
            replace k9 : val 9 = (.int .i64 ((nL.toNat % 17 : Nat) : Int)) := k9
            have k10 := hok 10 (by decide) e10
            replace k10 : val 10 = (.tuple #[.agg #[.int .i64 qf, .int .u64 (qr : Int), .string ⟨qa.toArray⟩, .int .i64 ql], .int .i64 0]) := k10
            have k11 := hok 11 (by decide) e11
            replace k11 : val 11 = (.tuple #[.agg #[.int .i64 qf, .int .u64 (qr : Int), .string ⟨qa.toArray⟩, .int .i64 ql], .int .i64 0]) := k11
            have k12 := hok 12 (by decide) e12
            replace k12 : val 12 = (.agg #[.int .i64 qf, .int .u64 (qr : Int), .string ⟨qa.toArray⟩, .int .i64 ql]) := k12
            have k13 := hok 13 (by decide) e13
            replace k13 : val 13 = (.int .i64 0) := k13
            have k14 := hok 14 (by decide) e14
            obtain ⟨⟨k14, B14⟩, z14⟩ := k14
            have G14 := hge 14 (by decide) e14 rfl
            rw [z14] at G14
            rw [if_pos e15] at B14
            have k16 := hok 16 (by decide) e16
            replace k16 : val 16 = (.int .i64 0) := k16
            clear hok hge hdis hall
            simp only [putD, e0, e1, e2, e3, e4, e5, e6, e7, e8, e9, e10, e11, e12, e13, e14, e15, e16, if_true, Nat.zero_add, Nat.reduceAdd, k0, k1, k2, k3, k4, k5, k6, k7, k8, k9, k10, k11, k12, k13, k14, k16]
            clear e0 e1 e2 e3 e4 e5 e6 e7 e8 e9 e10 e11 e12 e13 e14 e15 e16 k0 k1 k2 k3 k4 k5 k6 k7 k8 k9 k10 k11 k12 k13 k14 k16 z14
            generalize G 14 = g_14 at *
            replace hown := hide (hown.out.ext E4)
            replace hE := hide (hE.out.trans E4)
            clear E4 Bb xL hm8 hm9 qcut G14
            have z0 : W4.cell? ⟨g_14, 0, none⟩ = some (.int .i64 qf) := B14.cell 0
            have z1 : W4.cell? ⟨g_14, 1, none⟩ = some (.int .u64 (qr : Int)) := B14.cell 1
            have z2 : W4.cell? ⟨g_14, 2, none⟩ = some (.string ⟨qa.toArray⟩) := B14.cell 2
            have z3 : W4.cell? ⟨g_14, 3, none⟩ = some (.int .i64 ql) := B14.cell 3
            clear B14
            have hsp : ∀ w' S, ENbA.R w' S ({ zeroN with name := [114], range := ⟨qf, qr, qa, ql⟩ }, none, 0) [.string ⟨#[114]⟩, .string ⟨#[]⟩, .int .i64 qf, .int .u64 (qr : Int), .string ⟨qa.toArray⟩, .int .i64 ql, .int .u32 0, .int .i64 0, .int .i64 0, .bool false, .bool false, .bool false, .slice none 0 0, .int .i64 0, .bool false, .int .i64 0, .bool false, .int .i64 0, .int .i64 0, .string ⟨#[]⟩, .string ⟨#[]⟩, .string ⟨#[]⟩, .bool false] := fun w' S => ⟨rfl, fun w S => nbr_inS w S _ hRi.out⟩
            replace hsp := hide hsp
            go_wp2_with (first
              | (at_builtin
                 have hox := hown.out.alloc (Obj.cells #[.string ⟨#[114]⟩, .string ⟨#[]⟩, .int .i64 qf, .int .u64 (qr : Int), .string ⟨qa.toArray⟩, .int .i64 ql, .int .u32 0, .int .i64 0, .int .i64 0, .bool false, .bool false, .bool false, .slice none 0 0, .int .i64 0, .bool false, .int .i64 0, .bool false, .int .i64 0, .int .i64 0, .string ⟨#[]⟩, .string ⟨#[]⟩, .string ⟨#[]⟩, .bool false] 31)
                 have hs1 := hE.out.size
                 go_must (refine wpList_push (E := ENbA) (l := L) rfl _ _ _ rfl okNbr (by decide) (by decide) rfl hox (by rw [hlk.out]; omega) (by simp; omega) rfl (hsp.out _ _) (cells_new W4 #[.string ⟨#[114]⟩, .string ⟨#[]⟩, .int .i64 qf, .int .u64 (qr : Int), .string ⟨qa.toArray⟩, .int .i64 ql, .int .u32 0, .int .i64 0, .int .i64 0, .bool false, .bool false, .bool false, .slice none 0 0, .int .i64 0, .bool false, .int .i64 0, .bool false, .int .i64 0, .int .i64 0, .string ⟨#[]⟩, .string ⟨#[]⟩, .string ⟨#[]⟩, .bool false] _) ?_)
                 intro v' w2 hown' hg hat))
            go_roundw
            case rel => exact ⟨k + 1, by omega, by omega, by go_num, by rw [hsn.out]; exact hown', (hE.out.alloc _).push (fun j hj => (hown.out.lt j hj).1) hg⟩
            case measure => simp [intOf]; omega
      · have d1 : decide ((20 : Int) < (l.length : Int)) = true := decide_eq_true (by omega)
        clear hlt
        replace hown := hide hown
        replace hE := hide hE
        go_wp2_with fail
        go_meet
        case rel => exact ⟨hown.out, hE.out⟩
      · have hL : l.take l.length = l.take 20 := by rw [List.take_length, (List.take_of_length_le hk20 : l.take 20 = l)]
        rw [hL] at hown
        replace hown := hide hown
        replace hE := hide hE
        clear hL
        go_wp2_with fail
        go_meet
        case rel => exact ⟨hown.out, hE.out⟩
  case rest =>
    obtain ⟨hown, hE⟩ := hcut
    have hLn : ((l.take 20).map nbrA).length ≤ 20 := by simp; omega
    have hLa : ∀ x ∈ (l.take 20).map nbrA, x.1.addr = [] := fun x hx => by
      obtain ⟨y, _, rfl⟩ := List.mem_map.1 hx
      rfl
    generalize (l.take 20).map nbrA = L at *
    obtain ⟨aP, cP, hv⟩ := hown.form
    subst hv
    have hcap : ∀ b off, aP = some ⟨b, off, none⟩ → L.length ≤ cP ∧ cP ≤ 9223372036854775807 := fun b off e => by
      subst e
      exact own_capA hown
    have hsl : Sl ENbA wc (· < wc.heap.size) aP L := hown.slAt.mono fun _ h => h.2
    have hnear := near_casesA L [x0, x1, x2, x3] rfl hLa
    have qf := fun W (h : Ext wc W) => Find_any21 (L.map (·.1)) (by simp; omega) aP cP [x0, x1, x2, x3] (by show 4 ≤ _; decide) W (ENbA.sl (hsl.ext h))
    simp only [List.length_map] at qf
    replace E := E.out.trans hE
    clear hown hE hs hl
    have BH := Blk.new wc 27 #[.int .i64 1, .int .u64 0, .string ⟨#[x0, x1, x2, x3]⟩, .int .i64 32]
    have F := (Ext.refl wc).alloc (Obj.cells #[.int .i64 1, .int .u64 0, .string ⟨#[x0, x1, x2, x3]⟩, .int .i64 32] 27)
    generalize hW5 : wc.alloc (Obj.cells #[.int .i64 1, .int .u64 0, .string ⟨#[x0, x1, x2, x3]⟩, .int .i64 32] 27) = W5 at BH F
    generalize hgh : wc.heap.size = gh at BH
    replace E := hide (E.trans F)
    have hs5 := hide (hsl.ext F)
    have qf5 := qf W5 F
    clear F qf hsl
    replace BH := hide BH
    rcases hnear with ⟨hf, hno⟩ | ⟨n, hn, hf, hof, hbest⟩
    · rw [hf] at qf5
      dsimp only at qf5
      clear hcap
      replace qf5 := hide qf5
      replace hno := hide hno
      replace hLa := hide hLa
      replace qd := hide qd
      go_wp2_with fail
      refine qf5.out.mono ?_
      rintro e W6 ⟨rfl, F⟩
      replace E := hide (E.out.trans F)
      replace BH := hide (BH.out.ext F)
      replace hs5 := hide (hs5.out.ext F)
      clear F qf5 hW5 hgh hf
      go_wp2_with fail
      go_loopw [16] (fun q wr => ∃ k : Nat, k ≤ L.length ∧ q = .int .i64 (k : Int) ∧ Ext W6 wr) (fun q _ => L.length - (intOf q).toNat)
      case atStart => exact ⟨0, Nat.zero_le _, rfl, Ext.refl _⟩
      case round =>
        obtain ⟨k, hk, rfl, hE⟩ := hrel
        rename World => W7
        by_cases hlt : k < L.length
        · obtain ⟨b, off, hab, _, hin, hc⟩ := ENbA.at hs5.out k hlt
          subst hab
          have hcv := hno.out k hlt
          have hR := (hin W7 (fun _ => True)).range
          clear hin
          generalize L[k] = X at hc hcv hR
          obtain ⟨X, f, fc⟩ := X
          dsimp only at hc hcv hR
          have y0 : ∀ d os, (grow (redrawn W7 d) os).cell? ⟨b, off + k * 23 + 2, none⟩ = some (.int .i64 X.range.fam) := cell_regrown (hE.cell (hc 2 _ rfl))
          have y1 : ∀ d os, (grow (redrawn W7 d) os).cell? ⟨b, off + k * 23 + 3, none⟩ = some (.int .u64 (X.range.rd : Int)) := cell_regrown (hE.cell (hc 3 _ rfl))
          have y2 : ∀ d os, (grow (redrawn W7 d) os).cell? ⟨b, off + k * 23 + 4, none⟩ = some (.string ⟨X.range.addr.toArray⟩) := cell_regrown (hE.cell (hc 4 _ rfl))
          have y3 : ∀ d os, (grow (redrawn W7 d) os).cell? ⟨b, off + k * 23 + 5, none⟩ = some (.int .i64 X.range.len) := cell_regrown (hE.cell (hc 5 _ rfl))
          have z0 : ∀ d os, (grow (redrawn W7 d) os).cell? ⟨gh, 0, none⟩ = some (.int .i64 1) := cell_regrown (hE.cell (BH.out.cell 0))
          have z1 : ∀ d os, (grow (redrawn W7 d) os).cell? ⟨gh, 1, none⟩ = some (.int .u64 0) := cell_regrown (hE.cell (BH.out.cell 1))
          have z2 : ∀ d os, (grow (redrawn W7 d) os).cell? ⟨gh, 2, none⟩ = some (.string ⟨#[x0, x1, x2, x3]⟩) := cell_regrown (hE.cell (BH.out.cell 2))
          have z3 : ∀ d os, (grow (redrawn W7 d) os).cell? ⟨gh, 3, none⟩ = some (.int .i64 32) := cell_regrown (hE.cell (BH.out.cell 3))
          have qc : ∀ W, Calls Tryz.prog 15 #[.agg #[.int .i64 X.range.fam, .int .u64 (X.range.rd : Int), .string ⟨X.range.addr.toArray⟩, .int .i64 X.range.len], .agg #[.int .i64 1, .int .u64 0, .string ⟨#[x0, x1, x2, x3]⟩, .int .i64 32]] W fun e w' => e = .returned (.bool false) ∧ Ext W w' := fun W => by
            have h := ACov_any X.range (hostS [x0, x1, x2, x3]) W hR.addr (by show 4 ≤ _; decide)
            rw [hcv, host4 rfl] at h
            exact h
          generalize X.range = R at *
          obtain ⟨qf, qr, qa, ql⟩ := R
          dsimp only at *
          have cq := Calls.regr (fun W => qc W) W7
          clear hc hR qc hcv
          have d1 : decide ((k : Int) < (L.length : Int)) = true := decide_eq_true (by omega)
          replace hE := hide hE
          go_wp2_with fail
          refine wp_region_quiet_below (by assumption) (by kernel_rfl) ?_
          repeat (quiet_step (first | (with_reducible exact cq _ _)))
          refine wpQuiet_nil ?_
          intro _ hw'
          obtain ⟨⟨dq, osq⟩, hw''⟩ := hw'
          subst hw''
          replace hE := hide (hE.out.trans (below_regrown _ dq osq))
          clear y0 y1 y2 y3 z0 z1 z2 z3 cq
          generalize grow (redrawn W7 dq) osq = W8 at hE ⊢
          go_wp2_with fail
          go_roundw
          case rel => exact ⟨k + 1, by omega, by go_num, hE.out⟩
          case measure => simp [intOf]; omega
        · obtain rfl : k = L.length := by omega
          replace E := hide (E.out.trans hE)
          clear hE hlt hk
          go_wp2_with fail
          refine (qw.out _ E.out).mono ?_
          rintro e W9 ⟨rfl, F⟩
          replace E := hide (E.out.trans F)
          go_wp2_with fail
          go_ret
          exact ⟨rfl, E.out⟩
    · rw [hf] at qf5
      dsimp only at qf5
      have hXa := hLa L[n] (List.getElem_mem hn)
      obtain ⟨b, off, hab, _, hinN, hcN⟩ := ENbA.at hs5.out n hn
      subst hab
      obtain ⟨hcl, hcm⟩ := hcap b off rfl
      clear hcap
      generalize L[n] = XN at hbest hof hinN hcN hXa
      obtain ⟨XN, fN, cN⟩ := XN
      dsimp only at hbest hof hinN hcN hXa
      have hRN := (hinN W5 (fun _ => True)).range
      have hcvN : covB XN.range (hostS [x0, x1, x2, x3]) = true := by rw [← ofN_eq XN _ rfl hXa]; exact hof
      replace qf5 := hide qf5
      replace hLa := hide hLa
      replace hbest := hide hbest
      replace hof := hide hof
      replace hinN := hide hinN
      replace hcN := hide hcN
      replace hRN := hide hRN
      replace hcl := hide hcl
      replace hcm := hide hcm
      replace hXa := hide hXa
      replace hcvN := hide hcvN
      go_wp2_with fail
      refine qf5.out.mono ?_
      rintro e W6 ⟨rfl, F⟩
      replace E := hide (E.out.trans F)
      replace BH := hide (BH.out.ext F)
      replace hs5 := hide (hs5.out.ext F)
      replace hcN := hide (fun j u hu => F.cell (hcN.out j u hu))
      clear F qf5 hW5 hgh hf
      go_wp2_with fail
      go_loopw [16] (fun q wr => ∃ k : Nat, k ≤ L.length ∧ q = .int .i64 (k : Int) ∧ Ext W6 wr) (fun q _ => L.length - (intOf q).toNat)
      case atStart => exact ⟨0, Nat.zero_le _, rfl, Ext.refl _⟩
      case round =>
        obtain ⟨k, hk, rfl, hE⟩ := hrel
        rename World => W7
        by_cases hlt : k < L.length
        · obtain ⟨b2, off2, hab, _, hin, hc⟩ := ENbA.at hs5.out k hlt
          injection hab with hab
          injection hab with h1 h2 _
          subst h1
          subst h2
          have hb := hbest.out k hlt
          have hR := (hin W7 (fun _ => True)).range
          clear hin
          generalize L[k] = X at hc hb hR
          obtain ⟨X, f, fc⟩ := X
          dsimp only at hc hb hR
          have k5 : W6.cell? ⟨b, off + k * 23 + 2 + 3, none⟩ = some (.int .i64 X.range.len) := hc 5 _ rfl
          have n5 : W6.cell? ⟨b, off + n * 23 + 2 + 3, none⟩ = some (.int .i64 XN.range.len) := hcN.out 5 _ rfl
          generalize XN.range.len = ln at hb n5
          have d1 : decide ((k : Int) < (L.length : Int)) = true := decide_eq_true (by omega)
          cases hcv : covB X.range (hostS [x0, x1, x2, x3]) with
          | false =>
            have y0 : ∀ d os, (grow (redrawn W7 d) os).cell? ⟨b, off + k * 23 + 2, none⟩ = some (.int .i64 X.range.fam) := cell_regrown (hE.cell (hc 2 _ rfl))
            have y1 : ∀ d os, (grow (redrawn W7 d) os).cell? ⟨b, off + k * 23 + 3, none⟩ = some (.int .u64 (X.range.rd : Int)) := cell_regrown (hE.cell (hc 3 _ rfl))
            have y2 : ∀ d os, (grow (redrawn W7 d) os).cell? ⟨b, off + k * 23 + 4, none⟩ = some (.string ⟨X.range.addr.toArray⟩) := cell_regrown (hE.cell (hc 4 _ rfl))
            have y3 : ∀ d os, (grow (redrawn W7 d) os).cell? ⟨b, off + k * 23 + 5, none⟩ = some (.int .i64 X.range.len) := cell_regrown (hE.cell (hc 5 _ rfl))
            have z0 : ∀ d os, (grow (redrawn W7 d) os).cell? ⟨gh, 0, none⟩ = some (.int .i64 1) := cell_regrown (hE.cell (BH.out.cell 0))
            have z1 : ∀ d os, (grow (redrawn W7 d) os).cell? ⟨gh, 1, none⟩ = some (.int .u64 0) := cell_regrown (hE.cell (BH.out.cell 1))
            have z2 : ∀ d os, (grow (redrawn W7 d) os).cell? ⟨gh, 2, none⟩ = some (.string ⟨#[x0, x1, x2, x3]⟩) := cell_regrown (hE.cell (BH.out.cell 2))
            have z3 : ∀ d os, (grow (redrawn W7 d) os).cell? ⟨gh, 3, none⟩ = some (.int .i64 32) := cell_regrown (hE.cell (BH.out.cell 3))
            have qc : ∀ W, Calls Tryz.prog 15 #[.agg #[.int .i64 X.range.fam, .int .u64 (X.range.rd : Int), .string ⟨X.range.addr.toArray⟩, .int .i64 X.range.len], .agg #[.int .i64 1, .int .u64 0, .string ⟨#[x0, x1, x2, x3]⟩, .int .i64 32]] W fun e w' => e = .returned (.bool false) ∧ Ext W w' := fun W => by
              have h := ACov_any X.range (hostS [x0, x1, x2, x3]) W hR.addr (by show 4 ≤ _; decide)
              rw [hcv, host4 rfl] at h
              exact h
            generalize X.range = R at *
            obtain ⟨qf, qr, qa, ql⟩ := R
            dsimp only at *
            have cq := Calls.regr (fun W => qc W) W7
            clear hc hR qc hcv hb k5 n5
            replace hE := hide hE
            go_wp2_with fail
            refine wp_region_quiet_below (by assumption) (by kernel_rfl) ?_
            repeat (quiet_step (first | (with_reducible exact cq _ _)))
            refine wpQuiet_nil ?_
            intro _ hw'
            obtain ⟨⟨dq, osq⟩, hw''⟩ := hw'
            subst hw''
            replace hE := hide (hE.out.trans (below_regrown _ dq osq))
            clear y0 y1 y2 y3 z0 z1 z2 z3 cq
            generalize grow (redrawn W7 dq) osq = W8 at hE ⊢
            go_wp2_with fail
            go_roundw
            case rel => exact ⟨k + 1, by omega, by go_num, hE.out⟩
            case measure => simp [intOf]; omega
          | true =>
            obtain ⟨hb1, hb2⟩ := hb hcv
            have y0 : ∀ d os, (grow (redrawn W7 d) os).cell? ⟨b, off + k * 23 + 2, none⟩ = some (.int .i64 X.range.fam) := cell_regrown (hE.cell (hc 2 _ rfl))
            have y1 : ∀ d os, (grow (redrawn W7 d) os).cell? ⟨b, off + k * 23 + 3, none⟩ = some (.int .u64 (X.range.rd : Int)) := cell_regrown (hE.cell (hc 3 _ rfl))
            have y2 : ∀ d os, (grow (redrawn W7 d) os).cell? ⟨b, off + k * 23 + 4, none⟩ = some (.string ⟨X.range.addr.toArray⟩) := cell_regrown (hE.cell (hc 4 _ rfl))
            have y3 : ∀ d os, (grow (redrawn W7 d) os).cell? ⟨b, off + k * 23 + 5, none⟩ = some (.int .i64 X.range.len) := cell_regrown (hE.cell (hc 5 _ rfl))
            have z0 : ∀ d os, (grow (redrawn W7 d) os).cell? ⟨gh, 0, none⟩ = some (.int .i64 1) := cell_regrown (hE.cell (BH.out.cell 0))
            have z1 : ∀ d os, (grow (redrawn W7 d) os).cell? ⟨gh, 1, none⟩ = some (.int .u64 0) := cell_regrown (hE.cell (BH.out.cell 1))
            have z2 : ∀ d os, (grow (redrawn W7 d) os).cell? ⟨gh, 2, none⟩ = some (.string ⟨#[x0, x1, x2, x3]⟩) := cell_regrown (hE.cell (BH.out.cell 2))
            have z3 : ∀ d os, (grow (redrawn W7 d) os).cell? ⟨gh, 3, none⟩ = some (.int .i64 32) := cell_regrown (hE.cell (BH.out.cell 3))
            have qc : ∀ W, Calls Tryz.prog 15 #[.agg #[.int .i64 X.range.fam, .int .u64 (X.range.rd : Int), .string ⟨X.range.addr.toArray⟩, .int .i64 X.range.len], .agg #[.int .i64 1, .int .u64 0, .string ⟨#[x0, x1, x2, x3]⟩, .int .i64 32]] W fun e w' => e = .returned (.bool true) ∧ Ext W w' := fun W => by
              have h := ACov_any X.range (hostS [x0, x1, x2, x3]) W hR.addr (by show 4 ≤ _; decide)
              rw [hcv, host4 rfl] at h
              exact h
            generalize X.range = R at *
            obtain ⟨qf, qr, qa, ql⟩ := R
            dsimp only at *
            have cq := Calls.regr (fun W => qc W) W7
            clear hc hR qc hcv hb
            have g1 : decide (ln < ql) = false := decide_eq_false (by omega)
            replace hE := hide hE
            replace k5 := hide k5
            replace n5 := hide n5
            clear hb1
            by_cases he : ql = ln
            · have hnk := hb2 he
              have g2 : decide ((k : Int) < (n : Int)) = false := decide_eq_false (by omega)
              subst he
              clear hb2
              go_wp2_with fail
              refine wp_region_quiet_below (by assumption) (by kernel_rfl) ?_
              repeat (quiet_step (first | (with_reducible exact cq _ _)))
              refine wpQuiet_nil ?_
              intro _ hw'
              obtain ⟨⟨dq, osq⟩, hw''⟩ := hw'
              subst hw''
              replace hE := hide (hE.out.trans (below_regrown _ dq osq))
              clear y0 y1 y2 y3 z0 z1 z2 z3 cq
              generalize grow (redrawn W7 dq) osq = W8 at hE ⊢
              go_wp2_with fail
              replace k5 := hE.out.cell k5.out
              replace n5 := hE.out.cell n5.out
              go_quiet (fail)
              all_goals try (exfalso; omega)
              clear k5 n5
              go_wp2_with fail
              all_goals try (exfalso; omega)
              go_roundw
              case rel => exact ⟨k + 1, by omega, by go_num, hE.out.drewN _⟩
              case measure => simp [intOf]; omega
            · have g2 : (ql == ln) = false := beq_eq_false_iff_ne.2 he
              clear hb2 he
              go_wp2_with fail
              refine wp_region_quiet_below (by assumption) (by kernel_rfl) ?_
              repeat (quiet_step (first | (with_reducible exact cq _ _)))
              refine wpQuiet_nil ?_
              intro _ hw'
              obtain ⟨⟨dq, osq⟩, hw''⟩ := hw'
              subst hw''
              replace hE := hide (hE.out.trans (below_regrown _ dq osq))
              clear y0 y1 y2 y3 z0 z1 z2 z3 cq
              generalize grow (redrawn W7 dq) osq = W8 at hE ⊢
              go_wp2_with fail
              replace k5 := hE.out.cell k5.out
              replace n5 := hE.out.cell n5.out
              go_quiet (fail)
              clear k5 n5
              go_wp2_with fail
              go_roundw
              case rel => exact ⟨k + 1, by omega, by go_num, hE.out.drewN _⟩
              case measure => simp [intOf]; omega
        · obtain rfl : k = L.length := by omega
          clear hlt hk hbest
          have hX := hcN.out
          have y0 : ∀ d os, (grow (redrawn W7 d) os).cell? ⟨b, off + n * 23 + 2, none⟩ = some (.int .i64 XN.range.fam) := cell_regrown (hE.cell (hX 2 _ rfl))
          have y1 : ∀ d os, (grow (redrawn W7 d) os).cell? ⟨b, off + n * 23 + 3, none⟩ = some (.int .u64 (XN.range.rd : Int)) := cell_regrown (hE.cell (hX 3 _ rfl))
          have y2 : ∀ d os, (grow (redrawn W7 d) os).cell? ⟨b, off + n * 23 + 4, none⟩ = some (.string ⟨XN.range.addr.toArray⟩) := cell_regrown (hE.cell (hX 4 _ rfl))
          have y3 : ∀ d os, (grow (redrawn W7 d) os).cell? ⟨b, off + n * 23 + 5, none⟩ = some (.int .i64 XN.range.len) := cell_regrown (hE.cell (hX 5 _ rfl))
          have z0 : ∀ d os, (grow (redrawn W7 d) os).cell? ⟨gh, 0, none⟩ = some (.int .i64 1) := cell_regrown (hE.cell (BH.out.cell 0))
          have z1 : ∀ d os, (grow (redrawn W7 d) os).cell? ⟨gh, 1, none⟩ = some (.int .u64 0) := cell_regrown (hE.cell (BH.out.cell 1))
          have z2 : ∀ d os, (grow (redrawn W7 d) os).cell? ⟨gh, 2, none⟩ = some (.string ⟨#[x0, x1, x2, x3]⟩) := cell_regrown (hE.cell (BH.out.cell 2))
          have z3 : ∀ d os, (grow (redrawn W7 d) os).cell? ⟨gh, 3, none⟩ = some (.int .i64 32) := cell_regrown (hE.cell (BH.out.cell 3))
          have qc : ∀ W, Calls Tryz.prog 15 #[.agg #[.int .i64 XN.range.fam, .int .u64 (XN.range.rd : Int), .string ⟨XN.range.addr.toArray⟩, .int .i64 XN.range.len], .agg #[.int .i64 1, .int .u64 0, .string ⟨#[x0, x1, x2, x3]⟩, .int .i64 32]] W fun e w' => e = .returned (.bool true) ∧ Ext W w' := fun W => by
            have h := ACov_any XN.range (hostS [x0, x1, x2, x3]) W hRN.out.addr (by show 4 ≤ _; decide)
            rw [hcvN.out, host4 rfl] at h
            exact h
          have cq := Calls.regr (fun W => qc W) W7
          replace E := hide (E.out.trans hE)
          replace hs5 := hide (hs5.out.ext hE)
          replace hcN := hide (fun j u hu => hE.cell (hcN.out j u hu))
          clear hE BH hX qc hRN hcvN
          have g1 : decide ((n : Int) < 0) = false := decide_eq_false (by omega)
          have g2 : decide ((L.length : Int) ≤ (n : Int)) = false := decide_eq_false (by omega)
          have hE := hide (Ext.refl W7)
          go_wp2_with fail
          refine wp_region_quiet_below (by assumption) (by kernel_rfl) ?_
          repeat (quiet_step (first | (with_reducible exact cq _ _)))
          refine wpQuiet_nil ?_
          intro _ hw'
          obtain ⟨⟨dq, osq⟩, hw''⟩ := hw'
          subst hw''
          replace hE := hide (hE.out.trans (below_regrown _ dq osq))
          clear y0 y1 y2 y3 z0 z1 z2 z3 cq
          generalize grow (redrawn W7 dq) osq = W8 at hE ⊢
          replace E := hide (E.out.trans hE.out)
          replace hs5 := hide (hs5.out.ext hE.out)
          replace hcN := hide (fun j u hu => hE.out.cell (hcN.out j u hu))
          clear hE g1 g2
          have hl23 : (nbrCs XN fN cN).length = 23 := rfl
          have hra : W8.rangeAt b (off + n * 23) (nbrCs XN fN cN) := fun j u hu => hcN.out j u hu
          have hi23 : (Tryz.prog.info? 31).map (·.size) = some (nbrCs XN fN cN).length := by rw [hl23]; kernel_rfl
          have hi24 : ∀ L : List Value, L.length = 23 → (Tryz.prog.info? 31).map (·.size) = some L.toArray.size := fun L hl => by rw [List.size_toArray, hl]; kernel_rfl
          have qd1 := qd.out XN fN cN [x0, x1, x2, x3] (by show 4 ≤ _; decide) W8 E.out (hinN.out _ _)
          have hDin := fun f2 => dyn_inA XN fN f2 [x0, x1, x2, x3] hinN.out rfl
          generalize nbrCs XN fN cN = CS at hra hi23 qd1
          clear hl23 hcN qd hinN
          replace hra := hide hra
          replace hi23 := hide hi23
          replace hi24 := hide hi24
          replace qd1 := hide qd1
          replace hDin := hide hDin
          go_wp2_with (with_reducible refine wpList_load_mid rfl 31 (.tmp 152) rfl b (off + n * 23) rfl CS _ hra.out Tryz.underlying31 rfl hi23.out ?_)
          refine qd1.out.mono ?_
          rintro e W9 ⟨F, hq⟩
          replace E := hide (E.out.trans F)
          replace hs5 := hide (hs5.out.ext F)
          clear hra hi23 qd1 F
          rcases hq with ⟨h1, _⟩ | ⟨_, _, hq⟩ | ⟨_, h2, f2, c2, hq, _⟩
          · rw [hof.out] at h1
            cases h1
          · obtain ⟨ZA, hZ, hZl, hZo⟩ : ∃ ZA : List Value, zeroA = ZA.toArray ∧ ZA.length = 23 ∧ (ZA.toArray).all (·.oneCell') = true := ⟨zeroA.toList, rfl, rfl, by kernel_rfl⟩
            rw [hZ] at hq
            subst hq
            clear hZ
            replace hZl := hide hZl
            replace hZo := hide hZo
            have hth := hide (nbr_there W9 (ZA).toArray.size (by rw [List.size_toArray, hZl.out]; exact Nat.le_refl _))
            have hi25 := hide (hi24.out (ZA) hZl.out)
            obtain ⟨Bz, hX⟩ := nbr_put W9 (ZA) hZl.out
            replace E := hide (E.out.trans hX)
            replace Bz := hide Bz
            replace hX := hide hX
            go_upto_region 22 with (with_reducible refine wpList_store_mid rfl 31 (.tmp 17) (.tmp 156) rfl W9.heap.size 0 (ZA).toArray rfl rfl hth.out hi25.out hZo.out ?_)
            generalize (W9.alloc (.cells #[.string ⟨#[]⟩, .string ⟨#[]⟩, .int .i64 0, .int .u64 0, .string ⟨#[]⟩, .int .i64 0, .int .u32 0, .int .i64 0, .int .i64 0, .bool false, .bool false, .bool false, .slice none 0 0, .int .i64 0, .bool false, .int .i64 0, .bool false, .int .i64 0, .int .i64 0, .string ⟨#[]⟩, .string ⟨#[]⟩, .string ⟨#[]⟩, .bool false] 31)).setCells W9.heap.size 0 (ZA) = Vz at Bz E  hX ⊢
            generalize W9.heap.size = gz at Bz ⊢
            clear hth hi25 hX
            clear Bz
            go_wp2_with fail
            refine (qw.out _ E.out).mono ?_
            rintro e W10 ⟨rfl, F⟩
            replace E := hide (E.out.trans F)
            go_wp2_with fail
            go_ret
            exact ⟨rfl, E.out⟩
          · have hD := hDin.out f2 h2
            have hDa : (dynN XN [x0, x1, x2, x3]).addr = [x0, x1, x2, x3] := rfl
            have h0 : (nbrCs (dynN XN [x0, x1, x2, x3]) f2 c2)[0]? = some (.string ⟨(dynName XN [x0, x1, x2, x3]).toArray⟩) := rfl
            have h1 : (nbrCs (dynN XN [x0, x1, x2, x3]) f2 c2)[1]? = some (.string ⟨#[x0, x1, x2, x3]⟩) := rfl
            have hCl : (nbrCs (dynN XN [x0, x1, x2, x3]) f2 c2).length = 23 := rfl
            have hCo := all_oneCell_toArray (nbr_one (dynN XN [x0, x1, x2, x3]) f2 c2)
            have hCNe : nbrCs (dynN XN [x0, x1, x2, x3]) f2 c2 = [.string ⟨(dynName XN [x0, x1, x2, x3]).toArray⟩, .string ⟨#[x0, x1, x2, x3]⟩, .int .i64 0, .int .u64 0, .string ⟨#[]⟩, .int .i64 0, .int .u32 (XN.asn.toNat : Int), .int .i64 XN.hold, .int .i64 XN.retry, .bool XN.pass, .bool XN.client, .bool XN.confed, .slice f2 XN.fams.length c2, .int .i64 XN.send, .bool XN.take, .int .i64 XN.most, .bool XN.gr, .int .i64 XN.time, .int .i64 XN.mrai, .string ⟨XN.pin.toArray⟩, .string ⟨XN.pout.toArray⟩, .string ⟨XN.vrf.toArray⟩, .bool XN.selfN] := rfl
            generalize dynName XN [x0, x1, x2, x3] = nm at h0 h2 hCNe
            generalize dynN XN [x0, x1, x2, x3] = D at hD hDa h0 h1 hCl hCo hq hCNe
            have hEN : ENbA.R W9 (fun _ => True) (D, f2, c2) (nbrCs D f2 c2) := ⟨rfl, hD⟩
            have hEw : ∀ w S, ENbA.R w S (D, f2, c2) (nbrCs D f2 c2) := fun w S => ⟨rfl, hD⟩
            generalize nbrCs D f2 c2 = CN at h0 h1 hCl hCo hq hEw hCNe
            subst hq
            clear hEN hD hof hXa hDin
            have hEw2 : ∀ w S, ENbA.R w S (D, f2, c2) [.string ⟨nm.toArray⟩, .string ⟨#[x0, x1, x2, x3]⟩, .int .i64 0, .int .u64 0, .string ⟨#[]⟩, .int .i64 0, .int .u32 (XN.asn.toNat : Int), .int .i64 XN.hold, .int .i64 XN.retry, .bool XN.pass, .bool XN.client, .bool XN.confed, .slice f2 XN.fams.length c2, .int .i64 XN.send, .bool XN.take, .int .i64 XN.most, .bool XN.gr, .int .i64 XN.time, .int .i64 XN.mrai, .string ⟨XN.pin.toArray⟩, .string ⟨XN.pout.toArray⟩, .string ⟨XN.vrf.toArray⟩, .bool XN.selfN] := by rw [← hCNe]; exact hEw
            clear hEw
            replace h0 := hide h0
            replace h1 := hide h1
            replace hCl := hide hCl
            replace hCo := hide hCo
            replace hEw2 := hide hEw2
            replace hDa := hide hDa
            replace hCNe := hide hCNe
            have hth := hide (nbr_there W9 (CN).toArray.size (by rw [List.size_toArray, hCl.out]; exact Nat.le_refl _))
            have hi25 := hide (hi24.out (CN) hCl.out)
            obtain ⟨Ba, hX⟩ := nbr_put W9 (CN) hCl.out
            replace E := hide (E.out.trans hX)
            replace hs5 := hide (hs5.out.ext hX)
            replace Ba := hide Ba
            replace hX := hide hX
            go_upto_region 22 with (with_reducible refine wpList_store_mid rfl 31 (.tmp 17) (.tmp 156) rfl W9.heap.size 0 (CN).toArray rfl rfl hth.out hi25.out hCo.out ?_)
            generalize (W9.alloc (.cells #[.string ⟨#[]⟩, .string ⟨#[]⟩, .int .i64 0, .int .u64 0, .string ⟨#[]⟩, .int .i64 0, .int .u32 0, .int .i64 0, .int .i64 0, .bool false, .bool false, .bool false, .slice none 0 0, .int .i64 0, .bool false, .int .i64 0, .bool false, .int .i64 0, .int .i64 0, .string ⟨#[]⟩, .string ⟨#[]⟩, .string ⟨#[]⟩, .bool false] 31)).setCells W9.heap.size 0 (CN) = Va at Ba E hs5 hX ⊢
            generalize W9.heap.size = ga at Ba ⊢
            clear hth hi25 hX
            have c0 := Ba.out.cell h0.out
            have c1 := Ba.out.cell h1.out
            have g3 : decide ((16 : Int) < (nm.length : Int)) = false := decide_eq_false (by omega)
            clear h0 h1 hCo
            go_upto_region 26 with fail
            clear c0 c1 g3
            have w1 : IntKind.i64.wrap (tt.toNat : Int) = (tt.toNat : Int) := by have := tt.toNat_lt; rw [IntKind.wrap_i64]; omega
            have hK : tt.toNat % (L.length + 1) ≤ L.length := Nat.le_of_lt_succ (Nat.mod_lt _ (Nat.succ_pos _))
            have w2 : (tt.toNat : Int).tmod ((L.length : Int) + 1) = ((tt.toNat % (L.length + 1) : Nat) : Int) := by
              rw [Int.tmod_eq_emod_of_nonneg (by omega)]
              push_cast
              rfl
            have w3 : ((L.length : Int) + 1 == 0) = false := beq_eq_false_iff_ne.2 (by omega)
            generalize tt.toNat % (L.length + 1) = K at hK w2
            go_upto_region 27 with fail
            clear w1 w2 w3
            obtain ⟨ot, hot⟩ : ∃ ot, ot = if cP = K then off else off + K * 23 := ⟨_, rfl⟩
            obtain ⟨L1, hL1⟩ : ∃ L1, L1 = L.take K := ⟨_, rfl⟩
            obtain ⟨L2, hL2⟩ : ∃ L2, L2 = L.drop K := ⟨_, rfl⟩
            have l1 : L1.length = K := by rw [hL1, List.length_take]; omega
            have l2 : L2.length = L.length - K := by rw [hL2, List.length_drop]
            have hh : ∀ W, (Instr.sliceAt 22 (.slice (some ⟨b, off, none⟩) L.length cP) none (some (.int .i64 (K : Int))) none).run Tryz.prog W = .ok (.slice (some ⟨b, off, none⟩) L1.length cP) W := fun W => by rw [l1]; exact slice_headP _ _ _ _ hK hcl.out hcm.out W
            have ht : ∀ W, (Instr.sliceAt 22 (.slice (some ⟨b, off, none⟩) L.length cP) (some (.int .i64 (K : Int))) none none).run Tryz.prog W = .ok (.slice (some ⟨b, ot, none⟩) L2.length (cP - K)) W := fun W => by rw [l2, hot]; exact slice_tailP _ _ _ _ _ hK hcl.out hcm.out W
            have hs1 : Sl ENbA Va (· < Va.heap.size) (some ⟨b, off, none⟩) L1 := by rw [hL1]; exact hs5.out.take K
            have hs2 : Sl ENbA Va (· < Va.heap.size) (some ⟨b, ot, none⟩) L2 := by rw [hL2, hot]; exact ENbA.tail hs5.out K hcl.out
            have hfind := find_laidA L (D, f2, c2) [x0, x1, x2, x3] K hK rfl hLa.out hDa.out
            rw [← hL1, ← hL2] at hfind
            have n1 : L1.length ≤ 20 := by omega
            have n2 : L2.length ≤ 20 := by omega
            clear hot hL1 hL2 hs5 hDa hcl hcm
            replace l1 := hide l1
            replace l2 := hide l2
            replace hs1 := hide hs1
            replace hs2 := hide hs2
            replace hfind := hide hfind
            go_upto_region 29 with (first
              | (at_builtin
                 go_must (refine wpList_pushesC (f := fun x : NbA => nbrCs x.1 x.2.1 x.2.2) (P := fun x : NbA => ∀ w S, NbrIn w S x.1 x.2.1) (n := 23) (hn := fun _ => rfl) (h1 := fun x => nbr_one _ _ _) (B := Va.heap.size) (v := .slice none 0 0) (l := []) rfl _ _ _ rfl (by decide) okNbr (by decide) rfl Own.nil (Nat.le_refl _) rfl (by simp; omega) hs1.out ?_)
                 intro v1 V1 o1 hg1 hat1))
            have F1 := (Ext.refl Va).push (fun j hj => by cases hj) hg1
            replace o1 : Own ENbA 31 V1 Va.heap.size v1 L1 := o1
            replace Ba := hide (Ba.out.ext F1)
            replace o1 := hide o1
            replace F1 := hide F1
            clear hh hg1 hat1 hs1
            go_upto_region 30 with (first
              | (with_reducible refine wpList_load_mid rfl 31 (.tmp 17) rfl ga 0 rfl CN _ Ba.out.range Tryz.underlying31 rfl (by rw [hCl.out]; kernel_rfl) ?_
                 rw [hCNe.out])
              | (at_builtin
                 have hox := o1.out.alloc (Obj.cells #[.string ⟨nm.toArray⟩, .string ⟨#[x0, x1, x2, x3]⟩, .int .i64 0, .int .u64 0, .string ⟨#[]⟩, .int .i64 0, .int .u32 (XN.asn.toNat : Int), .int .i64 XN.hold, .int .i64 XN.retry, .bool XN.pass, .bool XN.client, .bool XN.confed, .slice f2 XN.fams.length c2, .int .i64 XN.send, .bool XN.take, .int .i64 XN.most, .bool XN.gr, .int .i64 XN.time, .int .i64 XN.mrai, .string ⟨XN.pin.toArray⟩, .string ⟨XN.pout.toArray⟩, .string ⟨XN.vrf.toArray⟩, .bool XN.selfN] 31)
                 have hsz1 := F1.out.size
                 go_must (refine wpList_push (E := ENbA) (l := L1) rfl _ _ _ rfl okNbr (by decide) (by decide) rfl hox (by omega) (by simp; omega) rfl (hEw2.out _ _) (cells_new V1 #[.string ⟨nm.toArray⟩, .string ⟨#[x0, x1, x2, x3]⟩, .int .i64 0, .int .u64 0, .string ⟨#[]⟩, .int .i64 0, .int .u32 (XN.asn.toNat : Int), .int .i64 XN.hold, .int .i64 XN.retry, .bool XN.pass, .bool XN.client, .bool XN.confed, .slice f2 XN.fams.length c2, .int .i64 XN.send, .bool XN.take, .int .i64 XN.most, .bool XN.gr, .int .i64 XN.time, .int .i64 XN.mrai, .string ⟨XN.pin.toArray⟩, .string ⟨XN.pout.toArray⟩, .string ⟨XN.vrf.toArray⟩, .bool XN.selfN] _) ?_)
                 intro v2 V2 o2 hg2 hat2))
            have F2 := (F1.out.alloc (Obj.cells #[.string ⟨nm.toArray⟩, .string ⟨#[x0, x1, x2, x3]⟩, .int .i64 0, .int .u64 0, .string ⟨#[]⟩, .int .i64 0, .int .u32 (XN.asn.toNat : Int), .int .i64 XN.hold, .int .i64 XN.retry, .bool XN.pass, .bool XN.client, .bool XN.confed, .slice f2 XN.fams.length c2, .int .i64 XN.send, .bool XN.take, .int .i64 XN.most, .bool XN.gr, .int .i64 XN.time, .int .i64 XN.mrai, .string ⟨XN.pin.toArray⟩, .string ⟨XN.pout.toArray⟩, .string ⟨XN.vrf.toArray⟩, .bool XN.selfN] 31)).push (fun j hj => (o1.out.lt j hj).1) hg2
            have hs2b := hide (hs2.out.ext F2)
            replace o2 := hide o2
            replace F2 := hide F2
            clear hg2 hat2 hs2 Ba hCNe hCl hEw2 o1 F1
            go_upto_region 31 with (first
              | (at_builtin
                 go_must (refine wpList_pushesC (f := fun x : NbA => nbrCs x.1 x.2.1 x.2.2) (P := fun x : NbA => ∀ w S, NbrIn w S x.1 x.2.1) (n := 23) (hn := fun _ => rfl) (h1 := fun x => nbr_one _ _ _) (B := Va.heap.size) rfl _ _ _ rfl (by decide) okNbr (by decide) rfl o2.out F2.out.size rfl (by simp; omega) hs2b.out ?_)
                 intro v3 V3 o3 hg3 hat3))
            have F3 := F2.out.push (fun j hj => (o2.out.lt j hj).1) hg3
            replace o3 : Own ENbA 31 V3 Va.heap.size v3 (L1 ++ [(D, f2, c2)] ++ L2) := o3
            replace E := hide (E.out.trans F3)
            have hl3 : (L1 ++ [(D, f2, c2)] ++ L2).length ≤ 16777216 := by simp; omega
            generalize L1 ++ [(D, f2, c2)] ++ L2 = LL at o3 hl3 hfind
            obtain ⟨a3, c3, hv3⟩ := o3.form
            subst hv3
            have qf3 := Find_any21 (LL.map (·.1)) (by simpa using hl3) a3 c3 [x0, x1, x2, x3] (by show 4 ≤ _; decide) V3 (ENbA.sl (o3.slAt.mono fun _ h => h.2))
            rw [hfind.out] at qf3
            dsimp only at qf3
            simp only [List.length_map] at qf3
            clear o3 hg3 hat3 F3 o2 F2 ht hs2b hfind hl3
            replace qf3 := hide qf3
            go_wp2_with fail
            refine qf3.out.mono ?_
            rintro e W20 ⟨rfl, F⟩
            replace E := hide (E.out.trans F)
            clear qf3 F
            go_wp2_with fail
            refine (qw.out _ E.out).mono ?_
            rintro e W21 ⟨rfl, F⟩
            replace E := hide (E.out.trans F)
            go_wp2_with fail
            go_ret
            exact ⟨rfl, E.out⟩
end Go.Proofs.YtmhmcdpadmimlaaGreatDoor
