/- The walk of heraldlaw15.cut: a set in memory of its own, 70 of each at most. -/
import Derived.Test.YtoghdmoldcjedaaGreatDoorYA
import Derived.StillTailTactics
namespace Go.Proofs.YtoghdmoldcjedaaGreatDoor
open Go.RowKit Go.Sort
set_option linter.unusedVariables false

def cutSt (s : StS) : StS := ⟨s.name, s.kind, s.items.take 70, s.comms.take 70, (s.paths.take 70).map (·.take 70)⟩
def cutK (l : List (List Atm)) (k : Nat) : List (List Atm) := (l.take k).map (·.take 70) ++ l.drop k
theorem cutK_len (l : List (List Atm)) (k : Nat) : (cutK l k).length = l.length := by simp [cutK]; omega
theorem cutK_zero (l : List (List Atm)) : cutK l 0 = l := by simp [cutK]
theorem cutK_all (l : List (List Atm)) : cutK l l.length = l.map (·.take 70) := by simp [cutK]
theorem cutK_drop (l : List (List Atm)) (k : Nat) (hk : k < l.length) : cutK l k = (l.take k).map (·.take 70) ++ (l[k] :: l.drop (k + 1)) := by
  unfold cutK
  rw [List.drop_eq_getElem_cons hk]
theorem cutK_at (l : List (List Atm)) (k : Nat) (hk : k < l.length) (hk' : k < (cutK l k).length) : (cutK l k)[k] = l[k] := by
  have h := cutK_drop l k hk
  have hl : ((l.take k).map (·.take 70)).length = k := by simp; omega
  have h2 : (cutK l k)[k]? = some l[k] := by
    rw [h, List.getElem?_append_right (by omega), hl, Nat.sub_self]
    rfl
  rw [List.getElem?_eq_getElem hk'] at h2
  exact Option.some.inj h2
theorem cutK_step (l : List (List Atm)) (k : Nat) (hk : k < l.length) : (cutK l k).set k (l[k].take 70) = cutK l (k + 1) := by
  have hl : ((l.take k).map (·.take 70)).length = k := by simp; omega
  rw [cutK_drop l k hk, List.set_append_right _ _ (by omega), hl, Nat.sub_self]
  unfold cutK
  rw [List.take_succ_eq_append_getElem hk, List.map_append, List.append_assoc]
  rfl
set_option maxRecDepth 20000 in
set_option maxHeartbeats 4000000 in
theorem cut15_any (s : StS) (a1 a2 a3 : Option Addr) (c1 c2 c3 : Nat) (w : World) (hi : SetIn w (· < w.heap.size) s a1 a2 a3) (h1 : s.items.length ≤ c1) (m1 : c1 ≤ 9223372036854775807) (h2 : s.comms.length ≤ c2) (m2 : c2 ≤ 9223372036854775807) (h3 : s.paths.length ≤ c3) (m3 : c3 ≤ 9223372036854775807) :
    Calls Tryz.prog 8 #[.agg #[.string ⟨s.name.toArray⟩, .int .i64 s.kind, .slice a1 s.items.length c1, .slice a2 s.comms.length c2, .slice a3 s.paths.length c3]] w fun e w' => ∃ b1 d1 b2 d2 b3 d3, e = .returned (.agg #[.string ⟨(cutSt s).name.toArray⟩, .int .i64 (cutSt s).kind, .slice b1 (cutSt s).items.length d1, .slice b2 (cutSt s).comms.length d2, .slice b3 (cutSt s).paths.length d3]) ∧ Ext w w' ∧
      SetIn w' (fun b => w.heap.size ≤ b ∧ b < w'.heap.size) (cutSt s) b1 b2 b3 := by
  have mixed : Tryz.prog.follows Departure.mixedOrders = true := by kernel_rfl
  obtain ⟨nm, kd, I, C, P⟩ := s
  have hfp : (cutSt ⟨nm, kd, I, C, P⟩).paths.length = (P.take 70).length := by simp [cutSt]
  have hfs : cutSt ⟨nm, kd, I, C, P⟩ = ⟨nm, kd, I.take 70, C.take 70, (P.take 70).map (·.take 70)⟩ := rfl
  rw [hfp, hfs]
  clear hfp hfs
  dsimp only at *
  have n1 : min (I.length : Int) 70 = ((I.take 70).length : Int) := minTake I 70
  have n2 : min (C.length : Int) 70 = ((C.take 70).length : Int) := minTake C 70
  have n3 : min (P.length : Int) 70 = ((P.take 70).length : Int) := minTake P 70
  have k1 := fun W => slice_headIz a1 I.length c1 (I.take 70).length (by rw [List.length_take]; omega) h1 m1 W
  have k2 := fun W => slice_headUz a2 C.length c2 (C.take 70).length (by rw [List.length_take]; omega) h2 m2 W
  have k3 := fun W => slice_headPz a3 P.length c3 (P.take 70).length (by rw [List.length_take]; omega) h3 m3 W
  have l1 : (I.take 70).length ≤ 70 := by rw [List.length_take]; omega
  have l2 : (C.take 70).length ≤ 70 := by rw [List.length_take]; omega
  have l3 : (P.take 70).length ≤ 70 := by rw [List.length_take]; omega
  have hnm : nm.length ≤ 1048576 := hi.name
  have hkd : i64 kd := hi.kind
  have qo := fun W (h : Ext w W) => ROwn15_any ⟨nm, kd, I.take 70, C.take 70, P.take 70⟩ a1 a2 a3 c1 c2 c3 W ⟨hi.name, hi.kind, by show (I.take 70).length ≤ 16777216; omega, (hi.items.ext h).take 70, by show (C.take 70).length ≤ 16777216; omega, (hi.comms.ext h).take 70, by show (P.take 70).length ≤ 16777216; omega, (hi.paths.ext h).take 70⟩
  dsimp only at qo
  have hC := hi.nPaths
  dsimp only at hC
  generalize I.take 70 = TI at *
  generalize C.take 70 = TC at *
  generalize P.take 70 = TP at *
  generalize I.length = nI at *
  generalize C.length = nC at *
  generalize P.length = nP at *
  generalize hmI : TI.length = mI at *
  generalize hmC : TC.length = mC at *
  generalize hmP : TP.length = mP at *
  clear hi h1 h2 h3 m1 m2 m3
  replace qo := hide qo
  replace hnm := hide hnm
  replace hkd := hide hkd
  replace hmI := hide hmI
  replace hmC := hide hmC
  replace hmP := hide hmP
  go_enter Tryz.func8, Tryz.ntmps8
  have S := (Blk.new w 27 #[.string ⟨nm.toArray⟩, .int .i64 kd, .slice a1 nI c1, .slice a2 nC c2, .slice a3 nP c3]).alloc (Obj.cells #[.string ⟨#[]⟩, .int .i64 0, .slice none 0 0, .slice none 0 0, .slice none 0 0] 27)
  have R := Blk.new (w.alloc (Obj.cells #[.string ⟨nm.toArray⟩, .int .i64 kd, .slice a1 nI c1, .slice a2 nC c2, .slice a3 nP c3] 27)) 27 #[.string ⟨#[]⟩, .int .i64 0, .slice none 0 0, .slice none 0 0, .slice none 0 0]
  have E := ((Ext.refl w).alloc (Obj.cells #[.string ⟨nm.toArray⟩, .int .i64 kd, .slice a1 nI c1, .slice a2 nC c2, .slice a3 nP c3] 27)).alloc (Obj.cells #[.string ⟨#[]⟩, .int .i64 0, .slice none 0 0, .slice none 0 0, .slice none 0 0] 27)
  have hz : (w.alloc (Obj.cells #[.string ⟨nm.toArray⟩, .int .i64 kd, .slice a1 nI c1, .slice a2 nC c2, .slice a3 nP c3] 27)).heap.size = w.heap.size + 1 := by simp
  rw [hz] at R
  have hzz : ((w.alloc (Obj.cells #[.string ⟨nm.toArray⟩, .int .i64 kd, .slice a1 nI c1, .slice a2 nC c2, .slice a3 nP c3] 27)).alloc (Obj.cells #[.string ⟨#[]⟩, .int .i64 0, .slice none 0 0, .slice none 0 0, .slice none 0 0] 27)).heap.size = w.heap.size + 2 := by simp
  generalize hW0 : (w.alloc (Obj.cells #[.string ⟨nm.toArray⟩, .int .i64 kd, .slice a1 nI c1, .slice a2 nC c2, .slice a3 nP c3] 27)).alloc (Obj.cells #[.string ⟨#[]⟩, .int .i64 0, .slice none 0 0, .slice none 0 0, .slice none 0 0] 27) = W0 at S R E hzz
  generalize hg0 : w.heap.size = g0 at S R hzz
  have hgw : w.heap.size ≤ g0 := Nat.le_of_eq hg0
  have hgw1 : w.heap.size ≤ g0 + 1 := by omega
  have s0 : W0.cell? ⟨g0, 0, none⟩ = some (.string ⟨nm.toArray⟩) := S.cell 0
  have s1 : W0.cell? ⟨g0, 1, none⟩ = some (.int .i64 kd) := S.cell 1
  have s2 : W0.cell? ⟨g0, 2, none⟩ = some (.slice a1 nI c1) := S.cell 2
  have s3 : W0.cell? ⟨g0, 3, none⟩ = some (.slice a2 nC c2) := S.cell 3
  have s4 : W0.cell? ⟨g0, 4, none⟩ = some (.slice a3 nP c3) := S.cell 4
  have sf := fun i => S.frozen i
  have S1 : Blk (((W0.setCell ⟨g0, 2, none⟩ (.slice a1 mI c1)).setCell ⟨g0, 3, none⟩ (.slice a2 mC c2)).setCell ⟨g0, 4, none⟩ (.slice a3 mP c3)) g0 27 #[.string ⟨nm.toArray⟩, .int .i64 kd, .slice a1 mI c1, .slice a2 mC c2, .slice a3 mP c3] := by
    simpa using ((S.set_ 2 (.slice a1 mI c1)).set_ 3 (.slice a2 mC c2)).set_ 4 (.slice a3 mP c3)
  have O1 : OnlyAt g0 W0 (((W0.setCell ⟨g0, 2, none⟩ (.slice a1 mI c1)).setCell ⟨g0, 3, none⟩ (.slice a2 mC c2)).setCell ⟨g0, 4, none⟩ (.slice a3 mP c3)) := (((OnlyAt.refl g0 W0).setCell 2 _).setCell 3 _).setCell 4 _
  replace S := hide S
  replace R := hide R
  replace E := hide E
  replace hgw := hide hgw
  replace hgw1 := hide hgw1
  replace S1 := hide S1
  replace O1 := hide O1
  go_wp2_with fail
  clear hW0 hg0 hz s0 s1 s2 s3 s4 sf k1 k2 k3 n1 n2 n3
  generalize (((W0.setCell ⟨g0, 2, none⟩ (.slice a1 mI c1)).setCell ⟨g0, 3, none⟩ (.slice a2 mC c2)).setCell ⟨g0, 4, none⟩ (.slice a3 mP c3)) = W1 at S1 O1 ⊢
  have E1 := O1.out.ext E.out hgw.out
  have hz1 : W1.heap.size = g0 + 2 := O1.out.size.trans hzz
  have R1 : Blk W1 (g0 + 1) 27 #[.string ⟨#[]⟩, .int .i64 0, .slice none 0 0, .slice none 0 0, .slice none 0 0] := (O1.out.block _ (by omega)).trans R.out
  clear S R E O1 hzz S1
  refine (qo.out W1 E1).mono ?_
  rintro e w1 ⟨v1, v2, v3, rfl, he1, o1, o2, o3, hd⟩
  clear qo
  obtain ⟨b1, d1, hv1⟩ := o1.form
  obtain ⟨b2, d2, hv2⟩ := o2.form
  obtain ⟨b3, d3, hv3⟩ := o3.form
  rw [hmI.out] at hv1
  rw [hmC.out] at hv2
  rw [hmP.out] at hv3
  subst hv1 hv2 hv3
  have hl3 := o3.lt
  have X := Blk.new w1 27 #[.string ⟨nm.toArray⟩, .int .i64 kd, .slice b1 mI d1, .slice b2 mC d2, .slice b3 mP d3]
  have R2 := (R1.ext he1).alloc (Obj.cells #[.string ⟨nm.toArray⟩, .int .i64 kd, .slice b1 mI d1, .slice b2 mC d2, .slice b3 mP d3] 27)
  have E2 := (E1.trans he1).alloc (Obj.cells #[.string ⟨nm.toArray⟩, .int .i64 kd, .slice b1 mI d1, .slice b2 mC d2, .slice b3 mP d3] 27)
  replace o1 := o1.alloc (Obj.cells #[.string ⟨nm.toArray⟩, .int .i64 kd, .slice b1 mI d1, .slice b2 mC d2, .slice b3 mP d3] 27)
  replace o2 := o2.alloc (Obj.cells #[.string ⟨nm.toArray⟩, .int .i64 kd, .slice b1 mI d1, .slice b2 mC d2, .slice b3 mP d3] 27)
  replace o3 := o3.alloc (Obj.cells #[.string ⟨nm.toArray⟩, .int .i64 kd, .slice b1 mI d1, .slice b2 mC d2, .slice b3 mP d3] 27)
  clear R1 E1 he1
  replace hl3 := hide hl3
  replace X := hide X
  replace R2 := hide R2
  replace E2 := hide E2
  replace o1 := hide o1
  replace o2 := hide o2
  replace o3 := hide o3
  replace hd := hide hd
  go_wp2_with fail
  generalize w1.alloc (Obj.cells #[.string ⟨nm.toArray⟩, .int .i64 kd, .slice b1 mI d1, .slice b2 mC d2, .slice b3 mP d3] 27) = W2 at X R2 E2 o1 o2 o3 ⊢
  generalize w1.heap.size = g2 at X hl3 ⊢
  go_loopw [4] (fun i wr => ∃ k : Nat, k ≤ mP ∧ i = .int .i64 k ∧ Blk wr g2 27 #[.string ⟨nm.toArray⟩, .int .i64 kd, .slice b1 mI d1, .slice b2 mC d2, .slice b3 mP d3] ∧ Blk wr (g0 + 1) 27 #[.string ⟨#[]⟩, .int .i64 0, .slice none 0 0, .slice none 0 0, .slice none 0 0] ∧ Own EItm 36 wr W1.heap.size (.slice b1 mI d1) TI ∧ Own EU32 37 wr W1.heap.size (.slice b2 mC d2) TC ∧ Own EAtm.sliceC 38 wr W1.heap.size (.slice b3 mP d3) (cutK TP k) ∧ Ext w wr) (fun i _ => mP - (intOf i).toNat)
  case atStart => exact ⟨0, Nat.zero_le _, rfl, X.out, R2.out, o1.out, o2.out, by rw [cutK_zero]; exact o3.out, E2.out⟩
  case round =>
    clear X R2 o1 o2 o3 E2
    obtain ⟨k, hk, rfl, X, R, o1, o2, o3, E⟩ := hrel
    have x0 : wr.cell? ⟨g2, 0, none⟩ = some (.string ⟨nm.toArray⟩) := X.cell 0
    have x1 : wr.cell? ⟨g2, 1, none⟩ = some (.int .i64 kd) := X.cell 1
    have x2 : wr.cell? ⟨g2, 2, none⟩ = some (.slice b1 mI d1) := X.cell 2
    have x3 : wr.cell? ⟨g2, 3, none⟩ = some (.slice b2 mC d2) := X.cell 3
    by_cases hlt : k < mP
    · have hkP : k < TP.length := by rw [hmP.out]; exact hlt
      have hkC : k < (cutK TP k).length := by rw [cutK_len]; exact hkP
      obtain ⟨g3, cc, hv3, hg3, hg3l⟩ := o3.formNe (by intro h; rw [h] at hkC; simp at hkC)
      injection hv3 with hb3 hn3 hd3
      clear hn3
      subst hb3 hd3
      obtain ⟨ak, ck, y0, yf, hm, hle, hcm, hsk⟩ := o3.atC k hkC
      have x4 : wr.cell? ⟨g2, 4, none⟩ = some (.slice (some ⟨g3, 0, none⟩) mP d3) := X.cell 4
      have hat := cutK_at TP k hkP hkC
      have hst := cutK_step TP k hkP
      have hset := o3.setC k 0 hkC (by decide) (x := TP[k].take 70) (u := .slice ak (TP[k].take 70).length ck) (fun cs hcs => by
        obtain ⟨a, c, rfl, _⟩ := hcs
        rw [hat] at hm hle hsk
        exact ⟨ak, ck, rfl, by rw [List.length_take]; omega, by rw [List.length_take]; omega, hcm, hsk.take 70⟩)
      rw [show k * EAtm.sliceC.sz + 0 = k from by show k * 1 + 0 = k; omega, hst] at hset
      rw [hat] at y0 hle
      have nA : min (TP[k].length : Int) 70 = ((TP[k].take 70).length : Int) := minTake TP[k] 70
      have kA := fun W => slice_headAz ak TP[k].length ck (TP[k].take 70).length (by rw [List.length_take]; omega) hle (maxLen_le hcm) W
      have hne := hd.out g3 rfl
      have hg23 : g2 ≠ g3 := by have := (hl3.out g3 rfl).2; omega
      have hg03 : g0 + 1 ≠ g3 := by omega
      have hE3 := E.setCell (p := ⟨g3, k, none⟩) (by show w.heap.size ≤ g3; have := hgw.out; omega) (.slice ak (TP[k].take 70).length ck)
      have hX3 := X.far (p := ⟨g3, k, none⟩) hg23 (.slice ak (TP[k].take 70).length ck)
      have hR3 := R.far (p := ⟨g3, k, none⟩) hg03 (.slice ak (TP[k].take 70).length ck)
      have ho1 := own_cells_far (by decide) o1 hne.1 k (.slice ak (TP[k].take 70).length ck)
      have ho2 := own_flat_far o2 hne.2 k (.slice ak (TP[k].take 70).length ck)
      clear hat hst hm hle hcm hsk hne X R o1 o2 o3 E
      generalize (TP[k].take 70).length = mk at *
      generalize TP[k].length = nk at *
      replace hE3 := hide hE3
      replace hX3 := hide hX3
      replace hR3 := hide hR3
      replace ho1 := hide ho1
      replace ho2 := hide ho2
      replace hset := hide hset
      go_wp2_with fail
      have i0 : (0 : Int) ≤ (k : Int) := by omega
      have i1 : (k : Int) < (mP : Int) := by omega
      go_still_tail 17, (by kernel_rfl)
      go_wp2
      go_roundw
      case rel => exact ⟨k + 1, by omega, by go_num, hX3.out.drew, hR3.out.drew, ho1.out.draw, ho2.out.draw, hset.out.draw, hE3.out.drew⟩
      case measure => simp [intOf]; omega
    · obtain rfl : k = mP := by omega
      have x4 : wr.cell? ⟨g2, 4, none⟩ = some (.slice b3 k d3) := X.cell 4
      have r0 : wr.cell? ⟨g0 + 1, 0, none⟩ = some (.string ⟨#[]⟩) := R.cell 0
      have r1 : wr.cell? ⟨g0 + 1, 1, none⟩ = some (.int .i64 0) := R.cell 1
      have r2 : wr.cell? ⟨g0 + 1, 2, none⟩ = some (.slice none 0 0) := R.cell 2
      have r3 : wr.cell? ⟨g0 + 1, 3, none⟩ = some (.slice none 0 0) := R.cell 3
      have r4 : wr.cell? ⟨g0 + 1, 4, none⟩ = some (.slice none 0 0) := R.cell 4
      have rf := fun i => R.frozen i
      have hK : cutK TP k = TP.map (·.take 70) := by rw [← hmP.out]; exact cutK_all TP
      rw [hK] at o3
      have hZ := R.set5w (.string ⟨nm.toArray⟩) (.int .i64 kd) (.slice b1 mI d1) (.slice b2 mC d2) (.slice b3 k d3)
      have hO := OnlyAt.set5w (g := g0 + 1) (w := wr) (.string ⟨nm.toArray⟩) (.int .i64 kd) (.slice b1 mI d1) (.slice b2 mC d2) (.slice b3 k d3)
      clear X R hK
      replace hZ := hide hZ
      replace hO := hide hO
      replace o1 := hide o1
      replace o2 := hide o2
      replace o3 := hide o3
      replace E := hide E
      go_wp2
      replace hZ := hZ.out
      replace hO := hO.out
      clear x0 x1 x2 x3 x4 r0 r1 r2 r3 r4 rf
      generalize (((((wr.setCell ⟨g0 + 1, 0, none⟩ (.string ⟨nm.toArray⟩)).setCell ⟨g0 + 1, 1, none⟩ (.int .i64 kd)).setCell ⟨g0 + 1, 2, none⟩ (.slice b1 mI d1)).setCell ⟨g0 + 1, 3, none⟩ (.slice b2 mC d2)).setCell ⟨g0 + 1, 4, none⟩ (.slice b3 k d3)) = W3 at hZ hO ⊢
      have E3 := hO.ext E.out hgw1.out
      have t1 := (o1.out.only hO (by omega)).slAt
      have t2 := (o2.out.only hO (by omega)).slAt
      have t3 := (o3.out.only hO (by omega)).slAt
      have hS : ∀ b, (W1.heap.size ≤ b ∧ b < W3.heap.size) → (g0 ≤ b ∧ b < W3.heap.size) := fun b hb => ⟨by omega, hb.2⟩
      have z0 : W3.cell? ⟨g0 + 1, 0, none⟩ = some (.string ⟨nm.toArray⟩) := hZ.cell 0
      have z1 : W3.cell? ⟨g0 + 1, 1, none⟩ = some (.int .i64 kd) := hZ.cell 1
      have z2 : W3.cell? ⟨g0 + 1, 2, none⟩ = some (.slice b1 mI d1) := hZ.cell 2
      have z3 : W3.cell? ⟨g0 + 1, 3, none⟩ = some (.slice b2 mC d2) := hZ.cell 3
      have z4 : W3.cell? ⟨g0 + 1, 4, none⟩ = some (.slice b3 k d3) := hZ.cell 4
      have hin : SetIn W3 (fun b => g0 ≤ b ∧ b < W3.heap.size) ⟨nm, kd, TI, TC, TP.map (·.take 70)⟩ b1 b2 b3 :=
        ⟨hnm.out, hkd.out, by show TI.length ≤ 16777216; rw [hmI.out]; omega, t1.mono hS, by show TC.length ≤ 16777216; rw [hmC.out]; omega, t2.mono hS, by show (TP.map _).length ≤ 16777216; rw [List.length_map, hmP.out]; omega, (Sl.weakC t3).mono hS⟩
      exact bodyPost_ret (v := .agg #[.string ⟨nm.toArray⟩, .int .i64 kd, .slice b1 mI d1, .slice b2 mC d2, .slice b3 k d3]) (by simp [results, Tryz.results8, go_sem, z0, z1, z2, z3, z4]) rfl ⟨_, _, _, _, _, _, rfl, E3, hin⟩
end Go.Proofs.YtoghdmoldcjedaaGreatDoor
