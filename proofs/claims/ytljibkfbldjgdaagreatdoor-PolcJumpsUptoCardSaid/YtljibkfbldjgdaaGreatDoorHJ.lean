/- Chapter 16: PolcJumps. -/
import Derived.Test.YtljibkfbldjgdaaGreatDoorHI
import Derived.Test.YtljibkfbldjgdaaGreatDoorHF
import Derived.Test.YtljibkfbldjgdaaGreatDoorER
namespace Go.Proofs.YtljibkfbldjgdaaGreatDoor
open Go.RowKit Go.Sort
set_option linter.unusedVariables false

theorem okSetE16 : ElemOk Tryz.prog 52 67 ESet.sz 96 := elemOk (z := .agg #[.string ⟨#[]⟩, .int .i64 0, .slice none 0 0, .slice none 0 0, .slice none 0 0]) Tryz.underlying52 (by kernel_rfl) rfl
theorem ESetB.nameAt {w : World} {S : Nat → Prop} {a : Option Addr} {l : List (StS × Nat × Nat)} (h : Sl ESetB w S a l) (k : Nat) (hk : k < l.length) :
    ∃ b off, a = some ⟨b, off, none⟩ ∧ w.cell? ⟨b, off + k * 5, none⟩ = some (.string ⟨l[k].1.name.toArray⟩) ∧ l[k].1.name.length ≤ 1048576 := by
  obtain ⟨b, off, cs, rfl, hb, ⟨v1, v2, v3, rfl, hs⟩, hc⟩ := h.at k hk
  exact ⟨b, off, rfl, hc 0 _ rfl, hs.name⟩
theorem EIns.at {w : World} {S : Nat → Prop} {a : Option Addr} {l : List InsS} (h : Sl EIns w S a l) (k : Nat) (hk : k < l.length) :
    ∃ b off, a = some ⟨b, off, none⟩ ∧ S b ∧ InsIn l[k] ∧ ∀ j u, (insCs l[k])[j]? = some u → w.cell? ⟨b, off + k * 11 + j, none⟩ = some u := by
  obtain ⟨b, off, cs, rfl, hb, ⟨rfl, hi⟩, hc⟩ := h.at k hk
  exact ⟨b, off, rfl, hb, hi, hc⟩
def zzN : List UInt8 := [122, 122, 45, 110, 111, 110, 101]
set_option maxRecDepth 20000 in
set_option maxHeartbeats 8000000 in
theorem PolcJumps_walk (p : PolS) (a : Option Addr) (ca : Nat) (l : List StS) (b : Option Addr) (cb : Nat) (m : StS) (a1 : Option Addr) (c1 : Nat) (a2 : Option Addr) (c2 : Nat) (a3 : Option Addr) (c3 : Nat) (w : World) (hl : p.terms.length ≤ 16777216) (hm : l.length ≤ 1048576)
    (s1 : Sl ETermC w (· < w.heap.size) a p.terms) (s2 : Sl ESet w (· < w.heap.size) b l) (hi : SetIn w (· < w.heap.size) m a1 a2 a3) (hT : Tab w) (hD : Deb w) (hV : Vars w) :
    Calls Tryz.prog 9 #[.agg #[.string ⟨p.name.toArray⟩, .slice a p.terms.length ca, .bool p.els], .slice b l.length cb, .agg #[.string ⟨m.name.toArray⟩, .int .i64 m.kind, .slice a1 m.items.length c1, .slice a2 m.comms.length c2, .slice a3 m.paths.length c3]] w fun e w' => e = .returned (.bool true) ∧ Ext w w' := by
  have mixed : Tryz.prog.follows Departure.mixedOrders = true := by kernel_rfl
  have qw := fun W (h : Ext w W) => PWorks_any W (hT.ext h) (hD.ext h) (hV.ext h)
  have qc := fun W (h : Ext w W) => PCompile_any p a ca l b cb W hl (by omega) (s1.ext h) (s2.ext h)
  have qc2 := fun W (h : Ext w W) x y (wide : List StS) (hw : wide.length ≤ 16777216) (hs : Sl ESet W (· < W.heap.size) x wide) => PCompile_any p a ca wide x y W hl hw (s1.ext h) hs
  have s1' := s1.weakT
  have hwide := fun (h : checkP p l = 0) nm (h2 : ∀ s ∈ l, s.name ≠ nm) => wide_check p l ⟨nm, m.kind, m.items, m.comms, m.paths⟩ h h2
  have hpb : checkP p l = 0 → PolB p := fun h => PolB.of (by
    cases hp : polOk p with
    | true => rfl
    | false => rw [checkP_bad hp] at h; cases h)
  have S := (Blk.new w 35 #[.string ⟨p.name.toArray⟩, .slice a p.terms.length ca, .bool p.els]).alloc (Obj.cells #[.string ⟨m.name.toArray⟩, .int .i64 m.kind, .slice a1 m.items.length c1, .slice a2 m.comms.length c2, .slice a3 m.paths.length c3] 67)
  have M := Blk.new (w.alloc (Obj.cells #[.string ⟨p.name.toArray⟩, .slice a p.terms.length ca, .bool p.els] 35)) 67 #[.string ⟨m.name.toArray⟩, .int .i64 m.kind, .slice a1 m.items.length c1, .slice a2 m.comms.length c2, .slice a3 m.paths.length c3]
  have E := ((Ext.refl w).alloc (Obj.cells #[.string ⟨p.name.toArray⟩, .slice a p.terms.length ca, .bool p.els] 35)).alloc (Obj.cells #[.string ⟨m.name.toArray⟩, .int .i64 m.kind, .slice a1 m.items.length c1, .slice a2 m.comms.length c2, .slice a3 m.paths.length c3] 67)
  rw [show (w.alloc (Obj.cells #[.string ⟨p.name.toArray⟩, .slice a p.terms.length ca, .bool p.els] 35)).heap.size = w.heap.size + 1 by simp] at M
  generalize hW0 : (w.alloc (Obj.cells #[.string ⟨p.name.toArray⟩, .slice a p.terms.length ca, .bool p.els] 35)).alloc (Obj.cells #[.string ⟨m.name.toArray⟩, .int .i64 m.kind, .slice a1 m.items.length c1, .slice a2 m.comms.length c2, .slice a3 m.paths.length c3] 67) = W0 at S M E
  obtain ⟨g0, hg0⟩ : ∃ g0, w.heap.size = g0 := ⟨_, rfl⟩
  have hgw : w.heap.size ≤ g0 := Nat.le_of_eq hg0
  rw [hg0] at S M
  unfold CompP at qc qc2
  clear s1 hT hD hV
  replace qw := hide qw
  replace qc := hide qc
  replace qc2 := hide qc2
  replace s1' := hide s1'
  replace s2 := hide s2
  replace hwide := hide hwide
  replace hpb := hide hpb
  replace S := hide S
  replace M := hide M
  replace E := hide E
  replace hgw := hide hgw
  replace hi := hide hi
  go_enter Tryz.func9, Tryz.ntmps9
  go_wp2_with fail
  (with_reducible refine (qw.out _ E.out).mono ?_)
  rintro e W1 ⟨rfl, he⟩
  clear hW0
  replace E := hide (E.out.trans he)
  replace S := hide (S.out.ext he)
  replace M := hide (M.out.ext he)
  clear he qw hg0
  have S_0 : W1.cell? ⟨g0, 0, none⟩ = some (.string ⟨p.name.toArray⟩) := S.out.cell 0
  have S_1 : W1.cell? ⟨g0, 1, none⟩ = some (.slice a p.terms.length ca) := S.out.cell 1
  have S_2 : W1.cell? ⟨g0, 2, none⟩ = some (.bool p.els) := S.out.cell 2
  go_wp2_with fail
  clear S_0 S_1 S_2
  (with_reducible refine (qc.out _ E.out).mono ?_)
  rintro e W2 ⟨he, ho⟩
  replace E := hide (E.out.trans he)
  replace S := hide (S.out.ext he)
  replace M := hide (M.out.ext he)
  clear he qc
  rcases ho with ⟨hr, rfl⟩ | ⟨hr, v1, v2, ls, mm, rfl, hmm, -, o1, o2, hmap, -⟩
  · generalize checkP p l = r at *
    have d1 : (r == 0) = false := beq_eq_false_iff_ne.2 hr
    have d2 : (r != 0) = true := by simp [bne, d1]
    have E3 := E.out.alloc (Obj.cells #[.slice none 0 0, .slice none 0 0] 56)
    clear hr S M hwide hpb qc2 s1' s2 hi
    replace E3 := hide E3
    go_wp2_with fail
    go_ret
    exact ⟨rfl, E3.out⟩
  obtain ⟨hbn, hbc⟩ := hpb.out hr
  have hins := insP_jump p
  have hlst := insP_last p
  have hil := insP_len p
  have hnm := setsP_named p l
  rw [← hmap] at hnm
  have hlen2 : (setsP p l).length = ls.length := by rw [← hmap, List.length_map]
  have hls : ls.length ≤ 1048576 := by
    have : (setsP p l).length ≤ l.length := List.length_filter_le _ _
    omega
  have hw0 := hwide.out hr
  have hil2 : ∀ k (hk : k < p.terms.length), (insL 0 (p.terms.take (k + 1))).length = (insL 0 (p.terms.take k)).length + p.terms[k].conds.length + p.terms[k].acts.length := fun k hk => by
    rw [insL_step p.terms hk, List.length_append, List.length_append, List.length_map, List.length_map]
    omega
  obtain ⟨x1, y1, rfl⟩ := o1.form
  obtain ⟨x2, y2, rfl⟩ := o2.form
  replace o1 := own_slK o1
  replace o2 := own_slK o2
  clear hpb hmap hwide hmm
  generalize setsP p l = SP at *
  generalize insP p = IP at *
  generalize hTe : p.terms = T at *
  generalize hEe : p.els = els at *
  have X := Blk.new W2 56 #[.slice x1 IP.length y1, .slice x2 ls.length y2]
  have eX := (Ext.refl W2).alloc (Obj.cells #[.slice x1 IP.length y1, .slice x2 ls.length y2] 56)
  replace o1 := o1.ext eX
  replace o2 := o2.ext eX
  have E3 := E.out.trans eX
  have S3 := S.out.ext eX
  have M3 := M.out.ext eX
  clear E S M hr
  replace X := hide X
  replace o1 := hide o1
  replace o2 := hide o2
  replace E3 := hide E3
  replace S3 := hide S3
  replace M3 := hide M3
  replace hbc := hide hbc
  replace hins := hide hins
  replace hlst := hide hlst
  replace hnm := hide hnm
  replace hw0 := hide hw0
  replace hil2 := hide hil2
  replace hil := hide hil
  replace hlen2 := hide hlen2
  clear eX
  go_upto_region 6 with fail
  generalize W2.alloc (Obj.cells #[.slice x1 IP.length y1, .slice x2 ls.length y2] 56) = W3 at X o1 o2 E3 S3 M3 ⊢
  generalize W2.heap.size = g7 at X ⊢
  go_wp2_with fail
  go_loopw [9, 10] (fun n i wr => ∃ k N : Nat, k ≤ T.length ∧ i = .int .i64 k ∧ n = .int .i64 N ∧ N = (insL 0 (T.take k)).length + 1 ∧ N ≤ 128 * k + 1 ∧ Ext W3 wr) (fun _ i _ => T.length - (intOf i).toNat)
  case atStart => exact ⟨0, 1, Nat.zero_le _, rfl, rfl, rfl, Nat.le_refl _, Ext.refl _⟩
  case round =>
    obtain ⟨k, N, hk, rfl, rfl, hN, hN2, F⟩ := hrel
    have S4 := S3.out.ext F
    by_cases hlt : k < T.length
    · obtain ⟨b1, of1, z1, p1, z2, p2, rfl, _, i1, i2, n3, r1, n4, r2⟩ := ETerm.at (s1'.out.ext (E3.out.trans F)) k hlt
      have hst := hil2.out k hlt
      obtain ⟨hc1, hc2⟩ := hbc.out _ (List.getElem_mem hlt)
      clear n3 n4 r1 r2
      generalize T[k].conds.length = n1 at *
      generalize T[k].acts.length = n2 at *
      have m1 : IntKind.i64.wrap ((N : Int) + (n1 : Int)) = (N : Int) + (n1 : Int) := by rw [IntKind.wrap_i64]; omega
      have m2 : IntKind.i64.wrap ((N : Int) + (n1 : Int) + (n2 : Int)) = (N : Int) + (n1 : Int) + (n2 : Int) := by rw [IntKind.wrap_i64]; omega
      replace S4 := hide S4
      replace F := hide F
      replace hst := hide hst
      replace hN := hide hN
      have S4_0 : wr.cell? ⟨g0, 0, none⟩ = some (.string ⟨p.name.toArray⟩) := S4.out.cell 0
      have S4_1 : wr.cell? ⟨g0, 1, none⟩ = some (.slice (some ⟨b1, of1, none⟩) T.length ca) := S4.out.cell 1
      have S4_2 : wr.cell? ⟨g0, 2, none⟩ = some (.bool els) := S4.out.cell 2
      go_upto_region 10 with fail
      go_quiet (fail)
      clear S4_0 S4_1 S4_2
      clear m1 m2 i1 i2
      go_wp2_with fail
      go_roundw
      case rel => exact ⟨k + 1, N + n1 + n2, by omega, by go_num, by go_num, by rw [hst.out]; have := hN.out; omega, by omega, F.out.drewN _⟩
      case measure => simp [intOf]; omega
    · obtain rfl : k = T.length := by omega
      rw [List.take_length] at hN
      obtain rfl : N = IP.length := by have := hil.out; omega
      have X4 := X.out.ext F
      replace o1 := o1.out.ext F
      replace o2 := o2.out.ext F
      have E4 := E3.out.trans F
      have M4 := M3.out.ext F
      obtain ⟨LL, hLL⟩ : ∃ LL, (insL 0 T).length = LL := ⟨_, rfl⟩
      rw [hLL] at hN hlst hil
      obtain ⟨ib, io, rfl, -, -, hcI⟩ := EIns.at o1 LL (by omega)
      have hlast := hlst.out (by omega)
      rw [hlast] at hcI
      have j0 : wr.cell? ⟨ib, io + LL * 11, none⟩ = some (.int .i64 3) := hcI 0 _ rfl
      have j10 : wr.cell? ⟨ib, io + LL * 11 + 10, none⟩ = some (.int .i64 (if els = true then 1 else 0)) := hcI 10 _ rfl
      clear hcI hlast hlst hil2 hbc S3 X F M3 hil
      obtain ⟨nv, hnv⟩ : ∃ nv : Int, (if els = true then 1 else 0) = nv := ⟨_, rfl⟩
      rw [hnv] at j10
      have hnb : (nv == 1) = els := by
        subst hnv
        cases els <;> rfl
      clear hnv
      have hbe : (els != els) = false := by simp
      have hLl : LL < IP.length := by omega
      have e1 : ((IP.length : Int) != (IP.length : Int)) = false := by simp
      have m3 : IntKind.i64.wrap ((IP.length : Int) - 1) = (LL : Int) := by rw [IntKind.wrap_i64]; omega
      have m4 : (IP.length : Int) - 1 = (LL : Int) := by omega
      have S4f := S4
      replace S4 := hide S4
      replace X4 := hide X4
      replace o1 := hide o1
      replace o2 := hide o2
      replace E4 := hide E4
      replace M4 := hide M4
      replace m4 := hide m4
      replace hN := hide hN
      clear S4f
      have X4_0 : wr.cell? ⟨g7, 0, none⟩ = some (.slice (some ⟨ib, io, none⟩) IP.length y1) := X4.out.cell 0
      have X4_1 : wr.cell? ⟨g7, 1, none⟩ = some (.slice x2 ls.length y2) := X4.out.cell 1
      have S4_0 : wr.cell? ⟨g0, 0, none⟩ = some (.string ⟨p.name.toArray⟩) := S4.out.cell 0
      have S4_1 : wr.cell? ⟨g0, 1, none⟩ = some (.slice a T.length ca) := S4.out.cell 1
      have S4_2 : wr.cell? ⟨g0, 2, none⟩ = some (.bool els) := S4.out.cell 2
      go_upto_region 11 with fail
      go_quiet (fail)
      clear X4_0 X4_1 S4_0 S4_1 S4_2
      clear m3 j0 j10 hnb hbe e1
      go_wp2_with fail
      generalize hWd : wr.drewN _ = Wd
      have hWe : Ext wr Wd := by subst hWd; exact (Ext.refl wr).drewN _
      clear hWd
      replace hWe := hide hWe
      go_loopw [11] (fun i wx => ∃ k : Nat, k ≤ IP.length ∧ i = .int .i64 k ∧ Ext wr wx) (fun i _ => IP.length - (intOf i).toNat)
      case atStart => exact ⟨0, Nat.zero_le _, rfl, hWe.out⟩
      case round =>
        rename World => wx
        obtain ⟨k, hk, rfl, F⟩ := hrel
        clear hWe
        by_cases hlt : k < IP.length
        · obtain ⟨ib', io', he, _, _, hcI⟩ := EIns.at (o1.out.ext F) k hlt
          injection he with he
          injection he with h1 h2
          subst h1 h2
          have hj := hins.out k hlt
          generalize IP[k] = x at *
          obtain ⟨kd, ⟨q1, q2, q3, q4⟩, ⟨r1, r2, r3, r4⟩, tt, nn⟩ := x
          dsimp only [insCs] at hcI
          have i0 : wx.cell? ⟨ib, io + k * 11, none⟩ = some (.int .i64 kd) := hcI 0 _ rfl
          have i1 : wx.cell? ⟨ib, io + k * 11 + 1, none⟩ = some (.int .i64 q1) := hcI 1 _ rfl
          have i2 : wx.cell? ⟨ib, io + k * 11 + 2, none⟩ = some (.bool q2) := hcI 2 _ rfl
          have i3 : wx.cell? ⟨ib, io + k * 11 + 3, none⟩ = some (.string ⟨q3.toArray⟩) := hcI 3 _ rfl
          have i4 : wx.cell? ⟨ib, io + k * 11 + 4, none⟩ = some (.int .i64 q4) := hcI 4 _ rfl
          have i5 : wx.cell? ⟨ib, io + k * 11 + 5, none⟩ = some (.int .i64 r1) := hcI 5 _ rfl
          have i6 : wx.cell? ⟨ib, io + k * 11 + 6, none⟩ = some (.string ⟨r2.toArray⟩) := hcI 6 _ rfl
          have i7 : wx.cell? ⟨ib, io + k * 11 + 7, none⟩ = some (.int .u32 (r3.toNat : Int)) := hcI 7 _ rfl
          have i8 : wx.cell? ⟨ib, io + k * 11 + 8, none⟩ = some (.string ⟨r4.toArray⟩) := hcI 8 _ rfl
          have i9 : wx.cell? ⟨ib, io + k * 11 + 9, none⟩ = some (.int .i64 tt) := hcI 9 _ rfl
          have i10 : wx.cell? ⟨ib, io + k * 11 + 10, none⟩ = some (.int .i64 nn) := hcI 10 _ rfl
          have hox := F.alloc (Obj.cells #[.int .i64 kd, .int .i64 q1, .bool q2, .string ⟨q3.toArray⟩, .int .i64 q4, .int .i64 r1, .string ⟨r2.toArray⟩, .int .u32 (r3.toNat : Int), .string ⟨r4.toArray⟩, .int .i64 tt, .int .i64 nn] 62)
          have Xx := hide (X4.out.ext F)
          have Xx_0 : wx.cell? ⟨g7, 0, none⟩ = some (.slice (some ⟨ib, io, none⟩) IP.length y1) := Xx.out.cell 0
          have Xx_1 : wx.cell? ⟨g7, 1, none⟩ = some (.slice x2 ls.length y2) := Xx.out.cell 1
          clear hcI
          have m5 : IntKind.i64.wrap ((IP.length : Int) - 1) = (IP.length : Int) - 1 := by rw [IntKind.wrap_i64]; omega
          obtain ⟨hj1, hj2⟩ := hj
          dsimp only at hj1 hj2
          clear F
          replace hox := hide hox
          by_cases hk1 : kd = 1
          · subst hk1
            have t1 : decide (tt ≤ (k : Int)) = false := decide_eq_false fun h => hj1 ⟨rfl, .inl h⟩
            have t2 : decide (tt ≥ (IP.length : Int)) = false := decide_eq_false fun h => hj1 ⟨rfl, .inr h⟩
            clear hj1 hj2
            go_wp2_with fail
            clear i0 i1 i2 i3 i4 i5 i6 i7 i8 i9 i10 m5 t1 t2
            go_roundw
            case rel => exact ⟨k + 1, by omega, by go_num, hox.out⟩
            case measure => simp [intOf]; omega
          have e1 : (kd == 1) = false := beq_eq_false_iff_ne.2 hk1
          by_cases hk3 : kd = 3
          · subst hk3
            have t1 : decide ((k : Int) < (IP.length : Int) - 1) = false := decide_eq_false fun h => hj2 ⟨rfl, h⟩
            clear hj1 hj2 hk1
            go_wp2_with fail
            clear i0 i1 i2 i3 i4 i5 i6 i7 i8 i9 i10 m5 t1
            go_roundw
            case rel => exact ⟨k + 1, by omega, by go_num, hox.out⟩
            case measure => simp [intOf]; omega
          · have e3 : (kd == 3) = false := beq_eq_false_iff_ne.2 hk3
            clear hj1 hj2 hk1 hk3
            go_wp2_with fail
            clear i0 i1 i2 i3 i4 i5 i6 i7 i8 i9 i10 m5
            clear Xx_0 Xx_1
            go_roundw
            case rel => exact ⟨k + 1, by omega, by go_num, hox.out⟩
            case measure => simp [intOf]; omega
        · obtain rfl : k = IP.length := by omega
          clear hlt hk hins
          have o1x := o1.out.ext F
          have o2x := o2.out.ext F
          have Xx := X4.out.ext F
          have E5 := E4.out.trans F
          have M5 := M4.out.ext F
          have S5 := S4.out.ext F
          clear o1 o2 X4 E4 M4 S4 F
          replace o1x := hide o1x
          replace o2x := hide o2x
          replace Xx := hide Xx
          replace E5 := hide E5
          replace M5 := hide M5
          replace S5 := hide S5
          go_wp2_with fail
          go_loopw [13] (fun i wy => ∃ k : Nat, k ≤ ls.length ∧ i = .int .i64 k ∧ Ext wx wy) (fun i _ => ls.length - (intOf i).toNat)
          case atStart => exact ⟨0, Nat.zero_le _, rfl, Ext.refl _⟩
          case round =>
            rename World => wy
            obtain ⟨k, hk, rfl, F⟩ := hrel
            have Xy := Xx.out.ext F
            by_cases hlt : k < ls.length
            · obtain ⟨zb, zo, rfl, zc, zn⟩ := ESetB.nameAt (o2x.out.ext F) k hlt
              have hus := hnm.out ls[k].1 (List.mem_map.2 ⟨ls[k], List.getElem_mem hlt, rfl⟩)
              generalize ls[k].1.name = nm at *
              replace Xy := hide Xy
              replace F := hide F
              replace hus := hide hus
              have Xy_0 : wy.cell? ⟨g7, 0, none⟩ = some (.slice (some ⟨ib, io, none⟩) IP.length y1) := Xy.out.cell 0
              have Xy_1 : wy.cell? ⟨g7, 1, none⟩ = some (.slice (some ⟨zb, zo, none⟩) ls.length y2) := Xy.out.cell 1
              go_wp2_with fail
              clear Xy_0 Xy_1
              go_loopw [14, 15] (fun uu i wz => ∃ j : Nat, j ≤ IP.length ∧ i = .int .i64 j ∧ uu = .bool ((IP.take j).any (insNames nm)) ∧ Ext wy wz) (fun _ i _ => IP.length - (intOf i).toNat)
              case atStart => exact ⟨0, Nat.zero_le _, rfl, rfl, Ext.refl _⟩
              case round =>
                rename World => wz
                obtain ⟨j, hj, rfl, rfl, G⟩ := hrel
                by_cases hlj : j < IP.length
                · obtain ⟨ib', io', he, -, -, hcI⟩ := EIns.at (o1x.out.ext (F.out.trans G)) j hlj
                  injection he with he
                  injection he with h1 h2
                  subst h1 h2
                  have hst := any_snoc (insNames nm) hlj
                  have zc2 := G.cell zc
                  generalize (IP.take j).any (insNames nm) = uu at *
                  generalize IP[j] = x at *
                  obtain ⟨kd, ⟨q1, q2, q3, q4⟩, ⟨r1, r2, r3, r4⟩, tt, nn⟩ := x
                  dsimp only [insCs] at hcI
                  replace hst : (IP.take (j + 1)).any (insNames nm) = (uu || (q3 == nm || r2 == nm)) := hst
                  have i3 : wz.cell? ⟨ib, io + j * 11 + 3, none⟩ = some (.string ⟨q3.toArray⟩) := hcI 3 _ rfl
                  have i3' : wz.cell? ⟨ib, io + j * 11 + 1 + 2, none⟩ = some (.string ⟨q3.toArray⟩) := hcI 3 _ rfl
                  have i6 : wz.cell? ⟨ib, io + j * 11 + 6, none⟩ = some (.string ⟨r2.toArray⟩) := hcI 6 _ rfl
                  have i6' : wz.cell? ⟨ib, io + j * 11 + 5 + 1, none⟩ = some (.string ⟨r2.toArray⟩) := hcI 6 _ rfl
                  have Xz := hide (Xy.out.ext G)
                  clear hcI
                  replace G := hide G
                  replace hst := hide hst
                  have Xz_0 : wz.cell? ⟨g7, 0, none⟩ = some (.slice (some ⟨ib, io, none⟩) IP.length y1) := Xz.out.cell 0
                  have Xz_1 : wz.cell? ⟨g7, 1, none⟩ = some (.slice (some ⟨zb, zo, none⟩) ls.length y2) := Xz.out.cell 1
                  cases uu with
                  | true =>
                    go_upto_region 26 with fail
                    go_quiet (fail)
                    go_wp2_with fail
                    clear zc2 i3 i3' i6 i6'
                    go_roundw
                    case rel => exact ⟨j + 1, by omega, by go_num, by rw [hst.out]; rfl, G.out.drewN _⟩
                    case measure => simp [intOf]; omega
                  | false =>
                    generalize hc1 : (q3 == nm) = c1 at *
                    cases c1 with
                    | true =>
                      go_upto_region 26 with fail
                      go_quiet (fail)
                      go_wp2_with fail
                      clear zc2 i3 i3' i6 i6' hc1
                      go_roundw
                      case rel => exact ⟨j + 1, by omega, by go_num, by rw [hst.out]; rfl, G.out.drewN _⟩
                      case measure => simp [intOf]; omega
                    | false =>
                      generalize hc2 : (r2 == nm) = c2 at *
                      go_upto_region 26 with fail
                      go_quiet (fail)
                      go_wp2_with fail
                      clear zc2 i3 i3' i6 i6' hc1 hc2
                      clear Xz_0 Xz_1
                      go_roundw
                      case rel => exact ⟨j + 1, by omega, by go_num, by rw [hst.out]; rfl, G.out.drewN _⟩
                      case measure => simp [intOf]; omega
                · obtain rfl : j = IP.length := by omega
                  rw [List.take_length, hus.out]
                  clear hlj hj
                  replace G := hide (F.out.trans G)
                  go_wp2_with fail
                  go_roundw
                  case rel => exact ⟨k + 1, by omega, by go_num, G.out⟩
                  case measure => simp [intOf]; omega
            · obtain rfl : k = ls.length := by omega
              clear hlt hk hnm
              have M6 := M5.out.ext F
              have S6 := S5.out.ext F
              have E6 := E5.out.trans F
              have M7 : Blk (wy.setCell ⟨g0 + 1, 0, none⟩ (.string ⟨#[122, 122, 45, 110, 111, 110, 101]⟩)) (g0 + 1) 67 #[.string ⟨#[122, 122, 45, 110, 111, 110, 101]⟩, .int .i64 m.kind, .slice a1 m.items.length c1, .slice a2 m.comms.length c2, .slice a3 m.paths.length c3] := by simpa using M6.set_ 0 (.string ⟨#[122, 122, 45, 110, 111, 110, 101]⟩)
              have hgne : g7 ≠ g0 + 1 := by
                intro h
                subst h
                have h1 : some _ = some _ := (show wy.heap[g0 + 1]? = _ from Xy).symm.trans (show wy.heap[g0 + 1]? = _ from M6)
                injection h1 with h1
                injection h1 with h1 h2
                cases h2
              have X7 := Xy.far (p := ⟨g0 + 1, 0, none⟩) hgne (.string ⟨#[122, 122, 45, 110, 111, 110, 101]⟩)
              have S7 := S6.far (p := ⟨g0 + 1, 0, none⟩) (show g0 ≠ g0 + 1 by omega) (.string ⟨#[122, 122, 45, 110, 111, 110, 101]⟩)
              have E7 := E6.setCell (p := ⟨g0 + 1, 0, none⟩) (show w.heap.size ≤ g0 + 1 by have := hgw.out; omega) (.string ⟨#[122, 122, 45, 110, 111, 110, 101]⟩)
              have m0 : wy.cell? ⟨g0 + 1, 0, none⟩ = some (.string ⟨m.name.toArray⟩) := M6.cell 0
              have mf := fun i => M6.frozen i
              have xx1 : wy.cell? ⟨g7, 1, none⟩ = some (.slice x2 ls.length y2) := Xy.cell 1
              clear M6 S6 E6 Xy F o1x o2x Xx E5 M5 S5 hgne
              replace M7 := hide M7
              replace X7 := hide X7
              replace S7 := hide S7
              replace E7 := hide E7
              go_upto_region 31 with fail
              clear m0 mf xx1
              generalize wy.setCell ⟨g0 + 1, 0, none⟩ (.string ⟨#[122, 122, 45, 110, 111, 110, 101]⟩) = W8 at M7 X7 S7 E7 ⊢
              have hg8w := hide E7.out.size
              have hg8x := hide X7.out.lt
              have hg8s := hide S7.out.lt
              go_wp2_with (
                at_builtin
                go_must (refine wpList_pushAll (E := ESet) rfl _ _ _ rfl okSetE16 (by decide) (by decide) rfl rfl (by omega) (s2.out.ext E7.out) ?_)
                intro v' w5 hown hE5 hv5
                obtain ⟨va, vc, rfl⟩ := hown.form
                replace hown := hide hown
                replace hE5 := hide hE5
                replace hv5 := hide hv5)
              replace E7 := hide (E7.out.trans hE5.out)
              replace M7 := hide (M7.out.ext hE5.out)
              replace X7 := hide (X7.out.ext hE5.out)
              replace S7 := hide (S7.out.ext hE5.out)
              go_loopw [17] (fun i wx => ∃ k : Nat, k ≤ l.length ∧ i = .int .i64 k ∧ Ext w5 wx ∧ ∀ s ∈ l.take k, s.name ≠ zzN) (fun i _ => l.length - (intOf i).toNat)
              case atStart => exact ⟨0, Nat.zero_le _, rfl, Ext.refl _, fun s hs => by simp at hs⟩
              case round =>
                rename World => wz
                obtain ⟨k, hk, rfl, F, hno⟩ := hrel
                by_cases hlt : k < l.length
                · obtain ⟨bs, os, b1, d1, b2, d2, b3, d3, rfl, -, i0, i1, i2, i3, i4⟩ := ESet.at16 (s2.out.ext (E7.out.trans F)) k hlt
                  have hst : l[k].name ≠ zzN → ∀ s ∈ l.take (k + 1), s.name ≠ zzN := fun h s hs => by
                    rw [List.take_succ_eq_append_getElem hlt, List.mem_append, List.mem_singleton] at hs
                    rcases hs with hs | rfl
                    · exact hno s hs
                    · exact h
                  generalize l[k] = x at *
                  obtain ⟨nm, kd, I, C, P⟩ := x
                  dsimp only at *
                  have mz : wz.cell? ⟨g0 + 1, 0, none⟩ = some (.string ⟨#[122, 122, 45, 110, 111, 110, 101]⟩) := (M7.out.ext F).cell 0
                  have EE := E7.out.trans F
                  clear i1 i2 i3 i4
                  by_cases he : nm = [122, 122, 45, 110, 111, 110, 101]
                  · subst he
                    replace EE := hide EE
                    clear hst hno F
                    go_upto_region 35 with fail
                    go_quiet (fail)
                    go_wp2_with fail
                    go_ret
                    exact ⟨rfl, EE.out.drewN _⟩
                  · have e1 : (nm == [122, 122, 45, 110, 111, 110, 101]) = false := beq_eq_false_iff_ne.2 he
                    have hst2 := hst he
                    clear hst hno he
                    replace hst2 := hide hst2
                    replace F := hide F
                    replace EE := hide EE
                    go_upto_region 35 with fail
                    go_quiet (fail)
                    go_wp2_with fail
                    clear i0 mz e1
                    go_roundw
                    case rel => exact ⟨k + 1, by omega, by go_num, F.out.drewN _, hst2.out⟩
                    case measure => simp [intOf]; omega
                · obtain rfl : k = l.length := by omega
                  rw [List.take_length] at hno
                  have hw1 := hw0.out zzN hno
                  clear hlt hk hno hw0
                  have E10 := (E7.out.trans F).alloc (Obj.cells #[.string ⟨#[122, 122, 45, 110, 111, 110, 101]⟩, .int .i64 m.kind, .slice a1 m.items.length c1, .slice a2 m.comms.length c2, .slice a3 m.paths.length c3] 67)
                  have hox := (hown.out.ext F).alloc (Obj.cells #[.string ⟨#[122, 122, 45, 110, 111, 110, 101]⟩, .int .i64 m.kind, .slice a1 m.items.length c1, .slice a2 m.comms.length c2, .slice a3 m.paths.length c3] 67)
                  have X10 := (X7.out.ext F).alloc (Obj.cells #[.string ⟨#[122, 122, 45, 110, 111, 110, 101]⟩, .int .i64 m.kind, .slice a1 m.items.length c1, .slice a2 m.comms.length c2, .slice a3 m.paths.length c3] 67)
                  have S10 := (S7.out.ext F).alloc (Obj.cells #[.string ⟨#[122, 122, 45, 110, 111, 110, 101]⟩, .int .i64 m.kind, .slice a1 m.items.length c1, .slice a2 m.comms.length c2, .slice a3 m.paths.length c3] 67)
                  have M9 := M7.out.ext F
                  have hcell := cells_new wz #[.string ⟨#[122, 122, 45, 110, 111, 110, 101]⟩, .int .i64 m.kind, .slice a1 m.items.length c1, .slice a2 m.comms.length c2, .slice a3 m.paths.length c3] 67
                  have hvo : ∀ q, (Value.slice va l.length vc).ownBlock = some q → w.heap.size ≤ q ∧ g7 < q ∧ g0 < q := fun q hq => by
                    have h2 := hv5.out q hq
                    have h3 := hg8w.out
                    have h4 := hg8x.out
                    have h5 := hg8s.out
                    omega
                  have hsz : w.heap.size ≤ (wz.alloc (Obj.cells #[.string ⟨#[122, 122, 45, 110, 111, 110, 101]⟩, .int .i64 m.kind, .slice a1 m.items.length c1, .slice a2 m.comms.length c2, .slice a3 m.paths.length c3] 67)).heap.size := E10.size
                  have hmn : ∀ b, b < w.heap.size → 0 ≤ b ∧ b < (wz.alloc (Obj.cells #[.string ⟨#[122, 122, 45, 110, 111, 110, 101]⟩, .int .i64 m.kind, .slice a1 m.items.length c1, .slice a2 m.comms.length c2, .slice a3 m.paths.length c3] 67)).heap.size ∧ some b ≠ (Value.slice va l.length vc).ownBlock := fun b hb => ⟨Nat.zero_le _, by omega, fun e => by have := (hvo b e.symm).1; omega⟩
                  have h1 := (hi.out.frame (w' := wz.alloc (Obj.cells #[.string ⟨#[122, 122, 45, 110, 111, 110, 101]⟩, .int .i64 m.kind, .slice a1 m.items.length c1, .slice a2 m.comms.length c2, .slice a3 m.paths.length c3] 67)) fun b hb => E10.block b hb).mono hmn
                  have hER : ESet.R (wz.alloc (Obj.cells #[.string ⟨#[122, 122, 45, 110, 111, 110, 101]⟩, .int .i64 m.kind, .slice a1 m.items.length c1, .slice a2 m.comms.length c2, .slice a3 m.paths.length c3] 67)) (fun b => 0 ≤ b ∧ b < (wz.alloc (Obj.cells #[.string ⟨#[122, 122, 45, 110, 111, 110, 101]⟩, .int .i64 m.kind, .slice a1 m.items.length c1, .slice a2 m.comms.length c2, .slice a3 m.paths.length c3] 67)).heap.size ∧ some b ≠ (Value.slice va l.length vc).ownBlock) ⟨zzN, m.kind, m.items, m.comms, m.paths⟩ [.string ⟨#[122, 122, 45, 110, 111, 110, 101]⟩, .int .i64 m.kind, .slice a1 m.items.length c1, .slice a2 m.comms.length c2, .slice a3 m.paths.length c3] :=
                    ESet.iff.2 ⟨a1, c1, a2, c2, a3, c3, rfl, (show zzN.length ≤ 1048576 by decide), h1.kind, h1.nItems, h1.items, h1.nComms, h1.comms, h1.nPaths, h1.paths⟩
                  replace hcell : ∀ (j : Nat) (u : Value), ([.string ⟨#[122, 122, 45, 110, 111, 110, 101]⟩, .int .i64 m.kind, .slice a1 m.items.length c1, .slice a2 m.comms.length c2, .slice a3 m.paths.length c3] : List Value)[j]? = some u → _ := hcell
                  clear hmn h1 hsz F E7 X7 S7 M7 hown hi hv5 hg8w hg8x hg8s s2 hE5
                  replace E10 := hide E10
                  replace hox := hide hox
                  replace X10 := hide X10
                  replace S10 := hide S10
                  replace M9 := hide M9
                  replace hcell := hide hcell
                  replace hER := hide hER
                  replace hvo := hide hvo
                  replace hw1 := hide hw1
                  have M9_0 : wz.cell? ⟨g0 + 1, 0, none⟩ = some (.string ⟨#[122, 122, 45, 110, 111, 110, 101]⟩) := M9.out.cell 0
                  have M9_1 : wz.cell? ⟨g0 + 1, 1, none⟩ = some (.int .i64 m.kind) := M9.out.cell 1
                  have M9_2 : wz.cell? ⟨g0 + 1, 2, none⟩ = some (.slice a1 m.items.length c1) := M9.out.cell 2
                  have M9_3 : wz.cell? ⟨g0 + 1, 3, none⟩ = some (.slice a2 m.comms.length c2) := M9.out.cell 3
                  have M9_4 : wz.cell? ⟨g0 + 1, 4, none⟩ = some (.slice a3 m.paths.length c3) := M9.out.cell 4
                  go_upto_region 38 with (
                    at_builtin
                    go_must (refine wpList_push (E := ESet) (l := l) rfl _ _ _ rfl okSetE16 (by decide) (by decide) rfl hox.out (by omega) (Nat.zero_le _) rfl hER.out hcell.out ?_)
                    intro v' w6 hown1 hg6 hat6
                    obtain ⟨ve, vf, hv1⟩ := hown1.form
                    rw [List.length_append, List.length_singleton] at hv1
                    subst hv1
                    replace hown1 := hide hown1)
                  clear M9_0 M9_1 M9_2 M9_3 M9_4
                  have E11 := E10.out.push (fun q hq => (hvo.out q hq).1) hg6
                  have X11 := X10.out.grown hg6 (fun h => by have := (hvo.out g7 h.symm).2.1; omega)
                  have S11 := S10.out.grown hg6 (fun h => by have := (hvo.out g0 h.symm).2.2; omega)
                  have q := qc2.out w6 E11 ve vf (l ++ [⟨zzN, m.kind, m.items, m.comms, m.paths⟩]) (by rw [List.length_append, List.length_singleton]; omega) (own_slK hown1.out)
                  rw [List.length_append, List.length_singleton] at q
                  clear hg6 hat6 hown1 hox hcell hER hvo X10 S10 E10 M9 qc2
                  replace E11 := hide E11
                  replace X11 := hide X11
                  replace S11 := hide S11
                  replace q := hide q
                  have S11_0 : w6.cell? ⟨g0, 0, none⟩ = some (.string ⟨p.name.toArray⟩) := S11.out.cell 0
                  have S11_1 : w6.cell? ⟨g0, 1, none⟩ = some (.slice a T.length ca) := S11.out.cell 1
                  have S11_2 : w6.cell? ⟨g0, 2, none⟩ = some (.bool els) := S11.out.cell 2
                  go_wp2_with fail
                  clear S11_0 S11_1 S11_2
                  (with_reducible refine q.out.mono ?_)
                  rintro e W9 ⟨he, ho⟩
                  have E12 := E11.out.trans he
                  have X12 := X11.out.ext he
                  clear he q S11 E11 X11
                  rcases ho with ⟨hr2, rfl⟩ | ⟨hr2, v1', v2', ls', mm', rfl, -, -, o1', o2', hmap', -⟩
                  · have h2 : checkP p (l ++ [⟨zzN, m.kind, m.items, m.comms, m.paths⟩]) = 2 := by
                      rcases hw1.out with h | ⟨h, _⟩
                      · exact h
                      · exact absurd h hr2
                    rw [h2]
                    have E13 := hide (E12.alloc (Obj.cells #[.slice none 0 0, .slice none 0 0] 56))
                    clear hr2 h2 hw1 E12 X12
                    go_wp2_with fail
                    go_ret
                    exact ⟨rfl, E13.out⟩
                  · have hsp : setsP p (l ++ [⟨zzN, m.kind, m.items, m.comms, m.paths⟩]) = SP := by
                      rcases hw1.out with h | ⟨_, h⟩
                      · rw [h] at hr2; cases hr2
                      · exact h
                    have hl2 : ls'.length = ls.length := by rw [← hlen2.out, ← hsp, ← hmap', List.length_map]
                    obtain ⟨x1', y1', rfl⟩ := o1'.form
                    obtain ⟨x2', y2', rfl⟩ := o2'.form
                    clear hsp hmap' hr2 hw1 o1' o2'
                    rw [hl2]
                    clear hl2
                    have E13 := hide (E12.alloc (Obj.cells #[.slice x1' IP.length y1', .slice x2' ls.length y2'] 56))
                    have X13 := X12.alloc (Obj.cells #[.slice x1' IP.length y1', .slice x2' ls.length y2'] 56)
                    have xx0 : (W9.alloc (Obj.cells #[.slice x1' IP.length y1', .slice x2' ls.length y2'] 56)).cell? ⟨g7, 0, none⟩ = some _ := X13.cell 0
                    have xx1 : (W9.alloc (Obj.cells #[.slice x1' IP.length y1', .slice x2' ls.length y2'] 56)).cell? ⟨g7, 1, none⟩ = some _ := X13.cell 1
                    have ee1 : ((IP.length : Int) == (IP.length : Int)) = true := by simp
                    have ee2 : ((ls.length : Int) == (ls.length : Int)) = true := by simp
                    clear E12 X12 X13
                    go_wp2_with fail
                    go_ret
                    exact ⟨rfl, E13.out⟩
end Go.Proofs.YtljibkfbldjgdaaGreatDoor
