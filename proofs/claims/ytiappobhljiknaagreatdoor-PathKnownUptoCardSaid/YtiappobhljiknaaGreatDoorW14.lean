/- A path in rows of its own that may be written; slices.DeleteFunc over the confederation's segments, in place; the path without the confederation's. -/
import Derived.Test.YtiappobhljiknaaGreatDoorA6
import Derived.Test.YtiappobhljiknaaGreatDoorA7
namespace Go.Proofs.YtiappobhljiknaaGreatDoor
open Go.RowKit
set_option linter.unusedVariables false

theorem Own.seg {w : World} {B g n c : Nat} {l : List Seg} (h : Own ESegW 24 w B (.slice (some ⟨g, 0, none⟩) n c) l) (k : Nat) (hk : k < l.length) :
    ∃ b cc, ESegW.R w (fun b => B ≤ b ∧ b < w.heap.size ∧ b ≠ g) l[k] [.int .i64 l[k].kind, .slice b l[k].as.length cc] ∧ w.cell? ⟨g, k * 2, none⟩ = some (.int .i64 l[k].kind) ∧ w.cell? ⟨g, k * 2 + 1, none⟩ = some (.slice b l[k].as.length cc) := by
  obtain ⟨cs, hR, hc⟩ := h.at0 k hk
  obtain ⟨c1, d1, rfl, ⟨rfl, hh⟩, b, cc, rfl, hm, hs, hf⟩ := hR
  exact ⟨b, cc, ⟨_, _, rfl, ⟨rfl, hh⟩, b, cc, rfl, hm, hs, hf⟩, hc 0 _ rfl, hc 1 _ rfl⟩

theorem zero_of {P : Program} {t : TypeId} {z : Value} {n m : Nat} (h : (P.info? t).map (fun i => (i.zero, i.size, i.bytes)) = some (some z, n, m)) (w : World) : (zeroValue t).run P w = .ok z w := by
  cases hi : P.info? t with
  | none => rw [hi] at h; cases h
  | some i =>
    rw [hi] at h
    simp only [Option.map_some, Option.some.injEq, Prod.mk.injEq] at h
    simp [zeroValue, typeInfo, hi, h.1]
theorem zeroSeg (w : World) : (zeroValue 24).run Tryz.prog w = .ok (.agg #[.int .i64 0, .slice none 0 0]) w := zero_of (n := 2) (m := 32) (by kernel_rfl) w

set_option maxRecDepth 20000 in
set_option maxHeartbeats 2000000 in
theorem DeleteFunc_any (v : Value) (B : Nat) (l : List Seg) (w : World) (hl : l.length ≤ 16777216) (hB : B ≤ w.heap.size) (hs : Own ESegW 24 w B v l) :
    Calls Tryz.prog 19 #[v, .func (.func 18) #[] #[]] w fun e w' => ∃ v', e = .returned v' ∧ Own ESegW 24 w' B v' (bareS l) ∧ Below B w w' := by
  obtain ⟨a, c, rfl, hcap, hp⟩ := hs.weak.toPath
  have hI := IndexFunc_confed a c l w hl hp
  replace hs := hide hs
  replace hp := hide hp
  rcases idxP_cases confP l with ⟨h1, _, h2⟩ | ⟨p, hpl, h1, _, h2, h3⟩
  · rw [h1] at hI
    replace hI := hide hI
    have hb := bareS_none h2
    clear h1 h2
    go_enter Tryz.func19, Tryz.ntmps19
    go_wp2_with (go_at_call 44; refine hI.out.mono ?_; rintro e w1 ⟨rfl, he⟩; replace he := hide he)
    go_ret
    exact ⟨_, rfl, by rw [hb]; exact hs.out.ext he.out, he.out.mono hB⟩
  · rw [h1] at hI
    replace hI := hide hI
    have hD := hide (Dele.start hpl (h2 hpl) h3)
    clear h1 h2 h3
    have hca : ∃ g, a = some ⟨g, 0, none⟩ := by
      obtain ⟨xs, ho, _⟩ := hs.out
      rcases ho.2 with ⟨hv, hz⟩ | ⟨g, cap, cur, hv, _⟩
      · injection hv with _ hv _
        omega
      · injection hv with hv _ _
        exact ⟨g, hv⟩
    obtain ⟨g, rfl⟩ := hca
    have hp1 : ((p : Int) == -1) = false := by rw [beq_eq_false_iff_ne]; omega
    go_enter Tryz.func19, Tryz.ntmps19
    go_wp2_with (go_at_call 44; refine hI.out.mono ?_; rintro e w1 ⟨rfl, he⟩)
    have o1 := hide (hs.out.ext he)
    have b1 := hide (he.mono hB)
    have hB1 : B ≤ w1.heap.size := Nat.le_trans hB he.size
    clear he hI hs hp
    go_loopw [5, 6] (fun i j wr => ∃ i' j' : Nat, ∃ l' : List Seg, i = .int .i64 i' ∧ j = .int .i64 j' ∧ Dele l l' i' j' ∧ Own ESegW 24 wr B (.slice (some ⟨g, 0, none⟩) l.length c) l' ∧ Below B w wr) (fun _ j _ => l.length - (intOf j).toNat)
    case atStart => exact ⟨p, p + 1, l, rfl, by go_num, hD.out, o1.out, b1.out⟩
    case round =>
      obtain ⟨i, j, l', rfl, rfl, hd, o2, b2⟩ := hrel
      have hle := hd.le
      replace hd := hide hd
      obtain ⟨hij, hjl, hll⟩ := hle
      have hBw : B ≤ wr.heap.size := Nat.le_of_lt (Nat.lt_of_le_of_lt o2.blockLt.1 o2.blockLt.2)
      have hgw := o2.blockLt.2
      by_cases hlt : j < l.length
      · obtain ⟨b, cc, hR, h0, h1⟩ := o2.seg j (by omega)
        rw [hd.out.at hlt (by omega)] at hR h0 h1
        replace o2 := hide o2
        replace b2 := hide b2
        replace hR := hide hR
        have hcall := hide (confed_any l[j].kind b l[j].as.length cc (wr.alloc (Obj.cells #[Value.int IntKind.i64 l[j].kind, Value.slice b l[j].as.length cc] 24)))
        by_cases hc : confP l[j] = true
        · replace hc := hide hc
          go_wp2_with (go_at_call 18; refine hcall.out.mono ?_; rw [show confB l[j].kind = true from hc.out]; rintro e w2 ⟨rfl, he⟩; replace he := hide (((Ext.refl _).alloc _).trans he))
          go_roundw
          case rel => exact ⟨i, j + 1, l', rfl, by go_num, hd.out.skip hlt hc.out, o2.out.ext he.out, b2.out.trans (he.out.mono hBw)⟩
          case measure => simp [intOf]; omega
        · replace hc : confP l[j] = false := by simpa using hc
          replace hc := hide hc
          go_wp2_with fail
          refine hcall.out.mono ?_
          rw [show confB l[j].kind = false from hc.out]
          rintro e w2 ⟨rfl, he⟩
          have j0 : w2.cell? ⟨wr.heap.size, 0, none⟩ = some (.int .i64 l[j].kind) := ((Blk.new wr 24 #[.int .i64 l[j].kind, .slice b l[j].as.length cc]).ext he).cell 0
          have j1 : w2.cell? ⟨wr.heap.size, 1, none⟩ = some (.slice b l[j].as.length cc) := ((Blk.new wr 24 #[.int .i64 l[j].kind, .slice b l[j].as.length cc]).ext he).cell 1
          have he1 : Ext wr w2 := ((Ext.refl _).alloc _).trans he
          have hsz2 := he1.size
          have o3 := o2.out.ext he1
          have f0 := o3.thaw (i * 2)
          have f1 := o3.thaw (i * 2 + 1)
          obtain ⟨bi, ci, _, g0, g1⟩ := o3.seg i (by omega)
          have hR2 := ESegW.frame (w' := w2) (fun b hb => he1.block b hb.2.1) hR.out
          have o4 := hide (o3.set2 rfl (show i < l'.length by omega) (ESegW.mono (fun b hb => ⟨hb.1, Nat.lt_of_lt_of_le hb.2.1 hsz2, hb.2.2⟩) hR2))
          replace o3 := hide o3
          replace hR2 := hide hR2
          replace he1 := hide he1
          clear he
          go_wp2
          go_roundw
          case rel => exact ⟨i + 1, j + 1, l'.set i l[j], by go_num, by go_num, hd.out.keep hlt hc.out, o4.out, ((b2.out.trans (he1.out.mono hBw)).setCell (Nat.le_of_lt_succ (Nat.lt_succ_of_le o2.out.blockLt.1)) _).setCell o2.out.blockLt.1 _⟩
          case measure => simp [intOf]; omega
      · obtain rfl : j = l.length := by omega
        have hdone := hd.out.done
        obtain ⟨w9, hcl, b9, o9⟩ := Own.clear_tail (P := Tryz.prog) (ty := 0) okSeg.1 zeroSeg rfl (by decide) o2 (show i + (l.length - i) = l.length by omega) (by omega) (c - i)
        rw [hdone] at o9
        replace hcl : (Builtin.clear_ #[27] 0 #[.slice (some ⟨g, i * 2, none⟩) (l.length - i) (c - i)]).run Tryz.prog wr = .ok (.tuple #[]) w9 := hcl
        replace b9 := hide (b2.trans b9)
        replace o9 := hide o9
        clear hdone o2 b2 hd
        have hic : i ≤ c := by omega
        have hil : i ≤ l.length := by omega
        have hlc : l.length ≤ c := by omega
        go_wp2
        go_ret
        have hlen := o9.out.lenEq
        exact ⟨_, rfl, o9.out, b9.out⟩
end Go.Proofs.YtiappobhljiknaaGreatDoor
