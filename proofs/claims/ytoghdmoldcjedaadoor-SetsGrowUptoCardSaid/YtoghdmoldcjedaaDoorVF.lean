/- Walks: the law's own small lists: ASs of bytes, patterns of bytes, patterns joined. Walks: the law's p; the chapter's example (works). -/
import Derived.Test.YtoghdmoldcjedaaDoorVE
import Derived.Deep.Cut
import Derived.Test.YtoghdmoldcjedaaDoorS9
import Derived.Deep.RegionHeld3
namespace Go.Proofs.YtoghdmoldcjedaaDoor
open Go.RowKit Go.Sort
set_option linter.unusedVariables false

def fewOf (x : UInt8) : UInt32 := UInt32.ofNat (1 + x.toNat % 4)
def fewS (l : List UInt8) : List UInt32 := (l.take 12).map fewOf
def atomOf (x : UInt8) : Atm := if x.toNat % 3 = 0 then (1, UInt32.ofNat (1 + x.toNat / 3 % 4)) else (1 + (x.toNat % 3 : Nat), 0)
def atomsS (l : List UInt8) : List Atm := (l.take 10).map atomOf
theorem few_nat (x : UInt8) : (fewOf x).toNat = 1 + x.toNat % 4 := by unfold fewOf; rw [UInt32.toNat_ofNat']; omega
theorem atomOf_ok (x : UInt8) : atmOk (atomOf x) = true := by
  unfold atomOf
  split
  · unfold atmOk
    have : (UInt32.ofNat (1 + x.toNat / 3 % 4)).toNat = 1 + x.toNat / 3 % 4 := by rw [UInt32.toNat_ofNat']; omega
    simp only [this]
    simp
    omega
  · rename_i h
    have h1 : x.toNat % 3 = 1 ∨ x.toNat % 3 = 2 := by omega
    rcases h1 with h1 | h1 <;> rw [h1] <;> decide
theorem atomsS_ok (l : List UInt8) : atmsOk (atomsS l) = true := by
  unfold atmsOk atomsS
  rw [Bool.and_eq_true, List.all_eq_true, decide_eq_true_eq]
  refine ⟨fun a ha => ?_, by simp; omega⟩
  obtain ⟨x, _, rfl⟩ := List.mem_map.1 ha
  exact atomOf_ok x
theorem okU32' : ElemOk Tryd.prog 25 50 EU32.sz 4 := elemOk (z := .int .u32 0) Tryd.underlying25 (by kernel_rfl) rfl
theorem EU8.at {w : World} {S : Nat → Prop} {a : Option Addr} {l : List UInt8} (h : Sl EU8 w S a l) (k : Nat) (hk : k < l.length) :
    ∃ b off, a = some ⟨b, off, none⟩ ∧ S b ∧ w.cell? ⟨b, off + k, none⟩ = some (.int .u8 (l[k].toNat : Int)) := by
  obtain ⟨b, off, cs, rfl, hb, ⟨rfl, _⟩, hc⟩ := h.at k hk
  have h0 := hc 0 _ rfl
  simp only [EU8, Enc.flat, Nat.mul_one, Nat.add_zero] at h0
  exact ⟨b, off, rfl, hb, h0⟩
set_option maxRecDepth 20000 in
set_option maxHeartbeats 1000000 in
theorem Few_any (a : Option Addr) (c : Nat) (l : List UInt8) (w : World) (hl : l.length ≤ 16777216) (hs : Sl EU8 w (· < w.heap.size) a l) :
    Calls Tryd.prog 6 #[.slice a l.length c] w fun e w' => (∃ v, e = .returned v ∧ Own EU32 50 w' w.heap.size v (fewS l)) ∧ Ext w w' := by
  replace hs := hide hs
  go_enter Tryd.func6, Tryd.ntmps6
  go_wp2
  go_loopw [3, 4] (fun v i wr => ∃ k : Nat, k ≤ 12 ∧ k ≤ l.length ∧ i = .int .i64 k ∧ Own EU32 50 wr w.heap.size v ((l.take k).map fewOf) ∧ Ext w wr) (fun _ i _ => 12 - (intOf i).toNat)
  case atStart => exact ⟨0, by omega, Nat.zero_le _, rfl, Own.nil, Ext.refl _⟩
  case round =>
    obtain ⟨k, hk, hkl, rfl, hown, hE⟩ := hrel
    have hsz := hE.size
    replace hown := hide hown
    replace hE := hide hE
    by_cases hlt : k < l.length ∧ k < 12
    · obtain ⟨hl1, hl2⟩ := hlt
      obtain ⟨b, off, rfl, _, x0⟩ := EU8.at (hs.out.ext hE.out) k hl1
      have e1 : decide ((k : Int) < (l.length : Int)) = true := decide_eq_true (by omega)
      have e2 : decide ((k : Int) < 12) = true := decide_eq_true (by omega)
      have hnx : (l.take (k + 1)).map fewOf = (l.take k).map fewOf ++ [fewOf l[k]] := by rw [List.take_succ_eq_append_getElem hl1, List.map_append]; rfl
      have hln : ((l.take k).map fewOf).length ≤ 12 := by simp; omega
      have hfn := few_nat l[k]
      have hx := l[k].toNat_lt
      have hv : ((fewOf l[k]).toNat : Int) = 1 + (l[k].toNat : Int) % 4 := by rw [hfn]; omega
      generalize fewOf l[k] = y at hnx hv
      generalize l[k].toNat = z at x0 hv hx
      clear hfn
      replace hnx := hide hnx
      replace hln := hide hln
      have hcs : ∀ j u, [Value.int .u32 (y.toNat : Int)][j]? = some u → (wr.alloc (Obj.cells #[.int .u32 (1 + (z : Int) % 4)] 50)).cell? ((⟨wr.heap.size, 0, none⟩ : Addr).add j) = some u := by
        rw [hv]
        exact cells_new wr #[.int .u32 (1 + (z : Int) % 4)] 50
      clear hv
      replace hcs := hide hcs
      go_wp2_with (at_builtin
                   have hox := hown.out.alloc (Obj.cells #[.int .u32 (1 + (z : Int) % 4)] 50)
                   refine wpList_push (E := EU32) rfl _ _ _ rfl okU32' (by decide) (by decide) rfl hox (by have := hln.out; omega) (by simp; omega) rfl (y := y) (cs := [.int .u32 (y.toNat : Int)]) ⟨rfl, trivial⟩ hcs.out ?_
                   intro v' w5 hown1 hg hat)
      go_roundw
      case rel => exact ⟨k + 1, by omega, by omega, by go_num, by rw [hnx.out]; exact hown1, (hE.out.alloc _).push (fun j hj => (hown.out.lt j hj).1) hg⟩
      case measure => simp [intOf]; omega
    · have hend : (l.take k).map fewOf = fewS l := by
        unfold fewS
        by_cases h : k < l.length
        · obtain rfl : k = 12 := by omega
          rfl
        · rw [List.take_of_length_le (by omega), List.take_of_length_le (by omega)]
      rw [hend] at hown
      by_cases h : k < l.length
      · have e1 : decide ((k : Int) < (l.length : Int)) = true := decide_eq_true (by omega)
        have e2 : decide ((k : Int) < 12) = false := decide_eq_false (by omega)
        clear hend hlt
        go_wp2
        go_ret
        exact ⟨⟨_, rfl, hown.out⟩, hE.out⟩
      · have e1 : decide ((k : Int) < (l.length : Int)) = false := decide_eq_false (by omega)
        clear hend hlt
        go_wp2
        go_ret
        exact ⟨⟨_, rfl, hown.out⟩, hE.out⟩
set_option maxRecDepth 20000 in
set_option maxHeartbeats 2000000 in
theorem LAtoms_any (a : Option Addr) (c : Nat) (l : List UInt8) (w : World) (hl : l.length ≤ 16777216) (hs : Sl EU8 w (· < w.heap.size) a l) :
    Calls Tryd.prog 5 #[.slice a l.length c] w fun e w' => (∃ v, e = .returned v ∧ Own EAtm 52 w' w.heap.size v (atomsS l)) ∧ Ext w w' := by
  replace hs := hide hs
  go_enter Tryd.func5, Tryd.ntmps5
  go_wp2
  go_loopw [3, 4] (fun v i wr => ∃ k : Nat, k ≤ 10 ∧ k ≤ l.length ∧ i = .int .i64 k ∧ Own EAtm 52 wr w.heap.size v ((l.take k).map atomOf) ∧ Ext w wr) (fun _ i _ => 10 - (intOf i).toNat)
  case atStart => exact ⟨0, by omega, Nat.zero_le _, rfl, Own.nil, Ext.refl _⟩
  case round =>
    obtain ⟨k, hk, hkl, rfl, hown, hE⟩ := hrel
    have hsz := hE.size
    replace hown := hide hown
    replace hE := hide hE
    by_cases hlt : k < l.length ∧ k < 10
    · obtain ⟨hl1, hl2⟩ := hlt
      obtain ⟨b, off, rfl, _, x0⟩ := EU8.at (hs.out.ext hE.out) k hl1
      have e1 : decide ((k : Int) < (l.length : Int)) = true := decide_eq_true (by omega)
      have e2 : decide ((k : Int) < 10) = true := decide_eq_true (by omega)
      have hnx : (l.take (k + 1)).map atomOf = (l.take k).map atomOf ++ [atomOf l[k]] := by rw [List.take_succ_eq_append_getElem hl1, List.map_append]; rfl
      have hln : ((l.take k).map atomOf).length ≤ 10 := by simp; omega
      have hx := l[k].toNat_lt
      have hao : atomOf l[k] = if l[k].toNat % 3 = 0 then ((1, UInt32.ofNat (1 + l[k].toNat / 3 % 4)) : Atm) else ((1 + ((l[k].toNat % 3 : Nat) : Int), 0) : Atm) := rfl
      generalize atomOf l[k] = y at hnx hao
      generalize l[k].toNat = z at x0 hao hx
      replace hnx := hide hnx
      replace hln := hide hln
      have A := Blk.new wr 52 #[.int .i64 (1 + (z : Int) % 3), .int .u32 0]
      have E1 := (Ext.refl wr).alloc (Obj.cells #[.int .i64 (1 + (z : Int) % 3), .int .u32 0] 52)
      go_upto_region 6 with fail
      generalize hW1 : wr.alloc (Obj.cells #[.int .i64 (1 + (z : Int) % 3), .int .u32 0] 52) = W1 at A E1 ⊢
      generalize hg : wr.heap.size = g at A ⊢
      have hgw : wr.heap.size ≤ g := Nat.le_of_eq hg
      have A_0 : W1.cell? ⟨g, 0, none⟩ = some (.int .i64 (1 + (z : Int) % 3)) := A.cell 0
      have A_1 : W1.cell? ⟨g, 1, none⟩ = some (.int .u32 0) := A.cell 1
      have A_f := fun i => A.frozen i
      by_cases h3 : z % 3 = 0
      · rw [if_pos h3] at hao
        have e3 : (1 + (z : Int) % 3 == 1) = true := by rw [beq_iff_eq]; omega
        have A2 := A.set_ 1 (.int .u32 (1 + (z : Int) / 3 % 4))
        have E2 := E1.setCell (p := ⟨g, 1, none⟩) hgw (.int .u32 (1 + (z : Int) / 3 % 4))
        generalize hW2 : W1.setCell ⟨g, 1, none⟩ (.int .u32 (1 + (z : Int) / 3 % 4)) = W2 at A2 E2
        have B_0 : W2.cell? ⟨g, 0, none⟩ = some (.int .i64 (1 + (z : Int) % 3)) := A2.cell 0
        have B_1 : W2.cell? ⟨g, 1, none⟩ = some (.int .u32 (1 + (z : Int) / 3 % 4)) := A2.cell 1
        have x0' : W1.cell? ⟨b, off + k, none⟩ = some (.int .u8 (z : Int)) := E1.cell x0
        have hyc : atmCs y = [.int .i64 (1 + (z : Int) % 3), .int .u32 (1 + (z : Int) / 3 % 4)] := by
          rw [hao]
          unfold atmCs
          have h1 : (1 : Int) + (z : Int) % 3 = 1 := by omega
          have h2 : (((UInt32.ofNat (1 + z / 3 % 4)).toNat : Nat) : Int) = 1 + (z : Int) / 3 % 4 := by rw [UInt32.toNat_ofNat']; omega
          dsimp only
          rw [h1, h2]
        have hyi := hide (show i64 y.1 by rw [hao]; unfold i64; dsimp only; omega)
        clear hao h3 A A2
        replace E1 := hide E1
        replace E2 := hide E2
        have hcs : ∀ j u, (atmCs y)[j]? = some u → (W2.alloc (Obj.cells #[.int .i64 (1 + (z : Int) % 3), .int .u32 (1 + (z : Int) / 3 % 4)] 52)).cell? ((⟨W2.heap.size, 0, none⟩ : Addr).add j) = some u := by
          rw [hyc]
          exact cells_new W2 #[.int .i64 (1 + (z : Int) % 3), .int .u32 (1 + (z : Int) / 3 % 4)] 52
        have hown2 := hide (hown.out.ext E2.out)
        have hszW := E2.out.size
        have hE3 := hide (hE.out.trans E2.out)
        clear hyc hown hE
        replace hcs := hide hcs
        go_wp2_with (at_builtin
                     have hox := hown2.out.alloc (Obj.cells #[.int .i64 (1 + (z : Int) % 3), .int .u32 (1 + (z : Int) / 3 % 4)] 52)
                     refine wpList_push (E := EAtm) rfl _ _ _ rfl okAtm (by decide) (by decide) rfl hox (by have := hln.out; omega) (by simp; omega) rfl (y := y) (cs := atmCs y) ⟨rfl, hyi.out⟩ hcs.out ?_
                     intro v' w5 hown1 hg hat)
        go_roundw
        case rel => exact ⟨k + 1, by omega, by omega, by go_num, by rw [hnx.out]; exact hown1, (hE3.out.alloc _).push (fun j hj => (hown2.out.lt j hj).1) hg⟩
        case measure => simp [intOf]; omega
      · rw [if_neg h3] at hao
        have e3 : (1 + (z : Int) % 3 == 1) = false := by rw [beq_eq_false_iff_ne]; omega
        have hyc : atmCs y = [.int .i64 (1 + (z : Int) % 3), .int .u32 0] := by
          rw [hao]
          unfold atmCs
          congr 2
        have hyi := hide (show i64 y.1 by rw [hao]; unfold i64; dsimp only; omega)
        clear hao h3 A
        replace E1 := hide E1
        have hcs : ∀ j u, (atmCs y)[j]? = some u → (W1.alloc (Obj.cells #[.int .i64 (1 + (z : Int) % 3), .int .u32 0] 52)).cell? ((⟨W1.heap.size, 0, none⟩ : Addr).add j) = some u := by
          rw [hyc]
          exact cells_new W1 #[.int .i64 (1 + (z : Int) % 3), .int .u32 0] 52
        have hown2 := hide (hown.out.ext E1.out)
        have hszW := E1.out.size
        have hE3 := hide (hE.out.trans E1.out)
        clear hyc hown hE
        replace hcs := hide hcs
        go_wp2_with (at_builtin
                     have hox := hown2.out.alloc (Obj.cells #[.int .i64 (1 + (z : Int) % 3), .int .u32 0] 52)
                     refine wpList_push (E := EAtm) rfl _ _ _ rfl okAtm (by decide) (by decide) rfl hox (by have := hln.out; omega) (by simp; omega) rfl (y := y) (cs := atmCs y) ⟨rfl, hyi.out⟩ hcs.out ?_
                     intro v' w5 hown1 hg hat)
        go_roundw
        case rel => exact ⟨k + 1, by omega, by omega, by go_num, by rw [hnx.out]; exact hown1, (hE3.out.alloc _).push (fun j hj => (hown2.out.lt j hj).1) hg⟩
        case measure => simp [intOf]; omega
    · have hend : (l.take k).map atomOf = atomsS l := by
        unfold atomsS
        by_cases h : k < l.length
        · obtain rfl : k = 10 := by omega
          rfl
        · rw [List.take_of_length_le (by omega), List.take_of_length_le (by omega)]
      rw [hend] at hown
      by_cases h : k < l.length
      · have e1 : decide ((k : Int) < (l.length : Int)) = true := decide_eq_true (by omega)
        have e2 : decide ((k : Int) < 10) = false := decide_eq_false (by omega)
        clear hend hlt
        go_wp2
        go_ret
        exact ⟨⟨_, rfl, hown.out⟩, hE.out⟩
      · have e1 : decide ((k : Int) < (l.length : Int)) = false := decide_eq_false (by omega)
        clear hend hlt
        go_wp2
        go_ret
        exact ⟨⟨_, rfl, hown.out⟩, hE.out⟩
theorem EAtm_one : ∀ x : Atm, ∀ u ∈ atmCs x, u.oneCell' = true := fun x u hu => by
  simp only [atmCs, List.mem_cons, List.not_mem_nil, or_false] at hu
  rcases hu with rfl | rfl <;> rfl
set_option maxRecDepth 20000 in
set_option maxHeartbeats 1000000 in
theorem LJoin_any (a : Option Addr) (c : Nat) (l : List (List Atm)) (w : World) (hl : l.length ≤ 64) (hlen : ∀ x ∈ l, x.length ≤ 64) (hs : Sl EAtm.slice w (· < w.heap.size) a l) :
    Calls Tryd.prog 8 #[.slice a l.length c] w fun e w' => (∃ v, e = .returned v ∧ Own EAtm 52 w' w.heap.size v l.flatten) ∧ Ext w w' := by
  replace hs := hide hs
  replace hlen := hide hlen
  go_enter Tryd.func8, Tryd.ntmps8
  go_wp2
  go_loopw [3, 4] (fun v i wr => ∃ k : Nat, k ≤ l.length ∧ i = .int .i64 k ∧ Own EAtm 52 wr w.heap.size v (l.take k).flatten ∧ (l.take k).flatten.length ≤ 64 * k ∧ Ext w wr) (fun _ i _ => l.length - (intOf i).toNat)
  case atStart => exact ⟨0, Nat.zero_le _, rfl, Own.nil, Nat.le_refl _, Ext.refl _⟩
  case round =>
    obtain ⟨k, hk, rfl, hown, hfl, hE⟩ := hrel
    have hsz := hE.size
    replace hown := hide hown
    replace hE := hide hE
    by_cases hlt : k < l.length
    · obtain ⟨b, off, ak, ck, rfl, _, x0, hm, hsk⟩ := EPat.at (hs.out.ext hE.out) k hlt
      have hk64 := hlen.out l[k] (List.getElem_mem hlt)
      have hnx : (l.take (k + 1)).flatten = (l.take k).flatten ++ l[k] := by rw [List.take_succ_eq_append_getElem hlt, List.flatten_append]; simp
      generalize l[k] = y at *
      replace hnx := hide hnx
      replace hsk := hide hsk
      go_wp2_with (at_builtin
                   refine wpList_pushesC (f := atmCs) (P := fun a => i64 a.1) (n := 2) (hn := fun _ => rfl) (h1 := EAtm_one) rfl _ _ _ rfl (by decide) okAtm (by decide) rfl hown.out hsz rfl (by omega) hsk.out ?_
                   intro v' w5 hown1 hg hat)
      go_roundw
      case rel => exact ⟨k + 1, by omega, by go_num, by rw [hnx.out]; exact hown1, by rw [hnx.out, List.length_append]; omega, hE.out.push (fun j hj => (hown.out.lt j hj).1) hg⟩
      case measure => simp [intOf]; omega
    · obtain rfl : k = l.length := by omega
      rw [List.take_length] at hown
      go_wp2
      go_ret
      exact ⟨⟨_, rfl, hown.out⟩, hE.out⟩
open Go.RowKit Go.Sort

set_option maxRecDepth 20000 in
set_option maxHeartbeats 1000000 in
theorem LP_any (s : List UInt8) (q : Pfx) (c : Int) (hs : s.length ≤ 1048576) (hp : parseC s = (q, c)) (w : World) (hT : Tab w) (hD : Deb w) (hV : Vars w) :
    Calls Tryd.prog 17 #[.string ⟨s.toArray⟩] w fun e w' => e = .returned (.agg #[.int .i64 q.fam, .int .u64 (q.rd : Int), .string ⟨q.addr.toArray⟩, .int .i64 q.len]) ∧ Ext w w' := by
  have qp := fun W (h : Ext w W) => AParse_any s hs W (hT.ext h) (hD.ext h) (hV.ext h)
  unfold PsP at qp
  rw [hp] at qp
  simp only [valP] at qp
  obtain ⟨f, rd, ad, ln⟩ := q
  dsimp only at *
  clear hp hT hD hV
  replace qp := hide qp
  go_enter Tryd.func17, Tryd.ntmps17
  have R := Blk.new w 37 #[.int .i64 0, .int .u64 0, .string ⟨#[]⟩, .int .i64 0]
  have E := (Ext.refl w).alloc (Obj.cells #[.int .i64 0, .int .u64 0, .string ⟨#[]⟩, .int .i64 0] 37)
  generalize hW0 : w.alloc (Obj.cells #[.int .i64 0, .int .u64 0, .string ⟨#[]⟩, .int .i64 0] 37) = W0 at R E
  generalize hg0 : w.heap.size = g0 at R
  have hgw : w.heap.size ≤ g0 := Nat.le_of_eq hg0
  replace R := hide R
  replace E := hide E
  replace hgw := hide hgw
  go_wp2_with fail
  refine (qp.out _ E.out).mono ?_
  rintro e W1 ⟨rfl, he_⟩
  replace E := hide (E.out.trans he_)
  replace R := hide (R.out.ext he_)
  clear he_
  have R_0 : W1.cell? ⟨g0, 0, none⟩ = some (.int .i64 0) := R.out.cell 0
  have R_1 : W1.cell? ⟨g0, 1, none⟩ = some (.int .u64 0) := R.out.cell 1
  have R_2 : W1.cell? ⟨g0, 2, none⟩ = some (.string ⟨#[]⟩) := R.out.cell 2
  have R_3 : W1.cell? ⟨g0, 3, none⟩ = some (.int .i64 0) := R.out.cell 3
  clear hW0 hg0
  clear R_0 R_1 R_2 R_3
  have X := Blk.new W1 37 #[.int .i64 f, .int .u64 (rd : Int), .string ⟨ad.toArray⟩, .int .i64 ln]
  have hne : g0 ≠ W1.heap.size := Nat.ne_of_lt R.out.lt
  replace R := R.out.alloc (Obj.cells #[.int .i64 f, .int .u64 (rd : Int), .string ⟨ad.toArray⟩, .int .i64 ln] 37)
  replace E := E.out.alloc (Obj.cells #[.int .i64 f, .int .u64 (rd : Int), .string ⟨ad.toArray⟩, .int .i64 ln] 37)
  generalize hW2 : W1.alloc (Obj.cells #[.int .i64 f, .int .u64 (rd : Int), .string ⟨ad.toArray⟩, .int .i64 ln] 37) = W2 at R E X
  generalize hg1 : W1.heap.size = g1 at X hne
  have x0 : W2.cell? ⟨g1, 0, none⟩ = some (.int .i64 f) := X.cell 0
  have x1 : W2.cell? ⟨g1, 1, none⟩ = some (.int .u64 (rd : Int)) := X.cell 1
  have x2 : W2.cell? ⟨g1, 2, none⟩ = some (.string ⟨ad.toArray⟩) := X.cell 2
  have x3 : W2.cell? ⟨g1, 3, none⟩ = some (.int .i64 ln) := X.cell 3
  have y0 : W2.cell? ⟨g0, 0, none⟩ = some (.int .i64 0) := R.cell 0
  have y1 : W2.cell? ⟨g0, 1, none⟩ = some (.int .u64 0) := R.cell 1
  have y2 : W2.cell? ⟨g0, 2, none⟩ = some (.string ⟨#[]⟩) := R.cell 2
  have y3 : W2.cell? ⟨g0, 3, none⟩ = some (.int .i64 0) := R.cell 3
  have yf := fun i => R.frozen i
  have hZ := R.set4 (.int .i64 f) (.int .u64 (rd : Int)) (.string ⟨ad.toArray⟩) (.int .i64 ln)
  have hEZ := E.set4 hgw.out (.int .i64 f) (.int .u64 (rd : Int)) (.string ⟨ad.toArray⟩) (.int .i64 ln)
  replace hZ := hide hZ
  replace hEZ := hide hEZ
  replace R := hide R
  replace E := hide E
  replace X := hide X
  replace hne := hide hne
  go_wp2
  replace hZ := hZ.out
  replace hEZ := hEZ.out
  generalize ((((W2.setCell ⟨g0, 0, none⟩ (.int .i64 f)).setCell ⟨g0, 1, none⟩ (.int .u64 (rd : Int))).setCell ⟨g0, 2, none⟩ (.string ⟨ad.toArray⟩)).setCell ⟨g0, 3, none⟩ (.int .i64 ln)) = W3 at hZ hEZ ⊢
  have z0 : W3.cell? ⟨g0, 0, none⟩ = some (.int .i64 f) := hZ.cell 0
  have z1 : W3.cell? ⟨g0, 1, none⟩ = some (.int .u64 (rd : Int)) := hZ.cell 1
  have z2 : W3.cell? ⟨g0, 2, none⟩ = some (.string ⟨ad.toArray⟩) := hZ.cell 2
  have z3 : W3.cell? ⟨g0, 3, none⟩ = some (.int .i64 ln) := hZ.cell 3
  exact bodyPost_ret (v := .agg #[.int .i64 f, .int .u64 (rd : Int), .string ⟨ad.toArray⟩, .int .i64 ln]) (by simp [results, Tryd.results17, go_sem, z0, z1, z2, z3]) rfl ⟨rfl, hEZ⟩

def ex8 : Pfx := ⟨1, 0, [10, 0, 0, 0], 8⟩
def ex16 : Pfx := ⟨1, 0, [10, 1, 0, 0], 16⟩
def t8 : List UInt8 := [118, 52, 32, 49, 48, 46, 48, 46, 48, 46, 48, 47, 56]
def t16 : List UInt8 := [118, 52, 32, 49, 48, 46, 49, 46, 48, 46, 48, 47, 49, 54]
def exS : StS := ⟨[115], 1, [⟨ex8, 16, 24⟩], [], []⟩
def exA : List Atm := [(1, 1), (2, 0), (3, 0)]
theorem ex8_p : parseC t8 = (ex8, 0) := by rw [parseK_eq]; decide +kernel
theorem ex16_p : parseC t16 = (ex16, 0) := by rw [parseK_eq]; decide +kernel
theorem ex8_may : MayP ex8 := (mayK_iff _).2 (by decide +kernel)
theorem ex16_may : MayP ex16 := (mayK_iff _).2 (by decide +kernel)
theorem exA_p : parseA [49, 32, 46, 32, 42] = (exA, 0) := by decide +kernel
theorem exA_y : matchS exA [1, 2] = true := by decide
theorem exA_n : matchS exA [1] = false := by decide
theorem exS_ok : setOk exS = true := by
  unfold setOk itmsOk
  have h : itmOk ⟨ex8, 16, 24⟩ := ⟨ex8_may, by decide, by decide, by decide⟩
  have h1 : nameOk exS.name = true := by decide
  rw [h1, if_pos (show exS.kind = 1 from rfl)]
  show (true && (((decide (itmOk ⟨ex8, 16, 24⟩) && true) && _) && _)) = true
  rw [decide_eq_true h]
  rfl
theorem exS_y : setPfx exS ex16 = true := by
  unfold setPfx
  rw [exS_ok]
  show (true && (decide ((1 : Int) = 1) && (itmHas ex16 ⟨ex8, 16, 24⟩ || false))) = true
  have hc : Cov ex8 ex16 := ⟨ex16_may, by decide, by decide, by decide +kernel⟩
  unfold itmHas
  rw [decide_eq_true hc]
  decide
theorem exS_n : setPfx exS ex8 = false := by
  unfold setPfx
  show (_ && (_ && (itmHas ex8 ⟨ex8, 16, 24⟩ || false))) = false
  have h : itmHas ex8 ⟨ex8, 16, 24⟩ = false := by
    unfold itmHas
    rw [decide_eq_false (by decide), Bool.false_and]
  rw [h]
  simp
end Go.Proofs.YtoghdmoldcjedaaDoor
