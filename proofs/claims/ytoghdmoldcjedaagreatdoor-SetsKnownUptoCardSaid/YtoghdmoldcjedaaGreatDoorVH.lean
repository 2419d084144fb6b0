/- Walks: the document's: may a pattern be, does it match, are two the same. Walks: two patterns compared. -/
import Derived.Test.YtoghdmoldcjedaaGreatDoorVB
import Derived.Test.YtoghdmoldcjedaaGreatDoorVE
import Derived.Laws.OwnMore
import Derived.Laws.StructEq
namespace Go.Proofs.YtoghdmoldcjedaaGreatDoor
open Go.RowKit Go.Sort
set_option linter.unusedVariables false

set_option maxHeartbeats 1000000 in
theorem RMayAtoms_any (a : Option Addr) (c : Nat) (l : List Atm) (w : World) (hl : l.length ≤ 16777216) (hs : Sl EAtm w (· < w.heap.size) a l) :
    Calls Tryz.prog 65 #[.slice a l.length c] w fun e w' => e = .returned (.bool (atmsOk l)) ∧ Ext w w' := by
  replace hs := hide hs
  go_enter Tryz.func65, Tryz.ntmps65
  go_wp2
  go_loopw [3] (fun i wr => ∃ k : Nat, k ≤ l.length ∧ i = .int .i64 k ∧ Ext w wr ∧ (l.take k).all atmOk = true) (fun i _ => l.length - (intOf i).toNat)
  case atStart => exact ⟨0, Nat.zero_le _, rfl, Ext.refl _, rfl⟩
  case round =>
    obtain ⟨k, hk, rfl, he, ha⟩ := hrel
    replace ha := hide ha
    replace he := hide he
    by_cases hlt : k < l.length
    · obtain ⟨b, off, rfl, _, hkd, x0, x1⟩ := EAtm.at (hs.out.ext he.out) k hlt
      have A := Blk.new wr 40 #[.int .i64 l[k].1, .int .u32 (l[k].2.toNat : Int)]
      have he' := hide (he.out.alloc (Obj.cells #[.int .i64 l[k].1, .int .u32 (l[k].2.toNat : Int)] 40))
      generalize hW : wr.alloc (Obj.cells #[.int .i64 l[k].1, .int .u32 (l[k].2.toNat : Int)] 40) = W at A he'
      generalize hg : wr.heap.size = g at A
      have A_0 : W.cell? ⟨g, 0, none⟩ = some (.int .i64 l[k].1) := A.cell 0
      have A_1 : W.cell? ⟨g, 1, none⟩ = some (.int .u32 (l[k].2.toNat : Int)) := A.cell 1
      replace A := hide A
      have hbad := fun h => allA_bad hlt h
      have hok := fun h : atmOk l[k] = true => (allA_succ l k hlt).trans (by rw [ha.out, h, Bool.true_and])
      have hcs := atm_cases l[k]
      generalize atmOk l[k] = ok at hbad hok hcs
      generalize l[k] = x at *
      obtain ⟨kd, av⟩ := x
      dsimp only at *
      replace hbad := hide hbad
      replace hok := hide hok
      rcases hcs with ⟨h1, rfl⟩ | ⟨h1, h3, rfl⟩ | ⟨h1, h3, b3, b4, e3, e4, e5⟩
      · have e1 : decide (kd < 1) = true := decide_eq_true h1
        clear h1
        go_wp2
        go_ret
        exact ⟨ret_bool (hbad.out (by trivial)).symm, he'.out⟩
      · have e1 : decide (kd < 1) = false := decide_eq_false (by omega)
        have e2 : decide (3 < kd) = true := decide_eq_true h3
        clear h1 h3
        go_wp2
        go_ret
        exact ⟨ret_bool (hbad.out (by trivial)).symm, he'.out⟩
      · have e1 : decide (kd < 1) = false := decide_eq_false (by omega)
        have e2 : decide (3 < kd) = false := decide_eq_false (by omega)
        clear h1 h3
        cases ok with
        | true =>
          rw [Bool.not_true] at e5
          cases b3 <;> cases b4 <;> first | exact absurd e5 (by decide) | (go_wp2; go_roundw; (case rel => exact ⟨k + 1, by omega, by go_num, he'.out, hok.out (by trivial)⟩); (case measure => simp [intOf]; omega))
        | false =>
          rw [Bool.not_false] at e5
          cases b3 <;> cases b4 <;> first | exact absurd e5 (by decide) | (go_wp2; go_ret; exact ⟨ret_bool (hbad.out (by trivial)).symm, he'.out⟩)
    · have hend : atmsOk l = decide (l.length ≤ 64) := by
        obtain rfl : k = l.length := by omega
        have := ha.out
        rw [List.take_length] at this
        unfold atmsOk
        rw [this, Bool.true_and]
      have hle : decide ((l.length : Int) ≤ 64) = decide (l.length ≤ 64) := decide_eq_decide.2 (by omega)
      rw [← hend] at hle
      clear hend
      go_wp2
      go_ret
      exact ⟨ret_bool rfl, he.out⟩


def bB (L : List Bool) : Array Value := (L.map fun b => Value.bool b).toArray
theorem bB_set (L : List Bool) (i : Nat) (b : Bool) : (bB L).setIfInBounds i (.bool b) = bB (L.set i b) := by
  unfold bB
  rw [List.setIfInBounds_toArray, ← List.map_set]
theorem bB_at (L : List Bool) (i : Nat) (h : i < L.length) : (bB L)[i]? = some (.bool L[i]) := by
  unfold bB
  rw [List.getElem?_toArray, List.getElem?_map, List.getElem?_eq_getElem h]
  rfl
theorem made_bB (n : Nat) : madeCells #[.bool false] (n * 1) = bB (List.replicate n false) := by
  unfold madeCells bB
  apply Array.ext
  · simp
  · intro i h1 h2
    simp [Nat.mod_one]
theorem run_makeBool (n : Nat) (h : n ≤ 16777216) (W : World) : (Instr.makeSlice 98 (.int .i64 ((n : Int) + 1)) (.int .i64 ((n : Int) + 1))).run Tryz.prog W = .ok (.slice (some ⟨W.heap.size, 0, none⟩) (n + 1) (n + 1)) (W.alloc (.cells (bB (List.replicate (n + 1) false)) 4)) := by
  have hi : (Tryz.prog.info? 4).map (fun i => (i.zero, i.size, i.bytes)) = some (some (.bool false), 1, 1) := by kernel_rfl
  cases hii : Tryz.prog.info? 4 with
  | none => rw [hii] at hi; cases hi
  | some i =>
    rw [hii] at hi
    simp only [Option.map_some, Option.some.injEq, Prod.mk.injEq] at hi
    have := run_make (P := Tryz.prog) W 98 4 i (.bool false) Tryz.underlying98 hii hi.1 .i64 .i64 ((n : Int) + 1) ((n : Int) + 1) (by omega) (by omega) (by rw [hi.2.2]; omega) (by omega)
    rw [this, hi.2.1, show ((n : Int) + 1).toNat = n + 1 by omega, show (Value.bool false).cells = #[.bool false] from rfl, made_bB]

set_option maxRecDepth 20000 in
set_option maxHeartbeats 4000000 in
theorem RMatch_any (a : Option Addr) (c : Nat) (p : List Atm) (b : Option Addr) (d : Nat) (l : List UInt32) (w : World) (hp : p.length ≤ 16777216) (hl : l.length ≤ 16777216) (hs : Sl EAtm w (· < w.heap.size) a p) (hs2 : Sl EU32 w (· < w.heap.size) b l) :
    Calls Tryz.prog 26 #[.slice a p.length c, .slice b l.length d] w fun e w' => e = .returned (.bool (matchS p l)) ∧ Ext w w' := by
  have q1 := RMayAtoms_any a c p w hp hs
  have hcs : ∃ ok : Bool, atmsOk p = ok ∧ matchS p l = (ok && matS p l) := ⟨_, rfl, rfl⟩
  obtain ⟨ok, e1, e2⟩ := hcs
  rw [e1] at q1
  rw [e2]
  clear e1 e2
  replace hs := hide hs
  replace hs2 := hide hs2
  replace q1 := hide q1
  cases ok with
  | false =>
    go_enter Tryz.func26, Tryz.ntmps26
    go_wp2_with fail
    refine q1.out.mono ?_
    rintro e W1 ⟨rfl, he⟩
    go_wp2
    go_ret
    exact ⟨rfl, he⟩
  | true =>
    rw [Bool.true_and]
    go_enter Tryz.func26, Tryz.ntmps26
    go_wp2_with fail
    refine q1.out.mono ?_
    rintro e W1 ⟨rfl, he⟩
    clear q1
    have mk := run_makeBool l.length hl W1
    have A := Blk.new W1 4 (bB (List.replicate (l.length + 1) false))
    have E := he.alloc (Obj.cells (bB (List.replicate (l.length + 1) false)) 4)
    generalize W1.alloc (Obj.cells (bB (List.replicate (l.length + 1) false)) 4) = W2 at mk A E
    have hgw := he.size
    generalize W1.heap.size = g at mk A hgw
    have A0 : W2.cell? ⟨g, 0, none⟩ = some (.bool false) := (A.cell 0).trans (bB_at _ 0 (by simp))
    have Af : W2.frozen? ⟨g, 0, none⟩ = false := A.frozen 0
    have A' := A.set_ 0 (.bool true)
    rw [bB_set, show (List.replicate (l.length + 1) false).set 0 true = rowA p l 0 from (rowA_zero p l).symm] at A'
    have E' := E.setCell (p := ⟨g, 0, none⟩) hgw (.bool true)
    clear A E he
    replace A' := hide A'
    replace E' := hide E'
    go_wp2
    clear mk A0 Af
    generalize W2.setCell ⟨g, 0, none⟩ (.bool true) = W3 at A' E' ⊢
    go_loopw [5, 6] (fun ga i wr => ∃ (k h : Nat), k ≤ p.length ∧ ga = .slice (some ⟨h, 0, none⟩) (l.length + 1) (l.length + 1) ∧ i = .int .i64 k ∧ w.heap.size ≤ h ∧ Ext w wr ∧ Blk wr h 4 (bB (rowA p l k))) (fun _ i _ => p.length - (intOf i).toNat)
    case atStart => exact ⟨0, g, Nat.zero_le _, rfl, rfl, hgw, E'.out, A'.out⟩
    case round =>
      clear A' E' hgw W3 W2 W1
      obtain ⟨k, h, hk, rfl, rfl, hh, E, A⟩ := hrel
      by_cases hlt : k < p.length
      · have mk := run_makeBool l.length hl wr
        have N := Blk.new wr 4 (bB (List.replicate (l.length + 1) false))
        have A1 := A.alloc (Obj.cells (bB (List.replicate (l.length + 1) false)) 4)
        have E1 := E.alloc (Obj.cells (bB (List.replicate (l.length + 1) false)) 4)
        have hne : h ≠ wr.heap.size := Nat.ne_of_lt A.lt
        have hgn : w.heap.size ≤ wr.heap.size := E.size
        generalize wr.alloc (Obj.cells (bB (List.replicate (l.length + 1) false)) 4) = W4 at mk N A1 E1
        generalize wr.heap.size = n at mk N hne hgn
        have hat := fun W (hW : Ext w W) => EAtm.at (hs.out.ext hW) k hlt
        have hfa := fill_all p l k hlt
        generalize p[k] = x at hat hfa
        obtain ⟨kd, av⟩ := x
        rw [← fillA_zero p l k (kd, av)] at N
        clear E A
        replace N := hide N
        replace A1 := hide A1
        replace E1 := hide E1
        replace hat := hide hat
        replace hfa := hide hfa
        go_wp2
        go_loopw [8] (fun q wr => ∃ j : Nat, j ≤ l.length + 1 ∧ q = .int .i64 j ∧ Ext w wr ∧ Blk wr h 4 (bB (rowA p l k)) ∧ Blk wr n 4 (bB (fillA p l k (kd, av) j))) (fun q _ => l.length + 1 - (intOf q).toNat)
        case atStart => exact ⟨0, Nat.zero_le _, rfl, E1.out, A1.out, N.out⟩
        case round =>
          clear N A1 E1 mk W4
          obtain ⟨j, hj, rfl, E, A, N⟩ := hrel
          by_cases hjl : j ≤ l.length
          · have a0 : wr.cell? ⟨h, j, none⟩ = some (.bool (matS (p.take k) (l.take j))) := (A.cell j).trans ((bB_at _ j (by rw [rowA_len]; omega)).trans (by rw [rowA_at]))
            have hskip := fill_skip p l k (kd, av) j
            have hone := fill_one p l k (kd, av) j
            have hstar := fill_star p l k (kd, av) j
            generalize matS (p.take k) (l.take j) = t at a0 hskip hone hstar
            cases t with
            | false =>
              replace E := hide E
              replace A := hide A
              replace N := hide N
              replace hskip := hide hskip
              replace hone := hide hone
              replace hstar := hide hstar
              go_wp2
              go_roundw
              case rel => exact ⟨j + 1, by omega, by go_num, E.out, A.out, by rw [hskip.out (Or.inl rfl)]; exact N.out⟩
              case measure => simp [intOf]; omega
            | true =>
              obtain ⟨b', off, rfl, _, hkd, x0, x1⟩ := hat.out wr E
              by_cases h3 : kd = 3
              · subst h3
                replace hstar := hstar rfl rfl
                clear hskip hone hat
                replace E := hide E
                replace A := hide A
                replace N := hide N
                replace hstar := hide hstar
                go_wp2
                go_loopw [9] (fun q wr => ∃ m : Nat, j ≤ m ∧ m ≤ l.length + 1 ∧ q = .int .i64 m ∧ Ext w wr ∧ Blk wr h 4 (bB (rowA p l k)) ∧ Blk wr n 4 (bB (starA (fillA p l k (3, av) j) j m))) (fun q _ => l.length + 1 - (intOf q).toNat)
                case atStart => exact ⟨j, Nat.le_refl _, by omega, rfl, E.out, A.out, by rw [starA_zero]; exact N.out⟩
                case round =>
                  clear E A N a0 x0 x1
                  obtain ⟨m, hm1, hm2, rfl, E, A, N⟩ := hrel
                  by_cases hml : m ≤ l.length
                  · have n0 : ∃ bb, wr.cell? ⟨n, m, none⟩ = some (.bool bb) := ⟨_, (N.cell m).trans (bB_at _ m (by rw [starA_len, fillA_len]; omega))⟩
                    have nf : wr.frozen? ⟨n, m, none⟩ = false := N.frozen m
                    obtain ⟨bb, n0⟩ := n0
                    have N' := N.set_ m (.bool true)
                    rw [bB_set, ← starA_step _ j m (by rw [fillA_len]; omega) hm1] at N'
                    have A' := A.far (p := ⟨n, m, none⟩) hne (.bool true)
                    have E' := E.setCell (p := ⟨n, m, none⟩) hgn (.bool true)
                    clear N A E
                    replace N' := hide N'
                    replace A' := hide A'
                    replace E' := hide E'
                    go_wp2
                    go_roundw
                    case rel => exact ⟨m + 1, by omega, by omega, by go_num, E'.out, A'.out, N'.out⟩
                    case measure => simp [intOf]; omega
                  · obtain rfl : m = l.length + 1 := by omega
                    rw [← hstar.out] at N
                    replace N := hide N
                    replace A := hide A
                    replace E := hide E
                    go_wp2
                    go_roundw
                    case rel => exact ⟨j + 1, by omega, by go_num, E.out, A.out, N.out⟩
                    case measure => simp [intOf]; omega
              · by_cases hjj : j < l.length
                · have n0 : ∃ bb, wr.cell? ⟨n, j + 1, none⟩ = some (.bool bb) := ⟨_, (N.cell (j + 1)).trans (bB_at _ (j + 1) (by rw [fillA_len]; omega))⟩
                  have nf : wr.frozen? ⟨n, j + 1, none⟩ = false := N.frozen (j + 1)
                  obtain ⟨bb, n0⟩ := n0
                  have N' := N.set_ (j + 1) (.bool true)
                  rw [bB_set] at N'
                  have A' := A.far (p := ⟨n, j + 1, none⟩) hne (.bool true)
                  have E' := E.setCell (p := ⟨n, j + 1, none⟩) hgn (.bool true)
                  by_cases h2 : kd = 2
                  · subst h2
                    rw [← hone rfl (fun m _ => by unfold stepA; rw [if_neg (show ¬ ((2 : Int) = 3) by decide), if_pos rfl]) hjj] at N'
                    clear hskip hone hstar hat N A E
                    replace N' := hide N'
                    replace A' := hide A'
                    replace E' := hide E'
                    go_wp2
                    go_roundw
                    case rel => exact ⟨j + 1, by omega, by go_num, E'.out, A'.out, N'.out⟩
                    case measure => simp [intOf]; omega
                  · obtain ⟨b2, o2, rfl, _, y0⟩ := EU32.at (hs2.out.ext E) j hjj
                    by_cases heq : l[j] = av
                    · rw [← hone rfl (fun m _ => by unfold stepA; rw [if_neg h3, if_neg h2, List.getElem?_eq_getElem hjj, heq]; simp) hjj] at N'
                      rw [heq] at y0
                      clear hskip hone hstar hat N A E heq
                      replace N' := hide N'
                      replace A' := hide A'
                      replace E' := hide E'
                      go_wp2_with fail
                      go_region
                      go_wp2
                      go_roundw
                      case rel => exact ⟨j + 1, by omega, by go_num, E'.out.drew, A'.out.drew, N'.out.drew⟩
                      case measure => simp [intOf]; omega
                    · rw [← hskip (Or.inr fun m _ => by unfold stepA; rw [if_neg h3, if_neg h2, List.getElem?_eq_getElem hjj]; simp [heq])] at N
                      have hne1 : ¬ ((l[j].toNat : Int) = (av.toNat : Int)) := fun he => heq (UInt32.toNat_inj.1 (by omega))
                      have hne2 : ¬ (l[j].toNat = av.toNat) := fun he => heq (UInt32.toNat_inj.1 he)
                      clear hskip hone hstar hat N' A' E' heq n0 nf
                      generalize l[j] = y at *
                      replace N := hide N
                      replace A := hide A
                      replace E := hide E
                      go_wp2_with fail
                      go_region
                      go_wp2
                      go_roundw
                      case rel => exact ⟨j + 1, by omega, by go_num, E.out.drew, A.out.drew, N.out.drew⟩
                      case measure => simp [intOf]; omega
                · obtain rfl : j = l.length := by omega
                  rw [← hskip (Or.inr fun m hm => by unfold stepA; rw [if_neg h3, List.getElem?_eq_none (by omega)]; split <;> simp; omega)] at N
                  clear hskip hone hstar hat
                  replace N := hide N
                  replace A := hide A
                  replace E := hide E
                  by_cases h2 : kd = 2
                  · subst h2
                    go_wp2
                    go_roundw
                    case rel => exact ⟨l.length + 1, by omega, by go_num, E.out, A.out, N.out⟩
                    case measure => simp [intOf]
                  · go_wp2_with fail
                    go_region
                    go_wp2
                    go_roundw
                    case rel => exact ⟨l.length + 1, by omega, by go_num, E.out.drew, A.out.drew, N.out.drew⟩
                    case measure => simp [intOf]
          · obtain rfl : j = l.length + 1 := by omega
            rw [hfa.out] at N
            replace N := hide N
            replace A := hide A
            replace E := hide E
            go_wp2
            go_roundw
            case rel => exact ⟨k + 1, n, by omega, rfl, by go_num, hgn, E.out, N.out⟩
            case measure => simp [intOf]; omega
      · obtain rfl : k = p.length := by omega
        have a0 : wr.cell? ⟨h, l.length, none⟩ = some (.bool (matS p l)) := (A.cell l.length).trans ((bB_at _ l.length (by rw [rowA_len]; omega)).trans (by rw [rowA_last]))
        clear A
        replace E := hide E
        go_wp2
        go_ret
        exact ⟨rfl, E.out⟩
open Go.RowKit Go.Sort

theorem run_eqA (W : World) (f g : Int) (r s : Int) :
    (binOp .eql 40 (.agg #[.int .i64 f, .int .u32 r]) (.agg #[.int .i64 g, .int .u32 s])).run Tryz.prog W = .ok (.bool (decide (f = g ∧ r = s))) W := by
  have hS : Tryz.prog.underlying 40 = some (.struct (Tryz.prog.fieldsOf 40)) := by kernel_rfl
  rw [run_eql_struct, run_equalIn_agg W 9999 _ _ _ hS Tryz.stoodInHeld40]
  simp only [Program.fieldsOf, Tryz.underlying40]
  have e1 : ∀ (a b : Int) (w : World), (Op.equalIn 9999 3 (.int .i64 a) (.int .i64 b)).run Tryz.prog w = .ok (a == b) w := fun a b w => run_equalIn_int w 9998 _ .i64 .i64 a b Tryz.underlying3
  have e2 : ∀ (a b : Int) (w : World), (Op.equalIn 9999 37 (.int .u32 a) (.int .u32 b)).run Tryz.prog w = .ok (a == b) w := fun a b w => run_equalIn_int w 9998 _ .u32 .u32 a b Tryz.underlying37
  by_cases h1 : f = g <;> by_cases h2 : r = s <;> simp [Op.eqFields, part, e1, e2, h1, h2]
theorem eqA_run (W : World) (a b : Atm) (e : Bool) (h : e = true ↔ a = b) : (binOp .eql 40 (.agg #[.int .i64 a.1, .int .u32 (a.2.toNat : Int)]) (.agg #[.int .i64 b.1, .int .u32 (b.2.toNat : Int)])).run Tryz.prog W = .ok (.bool e) W := by
  rw [run_eqA]
  congr 2
  rw [show e = decide (e = true) by simp, decide_eq_decide, h]
  constructor
  · rintro ⟨e1, e2⟩
    exact Prod.ext e1 (UInt32.toNat_inj.1 (by omega))
  · rintro rfl
    exact ⟨rfl, rfl⟩
theorem neqA_run (W : World) (a b : Atm) (e : Bool) (h : e = true ↔ a = b) : (binOp .neq 40 (.agg #[.int .i64 a.1, .int .u32 (a.2.toNat : Int)]) (.agg #[.int .i64 b.1, .int .u32 (b.2.toNat : Int)])).run Tryz.prog W = .ok (.bool (!e)) W := by
  have h1 := eqA_run W a b e h
  rw [run_eql_struct] at h1
  rw [run_neq_struct]
  generalize (Op.equalIn 10000 40 (.agg #[.int .i64 a.1, .int .u32 (a.2.toNat : Int)]) (.agg #[.int .i64 b.1, .int .u32 (b.2.toNat : Int)])).run Tryz.prog W = r at h1 ⊢
  cases r with
  | ok b w' =>
    simp only [Result.andThen] at h1 ⊢
    injection h1 with e1 e2
    injection e1 with e1
    subst e1
    subst e2
    rfl
  | halt x w' => simp only [Result.andThen] at h1; cases h1

set_option maxRecDepth 20000 in
set_option maxHeartbeats 2000000 in
theorem RSameAtoms_any (a : Option Addr) (c : Nat) (p : List Atm) (b : Option Addr) (d : Nat) (q : List Atm) (w : World) (hp : p.length ≤ 16777216) (hq : q.length ≤ 16777216) (hs : Sl EAtm w (· < w.heap.size) a p) (hs2 : Sl EAtm w (· < w.heap.size) b q) :
    Calls Tryz.prog 29 #[.slice a p.length c, .slice b q.length d] w fun e w' => e = .returned (.bool (decide (p = q))) ∧ Ext w w' := by
  by_cases hl : p.length = q.length
  · have hlI : (p.length : Int) = (q.length : Int) := by omega
    have hl1 : decide ((p.length : Int) = (q.length : Int)) = true := decide_eq_true hlI
    replace hs := hide hs
    replace hs2 := hide hs2
    go_enter Tryz.func29, Tryz.ntmps29
    go_wp2
    go_loopw [5] (fun i wr => ∃ k : Nat, k ≤ p.length ∧ i = .int .i64 k ∧ Ext w wr ∧ p.take k = q.take k) (fun i _ => p.length - (intOf i).toNat)
    case atStart => exact ⟨0, Nat.zero_le _, rfl, Ext.refl _, rfl⟩
    case round =>
      obtain ⟨k, hk, rfl, E, ht⟩ := hrel
      by_cases hlt : k < p.length
      · have hlt2 : k < q.length := by omega
        obtain ⟨b1, o1, rfl, _, _, x0, x1⟩ := EAtm.at (hs.out.ext E) k hlt
        obtain ⟨b2, o2, rfl, _, _, y0, y1⟩ := EAtm.at (hs2.out.ext E) k hlt2
        have heq := fun (W : World) (e : Bool) (h : e = true ↔ p[k] = q[k]) => neqA_run W p[k] q[k] e h
        have heg : ∀ x y xs ys W, (eqGuard .neq 40 x y (.agg xs) (.agg ys)).run Tryz.prog W = .ok () W := fun x y xs ys W => run_eqGuard_agg W .neq _ x y xs ys Tryz.eqGuardType40
        have hyes : p[k] = q[k] → p.take (k + 1) = q.take (k + 1) := fun h => by rw [List.take_succ_eq_append_getElem hlt, List.take_succ_eq_append_getElem hlt2, ht, h]
        have hno : p[k] ≠ q[k] → decide (p = q) = false := fun h => decide_eq_false fun hh => h (by subst hh; rfl)
        generalize p[k] = x at *
        generalize q[k] = y at *
        by_cases hxy : x = y
        · have he := fun W => heq W true (by simp [hxy])
          replace hyes := hyes hxy
          clear heq hno hxy ht
          replace E := hide E
          replace hyes := hide hyes
          go_wp2_with fail
          go_region
          go_wp2
          go_roundw
          case rel => exact ⟨k + 1, by omega, by go_num, E.out.drew, hyes.out⟩
          case measure => simp [intOf]; omega
        · have he := fun W => heq W false (by simp [hxy])
          replace hno := hno hxy
          clear heq hyes hxy ht
          replace E := hide E
          replace hno := hide hno
          go_wp2_with fail
          go_region
          go_wp2
          go_ret
          exact ⟨ret_bool hno.out.symm, E.out.drew⟩
      · obtain rfl : k = p.length := by omega
        have hend : decide (p = q) = true := decide_eq_true (by rw [List.take_length, hl, List.take_length] at ht; exact ht)
        clear ht
        replace E := hide E
        replace hend := hide hend
        go_wp2
        go_ret
        exact ⟨ret_bool hend.out.symm, E.out⟩
  · have hlI : ¬ ((p.length : Int) = (q.length : Int)) := by omega
    have hend : decide (p = q) = false := decide_eq_false fun h => hl (by rw [h])
    replace hend := hide hend
    replace hs := hide hs
    replace hs2 := hide hs2
    go_enter Tryz.func29, Tryz.ntmps29
    go_wp2
    go_ret
    exact ⟨ret_bool hend.out.symm, Ext.refl _⟩
end Go.Proofs.YtoghdmoldcjedaaGreatDoor
