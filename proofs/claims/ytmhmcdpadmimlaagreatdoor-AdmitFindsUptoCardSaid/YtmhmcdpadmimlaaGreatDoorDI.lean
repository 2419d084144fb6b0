/- Walks: the neighbour of an address: admit.Find. -/
import Derived.Test.YtmhmcdpadmimlaaGreatDoorDH
import Derived.WalkMore
import Derived.Deep.MidRow
import Derived.Deep.LoopGhost
import Derived.Deep.Cut
namespace Go.Proofs.YtmhmcdpadmimlaaGreatDoor
open Go.RowKit
set_option linter.unusedVariables false

theorem findIdx_at {l : List Nbr} {a : List UInt8} {k : Nat} (hk : k < l.length) (hb : ∀ x ∈ l.take k, (x.addr == a) = false) (h : (l[k].addr == a) = true) : l.findIdx? (fun x => x.addr == a) = some k := by
  rw [List.findIdx?_eq_some_iff_getElem]
  refine ⟨hk, h, fun j hj => ?_⟩
  rw [hb l[j] (List.mem_take_iff_getElem.2 ⟨j, by omega, rfl⟩)]
  decide
theorem findIdx_no {l : List Nbr} {a : List UInt8} (hb : ∀ x ∈ l.take l.length, (x.addr == a) = false) : l.findIdx? (fun x => x.addr == a) = none := by
  rw [List.take_length] at hb
  exact List.findIdx?_eq_none_iff.2 hb
theorem take_no {l : List Nbr} {a : List UInt8} {k : Nat} (hk : k < l.length) (hb : ∀ x ∈ l.take k, (x.addr == a) = false) (h : (l[k].addr == a) = false) : ∀ x ∈ l.take (k + 1), (x.addr == a) = false := fun x hx => by
  rw [List.take_succ_eq_append_getElem hk, List.mem_append, List.mem_singleton] at hx
  rcases hx with hx | rfl
  · exact hb x hx
  · exact h
theorem findN_at {l : List Nbr} {a : List UInt8} {k : Nat} (hr : rightA a = true) (h : l.findIdx? (fun x => x.addr == a) = some k) : findN l a = ((k : Int), true) := by
  unfold findN
  rw [if_pos hr, h]
theorem findN_no {l : List Nbr} {a : List UInt8} (hr : rightA a = true) (h : l.findIdx? (fun x => x.addr == a) = none) : findN l a = (if bestS l a l.length < 0 then 0 else bestS l a l.length, decide (0 ≤ bestS l a l.length)) := by
  unfold findN
  rw [if_pos hr, h]
theorem findN_bad {l : List Nbr} {a : List UInt8} (hr : rightA a = false) : findN l a = (0, false) := by
  unfold findN
  rw [if_neg (by rw [hr]; decide)]
theorem best_succ (l : List Nbr) (a : List UInt8) (k : Nat) (hk : k < l.length) : bestS l a (k + 1) = if ofS l[k] a && nearS l (bestS l a k) k then (k : Int) else bestS l a k := by
  show (if ofS (l.getD k zeroN) a && (decide (bestS l a k < 0) || decide (lenN l (bestS l a k) < lenN l k)) then (k : Int) else bestS l a k) = _
  rw [List.getD_eq_getElem?_getD, List.getElem?_eq_getElem hk]
  rfl
theorem nbr_one (x : Nbr) (f : Option Addr) (c : Nat) : ∀ u ∈ nbrCs x f c, u.oneCell' = true := by
  intro u hu
  simp only [nbrCs, List.mem_cons, List.not_mem_nil, or_false] at hu
  rcases hu with rfl | rfl | rfl | rfl | rfl | rfl | rfl | rfl | rfl | rfl | rfl | rfl | rfl | rfl | rfl | rfl | rfl | rfl | rfl | rfl | rfl | rfl | rfl <;> rfl
theorem Ext.setCells21 {a : World} {g : Nat} (hg : a.heap.size ≤ g) : ∀ (vs : List Value) (o : Nat) (b : World), Ext a b → Ext a (b.setCells g o vs)
  | [], _, _, h => h
  | v :: r, o, b, h => by
    rw [World.setCells]
    exact Ext.setCells21 hg r (o + 1) _ (h.setCell (p := ⟨g, o, none⟩) hg v)
theorem nbr_there (w : World) (n : Nat) (hn : n ≤ 23) : (w.alloc (.cells #[.string ⟨#[]⟩, .string ⟨#[]⟩, .int .i64 0, .int .u64 0, .string ⟨#[]⟩, .int .i64 0, .int .u32 0, .int .i64 0, .int .i64 0, .bool false, .bool false, .bool false, .slice none 0 0, .int .i64 0, .bool false, .int .i64 0, .bool false, .int .i64 0, .int .i64 0, .string ⟨#[]⟩, .string ⟨#[]⟩, .string ⟨#[]⟩, .bool false] 31)).there w.heap.size 0 n := fun i hi => by
  have hB := Blk.new w 31 #[.string ⟨#[]⟩, .string ⟨#[]⟩, .int .i64 0, .int .u64 0, .string ⟨#[]⟩, .int .i64 0, .int .u32 0, .int .i64 0, .int .i64 0, .bool false, .bool false, .bool false, .slice none 0 0, .int .i64 0, .bool false, .int .i64 0, .bool false, .int .i64 0, .int .i64 0, .string ⟨#[]⟩, .string ⟨#[]⟩, .string ⟨#[]⟩, .bool false]
  refine ⟨?_, hB.frozen _⟩
  rw [hB.cell, Nat.zero_add, Array.getElem?_eq_getElem (by show i < 23; omega)]
  rfl
/-- A neighbour in a block of its own. -/
theorem nbr_new (w : World) (CS : List Value) (hl : CS.length = 23) {v : Value} (h1 : CS[1]? = some v) : ((w.alloc (.cells #[.string ⟨#[]⟩, .string ⟨#[]⟩, .int .i64 0, .int .u64 0, .string ⟨#[]⟩, .int .i64 0, .int .u32 0, .int .i64 0, .int .i64 0, .bool false, .bool false, .bool false, .slice none 0 0, .int .i64 0, .bool false, .int .i64 0, .bool false, .int .i64 0, .int .i64 0, .string ⟨#[]⟩, .string ⟨#[]⟩, .string ⟨#[]⟩, .bool false] 31)).setCells w.heap.size 0 CS).rangeAt w.heap.size 0 CS ∧ ((w.alloc (.cells #[.string ⟨#[]⟩, .string ⟨#[]⟩, .int .i64 0, .int .u64 0, .string ⟨#[]⟩, .int .i64 0, .int .u32 0, .int .i64 0, .int .i64 0, .bool false, .bool false, .bool false, .slice none 0 0, .int .i64 0, .bool false, .int .i64 0, .bool false, .int .i64 0, .int .i64 0, .string ⟨#[]⟩, .string ⟨#[]⟩, .string ⟨#[]⟩, .bool false] 31)).setCells w.heap.size 0 CS).cell? ⟨w.heap.size, 1, none⟩ = some v := by
  have h := World.rangeAt_setCells_same (w.alloc (.cells #[.string ⟨#[]⟩, .string ⟨#[]⟩, .int .i64 0, .int .u64 0, .string ⟨#[]⟩, .int .i64 0, .int .u32 0, .int .i64 0, .int .i64 0, .bool false, .bool false, .bool false, .slice none 0 0, .int .i64 0, .bool false, .int .i64 0, .bool false, .int .i64 0, .int .i64 0, .string ⟨#[]⟩, .string ⟨#[]⟩, .string ⟨#[]⟩, .bool false] 31)) w.heap.size 0 CS (nbr_there w CS.length (Nat.le_of_eq hl))
  exact ⟨h, h 1 v h1⟩
set_option maxRecDepth 20000 in
set_option maxHeartbeats 4000000 in
theorem Find_any21 (l : List Nbr) (hl : l.length ≤ 16777216) (ao : Option Addr) (co : Nat) (a : List UInt8) (ha : a.length ≤ 1048576) (w : World) (hs : Sl ENbr w (· < w.heap.size) ao l) :
    Calls Tryz.prog 8 #[.slice ao l.length co, .string ⟨a.toArray⟩] w fun e w' => e = .returned (.tuple #[.int .i64 (findN l a).1, .bool (findN l a).2]) ∧ Ext w w' := by
  have mixed : Tryz.prog.follows Departure.mixedOrders = true := by kernel_rfl
  have hmf : ∀ (fn : Fn) (first cap : Array Value) (w : World), (Instr.makeFunc fn first cap).run Tryz.prog w = .ok (.func fn first cap) w := fun _ _ _ _ => rfl
  have q1 := fun W => host_any a W ha
  unfold valP at q1
  generalize hostZ a = hz at *
  obtain ⟨zf, zr, za, zl⟩ := hz
  dsimp only at q1
  cases hr : rightA a with
  | false =>
    rw [findN_bad hr]
    rw [hr] at q1
    clear hs hr
    replace q1 := hide q1
    go_enter Tryz.func8, Tryz.ntmps8
    go_wp2_with fail
    go_step3
    go_wp2_with fail
    refine (q1.out _).mono ?_
    rintro e w1 ⟨rfl, hE1⟩
    replace hE1 := hide ((((Ext.refl w).alloc _).trans hE1).alloc (Obj.cells #[.int .i64 zf, .int .u64 (zr : Int), .string ⟨za.toArray⟩, .int .i64 zl] 27))
    go_wp2
    rw [Exit.noGoto_ret]
    go_ret2
    exact ⟨rfl, hE1.out⟩
  | true =>
    rw [hr] at q1
    have hfat := fun k h => findN_at (l := l) (a := a) (k := k) hr h
    have hfno := fun h => findN_no (l := l) (a := a) hr h
    generalize findN l a = FN at *
    clear hr
    replace q1 := hide q1
    replace hfat := hide hfat
    replace hfno := hide hfno
    replace hs := hide hs
    go_enter Tryz.func8, Tryz.ntmps8
    have L := Blk.new w 22 #[.slice ao l.length co]
    have E := (Ext.refl w).alloc (Obj.cells #[.slice ao l.length co] 22)
    generalize hW0 : w.alloc (Obj.cells #[.slice ao l.length co] 22) = W0 at L E
    generalize hgl : w.heap.size = gl at L
    have hgl1 : w.heap.size ≤ gl := Nat.le_of_eq hgl
    replace L := hide L
    replace E := hide E
    replace hgl1 := hide hgl1
    go_wp2_with fail
    go_step3
    go_wp2_with fail
    clear hW0 hgl
    refine (q1.out _).mono ?_
    rintro e w1 ⟨rfl, hE1⟩
    clear q1
    have L2 := ((L.out.ext hE1).alloc (Obj.cells #[.int .i64 zf, .int .u64 (zr : Int), .string ⟨za.toArray⟩, .int .i64 zl] 27)).alloc (Obj.cells #[.int .i64 (-1)] 3)
    have B2 := Blk.new (w1.alloc (Obj.cells #[.int .i64 zf, .int .u64 (zr : Int), .string ⟨za.toArray⟩, .int .i64 zl] 27)) 3 #[.int .i64 (-1)]
    have E2 := ((E.out.trans hE1).alloc (Obj.cells #[.int .i64 zf, .int .u64 (zr : Int), .string ⟨za.toArray⟩, .int .i64 zl] 27)).alloc (Obj.cells #[.int .i64 (-1)] 3)
    rw [show (w1.alloc (Obj.cells #[.int .i64 zf, .int .u64 (zr : Int), .string ⟨za.toArray⟩, .int .i64 zl] 27)).heap.size = w1.heap.size + 1 by simp] at B2
    generalize hW2 : (w1.alloc (Obj.cells #[.int .i64 zf, .int .u64 (zr : Int), .string ⟨za.toArray⟩, .int .i64 zl] 27)).alloc (Obj.cells #[.int .i64 (-1)] 3) = W2 at L2 B2 E2
    have hgb1 : w.heap.size ≤ w1.heap.size + 1 := by have := (E.out.trans hE1).size; omega
    have hgne : gl ≠ w1.heap.size + 1 := by have := L.out.lt; have := hE1.size; omega
    generalize hgb : w1.heap.size + 1 = gb at B2 hgb1 hgne
    clear L E hE1
    have l0 : W2.cell? ⟨gl, 0, none⟩ = some (.slice ao l.length co) := L2.cell 0
    replace L2 := hide L2
    replace B2 := hide B2
    replace E2 := hide E2
    replace hgb1 := hide hgb1
    replace hgne := hide hgne
    go_wp2_with fail
    go_step3
    go_wp2_with fail
    clear hW2 hgb l0
    go_loopw [10, 11, 22] (fun _ _ i wr => ∃ k : Nat, k ≤ l.length ∧ i = .int .i64 k ∧ Blk wr gl 22 #[.slice ao l.length co] ∧ Blk wr gb 3 #[.int .i64 (bestS l a k)] ∧ Ext w wr ∧ ∀ x ∈ l.take k, (x.addr == a) = false) (fun _ _ i _ => l.length - (intOf i).toNat)
    case atStart => exact ⟨0, Nat.zero_le _, rfl, L2.out, B2.out, E2.out, by simp⟩
    case round =>
      clear L2 B2 E2
      obtain ⟨k, hk, rfl, L, B, E, hno⟩ := hrel
      have hbd := bestS_bd l a k
      by_cases hlt : k < l.length
      · obtain ⟨b, off, f, fc, rfl, _, hin, hc⟩ := ENbr.at (hs.out.ext E) k hlt
        have hfa := fun h => hfat.out k (findIdx_at hlt hno h)
        have htn := fun h => take_no hlt hno h
        have hbs := best_succ l a k hlt
        have qn := fun W (h : Ext wr W) => Find1_any21 l hl (some ⟨b, off, none⟩) co gb gl k (bestS l a k) W (hs.out.ext (E.trans h)) hlt (by omega) (B.ext h) (L.ext h)
        have qo := fun W => of_any l[k] f fc a W hin.range.addr ha
        generalize nearS l (bestS l a k) k = nr at *
        generalize ofS l[k] a = oz at *
        generalize bestS l a k = bk at *
        clear hno
        have hCl : (nbrCs l[k] f fc).length = 23 := rfl
        have hC1 : (nbrCs l[k] f fc)[1]? = some (.string ⟨l[k].addr.toArray⟩) := rfl
        have hCo : ∀ u ∈ nbrCs l[k] f fc, u.oneCell' = true := nbr_one _ _ _
        generalize l[k].addr = ad at *
        generalize nbrCs l[k] f fc = CS at *
        have hra : wr.rangeAt b (off + k * 23) CS := fun j v hj => hc j v hj
        have hi23 : (Tryz.prog.info? 31).map (·.size) = some CS.length := by rw [hCl]; kernel_rfl
        have hi24 : (Tryz.prog.info? 31).map (·.size) = some CS.toArray.size := by rw [List.size_toArray, hCl]; kernel_rfl
        have hnew := hide (nbr_new wr CS hCl hC1)
        have hall := all_oneCell_toArray hCo
        have hth := nbr_there wr CS.toArray.size (by rw [List.size_toArray, hCl]; exact Nat.le_refl _)
        have hEn : Ext wr ((wr.alloc (.cells #[.string ⟨#[]⟩, .string ⟨#[]⟩, .int .i64 0, .int .u64 0, .string ⟨#[]⟩, .int .i64 0, .int .u32 0, .int .i64 0, .int .i64 0, .bool false, .bool false, .bool false, .slice none 0 0, .int .i64 0, .bool false, .int .i64 0, .bool false, .int .i64 0, .int .i64 0, .string ⟨#[]⟩, .string ⟨#[]⟩, .string ⟨#[]⟩, .bool false] 31)).setCells wr.heap.size 0 CS) := Ext.setCells21 (Nat.le_refl _) _ _ _ ((Ext.refl wr).alloc _)
        have i0 : (0 : Int) ≤ (k : Int) := by omega
        have i1 : (k : Int) < (l.length : Int) := by omega
        have L3 := L.ext hEn
        have B3 := B.ext hEn
        clear hc hin hC1 hCo
        generalize l.length = n at *
        replace L3 := hide L3
        replace B3 := hide B3
        replace qn := hide qn
        replace qo := hide qo
        replace L := hide L
        replace B := hide B
        replace E := hide E
        replace hfa := hide hfa
        replace htn := hide htn
        replace hbs := hide hbs
        replace hCl := hide hCl
        replace hra := hide hra
        replace hi23 := hide hi23
        replace hi24 := hide hi24
        replace hall := hide hall
        replace hth := hide hth
        go_upto_region 9 with (first
          | (with_reducible refine wpList_load_mid rfl 31 (.tmp 25) rfl b (off + k * 23) rfl CS _ hra.out Tryz.underlying31 rfl hi23.out ?_)
          | (with_reducible refine wpList_store_mid rfl 31 (.tmp 11) (.tmp 26) rfl wr.heap.size 0 CS.toArray rfl rfl hth.out hi24.out hall.out ?_))
        clear hra hi24 hall hth
        generalize (wr.alloc (.cells #[.string ⟨#[]⟩, .string ⟨#[]⟩, .int .i64 0, .int .u64 0, .string ⟨#[]⟩, .int .i64 0, .int .u32 0, .int .i64 0, .int .i64 0, .bool false, .bool false, .bool false, .slice none 0 0, .int .i64 0, .bool false, .int .i64 0, .bool false, .int .i64 0, .int .i64 0, .string ⟨#[]⟩, .string ⟨#[]⟩, .string ⟨#[]⟩, .bool false] 31)).setCells wr.heap.size 0 CS = W3 at hnew L3 B3 hEn ⊢
        generalize wr.heap.size = gp at hnew ⊢
        obtain ⟨hrp, p1⟩ := hnew.out
        have b0 : W3.cell? ⟨gb, 0, none⟩ = some (.int .i64 bk) := B3.out.cell 0
        have bf := fun i => B3.out.frozen i
        have Bk := B3.out.set_ 0 (.int .i64 (k : Int))
        have Lk := L3.out.far (p := ⟨gb, 0, none⟩) hgne.out (.int .i64 (k : Int))
        have E3 := E.out.trans hEn
        have Ek := E3.setCell (p := ⟨gb, 0, none⟩) hgb1.out (.int .i64 (k : Int))
        clear hnew
        replace hrp := hide hrp
        replace Bk := hide Bk
        replace Lk := hide Lk
        replace Ek := hide Ek
        replace E3 := hide E3
        replace hEn := hide hEn
        cases hnm : (ad == a) with
        | true =>
          have hFN := hfa.out hnm
          have m1 : max (k : Int) 0 = (k : Int) := by omega
          have m2 : decide ((0 : Int) ≤ (k : Int)) = true := decide_eq_true i0
          clear htn hbs qn qo hfa hfat hfno
          subst hFN
          go_wp2_with fail
          have k0 : (W3.setCell ⟨gb, 0, none⟩ (.int .i64 (k : Int))).cell? ⟨gb, 0, none⟩ = some (.int .i64 (k : Int)) := Bk.out.cell 0
          go_quiet (fail)
          go_wp2
          rw [Exit.noGoto_ret]
          go_ret2
          exact ⟨rfl, Ek.out.drewN _⟩
        | false =>
          have htk := hide (htn.out hnm)
          clear htn hfa
          cases oz with
          | false =>
            rw [Bool.false_and, if_neg (by decide)] at hbs
            replace hbs := hide hbs
            go_wp2_with (with_reducible refine wpList_load_mid rfl 31 (.tmp 11) rfl gp 0 rfl CS _ hrp.out Tryz.underlying31 rfl hi23.out ?_)
            refine (qo.out _).mono ?_
            rintro e W4 ⟨rfl, hE4⟩
            have L4 := hide (L3.out.ext hE4)
            have B4 := hide (B3.out.ext hE4)
            have E4 := hide (E3.out.trans hE4)
            clear hE4 qn qo b0 bf Bk Lk Ek L3 B3
            go_wp2_with fail
            go_roundw
            case rel => exact ⟨k + 1, by omega, by go_num, L4.out, by rw [hbs.out]; exact B4.out, E4.out, htk.out⟩
            case measure => simp [intOf]; omega
          | true =>
            rw [Bool.true_and] at hbs
            replace hbs := hide hbs
            go_wp2_with (with_reducible refine wpList_load_mid rfl 31 (.tmp 11) rfl gp 0 rfl CS _ hrp.out Tryz.underlying31 rfl hi23.out ?_)
            refine (qo.out _).mono ?_
            rintro e W4 ⟨rfl, hE4⟩
            have L4 := hide (L3.out.ext hE4)
            have B4 := hide (B3.out.ext hE4)
            have E4 := hide (E3.out.trans hE4)
            have qn4 := qn.out W4 (hEn.out.trans hE4)
            replace qn4 := hide qn4
            clear hE4 qn qo b0 bf Bk Lk Ek L3 B3
            go_wp2_with fail
            refine qn4.out.mono ?_
            rintro e W5 ⟨rfl, hD⟩
            obtain ⟨nd, rfl⟩ := hD
            have b0 : W4.cell? ⟨gb, 0, none⟩ = some (.int .i64 bk) := B4.out.cell 0
            have bf := fun i => B4.out.frozen i
            have Bk := hide (B4.out.set_ 0 (.int .i64 (k : Int)))
            have Lk := hide (L4.out.far (p := ⟨gb, 0, none⟩) hgne.out (.int .i64 (k : Int)))
            have Ek := hide (E4.out.setCell (p := ⟨gb, 0, none⟩) hgb1.out (.int .i64 (k : Int)))
            clear qn4
            cases nr with
            | false =>
              have hb2 := hbs.out
              rw [if_neg (by decide)] at hb2
              replace hb2 := hide hb2
              clear hbs
              go_wp2_with fail
              go_roundw
              case rel => exact ⟨k + 1, by omega, by go_num, L4.out.drewN _, by rw [hb2.out]; exact B4.out.drewN _, E4.out.drewN _, htk.out⟩
              case measure => simp [intOf]; omega
            | true =>
              have hb2 := hbs.out
              rw [if_pos rfl] at hb2
              replace hb2 := hide hb2
              clear hbs
              go_wp2_with fail
              go_roundw
              case rel => exact ⟨k + 1, by omega, by go_num, Lk.out.drewN _, by rw [hb2.out]; exact Bk.out.drewN _, Ek.out.drewN _, htk.out⟩
              case measure => simp [intOf]; omega
      · obtain rfl : k = l.length := by omega
        have hFN := hfno.out (findIdx_no hno)
        have b0 : wr.cell? ⟨gb, 0, none⟩ = some (.int .i64 (bestS l a l.length)) := B.cell 0
        clear hno hfat hfno
        have m1 := hide (show max (bestS l a l.length) 0 = (if bestS l a l.length < 0 then 0 else bestS l a l.length) by split <;> omega)
        replace hFN := hide hFN
        clear L B
        replace E := hide E
        go_wp2_with fail
        go_quiet (fail)
        go_wp2
        rw [Exit.noGoto_ret]
        go_ret2
        exact ⟨by rw [hFN.out, ← m1.out]; rfl, E.out.drewN _⟩
end Go.Proofs.YtmhmcdpadmimlaaGreatDoor
