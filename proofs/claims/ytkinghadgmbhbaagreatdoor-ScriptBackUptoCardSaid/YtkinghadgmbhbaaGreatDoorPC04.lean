/- Chapter 35, walks: an event's line (script.Line); events compared. -/
import Derived.WalkKit
import Derived.Below
import Derived.Outline
import Derived.LoopTactic
import Derived.Laws.OwnMore
import Derived.Deep.AppendLies
import Derived.Deep.Draws
import Derived.Lib.Hide
import Derived.BigQuiet
import Derived.Deep.QuietTactic
import Derived.WalkSpells
import Derived.WalkLawsBesides
import Derived.Deep.RegionHeld3
import Derived.Deep.DrawnRows
import Derived.Deep.RegionLaw
import Derived.Test.YtkinghadgmbhbaaGreatDoorProg
import Derived.Test.YtkinghadgmbhbaaGreatDoorShelf
import Derived.Lib.ConvBytes
import Derived.Lib.Bytealg
import Derived.Lib.Small
import Derived.Lib.SplitLaws
import Derived.Lib.ParseIntB
import Derived.Lib.ParseIntBCases
import Derived.Lib.ItoaNum
import Derived.Lib.Join
import Derived.Test.YtkinghadgmbhbaaGreatDoorShelf2
import Derived.Lib.UnsafeStr
import Derived.Shelf.RegionOpenPlain
import Derived.Laws.StructEq
import Derived.Lib.QuietBelow
import Derived.Test.YtkinghadgmbhbaaGreatDoorRows
import Derived.ProofKit
import Derived.Deep.Slices
import Derived.Shelf.GgClosure.StringsRunes
import Derived.Lib.ItoaMem
import Derived.Lib.ItoaLen
import Derived.Shelf.Strings.Builder1
import Derived.Orders
import Derived.StillTail
import Derived.Defers
import Derived.Recover
import Derived.Laws.EntriesVeiled
import Derived.Deep.DeepCutAuto
import Derived.Test.YtkinghadgmbhbaaGreatDoorPC01
import Derived.Test.YtkinghadgmbhbaaGreatDoorPC02
import Derived.Test.YtkinghadgmbhbaaGreatDoorPC03
namespace Go.Proofs.YtkinghadgmbhbaaGreatDoor
section
open Go.RowKit
set_option linter.unusedVariables false
set_option linter.unusedSimpArgs false
theorem run_neq_ofB {P : Program} {T : TypeId} {xs ys : Array Value} {W : World} {b : Bool} (h1 : (binOp .eql T (.agg xs) (.agg ys)).run P W = .ok (.bool b) W) :
    (binOp .neq T (.agg xs) (.agg ys)).run P W = .ok (.bool (!b)) W := by
  rw [run_eql_struct] at h1
  rw [run_neq_struct]
  generalize (Op.equalIn 10000 T (.agg xs) (.agg ys)).run P W = q at h1 ⊢
  cases q with
  | ok b w' =>
    simp only [Result.andThen] at h1 ⊢
    injection h1 with e1 e2
    injection e1 with e1
    subst e1
    subst e2
    rfl
  | halt x w' => simp only [Result.andThen] at h1; cases h1
theorem run_eqEv (W : World) (x y : EvS) :
  (binOp .eql 31 (.agg #[.int .i64 x.kind, .int .i64 x.conn, .string ⟨x.addr.toArray⟩, .string ⟨x.peer.toArray⟩, .string ⟨x.bytes.toArray⟩, .int .i64 x.ticks, .int .u32 (x.draw.toNat : Int)]) (.agg #[.int .i64 y.kind, .int .i64 y.conn, .string ⟨y.addr.toArray⟩, .string ⟨y.peer.toArray⟩, .string ⟨y.bytes.toArray⟩, .int .i64 y.ticks, .int .u32 (y.draw.toNat : Int)])).run Tryz.prog W = .ok (.bool (decide (x = y))) W := by
 obtain ⟨a1, a2, a3, a4, a5, a6, a7⟩ := x
 obtain ⟨b1, b2, b3, b4, b5, b6, b7⟩ := y
 have hS : Tryz.prog.underlying 31 = some (.struct (Tryz.prog.fieldsOf 31)) := by kernel_rfl
 rw [run_eql_struct, run_equalIn_agg W 9999 _ _ _ hS Tryz.stoodInHeld31]
 simp only [Program.fieldsOf, Tryz.underlying31]
 have e1 : ∀ (a b : Int) (w : World), (Op.equalIn 9999 3 (.int .i64 a) (.int .i64 b)).run Tryz.prog w = .ok (a == b) w := fun a b w => run_equalIn_int w 9998 _ .i64 .i64 a b Tryz.underlying3
 have e2 : ∀ (a b : UInt32) (w : World), (Op.equalIn 9999 29 (.int .u32 (a.toNat : Int)) (.int .u32 (b.toNat : Int))).run Tryz.prog w = .ok (a == b) w := fun a b w => by
  have key : ((a.toNat : Int) == (b.toNat : Int)) = (a == b) := by
   rw [Bool.eq_iff_iff, beq_iff_eq, beq_iff_eq, ← UInt32.toNat_inj]
   omega
  rw [← key]
  exact run_equalIn_int w 9998 _ .u32 .u32 _ _ Tryz.underlying29
 have e3 : ∀ (a b : List UInt8) (w : World), (Op.equalIn 9999 9 (.string ⟨a.toArray⟩) (.string ⟨b.toArray⟩)).run Tryz.prog w = .ok (a == b) w := fun a b w => by
  rw [run_equalIn_string w 9998 _ _ _ Tryz.underlying9, ByteArray.toList_eq, ByteArray.toList_eq]
 by_cases h1 : a1 = b1
 ·subst h1
  by_cases h2 : a2 = b2
  ·subst h2
   by_cases h3 : a3 = b3
   ·subst h3
    by_cases h4 : a4 = b4
    ·subst h4
     by_cases h5 : a5 = b5
     ·subst h5
      by_cases h6 : a6 = b6
      ·subst h6
       by_cases h7 : a7 = b7
       ·subst h7
        simp [Op.eqFields, part, e1, e2, e3]
       ·simp [Op.eqFields, part, e1, e2, e3, h7]
      ·simp [Op.eqFields, part, e1, e2, e3, h6]
     ·simp [Op.eqFields, part, e1, e2, e3, h5]
    ·simp [Op.eqFields, part, e1, e2, e3, h4]
   ·simp [Op.eqFields, part, e1, e2, e3, h3]
  ·simp [Op.eqFields, part, e1, e2, e3, h2]
 ·simp [Op.eqFields, part, e1, e2, e3, h1]
/-- What is told is not too long to be read. -/
theorem tell_len {e : EvS} (h : EvIn e) : (tellS e).length ≤ 4194304 ∧ ((tellS e).length ≤ 1048576 ∨ ∀ r, spl 32 (tellS e) ≠ [105, 110] :: r) := by
 obtain ⟨h1, h2, h3, h4, h5, h6⟩ := h
 have i1 := itoa_len e.conn h2
 have i2 := itoa_len e.ticks h6
 have i3 := wordB_len e.bytes
 have i4 := addrT_len (a := e.addr)
 have i5 : (digS 10 e.draw.toNat).length ≤ 10 := dig10 (by have := e.draw.toNat_lt; omega)
 have key : ∀ (a b : List UInt8), (32 : UInt8) ∉ a → a ≠ [105, 110] → ∀ r, spl 32 (Lib.join [a, b] [32]) ≠ [105, 110] :: r := fun a b ha hn r he => by
  rw [show Lib.join [a, b] [32] = a ++ 32 :: Lib.join [b] [32] from rfl, spl_at ha] at he
  injection he with he _
  exact hn he
 have key3 : ∀ (a b c : List UInt8), (32 : UInt8) ∉ a → a ≠ [105, 110] → ∀ r, spl 32 (Lib.join [a, b, c] [32]) ≠ [105, 110] :: r := fun a b c ha hn r he => by
  rw [show Lib.join [a, b, c] [32] = a ++ 32 :: Lib.join [b, c] [32] from rfl, spl_at ha] at he
  injection he with he _
  exact hn he
 unfold tellS
 by_cases k0 : e.kind = 1
 ·rw [if_pos k0]
  refine ⟨?_, ?_⟩
  ·rw [join3_len]; simp only [List.length_cons, List.length_nil]; omega
  ·rw [join3_len]; simp only [List.length_cons, List.length_nil]; exact .inl (by omega)
 rw [if_neg k0]
 by_cases k1 : e.kind = 2
 ·rw [if_pos k1]
  refine ⟨?_, ?_⟩
  ·rw [join3_len]; simp only [List.length_cons, List.length_nil]; omega
  ·exact .inr (key3 _ _ _ (by decide) (by decide))
 rw [if_neg k1]
 by_cases k2 : e.kind = 3
 ·rw [if_pos k2]
  refine ⟨?_, ?_⟩
  ·rw [join2_len]; simp only [List.length_cons, List.length_nil]; omega
  ·exact .inr (key _ _ (by decide) (by decide))
 rw [if_neg k2]
 by_cases k3 : e.kind = 4
 ·rw [if_pos k3]
  refine ⟨?_, ?_⟩
  ·rw [join3_len]; simp only [List.length_cons, List.length_nil]; omega
  ·exact .inr (key3 _ _ _ (by decide) (by decide))
 rw [if_neg k3]
 by_cases k4 : e.kind = 5
 ·rw [if_pos k4]
  refine ⟨?_, ?_⟩
  ·rw [join2_len]; simp only [List.length_cons, List.length_nil]; omega
  ·rw [join2_len]; simp only [List.length_cons, List.length_nil]; exact .inl (by omega)
 rw [if_neg k4]
 by_cases k5 : e.kind = 6
 ·rw [if_pos k5]
  refine ⟨?_, ?_⟩
  ·rw [join2_len]; simp only [List.length_cons, List.length_nil]; omega
  ·rw [join2_len]; simp only [List.length_cons, List.length_nil]; exact .inl (by omega)
 rw [if_neg k5]
 by_cases k6 : e.kind = 7
 ·rw [if_pos k6]
  refine ⟨?_, ?_⟩
  ·rw [join2_len]; simp only [List.length_cons, List.length_nil]; omega
  ·exact .inr (key _ _ (by decide) (by decide))
 rw [if_neg k6]
 by_cases k7 : e.kind = 8
 ·rw [if_pos k7]
  refine ⟨?_, ?_⟩
  ·rw [join2_len]; simp only [List.length_cons, List.length_nil]; omega
  ·exact .inr (key _ _ (by decide) (by decide))
 rw [if_neg k7]
 by_cases k8 : e.kind = 9
 ·rw [if_pos k8]
  refine ⟨?_, ?_⟩
  ·rw [join2_len]; simp only [List.length_cons, List.length_nil]; omega
  ·rw [join2_len]; simp only [List.length_cons, List.length_nil]; exact .inl (by omega)
 rw [if_neg k8]
 by_cases k9 : e.kind = 10
 ·rw [if_pos k9]; exact ⟨by decide, .inl (by decide)⟩
 ·rw [if_neg k9]; exact ⟨by decide, .inl (by decide)⟩
set_option maxRecDepth 20000 in
set_option maxHeartbeats 2000000 in
theorem SLineE_any (e : EvS) (hin : EvIn e) (w : World) (hT : Tab w) (hV : Vars w) (hD : Deb w) :
    Calls Tryz.prog 13 #[.agg (evCs e).toArray] w fun e' w' => e' = .returned (.tuple #[.string ⟨(evT e).1.toArray⟩, .int .i64 (evT e).2]) ∧ Ext w w' := by
  have qt := fun W (h : Ext w W) => STell_any e hin W (hT.ext h) (hD.ext h)
  obtain ⟨l1, l2⟩ := tell_len hin
  have qe := fun W (h : Ext w W) => SEvent_any (tellS e) l1 l2 W (hT.ext h) (hV.ext h) (hD.ext h)
  rw [evT_back]
  clear l1 l2 hT hV hD hin
  generalize tellS e = t at *
  unfold EvP at qe
  obtain ⟨b1, b2, b3, b4, b5, b6, b7⟩ := e
  simp only [evCs] at qt ⊢
  cases ho : evO t with
  | none =>
    rw [ho] at qe
    rw [if_neg (by simp)]
    clear ho
    have B := Blk.new w 31 #[.int .i64 b1, .int .i64 b2, .string ⟨b3.toArray⟩, .string ⟨b4.toArray⟩, .string ⟨b5.toArray⟩, .int .i64 b6, .int .u32 (b7.toNat : Int)]
    have E := (Ext.refl w).alloc (Obj.cells #[.int .i64 b1, .int .i64 b2, .string ⟨b3.toArray⟩, .string ⟨b4.toArray⟩, .string ⟨b5.toArray⟩, .int .i64 b6, .int .u32 (b7.toNat : Int)] 31)
    generalize hW0 : w.alloc (Obj.cells #[.int .i64 b1, .int .i64 b2, .string ⟨b3.toArray⟩, .string ⟨b4.toArray⟩, .string ⟨b5.toArray⟩, .int .i64 b6, .int .u32 (b7.toNat : Int)] 31) = W0 at B E
    generalize hp : w.heap.size = p at B
    replace qt := qt W0 E
    replace hW0 := hide hW0
    replace hp := hide hp
    replace B := hide B
    replace E := hide E
    replace qt := hide qt
    replace qe := hide qe
    go_enter Tryz.func13, Tryz.ntmps13
    go_upto_region 1 with fail
    rw [hW0.out, hp.out]
    clear hW0 hp
    have c0 : W0.cell? ⟨p, 0, none⟩ = some (.int .i64 b1) := B.out.cell 0
    have c1 : W0.cell? ⟨p, 1, none⟩ = some (.int .i64 b2) := B.out.cell 1
    have c2 : W0.cell? ⟨p, 2, none⟩ = some (.string ⟨b3.toArray⟩) := B.out.cell 2
    have c3 : W0.cell? ⟨p, 3, none⟩ = some (.string ⟨b4.toArray⟩) := B.out.cell 3
    have c4 : W0.cell? ⟨p, 4, none⟩ = some (.string ⟨b5.toArray⟩) := B.out.cell 4
    have c5 : W0.cell? ⟨p, 5, none⟩ = some (.int .i64 b6) := B.out.cell 5
    have c6 : W0.cell? ⟨p, 6, none⟩ = some (.int .u32 (b7.toNat : Int)) := B.out.cell 6
    go_wp2_with fail
    refine qt.out.mono ?_
    rintro e1 W1 ⟨rfl, he⟩
    have E1 := E.out.trans he
    have q := qe.out W1 E1
    clear he qt E c0 c1 c2 c3 c4 c5 c6
    replace E1 := hide E1
    replace q := hide q
    go_wp2_with fail
    refine q.out.mono ?_
    rintro e1 W2 ⟨⟨f, rfl, _, _⟩, he2⟩
    have E2 := E1.out.trans he2
    clear q he2
    replace E2 := hide E2
    simp only [evCs, zeroEv]
    go_wp2
    go_ret2
    exact ⟨rfl, E2.out.alloc _⟩
  | some v =>
    rw [ho] at qe
    have hR : ∀ b : Bool, decide (v = ⟨b1, b2, b3, b4, b5, b6, b7⟩) = b → (if some v = some (⟨b1, b2, b3, b4, b5, b6, b7⟩ : EvS) then (t, (0 : Int)) else ([], 2)) = if b = true then (t, 0) else ([], 2) := fun b hb => by rw [← hb]; simp
    have hq := fun W => run_neq_ofB (run_eqEv W v ⟨b1, b2, b3, b4, b5, b6, b7⟩)
    clear ho
    generalize hb : decide (v = (⟨b1, b2, b3, b4, b5, b6, b7⟩ : EvS)) = b at *
    rw [hR b rfl]
    clear hR hb
    obtain ⟨a1, a2, a3, a4, a5, a6, a7⟩ := v
    simp only [evCs] at qe hq
    have B := Blk.new w 31 #[.int .i64 b1, .int .i64 b2, .string ⟨b3.toArray⟩, .string ⟨b4.toArray⟩, .string ⟨b5.toArray⟩, .int .i64 b6, .int .u32 (b7.toNat : Int)]
    have E := (Ext.refl w).alloc (Obj.cells #[.int .i64 b1, .int .i64 b2, .string ⟨b3.toArray⟩, .string ⟨b4.toArray⟩, .string ⟨b5.toArray⟩, .int .i64 b6, .int .u32 (b7.toNat : Int)] 31)
    generalize hW0 : w.alloc (Obj.cells #[.int .i64 b1, .int .i64 b2, .string ⟨b3.toArray⟩, .string ⟨b4.toArray⟩, .string ⟨b5.toArray⟩, .int .i64 b6, .int .u32 (b7.toNat : Int)] 31) = W0 at B E
    generalize hp : w.heap.size = p at B
    replace qt := qt W0 E
    replace hW0 := hide hW0
    replace hp := hide hp
    replace B := hide B
    replace E := hide E
    replace qt := hide qt
    replace qe := hide qe
    go_enter Tryz.func13, Tryz.ntmps13
    go_upto_region 1 with fail
    rw [hW0.out, hp.out]
    clear hW0 hp
    have c0 : W0.cell? ⟨p, 0, none⟩ = some (.int .i64 b1) := B.out.cell 0
    have c1 : W0.cell? ⟨p, 1, none⟩ = some (.int .i64 b2) := B.out.cell 1
    have c2 : W0.cell? ⟨p, 2, none⟩ = some (.string ⟨b3.toArray⟩) := B.out.cell 2
    have c3 : W0.cell? ⟨p, 3, none⟩ = some (.string ⟨b4.toArray⟩) := B.out.cell 3
    have c4 : W0.cell? ⟨p, 4, none⟩ = some (.string ⟨b5.toArray⟩) := B.out.cell 4
    have c5 : W0.cell? ⟨p, 5, none⟩ = some (.int .i64 b6) := B.out.cell 5
    have c6 : W0.cell? ⟨p, 6, none⟩ = some (.int .u32 (b7.toNat : Int)) := B.out.cell 6
    go_wp2_with fail
    refine qt.out.mono ?_
    rintro e1 W1 ⟨rfl, he⟩
    have E1 := E.out.trans he
    have q := qe.out W1 E1
    have B1 := B.out.ext he
    clear he qt E B c0 c1 c2 c3 c4 c5 c6
    replace E1 := hide E1
    replace q := hide q
    replace B1 := hide B1
    go_wp2_with fail
    refine q.out.mono ?_
    rintro e1 W2 ⟨rfl, he2⟩
    have E2 := E1.out.trans he2
    have B2 := B1.out.ext he2
    clear q he2 E1 B1
    have B3 := B2.alloc (Obj.cells #[.int .i64 a1, .int .i64 a2, .string ⟨a3.toArray⟩, .string ⟨a4.toArray⟩, .string ⟨a5.toArray⟩, .int .i64 a6, .int .u32 (a7.toNat : Int)] 31)
    have N := Blk.new W2 31 #[.int .i64 a1, .int .i64 a2, .string ⟨a3.toArray⟩, .string ⟨a4.toArray⟩, .string ⟨a5.toArray⟩, .int .i64 a6, .int .u32 (a7.toNat : Int)]
    have E3 := E2.alloc (Obj.cells #[.int .i64 a1, .int .i64 a2, .string ⟨a3.toArray⟩, .string ⟨a4.toArray⟩, .string ⟨a5.toArray⟩, .int .i64 a6, .int .u32 (a7.toNat : Int)] 31)
    generalize hW3 : (W2.alloc (Obj.cells #[.int .i64 a1, .int .i64 a2, .string ⟨a3.toArray⟩, .string ⟨a4.toArray⟩, .string ⟨a5.toArray⟩, .int .i64 a6, .int .u32 (a7.toNat : Int)] 31)) = W3 at B3 E3 N
    have c0 : W3.cell? ⟨p, 0, none⟩ = some (.int .i64 b1) := B3.cell 0
    have c1 : W3.cell? ⟨p, 1, none⟩ = some (.int .i64 b2) := B3.cell 1
    have c2 : W3.cell? ⟨p, 2, none⟩ = some (.string ⟨b3.toArray⟩) := B3.cell 2
    have c3 : W3.cell? ⟨p, 3, none⟩ = some (.string ⟨b4.toArray⟩) := B3.cell 3
    have c4 : W3.cell? ⟨p, 4, none⟩ = some (.string ⟨b5.toArray⟩) := B3.cell 4
    have c5 : W3.cell? ⟨p, 5, none⟩ = some (.int .i64 b6) := B3.cell 5
    have c6 : W3.cell? ⟨p, 6, none⟩ = some (.int .u32 (b7.toNat : Int)) := B3.cell 6
    have d0 : W3.cell? ⟨W2.heap.size, 0, none⟩ = some (.int .i64 a1) := N.cell 0
    have d1 : W3.cell? ⟨W2.heap.size, 1, none⟩ = some (.int .i64 a2) := N.cell 1
    have d2 : W3.cell? ⟨W2.heap.size, 2, none⟩ = some (.string ⟨a3.toArray⟩) := N.cell 2
    have d3 : W3.cell? ⟨W2.heap.size, 3, none⟩ = some (.string ⟨a4.toArray⟩) := N.cell 3
    have d4 : W3.cell? ⟨W2.heap.size, 4, none⟩ = some (.string ⟨a5.toArray⟩) := N.cell 4
    have d5 : W3.cell? ⟨W2.heap.size, 5, none⟩ = some (.int .i64 a6) := N.cell 5
    have d6 : W3.cell? ⟨W2.heap.size, 6, none⟩ = some (.int .u32 (a7.toNat : Int)) := N.cell 6
    clear B2 E2 N
    replace B3 := hide B3
    replace E3 := hide E3
    go_upto_region 3 with fail
    clear hW3
    cases b
    · go_wp2
      go_ret2
      exact ⟨rfl, E3.out⟩
    · go_wp2
      go_ret2
      exact ⟨rfl, E3.out⟩
end
end Go.Proofs.YtkinghadgmbhbaaGreatDoor
