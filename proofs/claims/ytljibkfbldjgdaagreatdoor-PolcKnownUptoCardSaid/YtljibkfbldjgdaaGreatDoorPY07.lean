/- Chapter 16, walks: a condition, an action as a text. Printed by gencondt.py. Chapter 16, walks: an action as a text. Printed by genactt.py. Chapter 16, walks: a term as a text (polc.TermText). -/
import Derived.Lib.SplitLaws
import Derived.Lib.ParseIntB
import Derived.Lib.ParseIntBCases
import Derived.Lib.ItoaNum
import Derived.Lib.Join
import Derived.WalkKit
import Derived.Below
import Derived.Outline
import Derived.LoopTactic
import Derived.Laws.OwnMore
import Derived.Deep.AppendLies
import Derived.Deep.Draws
import Derived.Lib.Hide
import Derived.BigQuiet
import Derived.Deep.QuietTactic
import Derived.WalkSpells
import Derived.WalkLawsBesides
import Derived.Deep.RegionHeld3
import Derived.Deep.DrawnRows
import Derived.Deep.RegionLaw
import Derived.Lib.ConvBytes
import Derived.Lib.Bytealg
import Derived.Lib.Small
import Derived.Test.YtljibkfbldjgdaaGreatDoorRows
import Derived.ProofKit
import Derived.Deep.Slices
import Derived.Shelf.GgClosure.StringsRunes
import Derived.Test.YtljibkfbldjgdaaGreatDoorProg
import Derived.Test.YtljibkfbldjgdaaGreatDoorShelf
import Derived.Test.YtljibkfbldjgdaaGreatDoorShelf2
import Derived.Lib.UnsafeStr
import Derived.Shelf.RegionOpenPlain
import Derived.Laws.StructEq
import Derived.Lib.QuietBelow
import Derived.Lib.ItoaMem
import Derived.Lib.ItoaLen
import Derived.Deep.DeepCutAuto
import Derived.Orders
import Derived.StillTail
import Derived.Defers
import Derived.Recover
import Derived.Maps.OwnSet
import Derived.Maps.Views
import Derived.Maps.Range
import Derived.DeepKeys5
import Derived.Deep.Cut
import Derived.Test.YtljibkfbldjgdaaGreatDoorPY01
import Derived.Test.YtljibkfbldjgdaaGreatDoorPY02
import Derived.Test.YtljibkfbldjgdaaGreatDoorPY03
import Derived.Test.YtljibkfbldjgdaaGreatDoorPY04
import Derived.Test.YtljibkfbldjgdaaGreatDoorPY05
import Derived.Test.YtljibkfbldjgdaaGreatDoorPY06
namespace Go.Proofs.YtljibkfbldjgdaaGreatDoor
section
section
open Go.RowKit
set_option linter.unusedVariables false
attribute [local go_sem ↓] Go.wp_at_zero Go.wp_at_succ
theorem sz_app (a b : List UInt8) (h : a.length + b.length ≤ 9223372036854775807) : ¬ 9223372036854775807 < (ByteArray.mk a.toArray).size + (ByteArray.mk b.toArray).size := by rw [ba_size, ba_size]; omega
theorem sz_app3 (a b c : List UInt8) (h : a.length + (b.length + c.length) ≤ 9223372036854775807) : ¬ 9223372036854775807 < (ByteArray.mk a.toArray).size + ((ByteArray.mk b.toArray) ++ ⟨c.toArray⟩).size := by rw [ba_sz_app, ba_size, ba_size, ba_size]; omega
set_option maxRecDepth 20000 in
set_option maxHeartbeats 4000000 in
theorem PCondT1 (neg : Bool) (name : List UInt8) (n : Int) (hn : name.length ≤ 1048576) (w : World) :
    Calls Tryz.prog 34 #[.agg #[.int .i64 1, .bool neg, .string ⟨name.toArray⟩, .int .i64 n]] w fun e w' => e = .returned (.string ⟨((if neg = true then [110, 111, 116, 32] else []) ++ ([112, 114, 101, 102, 105, 120, 32] ++ name)).toArray⟩) ∧ Ext w w' := by
  have z1 := sz_app [112, 114, 101, 102, 105, 120, 32] name (by simp; omega)
  have z2 := sz_app3 [110, 111, 116, 32] [112, 114, 101, 102, 105, 120, 32] name (by simp; omega)
  have E := (Ext.refl w).alloc (Obj.cells #[.int .i64 1, .bool neg, .string ⟨name.toArray⟩, .int .i64 n] 48)
  replace E := hide E
  go_enter Tryz.func34, Tryz.ntmps34
  cases neg with
  | false =>
    go_wp2_with fail
    go_ret
    exact ⟨by rw [ba_app [112, 114, 101, 102, 105, 120, 32]]; rfl, E.out⟩
  | true =>
    go_wp2_with fail
    go_ret
    exact ⟨by rw [ba_app [112, 114, 101, 102, 105, 120, 32], ba_app [110, 111, 116, 32]]; rfl, E.out⟩
set_option maxRecDepth 20000 in
set_option maxHeartbeats 4000000 in
theorem PCondT2 (neg : Bool) (name : List UInt8) (n : Int) (hn : name.length ≤ 1048576) (w : World) :
    Calls Tryz.prog 34 #[.agg #[.int .i64 2, .bool neg, .string ⟨name.toArray⟩, .int .i64 n]] w fun e w' => e = .returned (.string ⟨((if neg = true then [110, 111, 116, 32] else []) ++ ([99, 111, 109, 109, 32] ++ name)).toArray⟩) ∧ Ext w w' := by
  have z1 := sz_app [99, 111, 109, 109, 32] name (by simp; omega)
  have z2 := sz_app3 [110, 111, 116, 32] [99, 111, 109, 109, 32] name (by simp; omega)
  have E := (Ext.refl w).alloc (Obj.cells #[.int .i64 2, .bool neg, .string ⟨name.toArray⟩, .int .i64 n] 48)
  replace E := hide E
  go_enter Tryz.func34, Tryz.ntmps34
  cases neg with
  | false =>
    go_wp2_with fail
    go_ret
    exact ⟨by rw [ba_app [99, 111, 109, 109, 32]]; rfl, E.out⟩
  | true =>
    go_wp2_with fail
    go_ret
    exact ⟨by rw [ba_app [99, 111, 109, 109, 32], ba_app [110, 111, 116, 32]]; rfl, E.out⟩
set_option maxRecDepth 20000 in
set_option maxHeartbeats 4000000 in
theorem PCondT3 (neg : Bool) (name : List UInt8) (n : Int) (hn : name.length ≤ 1048576) (w : World) :
    Calls Tryz.prog 34 #[.agg #[.int .i64 3, .bool neg, .string ⟨name.toArray⟩, .int .i64 n]] w fun e w' => e = .returned (.string ⟨((if neg = true then [110, 111, 116, 32] else []) ++ ([112, 97, 116, 104, 32] ++ name)).toArray⟩) ∧ Ext w w' := by
  have z1 := sz_app [112, 97, 116, 104, 32] name (by simp; omega)
  have z2 := sz_app3 [110, 111, 116, 32] [112, 97, 116, 104, 32] name (by simp; omega)
  have E := (Ext.refl w).alloc (Obj.cells #[.int .i64 3, .bool neg, .string ⟨name.toArray⟩, .int .i64 n] 48)
  replace E := hide E
  go_enter Tryz.func34, Tryz.ntmps34
  cases neg with
  | false =>
    go_wp2_with fail
    go_ret
    exact ⟨by rw [ba_app [112, 97, 116, 104, 32]]; rfl, E.out⟩
  | true =>
    go_wp2_with fail
    go_ret
    exact ⟨by rw [ba_app [112, 97, 116, 104, 32], ba_app [110, 111, 116, 32]]; rfl, E.out⟩
set_option maxRecDepth 20000 in
set_option maxHeartbeats 4000000 in
theorem PCondT4 (neg : Bool) (name : List UInt8) (n : Int) (hn : name.length ≤ 1048576) (w : World) :
    Calls Tryz.prog 34 #[.agg #[.int .i64 4, .bool neg, .string ⟨name.toArray⟩, .int .i64 n]] w fun e w' => e = .returned (.string ⟨((if neg = true then [110, 111, 116, 32] else []) ++ ([112, 101, 101, 114, 32] ++ name)).toArray⟩) ∧ Ext w w' := by
  have z1 := sz_app [112, 101, 101, 114, 32] name (by simp; omega)
  have z2 := sz_app3 [110, 111, 116, 32] [112, 101, 101, 114, 32] name (by simp; omega)
  have E := (Ext.refl w).alloc (Obj.cells #[.int .i64 4, .bool neg, .string ⟨name.toArray⟩, .int .i64 n] 48)
  replace E := hide E
  go_enter Tryz.func34, Tryz.ntmps34
  cases neg with
  | false =>
    go_wp2_with fail
    go_ret
    exact ⟨by rw [ba_app [112, 101, 101, 114, 32]]; rfl, E.out⟩
  | true =>
    go_wp2_with fail
    go_ret
    exact ⟨by rw [ba_app [112, 101, 101, 114, 32], ba_app [110, 111, 116, 32]]; rfl, E.out⟩
set_option maxRecDepth 20000 in
set_option maxHeartbeats 4000000 in
theorem PCondT5_0 (neg : Bool) (w : World) :
    Calls Tryz.prog 34 #[.agg #[.int .i64 5, .bool neg, .string ⟨#[]⟩, .int .i64 0]] w fun e w' => e = .returned (.string ⟨((if neg = true then [110, 111, 116, 32] else []) ++ ([111, 114, 105, 103, 105, 110, 32] ++ ([105, 103, 112] : List UInt8))).toArray⟩) ∧ Ext w w' := by
  have E := (Ext.refl w).alloc (Obj.cells #[.int .i64 5, .bool neg, .string ⟨#[]⟩, .int .i64 0] 48)
  have R := Blk.new w 48 #[.int .i64 5, .bool neg, .string ⟨#[]⟩, .int .i64 0]
  replace R := hide R
  replace E := hide E
  go_enter Tryz.func34, Tryz.ntmps34
  go_upto_region 12 with fail
  generalize w.alloc (Obj.cells #[.int .i64 5, .bool neg, .string ⟨#[]⟩, .int .i64 0] 48) = W8 at R E ⊢
  generalize hg : w.heap.size = rb at R ⊢
  have r3 : W8.cell? ⟨rb, 3, none⟩ = some (.int .i64 0) := R.out.cell 3
  go_region_with
    ((go_at_call 84; refine (POrigins_any _).mono ?_; rintro e w9 ⟨rfl, hw9⟩
      have K9 := Blk.new W8.drew 9 #[.string ⟨#[105, 103, 112]⟩, .string ⟨#[101, 103, 112]⟩, .string ⟨#[105, 110, 99, 111, 109, 112, 108, 101, 116, 101]⟩]
      have K9 : Blk w9 W8.heap.size 9 #[.string ⟨#[105, 103, 112]⟩, .string ⟨#[101, 103, 112]⟩, .string ⟨#[105, 110, 99, 111, 109, 112, 108, 101, 116, 101]⟩] := by rw [← hw9]; exact K9
      have E9 := E.out.drew.alloc (Obj.cells #[.string ⟨#[105, 103, 112]⟩, .string ⟨#[101, 103, 112]⟩, .string ⟨#[105, 110, 99, 111, 109, 112, 108, 101, 116, 101]⟩] 9)
      have R9 := R.out.drew.alloc (Obj.cells #[.string ⟨#[105, 103, 112]⟩, .string ⟨#[101, 103, 112]⟩, .string ⟨#[105, 110, 99, 111, 109, 112, 108, 101, 116, 101]⟩] 9)
      have hw9b : W8.drew.alloc (Obj.cells #[.string ⟨#[105, 103, 112]⟩, .string ⟨#[101, 103, 112]⟩, .string ⟨#[105, 110, 99, 111, 109, 112, 108, 101, 116, 101]⟩] 9) = w9 := hw9
      rw [hw9b] at E9 R9
      clear hw9b hw9
      have r93 : w9.cell? ⟨rb, 3, none⟩ = some (.int .i64 0) := R9.cell 3
      have k9 : w9.cell? ⟨W8.heap.size, 0, none⟩ = some (.string ⟨#[105, 103, 112]⟩) := K9.cell 0
      clear K9
      replace E9 := hide E9
      replace R9 := hide R9))
  all_goals
    have r91 : w9.cell? ⟨rb, 1, none⟩ = some (.bool neg) := R9.out.cell 1
    cases neg with
    | false =>
      go_wp2_with fail
      go_ret
      exact ⟨by rw [ba_app [111, 114, 105, 103, 105, 110, 32]]; rfl, E9.out⟩
    | true =>
      go_wp2_with fail
      go_ret
      exact ⟨by rw [ba_app [111, 114, 105, 103, 105, 110, 32], ba_app [110, 111, 116, 32]]; rfl, E9.out⟩
set_option maxRecDepth 20000 in
set_option maxHeartbeats 4000000 in
theorem PCondT5_1 (neg : Bool) (w : World) :
    Calls Tryz.prog 34 #[.agg #[.int .i64 5, .bool neg, .string ⟨#[]⟩, .int .i64 1]] w fun e w' => e = .returned (.string ⟨((if neg = true then [110, 111, 116, 32] else []) ++ ([111, 114, 105, 103, 105, 110, 32] ++ ([101, 103, 112] : List UInt8))).toArray⟩) ∧ Ext w w' := by
  have E := (Ext.refl w).alloc (Obj.cells #[.int .i64 5, .bool neg, .string ⟨#[]⟩, .int .i64 1] 48)
  have R := Blk.new w 48 #[.int .i64 5, .bool neg, .string ⟨#[]⟩, .int .i64 1]
  replace R := hide R
  replace E := hide E
  go_enter Tryz.func34, Tryz.ntmps34
  go_upto_region 12 with fail
  generalize w.alloc (Obj.cells #[.int .i64 5, .bool neg, .string ⟨#[]⟩, .int .i64 1] 48) = W8 at R E ⊢
  generalize hg : w.heap.size = rb at R ⊢
  have r3 : W8.cell? ⟨rb, 3, none⟩ = some (.int .i64 1) := R.out.cell 3
  go_region_with
    ((go_at_call 84; refine (POrigins_any _).mono ?_; rintro e w9 ⟨rfl, hw9⟩
      have K9 := Blk.new W8.drew 9 #[.string ⟨#[105, 103, 112]⟩, .string ⟨#[101, 103, 112]⟩, .string ⟨#[105, 110, 99, 111, 109, 112, 108, 101, 116, 101]⟩]
      have K9 : Blk w9 W8.heap.size 9 #[.string ⟨#[105, 103, 112]⟩, .string ⟨#[101, 103, 112]⟩, .string ⟨#[105, 110, 99, 111, 109, 112, 108, 101, 116, 101]⟩] := by rw [← hw9]; exact K9
      have E9 := E.out.drew.alloc (Obj.cells #[.string ⟨#[105, 103, 112]⟩, .string ⟨#[101, 103, 112]⟩, .string ⟨#[105, 110, 99, 111, 109, 112, 108, 101, 116, 101]⟩] 9)
      have R9 := R.out.drew.alloc (Obj.cells #[.string ⟨#[105, 103, 112]⟩, .string ⟨#[101, 103, 112]⟩, .string ⟨#[105, 110, 99, 111, 109, 112, 108, 101, 116, 101]⟩] 9)
      have hw9b : W8.drew.alloc (Obj.cells #[.string ⟨#[105, 103, 112]⟩, .string ⟨#[101, 103, 112]⟩, .string ⟨#[105, 110, 99, 111, 109, 112, 108, 101, 116, 101]⟩] 9) = w9 := hw9
      rw [hw9b] at E9 R9
      clear hw9b hw9
      have r93 : w9.cell? ⟨rb, 3, none⟩ = some (.int .i64 1) := R9.cell 3
      have k9 : w9.cell? ⟨W8.heap.size, 1, none⟩ = some (.string ⟨#[101, 103, 112]⟩) := K9.cell 1
      clear K9
      replace E9 := hide E9
      replace R9 := hide R9))
  all_goals
    have r91 : w9.cell? ⟨rb, 1, none⟩ = some (.bool neg) := R9.out.cell 1
    cases neg with
    | false =>
      go_wp2_with fail
      go_ret
      exact ⟨by rw [ba_app [111, 114, 105, 103, 105, 110, 32]]; rfl, E9.out⟩
    | true =>
      go_wp2_with fail
      go_ret
      exact ⟨by rw [ba_app [111, 114, 105, 103, 105, 110, 32], ba_app [110, 111, 116, 32]]; rfl, E9.out⟩
set_option maxRecDepth 20000 in
set_option maxHeartbeats 4000000 in
theorem PCondT5_2 (neg : Bool) (w : World) :
    Calls Tryz.prog 34 #[.agg #[.int .i64 5, .bool neg, .string ⟨#[]⟩, .int .i64 2]] w fun e w' => e = .returned (.string ⟨((if neg = true then [110, 111, 116, 32] else []) ++ ([111, 114, 105, 103, 105, 110, 32] ++ ([105, 110, 99, 111, 109, 112, 108, 101, 116, 101] : List UInt8))).toArray⟩) ∧ Ext w w' := by
  have E := (Ext.refl w).alloc (Obj.cells #[.int .i64 5, .bool neg, .string ⟨#[]⟩, .int .i64 2] 48)
  have R := Blk.new w 48 #[.int .i64 5, .bool neg, .string ⟨#[]⟩, .int .i64 2]
  replace R := hide R
  replace E := hide E
  go_enter Tryz.func34, Tryz.ntmps34
  go_upto_region 12 with fail
  generalize w.alloc (Obj.cells #[.int .i64 5, .bool neg, .string ⟨#[]⟩, .int .i64 2] 48) = W8 at R E ⊢
  generalize hg : w.heap.size = rb at R ⊢
  have r3 : W8.cell? ⟨rb, 3, none⟩ = some (.int .i64 2) := R.out.cell 3
  go_region_with
    ((go_at_call 84; refine (POrigins_any _).mono ?_; rintro e w9 ⟨rfl, hw9⟩
      have K9 := Blk.new W8.drew 9 #[.string ⟨#[105, 103, 112]⟩, .string ⟨#[101, 103, 112]⟩, .string ⟨#[105, 110, 99, 111, 109, 112, 108, 101, 116, 101]⟩]
      have K9 : Blk w9 W8.heap.size 9 #[.string ⟨#[105, 103, 112]⟩, .string ⟨#[101, 103, 112]⟩, .string ⟨#[105, 110, 99, 111, 109, 112, 108, 101, 116, 101]⟩] := by rw [← hw9]; exact K9
      have E9 := E.out.drew.alloc (Obj.cells #[.string ⟨#[105, 103, 112]⟩, .string ⟨#[101, 103, 112]⟩, .string ⟨#[105, 110, 99, 111, 109, 112, 108, 101, 116, 101]⟩] 9)
      have R9 := R.out.drew.alloc (Obj.cells #[.string ⟨#[105, 103, 112]⟩, .string ⟨#[101, 103, 112]⟩, .string ⟨#[105, 110, 99, 111, 109, 112, 108, 101, 116, 101]⟩] 9)
      have hw9b : W8.drew.alloc (Obj.cells #[.string ⟨#[105, 103, 112]⟩, .string ⟨#[101, 103, 112]⟩, .string ⟨#[105, 110, 99, 111, 109, 112, 108, 101, 116, 101]⟩] 9) = w9 := hw9
      rw [hw9b] at E9 R9
      clear hw9b hw9
      have r93 : w9.cell? ⟨rb, 3, none⟩ = some (.int .i64 2) := R9.cell 3
      have k9 : w9.cell? ⟨W8.heap.size, 2, none⟩ = some (.string ⟨#[105, 110, 99, 111, 109, 112, 108, 101, 116, 101]⟩) := K9.cell 2
      clear K9
      replace E9 := hide E9
      replace R9 := hide R9))
  all_goals
    have r91 : w9.cell? ⟨rb, 1, none⟩ = some (.bool neg) := R9.out.cell 1
    cases neg with
    | false =>
      go_wp2_with fail
      go_ret
      exact ⟨by rw [ba_app [111, 114, 105, 103, 105, 110, 32]]; rfl, E9.out⟩
    | true =>
      go_wp2_with fail
      go_ret
      exact ⟨by rw [ba_app [111, 114, 105, 103, 105, 110, 32], ba_app [110, 111, 116, 32]]; rfl, E9.out⟩
set_option maxRecDepth 20000 in
set_option maxHeartbeats 4000000 in
theorem PCondT6 (neg : Bool) (u : Nat) (hu : u ≤ 65535) (w : World) (hT : Tab w) :
    Calls Tryz.prog 34 #[.agg #[.int .i64 6, .bool neg, .string ⟨#[]⟩, .int .i64 (u : Int)]] w fun e w' => e = .returned (.string ⟨((if neg = true then [110, 111, 116, 32] else []) ++ ([108, 101, 110, 103, 116, 104, 32] ++ digS 10 u)).toArray⟩) ∧ Ext w w' := by
  have hdl : (digS 10 u).length ≤ 5 := digS_len (by decide) 5 _ (by omega) (by decide)
  have q := fun W (h : Ext w W) => (Itoa_any u (by omega) W (hT.ext h)).mono (R' := fun e w' => e = .returned (.string ⟨(digS 10 u).toArray⟩) ∧ Ext W w') fun e w' q => ⟨by rw [q.1]; unfold dec; rw [digS_dec], q.2⟩
  generalize digS 10 u = d at *
  have z1 := sz_app [108, 101, 110, 103, 116, 104, 32] d (by simp; omega)
  have z2 := sz_app3 [110, 111, 116, 32] [108, 101, 110, 103, 116, 104, 32] d (by simp; omega)
  clear hT hu hdl
  replace q := hide q
  have E := (Ext.refl w).alloc (Obj.cells #[.int .i64 6, .bool neg, .string ⟨#[]⟩, .int .i64 (u : Int)] 48)
  have R := Blk.new w 48 #[.int .i64 6, .bool neg, .string ⟨#[]⟩, .int .i64 (u : Int)]
  replace R := hide R
  replace E := hide E
  go_enter Tryz.func34, Tryz.ntmps34
  go_wp2_with fail
  (with_reducible refine (q.out _ E.out).mono ?_)
  rintro e w1 ⟨rfl, he⟩
  have R1 := R.out.ext he
  replace E := hide (E.out.trans he)
  have r1 : w1.cell? ⟨w.heap.size, 1, none⟩ = some (.bool neg) := R1.cell 1
  cases neg with
  | false =>
    go_wp2_with fail
    go_ret
    exact ⟨by rw [ba_app [108, 101, 110, 103, 116, 104, 32]]; rfl, E.out⟩
  | true =>
    go_wp2_with fail
    go_ret
    exact ⟨by rw [ba_app [108, 101, 110, 103, 116, 104, 32], ba_app [110, 111, 116, 32]]; rfl, E.out⟩
set_option maxRecDepth 20000 in
set_option maxHeartbeats 4000000 in
theorem PCondT7_1 (neg : Bool) (w : World) :
    Calls Tryz.prog 34 #[.agg #[.int .i64 7, .bool neg, .string ⟨#[]⟩, .int .i64 1]] w fun e w' => e = .returned (.string ⟨((if neg = true then [110, 111, 116, 32] else []) ++ ([102, 97, 109, 32] ++ ([118, 52] : List UInt8))).toArray⟩) ∧ Ext w w' := by
  have E := (Ext.refl w).alloc (Obj.cells #[.int .i64 7, .bool neg, .string ⟨#[]⟩, .int .i64 1] 48)
  have R := Blk.new w 48 #[.int .i64 7, .bool neg, .string ⟨#[]⟩, .int .i64 1]
  replace R := hide R
  replace E := hide E
  go_enter Tryz.func34, Tryz.ntmps34
  go_upto_region 16 with fail
  generalize w.alloc (Obj.cells #[.int .i64 7, .bool neg, .string ⟨#[]⟩, .int .i64 1] 48) = W8 at R E ⊢
  generalize hg : w.heap.size = rb at R ⊢
  have r3 : W8.cell? ⟨rb, 3, none⟩ = some (.int .i64 1) := R.out.cell 3
  go_region_with
    ((go_at_call 86; refine (PFams_any _).mono ?_; rintro e w9 ⟨rfl, hw9⟩
      have K9 := Blk.new W8.drew 9 #[.string ⟨#[]⟩, .string ⟨#[118, 52]⟩, .string ⟨#[118, 54]⟩, .string ⟨#[108, 52]⟩, .string ⟨#[118, 112, 110, 52]⟩, .string ⟨#[118, 112, 110, 54]⟩]
      have K9 : Blk w9 W8.heap.size 9 #[.string ⟨#[]⟩, .string ⟨#[118, 52]⟩, .string ⟨#[118, 54]⟩, .string ⟨#[108, 52]⟩, .string ⟨#[118, 112, 110, 52]⟩, .string ⟨#[118, 112, 110, 54]⟩] := by rw [← hw9]; exact K9
      have E9 := E.out.drew.alloc (Obj.cells #[.string ⟨#[]⟩, .string ⟨#[118, 52]⟩, .string ⟨#[118, 54]⟩, .string ⟨#[108, 52]⟩, .string ⟨#[118, 112, 110, 52]⟩, .string ⟨#[118, 112, 110, 54]⟩] 9)
      have R9 := R.out.drew.alloc (Obj.cells #[.string ⟨#[]⟩, .string ⟨#[118, 52]⟩, .string ⟨#[118, 54]⟩, .string ⟨#[108, 52]⟩, .string ⟨#[118, 112, 110, 52]⟩, .string ⟨#[118, 112, 110, 54]⟩] 9)
      have hw9b : W8.drew.alloc (Obj.cells #[.string ⟨#[]⟩, .string ⟨#[118, 52]⟩, .string ⟨#[118, 54]⟩, .string ⟨#[108, 52]⟩, .string ⟨#[118, 112, 110, 52]⟩, .string ⟨#[118, 112, 110, 54]⟩] 9) = w9 := hw9
      rw [hw9b] at E9 R9
      clear hw9b hw9
      have r93 : w9.cell? ⟨rb, 3, none⟩ = some (.int .i64 1) := R9.cell 3
      have k9 : w9.cell? ⟨W8.heap.size, 1, none⟩ = some (.string ⟨#[118, 52]⟩) := K9.cell 1
      clear K9
      replace E9 := hide E9
      replace R9 := hide R9))
  all_goals
    have r91 : w9.cell? ⟨rb, 1, none⟩ = some (.bool neg) := R9.out.cell 1
    cases neg with
    | false =>
      go_wp2_with fail
      go_ret
      exact ⟨by rw [ba_app [102, 97, 109, 32]]; rfl, E9.out⟩
    | true =>
      go_wp2_with fail
      go_ret
      exact ⟨by rw [ba_app [102, 97, 109, 32], ba_app [110, 111, 116, 32]]; rfl, E9.out⟩
set_option maxRecDepth 20000 in
set_option maxHeartbeats 4000000 in
theorem PCondT7_2 (neg : Bool) (w : World) :
    Calls Tryz.prog 34 #[.agg #[.int .i64 7, .bool neg, .string ⟨#[]⟩, .int .i64 2]] w fun e w' => e = .returned (.string ⟨((if neg = true then [110, 111, 116, 32] else []) ++ ([102, 97, 109, 32] ++ ([118, 54] : List UInt8))).toArray⟩) ∧ Ext w w' := by
  have E := (Ext.refl w).alloc (Obj.cells #[.int .i64 7, .bool neg, .string ⟨#[]⟩, .int .i64 2] 48)
  have R := Blk.new w 48 #[.int .i64 7, .bool neg, .string ⟨#[]⟩, .int .i64 2]
  replace R := hide R
  replace E := hide E
  go_enter Tryz.func34, Tryz.ntmps34
  go_upto_region 16 with fail
  generalize w.alloc (Obj.cells #[.int .i64 7, .bool neg, .string ⟨#[]⟩, .int .i64 2] 48) = W8 at R E ⊢
  generalize hg : w.heap.size = rb at R ⊢
  have r3 : W8.cell? ⟨rb, 3, none⟩ = some (.int .i64 2) := R.out.cell 3
  go_region_with
    ((go_at_call 86; refine (PFams_any _).mono ?_; rintro e w9 ⟨rfl, hw9⟩
      have K9 := Blk.new W8.drew 9 #[.string ⟨#[]⟩, .string ⟨#[118, 52]⟩, .string ⟨#[118, 54]⟩, .string ⟨#[108, 52]⟩, .string ⟨#[118, 112, 110, 52]⟩, .string ⟨#[118, 112, 110, 54]⟩]
      have K9 : Blk w9 W8.heap.size 9 #[.string ⟨#[]⟩, .string ⟨#[118, 52]⟩, .string ⟨#[118, 54]⟩, .string ⟨#[108, 52]⟩, .string ⟨#[118, 112, 110, 52]⟩, .string ⟨#[118, 112, 110, 54]⟩] := by rw [← hw9]; exact K9
      have E9 := E.out.drew.alloc (Obj.cells #[.string ⟨#[]⟩, .string ⟨#[118, 52]⟩, .string ⟨#[118, 54]⟩, .string ⟨#[108, 52]⟩, .string ⟨#[118, 112, 110, 52]⟩, .string ⟨#[118, 112, 110, 54]⟩] 9)
      have R9 := R.out.drew.alloc (Obj.cells #[.string ⟨#[]⟩, .string ⟨#[118, 52]⟩, .string ⟨#[118, 54]⟩, .string ⟨#[108, 52]⟩, .string ⟨#[118, 112, 110, 52]⟩, .string ⟨#[118, 112, 110, 54]⟩] 9)
      have hw9b : W8.drew.alloc (Obj.cells #[.string ⟨#[]⟩, .string ⟨#[118, 52]⟩, .string ⟨#[118, 54]⟩, .string ⟨#[108, 52]⟩, .string ⟨#[118, 112, 110, 52]⟩, .string ⟨#[118, 112, 110, 54]⟩] 9) = w9 := hw9
      rw [hw9b] at E9 R9
      clear hw9b hw9
      have r93 : w9.cell? ⟨rb, 3, none⟩ = some (.int .i64 2) := R9.cell 3
      have k9 : w9.cell? ⟨W8.heap.size, 2, none⟩ = some (.string ⟨#[118, 54]⟩) := K9.cell 2
      clear K9
      replace E9 := hide E9
      replace R9 := hide R9))
  all_goals
    have r91 : w9.cell? ⟨rb, 1, none⟩ = some (.bool neg) := R9.out.cell 1
    cases neg with
    | false =>
      go_wp2_with fail
      go_ret
      exact ⟨by rw [ba_app [102, 97, 109, 32]]; rfl, E9.out⟩
    | true =>
      go_wp2_with fail
      go_ret
      exact ⟨by rw [ba_app [102, 97, 109, 32], ba_app [110, 111, 116, 32]]; rfl, E9.out⟩
set_option maxRecDepth 20000 in
set_option maxHeartbeats 4000000 in
theorem PCondT7_3 (neg : Bool) (w : World) :
    Calls Tryz.prog 34 #[.agg #[.int .i64 7, .bool neg, .string ⟨#[]⟩, .int .i64 3]] w fun e w' => e = .returned (.string ⟨((if neg = true then [110, 111, 116, 32] else []) ++ ([102, 97, 109, 32] ++ ([108, 52] : List UInt8))).toArray⟩) ∧ Ext w w' := by
  have E := (Ext.refl w).alloc (Obj.cells #[.int .i64 7, .bool neg, .string ⟨#[]⟩, .int .i64 3] 48)
  have R := Blk.new w 48 #[.int .i64 7, .bool neg, .string ⟨#[]⟩, .int .i64 3]
  replace R := hide R
  replace E := hide E
  go_enter Tryz.func34, Tryz.ntmps34
  go_upto_region 16 with fail
  generalize w.alloc (Obj.cells #[.int .i64 7, .bool neg, .string ⟨#[]⟩, .int .i64 3] 48) = W8 at R E ⊢
  generalize hg : w.heap.size = rb at R ⊢
  have r3 : W8.cell? ⟨rb, 3, none⟩ = some (.int .i64 3) := R.out.cell 3
  go_region_with
    ((go_at_call 86; refine (PFams_any _).mono ?_; rintro e w9 ⟨rfl, hw9⟩
      have K9 := Blk.new W8.drew 9 #[.string ⟨#[]⟩, .string ⟨#[118, 52]⟩, .string ⟨#[118, 54]⟩, .string ⟨#[108, 52]⟩, .string ⟨#[118, 112, 110, 52]⟩, .string ⟨#[118, 112, 110, 54]⟩]
      have K9 : Blk w9 W8.heap.size 9 #[.string ⟨#[]⟩, .string ⟨#[118, 52]⟩, .string ⟨#[118, 54]⟩, .string ⟨#[108, 52]⟩, .string ⟨#[118, 112, 110, 52]⟩, .string ⟨#[118, 112, 110, 54]⟩] := by rw [← hw9]; exact K9
      have E9 := E.out.drew.alloc (Obj.cells #[.string ⟨#[]⟩, .string ⟨#[118, 52]⟩, .string ⟨#[118, 54]⟩, .string ⟨#[108, 52]⟩, .string ⟨#[118, 112, 110, 52]⟩, .string ⟨#[118, 112, 110, 54]⟩] 9)
      have R9 := R.out.drew.alloc (Obj.cells #[.string ⟨#[]⟩, .string ⟨#[118, 52]⟩, .string ⟨#[118, 54]⟩, .string ⟨#[108, 52]⟩, .string ⟨#[118, 112, 110, 52]⟩, .string ⟨#[118, 112, 110, 54]⟩] 9)
      have hw9b : W8.drew.alloc (Obj.cells #[.string ⟨#[]⟩, .string ⟨#[118, 52]⟩, .string ⟨#[118, 54]⟩, .string ⟨#[108, 52]⟩, .string ⟨#[118, 112, 110, 52]⟩, .string ⟨#[118, 112, 110, 54]⟩] 9) = w9 := hw9
      rw [hw9b] at E9 R9
      clear hw9b hw9
      have r93 : w9.cell? ⟨rb, 3, none⟩ = some (.int .i64 3) := R9.cell 3
      have k9 : w9.cell? ⟨W8.heap.size, 3, none⟩ = some (.string ⟨#[108, 52]⟩) := K9.cell 3
      clear K9
      replace E9 := hide E9
      replace R9 := hide R9))
  all_goals
    have r91 : w9.cell? ⟨rb, 1, none⟩ = some (.bool neg) := R9.out.cell 1
    cases neg with
    | false =>
      go_wp2_with fail
      go_ret
      exact ⟨by rw [ba_app [102, 97, 109, 32]]; rfl, E9.out⟩
    | true =>
      go_wp2_with fail
      go_ret
      exact ⟨by rw [ba_app [102, 97, 109, 32], ba_app [110, 111, 116, 32]]; rfl, E9.out⟩
set_option maxRecDepth 20000 in
set_option maxHeartbeats 4000000 in
theorem PCondT7_4 (neg : Bool) (w : World) :
    Calls Tryz.prog 34 #[.agg #[.int .i64 7, .bool neg, .string ⟨#[]⟩, .int .i64 4]] w fun e w' => e = .returned (.string ⟨((if neg = true then [110, 111, 116, 32] else []) ++ ([102, 97, 109, 32] ++ ([118, 112, 110, 52] : List UInt8))).toArray⟩) ∧ Ext w w' := by
  have E := (Ext.refl w).alloc (Obj.cells #[.int .i64 7, .bool neg, .string ⟨#[]⟩, .int .i64 4] 48)
  have R := Blk.new w 48 #[.int .i64 7, .bool neg, .string ⟨#[]⟩, .int .i64 4]
  replace R := hide R
  replace E := hide E
  go_enter Tryz.func34, Tryz.ntmps34
  go_upto_region 16 with fail
  generalize w.alloc (Obj.cells #[.int .i64 7, .bool neg, .string ⟨#[]⟩, .int .i64 4] 48) = W8 at R E ⊢
  generalize hg : w.heap.size = rb at R ⊢
  have r3 : W8.cell? ⟨rb, 3, none⟩ = some (.int .i64 4) := R.out.cell 3
  go_region_with
    ((go_at_call 86; refine (PFams_any _).mono ?_; rintro e w9 ⟨rfl, hw9⟩
      have K9 := Blk.new W8.drew 9 #[.string ⟨#[]⟩, .string ⟨#[118, 52]⟩, .string ⟨#[118, 54]⟩, .string ⟨#[108, 52]⟩, .string ⟨#[118, 112, 110, 52]⟩, .string ⟨#[118, 112, 110, 54]⟩]
      have K9 : Blk w9 W8.heap.size 9 #[.string ⟨#[]⟩, .string ⟨#[118, 52]⟩, .string ⟨#[118, 54]⟩, .string ⟨#[108, 52]⟩, .string ⟨#[118, 112, 110, 52]⟩, .string ⟨#[118, 112, 110, 54]⟩] := by rw [← hw9]; exact K9
      have E9 := E.out.drew.alloc (Obj.cells #[.string ⟨#[]⟩, .string ⟨#[118, 52]⟩, .string ⟨#[118, 54]⟩, .string ⟨#[108, 52]⟩, .string ⟨#[118, 112, 110, 52]⟩, .string ⟨#[118, 112, 110, 54]⟩] 9)
      have R9 := R.out.drew.alloc (Obj.cells #[.string ⟨#[]⟩, .string ⟨#[118, 52]⟩, .string ⟨#[118, 54]⟩, .string ⟨#[108, 52]⟩, .string ⟨#[118, 112, 110, 52]⟩, .string ⟨#[118, 112, 110, 54]⟩] 9)
      have hw9b : W8.drew.alloc (Obj.cells #[.string ⟨#[]⟩, .string ⟨#[118, 52]⟩, .string ⟨#[118, 54]⟩, .string ⟨#[108, 52]⟩, .string ⟨#[118, 112, 110, 52]⟩, .string ⟨#[118, 112, 110, 54]⟩] 9) = w9 := hw9
      rw [hw9b] at E9 R9
      clear hw9b hw9
      have r93 : w9.cell? ⟨rb, 3, none⟩ = some (.int .i64 4) := R9.cell 3
      have k9 : w9.cell? ⟨W8.heap.size, 4, none⟩ = some (.string ⟨#[118, 112, 110, 52]⟩) := K9.cell 4
      clear K9
      replace E9 := hide E9
      replace R9 := hide R9))
  all_goals
    have r91 : w9.cell? ⟨rb, 1, none⟩ = some (.bool neg) := R9.out.cell 1
    cases neg with
    | false =>
      go_wp2_with fail
      go_ret
      exact ⟨by rw [ba_app [102, 97, 109, 32]]; rfl, E9.out⟩
    | true =>
      go_wp2_with fail
      go_ret
      exact ⟨by rw [ba_app [102, 97, 109, 32], ba_app [110, 111, 116, 32]]; rfl, E9.out⟩
set_option maxRecDepth 20000 in
set_option maxHeartbeats 4000000 in
theorem PCondT7_5 (neg : Bool) (w : World) :
    Calls Tryz.prog 34 #[.agg #[.int .i64 7, .bool neg, .string ⟨#[]⟩, .int .i64 5]] w fun e w' => e = .returned (.string ⟨((if neg = true then [110, 111, 116, 32] else []) ++ ([102, 97, 109, 32] ++ ([118, 112, 110, 54] : List UInt8))).toArray⟩) ∧ Ext w w' := by
  have E := (Ext.refl w).alloc (Obj.cells #[.int .i64 7, .bool neg, .string ⟨#[]⟩, .int .i64 5] 48)
  have R := Blk.new w 48 #[.int .i64 7, .bool neg, .string ⟨#[]⟩, .int .i64 5]
  replace R := hide R
  replace E := hide E
  go_enter Tryz.func34, Tryz.ntmps34
  go_upto_region 16 with fail
  generalize w.alloc (Obj.cells #[.int .i64 7, .bool neg, .string ⟨#[]⟩, .int .i64 5] 48) = W8 at R E ⊢
  generalize hg : w.heap.size = rb at R ⊢
  have r3 : W8.cell? ⟨rb, 3, none⟩ = some (.int .i64 5) := R.out.cell 3
  go_region_with
    ((go_at_call 86; refine (PFams_any _).mono ?_; rintro e w9 ⟨rfl, hw9⟩
      have K9 := Blk.new W8.drew 9 #[.string ⟨#[]⟩, .string ⟨#[118, 52]⟩, .string ⟨#[118, 54]⟩, .string ⟨#[108, 52]⟩, .string ⟨#[118, 112, 110, 52]⟩, .string ⟨#[118, 112, 110, 54]⟩]
      have K9 : Blk w9 W8.heap.size 9 #[.string ⟨#[]⟩, .string ⟨#[118, 52]⟩, .string ⟨#[118, 54]⟩, .string ⟨#[108, 52]⟩, .string ⟨#[118, 112, 110, 52]⟩, .string ⟨#[118, 112, 110, 54]⟩] := by rw [← hw9]; exact K9
      have E9 := E.out.drew.alloc (Obj.cells #[.string ⟨#[]⟩, .string ⟨#[118, 52]⟩, .string ⟨#[118, 54]⟩, .string ⟨#[108, 52]⟩, .string ⟨#[118, 112, 110, 52]⟩, .string ⟨#[118, 112, 110, 54]⟩] 9)
      have R9 := R.out.drew.alloc (Obj.cells #[.string ⟨#[]⟩, .string ⟨#[118, 52]⟩, .string ⟨#[118, 54]⟩, .string ⟨#[108, 52]⟩, .string ⟨#[118, 112, 110, 52]⟩, .string ⟨#[118, 112, 110, 54]⟩] 9)
      have hw9b : W8.drew.alloc (Obj.cells #[.string ⟨#[]⟩, .string ⟨#[118, 52]⟩, .string ⟨#[118, 54]⟩, .string ⟨#[108, 52]⟩, .string ⟨#[118, 112, 110, 52]⟩, .string ⟨#[118, 112, 110, 54]⟩] 9) = w9 := hw9
      rw [hw9b] at E9 R9
      clear hw9b hw9
      have r93 : w9.cell? ⟨rb, 3, none⟩ = some (.int .i64 5) := R9.cell 3
      have k9 : w9.cell? ⟨W8.heap.size, 5, none⟩ = some (.string ⟨#[118, 112, 110, 54]⟩) := K9.cell 5
      clear K9
      replace E9 := hide E9
      replace R9 := hide R9))
  all_goals
    have r91 : w9.cell? ⟨rb, 1, none⟩ = some (.bool neg) := R9.out.cell 1
    cases neg with
    | false =>
      go_wp2_with fail
      go_ret
      exact ⟨by rw [ba_app [102, 97, 109, 32]]; rfl, E9.out⟩
    | true =>
      go_wp2_with fail
      go_ret
      exact ⟨by rw [ba_app [102, 97, 109, 32], ba_app [110, 111, 116, 32]]; rfl, E9.out⟩
theorem PCondT_any (c : CondS) (h : condOk c = true) (hn : c.name.length ≤ 1048576) (w : World) (hT : Tab w) :
  Calls Tryz.prog 34 #[.agg (condCs c).toArray] w fun e w' => e = .returned (.string ⟨(condT c).toArray⟩) ∧ Ext w w' := by
 obtain ⟨k, neg, name, n⟩ := c
 unfold condT condW
 unfold condOk at h
 dsimp only at h hn ⊢
 by_cases h1 : k = 1 ∨ k = 2 ∨ k = 3 ∨ k = 4
 ·rcases h1 with rfl | rfl | rfl | rfl
  ·exact PCondT1 neg name n hn w
  ·exact PCondT2 neg name n hn w
  ·exact PCondT3 neg name n hn w
  ·exact PCondT4 neg name n hn w
 rw [if_neg h1] at h
 rw [if_neg fun e => h1 (.inl e), if_neg fun e => h1 (.inr (.inl e)), if_neg fun e => h1 (.inr (.inr (.inl e))), if_neg fun e => h1 (.inr (.inr (.inr e)))]
 by_cases h5 : k = 5
 ·rw [if_pos h5, Bool.and_eq_true, decide_eq_true_eq, decide_eq_true_eq] at h
  obtain ⟨h2, rfl⟩ := h
  subst h5
  rcases (show n = 0 ∨ n = 1 ∨ n = 2 by omega) with rfl | rfl | rfl
  ·exact PCondT5_0 neg w
  ·exact PCondT5_1 neg w
  ·exact PCondT5_2 neg w
 rw [if_neg h5] at h ⊢
 by_cases h6 : k = 6
 ·rw [if_pos h6, Bool.and_eq_true, decide_eq_true_eq, decide_eq_true_eq] at h
  obtain ⟨h2, rfl⟩ := h
  subst h6
  obtain ⟨u, rfl⟩ : ∃ u : Nat, n = (u : Int) := ⟨n.toNat, by omega⟩
  exact PCondT6 neg u (by omega) w hT
 rw [if_neg h6] at h ⊢
 by_cases h7 : k = 7
 ·rw [if_pos h7, Bool.and_eq_true, decide_eq_true_eq, decide_eq_true_eq] at h
  obtain ⟨h2, rfl⟩ := h
  subst h7
  rcases (show n = 1 ∨ n = 2 ∨ n = 3 ∨ n = 4 ∨ n = 5 by omega) with rfl | rfl | rfl | rfl | rfl
  ·exact PCondT7_1 neg w
  ·exact PCondT7_2 neg w
  ·exact PCondT7_3 neg w
  ·exact PCondT7_4 neg w
  ·exact PCondT7_5 neg w
 rw [if_neg h7] at h
 cases h
end
section
open Go.RowKit
set_option linter.unusedVariables false
attribute [local go_sem ↓] Go.wp_at_zero Go.wp_at_succ
theorem commT_len (c : UInt32) : (commT c).length ≤ 30 := by
 have hlt := c.toNat_lt
 rcases comm_cases c with ⟨_, e⟩ | ⟨_, e⟩ | ⟨_, e⟩ | e
 ·rw [e]; decide
 ·rw [e]; decide
 ·rw [e]; decide
 ·have h1 : (digS 10 (c.toNat / 65536)).length ≤ 5 := digS_len (by decide) 5 _ (by omega) (by decide)
  have h2 : (digS 10 (c.toNat % 65536)).length ≤ 5 := digS_len (by decide) 5 _ (by omega) (by decide)
  rw [e, List.length_append, List.length_cons]
  omega
set_option maxRecDepth 20000 in
set_option maxHeartbeats 4000000 in
theorem PActT1 (name : List UInt8) (n : UInt32) (addr : List UInt8) (w : World) (hT : Tab w) :
  Calls Tryz.prog 35 #[.agg #[.int .i64 1, .string ⟨name.toArray⟩, .int .u32 (n.toNat : Int), .string ⟨addr.toArray⟩]] w fun e w' => e = .returned (.string ⟨(([97, 99, 99, 101, 112, 116] : List UInt8)).toArray⟩) ∧ Ext w w' := by
 have q := fun W (h : Ext w W) => (FormatUint_any (n.toNat) (by have := n.toNat_lt; omega) W (hT.ext h)).mono (R' := fun e w' => e = .returned (.string ⟨(digS 10 (n.toNat)).toArray⟩) ∧ Ext W w') fun e w' q => ⟨by rw [q.1]; unfold dec; rw [digS_dec], q.2⟩
 have hwn : IntKind.u64.wrap (n.toNat : Int) = (n.toNat : Int) := by rw [IntKind.wrap_u64]; have := n.toNat_lt; omega
 have hdl : (digS 10 n.toNat).length ≤ 10 := digS_len (by decide) 10 _ (by have := n.toNat_lt; omega) (by decide)
 generalize digS 10 n.toNat = d at *
 clear hT
 have E := hide ((Ext.refl w).alloc (Obj.cells #[.int .i64 1, .string ⟨name.toArray⟩, .int .u32 (n.toNat : Int), .string ⟨addr.toArray⟩] 51))
 have R := hide (Blk.new w 51 #[.int .i64 1, .string ⟨name.toArray⟩, .int .u32 (n.toNat : Int), .string ⟨addr.toArray⟩])
 clear hdl
 replace q := hide q
 go_enter Tryz.func35, Tryz.ntmps35
 go_wp2_with fail
 (with_reducible refine (q.out _ E.out).mono ?_)
 rintro e w1 ⟨rfl, he⟩
 have R1 := hide (R.out.ext he)
 replace E := hide (E.out.trans he)
 clear R q he
 have r0 : w1.cell? ⟨w.heap.size, 0, none⟩ = some (.int .i64 1) := R1.out.cell 0
 have r1 : w1.cell? ⟨w.heap.size, 1, none⟩ = some (.string ⟨name.toArray⟩) := R1.out.cell 1
 have r2 : w1.cell? ⟨w.heap.size, 2, none⟩ = some (.int .u32 (n.toNat : Int)) := R1.out.cell 2
 have r3 : w1.cell? ⟨w.heap.size, 3, none⟩ = some (.string ⟨addr.toArray⟩) := R1.out.cell 3
 go_wp2_with fail
 go_ret
 exact ⟨rfl, E.out⟩
set_option maxRecDepth 20000 in
set_option maxHeartbeats 4000000 in
theorem PActT2 (name : List UInt8) (n : UInt32) (addr : List UInt8) (w : World) (hT : Tab w) :
  Calls Tryz.prog 35 #[.agg #[.int .i64 2, .string ⟨name.toArray⟩, .int .u32 (n.toNat : Int), .string ⟨addr.toArray⟩]] w fun e w' => e = .returned (.string ⟨(([114, 101, 106, 101, 99, 116] : List UInt8)).toArray⟩) ∧ Ext w w' := by
 have q := fun W (h : Ext w W) => (FormatUint_any (n.toNat) (by have := n.toNat_lt; omega) W (hT.ext h)).mono (R' := fun e w' => e = .returned (.string ⟨(digS 10 (n.toNat)).toArray⟩) ∧ Ext W w') fun e w' q => ⟨by rw [q.1]; unfold dec; rw [digS_dec], q.2⟩
 have hwn : IntKind.u64.wrap (n.toNat : Int) = (n.toNat : Int) := by rw [IntKind.wrap_u64]; have := n.toNat_lt; omega
 have hdl : (digS 10 n.toNat).length ≤ 10 := digS_len (by decide) 10 _ (by have := n.toNat_lt; omega) (by decide)
 generalize digS 10 n.toNat = d at *
 clear hT
 have E := hide ((Ext.refl w).alloc (Obj.cells #[.int .i64 2, .string ⟨name.toArray⟩, .int .u32 (n.toNat : Int), .string ⟨addr.toArray⟩] 51))
 have R := hide (Blk.new w 51 #[.int .i64 2, .string ⟨name.toArray⟩, .int .u32 (n.toNat : Int), .string ⟨addr.toArray⟩])
 clear hdl
 replace q := hide q
 go_enter Tryz.func35, Tryz.ntmps35
 go_wp2_with fail
 (with_reducible refine (q.out _ E.out).mono ?_)
 rintro e w1 ⟨rfl, he⟩
 have R1 := hide (R.out.ext he)
 replace E := hide (E.out.trans he)
 clear R q he
 have r0 : w1.cell? ⟨w.heap.size, 0, none⟩ = some (.int .i64 2) := R1.out.cell 0
 have r1 : w1.cell? ⟨w.heap.size, 1, none⟩ = some (.string ⟨name.toArray⟩) := R1.out.cell 1
 have r2 : w1.cell? ⟨w.heap.size, 2, none⟩ = some (.int .u32 (n.toNat : Int)) := R1.out.cell 2
 have r3 : w1.cell? ⟨w.heap.size, 3, none⟩ = some (.string ⟨addr.toArray⟩) := R1.out.cell 3
 go_wp2_with fail
 go_ret
 exact ⟨rfl, E.out⟩
set_option maxRecDepth 20000 in
set_option maxHeartbeats 4000000 in
theorem PActT5 (name : List UInt8) (n : UInt32) (addr : List UInt8) (w : World) (hT : Tab w) :
  Calls Tryz.prog 35 #[.agg #[.int .i64 5, .string ⟨name.toArray⟩, .int .u32 (n.toNat : Int), .string ⟨addr.toArray⟩]] w fun e w' => e = .returned (.string ⟨(([110, 111, 45, 109, 101, 100] : List UInt8)).toArray⟩) ∧ Ext w w' := by
 have q := fun W (h : Ext w W) => (FormatUint_any (n.toNat) (by have := n.toNat_lt; omega) W (hT.ext h)).mono (R' := fun e w' => e = .returned (.string ⟨(digS 10 (n.toNat)).toArray⟩) ∧ Ext W w') fun e w' q => ⟨by rw [q.1]; unfold dec; rw [digS_dec], q.2⟩
 have hwn : IntKind.u64.wrap (n.toNat : Int) = (n.toNat : Int) := by rw [IntKind.wrap_u64]; have := n.toNat_lt; omega
 have hdl : (digS 10 n.toNat).length ≤ 10 := digS_len (by decide) 10 _ (by have := n.toNat_lt; omega) (by decide)
 generalize digS 10 n.toNat = d at *
 clear hT
 have E := hide ((Ext.refl w).alloc (Obj.cells #[.int .i64 5, .string ⟨name.toArray⟩, .int .u32 (n.toNat : Int), .string ⟨addr.toArray⟩] 51))
 have R := hide (Blk.new w 51 #[.int .i64 5, .string ⟨name.toArray⟩, .int .u32 (n.toNat : Int), .string ⟨addr.toArray⟩])
 clear hdl
 replace q := hide q
 go_enter Tryz.func35, Tryz.ntmps35
 go_wp2_with fail
 (with_reducible refine (q.out _ E.out).mono ?_)
 rintro e w1 ⟨rfl, he⟩
 have R1 := hide (R.out.ext he)
 replace E := hide (E.out.trans he)
 clear R q he
 have r0 : w1.cell? ⟨w.heap.size, 0, none⟩ = some (.int .i64 5) := R1.out.cell 0
 have r1 : w1.cell? ⟨w.heap.size, 1, none⟩ = some (.string ⟨name.toArray⟩) := R1.out.cell 1
 have r2 : w1.cell? ⟨w.heap.size, 2, none⟩ = some (.int .u32 (n.toNat : Int)) := R1.out.cell 2
 have r3 : w1.cell? ⟨w.heap.size, 3, none⟩ = some (.string ⟨addr.toArray⟩) := R1.out.cell 3
 go_wp2_with fail
 go_ret
 exact ⟨rfl, E.out⟩
set_option maxRecDepth 20000 in
set_option maxHeartbeats 4000000 in
theorem PActT3 (name : List UInt8) (n : UInt32) (addr : List UInt8) (w : World) (hT : Tab w) :
  Calls Tryz.prog 35 #[.agg #[.int .i64 3, .string ⟨name.toArray⟩, .int .u32 (n.toNat : Int), .string ⟨addr.toArray⟩]] w fun e w' => e = .returned (.string ⟨([112, 114, 101, 102, 32] ++ digS 10 n.toNat).toArray⟩) ∧ Ext w w' := by
 have q := fun W (h : Ext w W) => (FormatUint_any (n.toNat) (by have := n.toNat_lt; omega) W (hT.ext h)).mono (R' := fun e w' => e = .returned (.string ⟨(digS 10 (n.toNat)).toArray⟩) ∧ Ext W w') fun e w' q => ⟨by rw [q.1]; unfold dec; rw [digS_dec], q.2⟩
 have hwn : IntKind.u64.wrap (n.toNat : Int) = (n.toNat : Int) := by rw [IntKind.wrap_u64]; have := n.toNat_lt; omega
 have hdl : (digS 10 n.toNat).length ≤ 10 := digS_len (by decide) 10 _ (by have := n.toNat_lt; omega) (by decide)
 generalize digS 10 n.toNat = d at *
 have z1 := sz_app [112, 114, 101, 102, 32] d (by simp; omega)
 clear hT
 have E := hide ((Ext.refl w).alloc (Obj.cells #[.int .i64 3, .string ⟨name.toArray⟩, .int .u32 (n.toNat : Int), .string ⟨addr.toArray⟩] 51))
 have R := hide (Blk.new w 51 #[.int .i64 3, .string ⟨name.toArray⟩, .int .u32 (n.toNat : Int), .string ⟨addr.toArray⟩])
 clear hdl
 replace q := hide q
 go_enter Tryz.func35, Tryz.ntmps35
 go_wp2_with fail
 (with_reducible refine (q.out _ E.out).mono ?_)
 rintro e w1 ⟨rfl, he⟩
 have R1 := hide (R.out.ext he)
 replace E := hide (E.out.trans he)
 clear R q he
 have r0 : w1.cell? ⟨w.heap.size, 0, none⟩ = some (.int .i64 3) := R1.out.cell 0
 have r1 : w1.cell? ⟨w.heap.size, 1, none⟩ = some (.string ⟨name.toArray⟩) := R1.out.cell 1
 have r2 : w1.cell? ⟨w.heap.size, 2, none⟩ = some (.int .u32 (n.toNat : Int)) := R1.out.cell 2
 have r3 : w1.cell? ⟨w.heap.size, 3, none⟩ = some (.string ⟨addr.toArray⟩) := R1.out.cell 3
 go_wp2_with fail
 go_ret
 exact ⟨by rw [ba_app [112, 114, 101, 102, 32]]; rfl, E.out⟩
set_option maxRecDepth 20000 in
set_option maxHeartbeats 4000000 in
theorem PActT4 (name : List UInt8) (n : UInt32) (addr : List UInt8) (w : World) (hT : Tab w) :
  Calls Tryz.prog 35 #[.agg #[.int .i64 4, .string ⟨name.toArray⟩, .int .u32 (n.toNat : Int), .string ⟨addr.toArray⟩]] w fun e w' => e = .returned (.string ⟨([109, 101, 100, 32] ++ digS 10 n.toNat).toArray⟩) ∧ Ext w w' := by
 have q := fun W (h : Ext w W) => (FormatUint_any (n.toNat) (by have := n.toNat_lt; omega) W (hT.ext h)).mono (R' := fun e w' => e = .returned (.string ⟨(digS 10 (n.toNat)).toArray⟩) ∧ Ext W w') fun e w' q => ⟨by rw [q.1]; unfold dec; rw [digS_dec], q.2⟩
 have hwn : IntKind.u64.wrap (n.toNat : Int) = (n.toNat : Int) := by rw [IntKind.wrap_u64]; have := n.toNat_lt; omega
 have hdl : (digS 10 n.toNat).length ≤ 10 := digS_len (by decide) 10 _ (by have := n.toNat_lt; omega) (by decide)
 generalize digS 10 n.toNat = d at *
 have z1 := sz_app [109, 101, 100, 32] d (by simp; omega)
 clear hT
 have E := hide ((Ext.refl w).alloc (Obj.cells #[.int .i64 4, .string ⟨name.toArray⟩, .int .u32 (n.toNat : Int), .string ⟨addr.toArray⟩] 51))
 have R := hide (Blk.new w 51 #[.int .i64 4, .string ⟨name.toArray⟩, .int .u32 (n.toNat : Int), .string ⟨addr.toArray⟩])
 clear hdl
 replace q := hide q
 go_enter Tryz.func35, Tryz.ntmps35
 go_wp2_with fail
 (with_reducible refine (q.out _ E.out).mono ?_)
 rintro e w1 ⟨rfl, he⟩
 have R1 := hide (R.out.ext he)
 replace E := hide (E.out.trans he)
 clear R q he
 have r0 : w1.cell? ⟨w.heap.size, 0, none⟩ = some (.int .i64 4) := R1.out.cell 0
 have r1 : w1.cell? ⟨w.heap.size, 1, none⟩ = some (.string ⟨name.toArray⟩) := R1.out.cell 1
 have r2 : w1.cell? ⟨w.heap.size, 2, none⟩ = some (.int .u32 (n.toNat : Int)) := R1.out.cell 2
 have r3 : w1.cell? ⟨w.heap.size, 3, none⟩ = some (.string ⟨addr.toArray⟩) := R1.out.cell 3
 go_wp2_with fail
 go_ret
 exact ⟨by rw [ba_app [109, 101, 100, 32]]; rfl, E.out⟩
set_option maxRecDepth 20000 in
set_option maxHeartbeats 4000000 in
theorem PActT8 (name : List UInt8) (n : UInt32) (addr : List UInt8) (w : World) (hT : Tab w) :
  Calls Tryz.prog 35 #[.agg #[.int .i64 8, .string ⟨name.toArray⟩, .int .u32 (n.toNat : Int), .string ⟨addr.toArray⟩]] w fun e w' => e = .returned (.string ⟨([112, 114, 101, 112, 101, 110, 100, 32] ++ digS 10 n.toNat).toArray⟩) ∧ Ext w w' := by
 have q := fun W (h : Ext w W) => (FormatUint_any (n.toNat) (by have := n.toNat_lt; omega) W (hT.ext h)).mono (R' := fun e w' => e = .returned (.string ⟨(digS 10 (n.toNat)).toArray⟩) ∧ Ext W w') fun e w' q => ⟨by rw [q.1]; unfold dec; rw [digS_dec], q.2⟩
 have hwn : IntKind.u64.wrap (n.toNat : Int) = (n.toNat : Int) := by rw [IntKind.wrap_u64]; have := n.toNat_lt; omega
 have hdl : (digS 10 n.toNat).length ≤ 10 := digS_len (by decide) 10 _ (by have := n.toNat_lt; omega) (by decide)
 generalize digS 10 n.toNat = d at *
 have z1 := sz_app [112, 114, 101, 112, 101, 110, 100, 32] d (by simp; omega)
 clear hT
 have E := hide ((Ext.refl w).alloc (Obj.cells #[.int .i64 8, .string ⟨name.toArray⟩, .int .u32 (n.toNat : Int), .string ⟨addr.toArray⟩] 51))
 have R := hide (Blk.new w 51 #[.int .i64 8, .string ⟨name.toArray⟩, .int .u32 (n.toNat : Int), .string ⟨addr.toArray⟩])
 clear hdl
 replace q := hide q
 go_enter Tryz.func35, Tryz.ntmps35
 go_wp2_with fail
 (with_reducible refine (q.out _ E.out).mono ?_)
 rintro e w1 ⟨rfl, he⟩
 have R1 := hide (R.out.ext he)
 replace E := hide (E.out.trans he)
 clear R q he
 have r0 : w1.cell? ⟨w.heap.size, 0, none⟩ = some (.int .i64 8) := R1.out.cell 0
 have r1 : w1.cell? ⟨w.heap.size, 1, none⟩ = some (.string ⟨name.toArray⟩) := R1.out.cell 1
 have r2 : w1.cell? ⟨w.heap.size, 2, none⟩ = some (.int .u32 (n.toNat : Int)) := R1.out.cell 2
 have r3 : w1.cell? ⟨w.heap.size, 3, none⟩ = some (.string ⟨addr.toArray⟩) := R1.out.cell 3
 go_wp2_with fail
 go_ret
 exact ⟨by rw [ba_app [112, 114, 101, 112, 101, 110, 100, 32]]; rfl, E.out⟩
set_option maxRecDepth 20000 in
set_option maxHeartbeats 4000000 in
theorem PActT7 (name : List UInt8) (n : UInt32) (addr : List UInt8) (hn : name.length ≤ 1048576) (w : World) (hT : Tab w) :
  Calls Tryz.prog 35 #[.agg #[.int .i64 7, .string ⟨name.toArray⟩, .int .u32 (n.toNat : Int), .string ⟨addr.toArray⟩]] w fun e w' => e = .returned (.string ⟨([100, 101, 108, 32] ++ name).toArray⟩) ∧ Ext w w' := by
 have q := fun W (h : Ext w W) => (FormatUint_any (n.toNat) (by have := n.toNat_lt; omega) W (hT.ext h)).mono (R' := fun e w' => e = .returned (.string ⟨(digS 10 (n.toNat)).toArray⟩) ∧ Ext W w') fun e w' q => ⟨by rw [q.1]; unfold dec; rw [digS_dec], q.2⟩
 have hwn : IntKind.u64.wrap (n.toNat : Int) = (n.toNat : Int) := by rw [IntKind.wrap_u64]; have := n.toNat_lt; omega
 have hdl : (digS 10 n.toNat).length ≤ 10 := digS_len (by decide) 10 _ (by have := n.toNat_lt; omega) (by decide)
 generalize digS 10 n.toNat = d at *
 have z1 := sz_app [100, 101, 108, 32] name (by simp; omega)
 clear hn
 clear hT
 have E := hide ((Ext.refl w).alloc (Obj.cells #[.int .i64 7, .string ⟨name.toArray⟩, .int .u32 (n.toNat : Int), .string ⟨addr.toArray⟩] 51))
 have R := hide (Blk.new w 51 #[.int .i64 7, .string ⟨name.toArray⟩, .int .u32 (n.toNat : Int), .string ⟨addr.toArray⟩])
 clear hdl
 replace q := hide q
 go_enter Tryz.func35, Tryz.ntmps35
 go_wp2_with fail
 (with_reducible refine (q.out _ E.out).mono ?_)
 rintro e w1 ⟨rfl, he⟩
 have R1 := hide (R.out.ext he)
 replace E := hide (E.out.trans he)
 clear R q he
 have r0 : w1.cell? ⟨w.heap.size, 0, none⟩ = some (.int .i64 7) := R1.out.cell 0
 have r1 : w1.cell? ⟨w.heap.size, 1, none⟩ = some (.string ⟨name.toArray⟩) := R1.out.cell 1
 have r2 : w1.cell? ⟨w.heap.size, 2, none⟩ = some (.int .u32 (n.toNat : Int)) := R1.out.cell 2
 have r3 : w1.cell? ⟨w.heap.size, 3, none⟩ = some (.string ⟨addr.toArray⟩) := R1.out.cell 3
 go_wp2_with fail
 go_ret
 exact ⟨by rw [ba_app [100, 101, 108, 32]]; rfl, E.out⟩
set_option maxRecDepth 20000 in
set_option maxHeartbeats 4000000 in
theorem PActT6 (name : List UInt8) (n : UInt32) (addr : List UInt8) (w : World) (hT : Tab w) :
  Calls Tryz.prog 35 #[.agg #[.int .i64 6, .string ⟨name.toArray⟩, .int .u32 (n.toNat : Int), .string ⟨addr.toArray⟩]] w fun e w' => e = .returned (.string ⟨([97, 100, 100, 32] ++ commT n).toArray⟩) ∧ Ext w w' := by
 have q := fun W (h : Ext w W) => (FormatUint_any (n.toNat) (by have := n.toNat_lt; omega) W (hT.ext h)).mono (R' := fun e w' => e = .returned (.string ⟨(digS 10 (n.toNat)).toArray⟩) ∧ Ext W w') fun e w' q => ⟨by rw [q.1]; unfold dec; rw [digS_dec], q.2⟩
 have hwn : IntKind.u64.wrap (n.toNat : Int) = (n.toNat : Int) := by rw [IntKind.wrap_u64]; have := n.toNat_lt; omega
 have hdl : (digS 10 n.toNat).length ≤ 10 := digS_len (by decide) 10 _ (by have := n.toNat_lt; omega) (by decide)
 generalize digS 10 n.toNat = d at *
 have qc := fun W (h : Ext w W) => CText_any n W (hT.ext h)
 have hcl := commT_len n
 generalize commT n = ct at *
 have z1 := sz_app [97, 100, 100, 32] ct (by simp; omega)
 clear hcl
 replace qc := hide qc
 clear hT
 have E := hide ((Ext.refl w).alloc (Obj.cells #[.int .i64 6, .string ⟨name.toArray⟩, .int .u32 (n.toNat : Int), .string ⟨addr.toArray⟩] 51))
 have R := hide (Blk.new w 51 #[.int .i64 6, .string ⟨name.toArray⟩, .int .u32 (n.toNat : Int), .string ⟨addr.toArray⟩])
 clear hdl
 replace q := hide q
 go_enter Tryz.func35, Tryz.ntmps35
 go_wp2_with fail
 (with_reducible refine (q.out _ E.out).mono ?_)
 rintro e w1 ⟨rfl, he⟩
 have R1 := hide (R.out.ext he)
 replace E := hide (E.out.trans he)
 clear R q he
 have r0 : w1.cell? ⟨w.heap.size, 0, none⟩ = some (.int .i64 6) := R1.out.cell 0
 have r1 : w1.cell? ⟨w.heap.size, 1, none⟩ = some (.string ⟨name.toArray⟩) := R1.out.cell 1
 have r2 : w1.cell? ⟨w.heap.size, 2, none⟩ = some (.int .u32 (n.toNat : Int)) := R1.out.cell 2
 have r3 : w1.cell? ⟨w.heap.size, 3, none⟩ = some (.string ⟨addr.toArray⟩) := R1.out.cell 3
 go_wp2_with fail
 (with_reducible refine (qc.out _ E.out).mono ?_)
 rintro e w2 ⟨rfl, he⟩
 replace E := hide (E.out.trans he)
 clear R1 r0 r1 r2 r3
 go_wp2_with fail
 go_ret
 exact ⟨by rw [ba_app [97, 100, 100, 32]]; rfl, E.out⟩
set_option maxRecDepth 20000 in
set_option maxHeartbeats 4000000 in
theorem PActT9 (name : List UInt8) (n : UInt32) (addr : List UInt8) (ha : addr.length ≤ 1048576) (w : World) (hT : Tab w) (hD : Deb w) :
  Calls Tryz.prog 35 #[.agg #[.int .i64 9, .string ⟨name.toArray⟩, .int .u32 (n.toNat : Int), .string ⟨addr.toArray⟩]] w fun e w' => e = .returned (.string ⟨([110, 101, 120, 116, 32] ++ (addrT addr).1).toArray⟩) ∧ Ext w w' := by
 have q := fun W (h : Ext w W) => (FormatUint_any (n.toNat) (by have := n.toNat_lt; omega) W (hT.ext h)).mono (R' := fun e w' => e = .returned (.string ⟨(digS 10 (n.toNat)).toArray⟩) ∧ Ext W w') fun e w' q => ⟨by rw [q.1]; unfold dec; rw [digS_dec], q.2⟩
 have hwn : IntKind.u64.wrap (n.toNat : Int) = (n.toNat : Int) := by rw [IntKind.wrap_u64]; have := n.toNat_lt; omega
 have hdl : (digS 10 n.toNat).length ≤ 10 := digS_len (by decide) 10 _ (by have := n.toNat_lt; omega) (by decide)
 generalize digS 10 n.toNat = d at *
 have qc := fun W (h : Ext w W) => AAddrText_any addr ha W (hT.ext h) (hD.ext h)
 have hcl := addrT_len (a := addr)
 generalize (addrT addr).1 = ct at *
 generalize (addrT addr).2 = er at *
 clear hD
 have z1 := sz_app [110, 101, 120, 116, 32] ct (by simp; omega)
 clear hcl ha
 replace qc := hide qc
 clear hT
 have E := hide ((Ext.refl w).alloc (Obj.cells #[.int .i64 9, .string ⟨name.toArray⟩, .int .u32 (n.toNat : Int), .string ⟨addr.toArray⟩] 51))
 have R := hide (Blk.new w 51 #[.int .i64 9, .string ⟨name.toArray⟩, .int .u32 (n.toNat : Int), .string ⟨addr.toArray⟩])
 clear hdl
 replace q := hide q
 go_enter Tryz.func35, Tryz.ntmps35
 go_wp2_with fail
 (with_reducible refine (q.out _ E.out).mono ?_)
 rintro e w1 ⟨rfl, he⟩
 have R1 := hide (R.out.ext he)
 replace E := hide (E.out.trans he)
 clear R q he
 have r0 : w1.cell? ⟨w.heap.size, 0, none⟩ = some (.int .i64 9) := R1.out.cell 0
 have r1 : w1.cell? ⟨w.heap.size, 1, none⟩ = some (.string ⟨name.toArray⟩) := R1.out.cell 1
 have r2 : w1.cell? ⟨w.heap.size, 2, none⟩ = some (.int .u32 (n.toNat : Int)) := R1.out.cell 2
 have r3 : w1.cell? ⟨w.heap.size, 3, none⟩ = some (.string ⟨addr.toArray⟩) := R1.out.cell 3
 go_wp2_with fail
 (with_reducible refine (qc.out _ E.out).mono ?_)
 rintro e w2 ⟨rfl, he⟩
 replace E := hide (E.out.trans he)
 clear R1 r0 r1 r2 r3
 go_wp2_with fail
 go_ret
 exact ⟨by rw [ba_app [110, 101, 120, 116, 32]]; rfl, E.out⟩
set_option maxRecDepth 20000 in
set_option maxHeartbeats 4000000 in
theorem PActT10_0 (name : List UInt8) (addr : List UInt8) (w : World) (hT : Tab w) :
    Calls Tryz.prog 35 #[.agg #[.int .i64 10, .string ⟨name.toArray⟩, .int .u32 0, .string ⟨addr.toArray⟩]] w fun e w' => e = .returned (.string ⟨([111, 114, 105, 103, 105, 110, 32] ++ ([105, 103, 112] : List UInt8)).toArray⟩) ∧ Ext w w' := by
  have q := fun W (h : Ext w W) => (FormatUint_any (0) (by decide) W (hT.ext h)).mono (R' := fun e w' => e = .returned (.string ⟨(digS 10 (0)).toArray⟩) ∧ Ext W w') fun e w' q => ⟨by rw [q.1]; unfold dec; rw [digS_dec], q.2⟩
  rw [show ((0 : Nat) : Int) = 0 from rfl] at q
  generalize digS 10 (0) = d at *
  clear hT
  have E := hide ((Ext.refl w).alloc (Obj.cells #[.int .i64 10, .string ⟨name.toArray⟩, .int .u32 0, .string ⟨addr.toArray⟩] 51))
  have R := hide (Blk.new w 51 #[.int .i64 10, .string ⟨name.toArray⟩, .int .u32 0, .string ⟨addr.toArray⟩])
  replace q := hide q
  go_enter Tryz.func35, Tryz.ntmps35
  go_wp2_with fail
  (with_reducible refine (q.out _ E.out).mono ?_)
  rintro e w1 ⟨rfl, he⟩
  have R1 := hide (R.out.ext he)
  replace E := hide (E.out.trans he)
  clear R q he
  have r0 : w1.cell? ⟨w.heap.size, 0, none⟩ = some (.int .i64 10) := R1.out.cell 0
  have r1 : w1.cell? ⟨w.heap.size, 1, none⟩ = some (.string ⟨name.toArray⟩) := R1.out.cell 1
  have r2 : w1.cell? ⟨w.heap.size, 2, none⟩ = some (.int .u32 0) := R1.out.cell 2
  have r3 : w1.cell? ⟨w.heap.size, 3, none⟩ = some (.string ⟨addr.toArray⟩) := R1.out.cell 3
  go_upto_region 22 with fail
  go_region_with
    ((go_at_call 84; refine (POrigins_any _).mono ?_; rintro e w9 ⟨rfl, hw9⟩
      have K9 := Blk.new w1.drew 9 #[.string ⟨#[105, 103, 112]⟩, .string ⟨#[101, 103, 112]⟩, .string ⟨#[105, 110, 99, 111, 109, 112, 108, 101, 116, 101]⟩]
      have K9 : Blk w9 w1.heap.size 9 #[.string ⟨#[105, 103, 112]⟩, .string ⟨#[101, 103, 112]⟩, .string ⟨#[105, 110, 99, 111, 109, 112, 108, 101, 116, 101]⟩] := by rw [← hw9]; exact K9
      have E9 := E.out.drew.alloc (Obj.cells #[.string ⟨#[105, 103, 112]⟩, .string ⟨#[101, 103, 112]⟩, .string ⟨#[105, 110, 99, 111, 109, 112, 108, 101, 116, 101]⟩] 9)
      have R9 := R1.out.drew.alloc (Obj.cells #[.string ⟨#[105, 103, 112]⟩, .string ⟨#[101, 103, 112]⟩, .string ⟨#[105, 110, 99, 111, 109, 112, 108, 101, 116, 101]⟩] 9)
      have hw9b : w1.drew.alloc (Obj.cells #[.string ⟨#[105, 103, 112]⟩, .string ⟨#[101, 103, 112]⟩, .string ⟨#[105, 110, 99, 111, 109, 112, 108, 101, 116, 101]⟩] 9) = w9 := hw9
      rw [hw9b] at E9 R9
      clear hw9b hw9
      have r92 : w9.cell? ⟨w.heap.size, 2, none⟩ = some (.int .u32 0) := R9.cell 2
      have k9 : w9.cell? ⟨w1.heap.size, 0, none⟩ = some (.string ⟨#[105, 103, 112]⟩) := K9.cell 0
      clear K9
      replace E9 := hide E9
      replace R9 := hide R9))
  all_goals
    go_wp2_with fail
    go_ret
    exact ⟨by rw [ba_app [111, 114, 105, 103, 105, 110, 32]]; rfl, E9.out⟩
set_option maxRecDepth 20000 in
set_option maxHeartbeats 4000000 in
theorem PActT10_1 (name : List UInt8) (addr : List UInt8) (w : World) (hT : Tab w) :
    Calls Tryz.prog 35 #[.agg #[.int .i64 10, .string ⟨name.toArray⟩, .int .u32 1, .string ⟨addr.toArray⟩]] w fun e w' => e = .returned (.string ⟨([111, 114, 105, 103, 105, 110, 32] ++ ([101, 103, 112] : List UInt8)).toArray⟩) ∧ Ext w w' := by
  have q := fun W (h : Ext w W) => (FormatUint_any (1) (by decide) W (hT.ext h)).mono (R' := fun e w' => e = .returned (.string ⟨(digS 10 (1)).toArray⟩) ∧ Ext W w') fun e w' q => ⟨by rw [q.1]; unfold dec; rw [digS_dec], q.2⟩
  rw [show ((1 : Nat) : Int) = 1 from rfl] at q
  generalize digS 10 (1) = d at *
  clear hT
  have E := hide ((Ext.refl w).alloc (Obj.cells #[.int .i64 10, .string ⟨name.toArray⟩, .int .u32 1, .string ⟨addr.toArray⟩] 51))
  have R := hide (Blk.new w 51 #[.int .i64 10, .string ⟨name.toArray⟩, .int .u32 1, .string ⟨addr.toArray⟩])
  replace q := hide q
  go_enter Tryz.func35, Tryz.ntmps35
  go_wp2_with fail
  (with_reducible refine (q.out _ E.out).mono ?_)
  rintro e w1 ⟨rfl, he⟩
  have R1 := hide (R.out.ext he)
  replace E := hide (E.out.trans he)
  clear R q he
  have r0 : w1.cell? ⟨w.heap.size, 0, none⟩ = some (.int .i64 10) := R1.out.cell 0
  have r1 : w1.cell? ⟨w.heap.size, 1, none⟩ = some (.string ⟨name.toArray⟩) := R1.out.cell 1
  have r2 : w1.cell? ⟨w.heap.size, 2, none⟩ = some (.int .u32 1) := R1.out.cell 2
  have r3 : w1.cell? ⟨w.heap.size, 3, none⟩ = some (.string ⟨addr.toArray⟩) := R1.out.cell 3
  go_upto_region 22 with fail
  go_region_with
    ((go_at_call 84; refine (POrigins_any _).mono ?_; rintro e w9 ⟨rfl, hw9⟩
      have K9 := Blk.new w1.drew 9 #[.string ⟨#[105, 103, 112]⟩, .string ⟨#[101, 103, 112]⟩, .string ⟨#[105, 110, 99, 111, 109, 112, 108, 101, 116, 101]⟩]
      have K9 : Blk w9 w1.heap.size 9 #[.string ⟨#[105, 103, 112]⟩, .string ⟨#[101, 103, 112]⟩, .string ⟨#[105, 110, 99, 111, 109, 112, 108, 101, 116, 101]⟩] := by rw [← hw9]; exact K9
      have E9 := E.out.drew.alloc (Obj.cells #[.string ⟨#[105, 103, 112]⟩, .string ⟨#[101, 103, 112]⟩, .string ⟨#[105, 110, 99, 111, 109, 112, 108, 101, 116, 101]⟩] 9)
      have R9 := R1.out.drew.alloc (Obj.cells #[.string ⟨#[105, 103, 112]⟩, .string ⟨#[101, 103, 112]⟩, .string ⟨#[105, 110, 99, 111, 109, 112, 108, 101, 116, 101]⟩] 9)
      have hw9b : w1.drew.alloc (Obj.cells #[.string ⟨#[105, 103, 112]⟩, .string ⟨#[101, 103, 112]⟩, .string ⟨#[105, 110, 99, 111, 109, 112, 108, 101, 116, 101]⟩] 9) = w9 := hw9
      rw [hw9b] at E9 R9
      clear hw9b hw9
      have r92 : w9.cell? ⟨w.heap.size, 2, none⟩ = some (.int .u32 1) := R9.cell 2
      have k9 : w9.cell? ⟨w1.heap.size, 1, none⟩ = some (.string ⟨#[101, 103, 112]⟩) := K9.cell 1
      clear K9
      replace E9 := hide E9
      replace R9 := hide R9))
  all_goals
    go_wp2_with fail
    go_ret
    exact ⟨by rw [ba_app [111, 114, 105, 103, 105, 110, 32]]; rfl, E9.out⟩
set_option maxRecDepth 20000 in
set_option maxHeartbeats 4000000 in
theorem PActT10_2 (name : List UInt8) (addr : List UInt8) (w : World) (hT : Tab w) :
    Calls Tryz.prog 35 #[.agg #[.int .i64 10, .string ⟨name.toArray⟩, .int .u32 2, .string ⟨addr.toArray⟩]] w fun e w' => e = .returned (.string ⟨([111, 114, 105, 103, 105, 110, 32] ++ ([105, 110, 99, 111, 109, 112, 108, 101, 116, 101] : List UInt8)).toArray⟩) ∧ Ext w w' := by
  have q := fun W (h : Ext w W) => (FormatUint_any (2) (by decide) W (hT.ext h)).mono (R' := fun e w' => e = .returned (.string ⟨(digS 10 (2)).toArray⟩) ∧ Ext W w') fun e w' q => ⟨by rw [q.1]; unfold dec; rw [digS_dec], q.2⟩
  rw [show ((2 : Nat) : Int) = 2 from rfl] at q
  generalize digS 10 (2) = d at *
  clear hT
  have E := hide ((Ext.refl w).alloc (Obj.cells #[.int .i64 10, .string ⟨name.toArray⟩, .int .u32 2, .string ⟨addr.toArray⟩] 51))
  have R := hide (Blk.new w 51 #[.int .i64 10, .string ⟨name.toArray⟩, .int .u32 2, .string ⟨addr.toArray⟩])
  replace q := hide q
  go_enter Tryz.func35, Tryz.ntmps35
  go_wp2_with fail
  (with_reducible refine (q.out _ E.out).mono ?_)
  rintro e w1 ⟨rfl, he⟩
  have R1 := hide (R.out.ext he)
  replace E := hide (E.out.trans he)
  clear R q he
  have r0 : w1.cell? ⟨w.heap.size, 0, none⟩ = some (.int .i64 10) := R1.out.cell 0
  have r1 : w1.cell? ⟨w.heap.size, 1, none⟩ = some (.string ⟨name.toArray⟩) := R1.out.cell 1
  have r2 : w1.cell? ⟨w.heap.size, 2, none⟩ = some (.int .u32 2) := R1.out.cell 2
  have r3 : w1.cell? ⟨w.heap.size, 3, none⟩ = some (.string ⟨addr.toArray⟩) := R1.out.cell 3
  go_upto_region 22 with fail
  go_region_with
    ((go_at_call 84; refine (POrigins_any _).mono ?_; rintro e w9 ⟨rfl, hw9⟩
      have K9 := Blk.new w1.drew 9 #[.string ⟨#[105, 103, 112]⟩, .string ⟨#[101, 103, 112]⟩, .string ⟨#[105, 110, 99, 111, 109, 112, 108, 101, 116, 101]⟩]
      have K9 : Blk w9 w1.heap.size 9 #[.string ⟨#[105, 103, 112]⟩, .string ⟨#[101, 103, 112]⟩, .string ⟨#[105, 110, 99, 111, 109, 112, 108, 101, 116, 101]⟩] := by rw [← hw9]; exact K9
      have E9 := E.out.drew.alloc (Obj.cells #[.string ⟨#[105, 103, 112]⟩, .string ⟨#[101, 103, 112]⟩, .string ⟨#[105, 110, 99, 111, 109, 112, 108, 101, 116, 101]⟩] 9)
      have R9 := R1.out.drew.alloc (Obj.cells #[.string ⟨#[105, 103, 112]⟩, .string ⟨#[101, 103, 112]⟩, .string ⟨#[105, 110, 99, 111, 109, 112, 108, 101, 116, 101]⟩] 9)
      have hw9b : w1.drew.alloc (Obj.cells #[.string ⟨#[105, 103, 112]⟩, .string ⟨#[101, 103, 112]⟩, .string ⟨#[105, 110, 99, 111, 109, 112, 108, 101, 116, 101]⟩] 9) = w9 := hw9
      rw [hw9b] at E9 R9
      clear hw9b hw9
      have r92 : w9.cell? ⟨w.heap.size, 2, none⟩ = some (.int .u32 2) := R9.cell 2
      have k9 : w9.cell? ⟨w1.heap.size, 2, none⟩ = some (.string ⟨#[105, 110, 99, 111, 109, 112, 108, 101, 116, 101]⟩) := K9.cell 2
      clear K9
      replace E9 := hide E9
      replace R9 := hide R9))
  all_goals
    go_wp2_with fail
    go_ret
    exact ⟨by rw [ba_app [111, 114, 105, 103, 105, 110, 32]]; rfl, E9.out⟩
theorem PActT_any (a : ActS) (h : actOk a = true) (hn : a.name.length ≤ 1048576) (ha : a.addr.length ≤ 1048576) (w : World) (hT : Tab w) (hD : Deb w) :
  Calls Tryz.prog 35 #[.agg (actCs a).toArray] w fun e w' => e = .returned (.string ⟨(actT a).toArray⟩) ∧ Ext w w' := by
 obtain ⟨k, name, n, addr⟩ := a
 unfold actT
 unfold actOk at h
 dsimp only at h hn ha ⊢
 by_cases h1 : k = 1
 ·subst h1; exact PActT1 name n addr w hT
 rw [if_neg h1]
 by_cases h2 : k = 2
 ·subst h2; exact PActT2 name n addr w hT
 rw [if_neg h2]
 by_cases h5 : k = 5
 ·subst h5; exact PActT5 name n addr w hT
 rw [if_neg h5]
 by_cases h3 : k = 3
 ·subst h3; exact PActT3 name n addr w hT
 rw [if_neg h3]
 by_cases h4 : k = 4
 ·subst h4; exact PActT4 name n addr w hT
 rw [if_neg h4]
 by_cases h6 : k = 6
 ·subst h6; exact PActT6 name n addr w hT
 rw [if_neg h6]
 by_cases h7 : k = 7
 ·subst h7; exact PActT7 name n addr hn w hT
 rw [if_neg h7]
 by_cases h8 : k = 8
 ·subst h8; exact PActT8 name n addr w hT
 rw [if_neg h8]
 by_cases h9 : k = 9
 ·subst h9; exact PActT9 name n addr ha w hT hD
 rw [if_neg h9]
 rw [if_neg (by omega), if_neg (by omega), if_neg h7, if_neg h8, if_neg h9] at h
 by_cases h10 : k = 10
 ·subst h10
  rw [if_pos rfl, Bool.and_eq_true, decide_eq_true_eq] at h
  rcases (show n.toNat = 0 ∨ n.toNat = 1 ∨ n.toNat = 2 by omega) with e | e | e
  ·rw [show (n.toNat : Int) = 0 by omega]; have := PActT10_0 name addr w hT; simpa [actCs, e, originT] using this
  ·rw [show (n.toNat : Int) = 1 by omega]; have := PActT10_1 name addr w hT; simpa [actCs, e, originT] using this
  ·rw [show (n.toNat : Int) = 2 by omega]; have := PActT10_2 name addr w hT; simpa [actCs, e, originT] using this
 rw [if_neg h10] at h
 cases h
end
section
open Go.RowKit
set_option linter.unusedVariables false
theorem name_len {s : List UInt8} (h : nameOk s = true) : s.length ≤ 16 := by
 unfold nameOk at h
 simp only [Bool.and_eq_true, decide_eq_true_eq] at h
 exact h.2.1
theorem origin_len (n : Int) : (originT n).length ≤ 10 := by
 unfold originT
 split
 ·decide
 ·split <;> decide
theorem famS_len (n : Int) : (nameS n).length ≤ 4 := by
 unfold nameS
 repeat (split; decide)
 decide
theorem condT_len {c : CondS} (h : condOk c = true) : (condT c).length ≤ 40 := by
 obtain ⟨k, neg, name, n⟩ := c
 have key : (condW ⟨k, neg, name, n⟩).length ≤ 30 := by
  unfold condOk at h
  unfold condW
  dsimp only at h ⊢
  by_cases h1 : k = 1 ∨ k = 2 ∨ k = 3 ∨ k = 4
  ·rw [if_pos h1, Bool.and_eq_true] at h
   have := name_len h.1
   rcases h1 with rfl | rfl | rfl | rfl <;> simp <;> omega
  rw [if_neg h1] at h
  rw [if_neg fun e => h1 (.inl e), if_neg fun e => h1 (.inr (.inl e)), if_neg fun e => h1 (.inr (.inr (.inl e))), if_neg fun e => h1 (.inr (.inr (.inr e)))]
  have ho := origin_len n
  have hf := famS_len n
  by_cases h5 : k = 5
  ·rw [if_pos h5, List.length_append]; simp; omega
  rw [if_neg h5] at h ⊢
  by_cases h6 : k = 6
  ·rw [if_pos h6, Bool.and_eq_true, decide_eq_true_eq] at h
   have hd : (digS 10 n.toNat).length ≤ 5 := digS_len (by decide) 5 _ (by omega) (by decide)
   rw [if_pos h6, List.length_append]; simp; omega
  rw [if_neg h6] at h ⊢
  by_cases h7 : k = 7
  ·rw [if_pos h7, List.length_append]; simp; omega
  rw [if_neg h7] at h
  cases h
 unfold condT
 rw [List.length_append]
 have : (if neg = true then [110, 111, 116, 32] else ([] : List UInt8)).length ≤ 4 := by cases neg <;> decide
 dsimp only at this ⊢
 omega
theorem actT_len {a : ActS} (h : actOk a = true) : (actT a).length ≤ 50 := by
 obtain ⟨k, name, n, addr⟩ := a
 have hlt := n.toNat_lt
 have hd : (digS 10 n.toNat).length ≤ 10 := digS_len (by decide) 10 _ (by omega) (by decide)
 have hc := commT_len n
 have ha := addrT_len (a := addr)
 have ho := origin_len n.toNat
 unfold actT
 dsimp only
 by_cases h7 : k = 7
 ·subst h7
  unfold actOk at h
  dsimp only at h
  rw [if_neg (by decide), if_neg (by decide), if_pos rfl, Bool.and_eq_true] at h
  have := name_len h.1
  simp
  omega
 ·by_cases h1 : k = 1
  ·rw [if_pos h1]; decide
  rw [if_neg h1]
  by_cases h2 : k = 2
  ·rw [if_pos h2]; decide
  rw [if_neg h2]
  by_cases h5 : k = 5
  ·rw [if_pos h5]; decide
  rw [if_neg h5]
  by_cases h3 : k = 3
  ·rw [if_pos h3]; (rw [List.length_append]; simp; omega)
  rw [if_neg h3]
  by_cases h4 : k = 4
  ·rw [if_pos h4]; (rw [List.length_append]; simp; omega)
  rw [if_neg h4]
  by_cases h6 : k = 6
  ·rw [if_pos h6]; (rw [List.length_append]; simp; omega)
  rw [if_neg h6]
  rw [if_neg h7]
  by_cases h8 : k = 8
  ·rw [if_pos h8, List.length_append]; simp; omega
  rw [if_neg h8]
  by_cases h9 : k = 9
  ·rw [if_pos h9, List.length_append]; simp; omega
  rw [if_neg h9]
  rw [List.length_append]
  simp
  omega
def cdB (c : CondS) : ByteArray := ⟨(condT c).toArray⟩
def acB (a : ActS) : ByteArray := ⟨(actT a).toArray⟩
theorem JoinAnd_any (a : Option Addr) (c : Nat) (xs : List ByteArray) (w : World) (S : Nat → Prop) (hS : ∀ b, S b → b < w.heap.size) (hs : Sl EStr w S a xs) (hne : xs ≠ []) (hc : xs.length ≤ c) (hl : xs.length ≤ 16777216) (hlen : (Lib.join (xs.map (·.data.toList)) [32, 97, 110, 100, 32]).length ≤ 140737488355328) :
  Calls Tryz.prog 36 #[.slice a xs.length c, .string ⟨#[32, 97, 110, 100, 32]⟩] w fun e w' => e = .returned (.string ⟨(Lib.join (xs.map (·.data.toList)) [32, 97, 110, 100, 32]).toArray⟩) ∧ Ext w w' := by
 rcases hs with hs | ⟨b, off, rfl, hb, hs⟩
 ·exact absurd hs hne
 ·refine Tryz.strings_Join b off c xs ⟨#[32, 97, 110, 100, 32]⟩ w (fun j x hx => ?_) (hS b hb) (by omega) hc hlen
  obtain ⟨cs, ⟨rfl, _⟩, hcell⟩ := hs j x hx
  have := hcell 0 _ rfl
  simpa [EStr, Enc.flat] using this
theorem join_len5 (m : Nat) (l : List (List UInt8)) (h : ∀ x ∈ l, x.length ≤ m) : (Lib.join l [32, 97, 110, 100, 32]).length ≤ l.length * (m + 5) := by
  induction l with
  | nil => simp [Lib.join]
  | cons x r ih =>
    have hx := h x (by simp)
    have ih := ih fun y hy => h y (by simp [hy])
    cases r with
    | nil => rw [Lib.join_one]; simp; omega
    | cons y s =>
      rw [join_two]
      simp only [List.length_append, List.length_cons, List.length_nil] at ih ⊢
      rw [Nat.add_mul]
      omega
-- walk
theorem ok_of_term {t : TermS} (h : termOk t = true) : t.conds.length ≤ 64 ∧ 1 ≤ t.acts.length ∧ t.acts.length ≤ 64 ∧ (∀ c ∈ t.conds, condOk c = true) ∧ (∀ a ∈ t.acts, actOk a = true) := by
 unfold termOk at h
 simp only [Bool.and_eq_true, decide_eq_true_eq] at h
 obtain ⟨h1, ⟨h2, h3⟩, h4, h5, _⟩ := h
 exact ⟨h1, h2, h3, List.all_eq_true.1 h4, List.all_eq_true.1 h5⟩
theorem joinC (l : List CondS) : (l.map cdB).map (·.data.toList) = l.map condT := by rw [List.map_map]; exact List.map_congr_left fun c _ => rfl
theorem joinA (l : List ActS) : (l.map acB).map (·.data.toList) = l.map actT := by rw [List.map_map]; exact List.map_congr_left fun c _ => rfl
set_option maxRecDepth 20000 in
set_option maxHeartbeats 8000000 in
theorem PTermText_any (a1 : Option Addr) (c1 : Nat) (a2 : Option Addr) (c2 : Nat) (t : TermS) (w : World) (h1 : t.conds.length ≤ 16777216) (h2 : t.acts.length ≤ 16777216) (hc2 : t.acts.length ≤ c2) (s1 : Sl ECond w (· < w.heap.size) a1 t.conds) (s2 : Sl EAct w (· < w.heap.size) a2 t.acts) (hT : Tab w) (hD : Deb w) :
    Calls Tryz.prog 12 #[.agg #[.slice a1 t.conds.length c1, .slice a2 t.acts.length c2]] w fun e w' => e = .returned (.tuple #[.string ⟨(termT t).1.toArray⟩, .int .i64 (termT t).2]) ∧ Ext w w' := by
  have q1 := fun W (h : Ext w W) => PMayTerm_any a1 c1 a2 c2 t W h1 h2 hc2 (s1.ext h) (s2.ext h)
  have B := Blk.new w 25 #[.slice a1 t.conds.length c1, .slice a2 t.acts.length c2]
  have E := (Ext.refl w).alloc (Obj.cells #[.slice a1 t.conds.length c1, .slice a2 t.acts.length c2] 25)
  by_cases hok : termOk t = true
  · have htx : termT t = (termW t, 0) := if_pos hok
    rw [htx]
    rw [hok] at q1
    dsimp only
    obtain ⟨k1, k2, k3, k4, k5⟩ := ok_of_term hok
    replace s1 := hide s1
    replace s2 := hide s2
    replace hT := hide hT
    replace hD := hide hD
    replace k4 := hide k4
    replace k5 := hide k5
    replace q1 := hide q1
    have c0 := B.cell 0
    simp at c0
    replace B := hide B
    replace E := hide E
    clear htx h1 h2 hc2
    go_enter Tryz.func12, Tryz.ntmps12
    go_wp2_with fail
    (with_reducible refine (q1.out _ E.out).mono ?_)
    rintro e w1 ⟨rfl, he⟩
    replace B := hide (B.out.ext he)
    replace E := hide (E.out.trans he)
    clear he q1 c0
    have c0 : w1.cell? ⟨w.heap.size, 0, none⟩ = some (.slice a1 t.conds.length c1) := B.out.cell 0
    go_wp2
    clear c0
    go_loopw [4, 17] (fun v q wr => ∃ k : Nat, k ≤ t.conds.length ∧ q = .int .i64 k ∧ Own EStr 9 wr w1.heap.size v ((t.conds.take k).map cdB) ∧ Ext w1 wr) (fun _ q _ => t.conds.length - (intOf q).toNat)
    case atStart => exact ⟨0, by omega, rfl, by rw [List.take_zero]; exact Own.nil, Ext.refl _⟩
    case round =>
      obtain ⟨k, hk, rfl, hown, F⟩ := hrel
      have hz0 := F.size
      obtain ⟨vo, dd, rfl⟩ := hown.form
      have hlk : ((t.conds.take k).map cdB).length = k := by simp; omega
      rw [hlk] at hown ⊢
      by_cases hlt : k < t.conds.length
      · obtain ⟨b, off, rfl, _, hin, hcs⟩ := ECond.at (s1.out.ext (E.out.trans F)) k hlt
        have hnx : (t.conds.take k).map cdB ++ [cdB t.conds[k]] = (t.conds.take (k + 1)).map cdB := by rw [List.take_succ_eq_append_getElem hlt, List.map_append]; rfl
        have hcok := k4.out _ (List.getElem_mem hlt)
        have hcn := hin.name
        generalize t.conds[k] = x at hnx hin hcs hcok hcn
        have hsz := condT_len hcok
        have x0 : wr.cell? ⟨b, off + k * 4, none⟩ = some (.int .i64 x.kind) := hcs 0 _ rfl
        have x1 : wr.cell? ⟨b, off + k * 4 + 1, none⟩ = some (.bool x.neg) := hcs 1 _ rfl
        have x2 : wr.cell? ⟨b, off + k * 4 + 2, none⟩ = some (.string ⟨x.name.toArray⟩) := hcs 2 _ rfl
        have x3 : wr.cell? ⟨b, off + k * 4 + 3, none⟩ = some (.int .i64 x.n) := hcs 3 _ rfl
        have q := fun W (h : Ext w W) => PCondT_any x hcok hcn W (hT.out.ext h)
        clear hcs hin
        have hy : cdB x = ⟨(condT x).toArray⟩ := rfl
        rw [hy] at hnx
        obtain ⟨y0, y1, y2, y3⟩ := x
        dsimp only [condCs] at x0 x1 x2 x3 q
        generalize condT ⟨y0, y1, y2, y3⟩ = ct at *
        have O' := hown.alloc (Obj.cells #[.int .i64 y0, .bool y1, .string ⟨y2.toArray⟩, .int .i64 y3] 48)
        have F' := F.alloc (Obj.cells #[.int .i64 y0, .bool y1, .string ⟨y2.toArray⟩, .int .i64 y3] 48)
        clear hown F hcok hcn hy
        replace O' := hide O'
        replace F' := hide F'
        replace hlk := hide hlk
        replace hnx := hide hnx
        replace hsz := hide hsz
        replace q := hide q
        go_wp2_with fail
        (with_reducible refine (q.out _ (E.out.trans F'.out)).mono ?_)
        rintro e w3 ⟨rfl, he3⟩
        have O3 := hide (O'.out.ext he3)
        have F3 := hide (F'.out.trans he3)
        have hz3 := F3.out.size
        clear he3 q
        go_wp2_with (at_builtin
                     have hox := O3.out.alloc (Obj.cells #[.string ⟨ct.toArray⟩] 9)
                     refine wpList_push (E := EStr) rfl _ _ _ rfl okStr (by decide) (by decide) rfl hox (by rw [hlk.out]; omega) (by simp; omega) rfl (y := ⟨ct.toArray⟩) (cs := [.string ⟨ct.toArray⟩]) ⟨rfl, by show (ByteArray.mk ct.toArray).size ≤ maxLen; rw [ba_size]; have := hsz.out; unfold maxLen; omega⟩ (str_new' _ _ _) ?_
                     intro v' w5 hown1 hg hat)
        go_roundw
        case rel => exact ⟨k + 1, by omega, by go_num, by rw [← hnx.out]; exact hown1, (F3.out.alloc _).push (fun j hj => (O3.out.lt j hj).1) hg⟩
        case measure => simp [intOf]; omega
      · obtain rfl : k = t.conds.length := by omega
        rw [List.take_length] at hown hlk
        have B2 := B.out.ext F
        have E2 := E.out.trans F
        clear B E F hz0
        have d1 : wr.cell? ⟨w.heap.size, 1, none⟩ = some (.slice a2 t.acts.length c2) := B2.cell 1
        clear B2
        replace E2 := hide E2
        replace hown := hide hown
        go_wp2
        clear d1
        go_loopw [5, 30] (fun v q wx => ∃ k : Nat, k ≤ t.acts.length ∧ q = .int .i64 k ∧ Own EStr 9 wx wr.heap.size v ((t.acts.take k).map acB) ∧ Ext wr wx) (fun _ q _ => t.acts.length - (intOf q).toNat)
        case atStart => exact ⟨0, by omega, rfl, by rw [List.take_zero]; exact Own.nil, Ext.refl _⟩
        case round =>
          obtain ⟨k, hk, rfl, hown2, F⟩ := hrel
          rename World => wx
          have hz0 := F.size
          obtain ⟨vo2, dd2, rfl⟩ := hown2.form
          have hlk2 : ((t.acts.take k).map acB).length = k := by simp; omega
          rw [hlk2] at hown2 ⊢
          by_cases hlt : k < t.acts.length
          · obtain ⟨b, off, rfl, _, hin, hcs⟩ := EAct.at (s2.out.ext (E2.out.trans F)) k hlt
            have hnx : (t.acts.take k).map acB ++ [acB t.acts[k]] = (t.acts.take (k + 1)).map acB := by rw [List.take_succ_eq_append_getElem hlt, List.map_append]; rfl
            have hcok := k5.out _ (List.getElem_mem hlt)
            have hcn := hin.name
            have hca := hin.addr
            generalize t.acts[k] = x at hnx hin hcs hcok hcn hca
            have hsz := actT_len hcok
            have x0 : wx.cell? ⟨b, off + k * 4, none⟩ = some (.int .i64 x.kind) := hcs 0 _ rfl
            have x1 : wx.cell? ⟨b, off + k * 4 + 1, none⟩ = some (.string ⟨x.name.toArray⟩) := hcs 1 _ rfl
            have x2 : wx.cell? ⟨b, off + k * 4 + 2, none⟩ = some (.int .u32 (x.n.toNat : Int)) := hcs 2 _ rfl
            have x3 : wx.cell? ⟨b, off + k * 4 + 3, none⟩ = some (.string ⟨x.addr.toArray⟩) := hcs 3 _ rfl
            have q := fun W (h : Ext w W) => PActT_any x hcok hcn hca W (hT.out.ext h) (hD.out.ext h)
            clear hcs hin
            have hy : acB x = ⟨(actT x).toArray⟩ := rfl
            rw [hy] at hnx
            obtain ⟨y0, y1, y2, y3⟩ := x
            dsimp only [actCs] at x0 x1 x2 x3 q
            generalize actT ⟨y0, y1, y2, y3⟩ = ct at *
            have O' := hown2.alloc (Obj.cells #[.int .i64 y0, .string ⟨y1.toArray⟩, .int .u32 (y2.toNat : Int), .string ⟨y3.toArray⟩] 51)
            have F' := F.alloc (Obj.cells #[.int .i64 y0, .string ⟨y1.toArray⟩, .int .u32 (y2.toNat : Int), .string ⟨y3.toArray⟩] 51)
            clear hown2 F hcok hcn hca hy
            replace O' := hide O'
            replace F' := hide F'
            replace hlk2 := hide hlk2
            replace hnx := hide hnx
            replace hsz := hide hsz
            replace q := hide q
            go_wp2_with fail
            (with_reducible refine (q.out _ (E2.out.trans F'.out)).mono ?_)
            rintro e w3 ⟨rfl, he3⟩
            have O3 := hide (O'.out.ext he3)
            have F3 := hide (F'.out.trans he3)
            have hz3 := F3.out.size
            clear he3 q
            go_wp2_with (at_builtin
                         have hox := O3.out.alloc (Obj.cells #[.string ⟨ct.toArray⟩] 9)
                         refine wpList_push (E := EStr) rfl _ _ _ rfl okStr (by decide) (by decide) rfl hox (by rw [hlk2.out]; omega) (by simp; omega) rfl (y := ⟨ct.toArray⟩) (cs := [.string ⟨ct.toArray⟩]) ⟨rfl, by show (ByteArray.mk ct.toArray).size ≤ maxLen; rw [ba_size]; have := hsz.out; unfold maxLen; omega⟩ (str_new' _ _ _) ?_
                         intro v' w5 hown1 hg hat)
            go_roundw
            case rel => exact ⟨k + 1, by omega, by go_num, by rw [← hnx.out]; exact hown1, (F3.out.alloc _).push (fun j hj => (O3.out.lt j hj).1) hg⟩
            case measure => simp [intOf]; omega
          · obtain rfl : k = t.acts.length := by omega
            rw [List.take_length] at hown2 hlk2
            obtain ⟨a9, c9, hv9, hc9, hs9⟩ := hown2.slc
            injection hv9 with e1 e2 e3
            subst e1 e3
            clear e2
            have hbA := join_len5 50 (t.acts.map actT) (fun x hx => by obtain ⟨y, hy, rfl⟩ := List.mem_map.1 hx; exact actT_len (k5.out y hy))
            rw [List.length_map] at hbA
            have hJ := JoinAnd_any vo2 dd2 (t.acts.map acB) wx _ (fun b hb => hb.2) hs9 (by intro h; rw [List.map_eq_nil_iff] at h; rw [h] at k2; simp at k2) hc9 (by rw [hlk2]; omega) (by rw [joinA]; omega)
            rw [hlk2, joinA] at hJ
            have hEx := E2.out.trans F
            have hown3 := hown.out.ext F
            obtain ⟨a8, c8, hv8, hc8, hs8⟩ := hown3.slc
            rw [hlk] at hv8
            injection hv8 with e1 e2 e3
            subst e1 e3
            have hbC := join_len5 40 (t.conds.map condT) (fun x hx => by obtain ⟨y, hy, rfl⟩ := List.mem_map.1 hx; exact condT_len (k4.out y hy))
            rw [List.length_map] at hbC
            have hK := fun (hne : t.conds ≠ []) W (h : Ext wx W) => JoinAnd_any vo dd (t.conds.map cdB) W (fun b => wr.heap.size ≤ wx.heap.size ∧ b < wx.heap.size) (fun b hb => Nat.lt_of_lt_of_le hb.2 h.size) ((hs8.frame fun b hb => h.block b hb.2).mono fun b hb => ⟨F.size, hb.2⟩) (by intro h; rw [List.map_eq_nil_iff] at h; exact hne h) hc8 (by rw [hlk]; omega) (by rw [joinC]; omega)
            rw [hlk, joinC] at hK
            have hfin : termW t = (if t.conds = [] then [] else [105, 102, 32] ++ (Lib.join (t.conds.map condT) [32, 97, 110, 100, 32] ++ [32])) ++ ([116, 104, 101, 110, 32] ++ Lib.join (t.acts.map actT) [32, 97, 110, 100, 32]) := rfl
            generalize Lib.join (t.acts.map actT) [32, 97, 110, 100, 32] = jA at *
            generalize Lib.join (t.conds.map condT) [32, 97, 110, 100, 32] = jC at *
            have z1 := sz_app [116, 104, 101, 110, 32] jA (by simp; omega)
            have z2 := sz_app [105, 102, 32] jC (by simp; omega)
            have z3 : ¬ 9223372036854775807 < ((ByteArray.mk #[105, 102, 32]) ++ ⟨jC.toArray⟩).size + (ByteArray.mk #[32]).size := by rw [ba_sz_app, ba_size]; show ¬ _ < 3 + jC.length + 1; omega
            have z4 : ¬ 9223372036854775807 < (((ByteArray.mk #[105, 102, 32]) ++ ⟨jC.toArray⟩) ++ ⟨#[32]⟩).size + ((ByteArray.mk #[116, 104, 101, 110, 32]) ++ ⟨jA.toArray⟩).size := by rw [ba_sz_app, ba_sz_app, ba_sz_app, ba_size, ba_size]; show ¬ _ < 3 + jC.length + 1 + (5 + jA.length); omega
            clear e2 hs9 hc9 hown2 hown F E2 s1 s2 hT hD k4 k5 hz0 hown3 hs8 hc8 hbA hbC hlk hlk2
            replace hJ := hide hJ
            replace hK := hide hK
            replace hEx := hide hEx
            replace hfin := hide hfin
            go_wp2_with fail
            (with_reducible refine hJ.out.mono ?_)
            rintro e w6 ⟨rfl, he6⟩
            replace he6 := hide he6
            have hEx6 := hide (hEx.out.trans he6.out)
            by_cases hnil : t.conds = []
            · have h0 : t.conds.length = 0 := by rw [hnil]; rfl
              have hf : termW t = [116, 104, 101, 110, 32] ++ jA := by rw [hfin.out, if_pos hnil]; rfl
              clear hK hnil
              replace hf := hide hf
              rw [h0]
              go_wp2
              go_ret2
              exact ⟨by rw [hf.out, ba_app [116, 104, 101, 110, 32]]; rfl, hEx6.out⟩
            · have h0 : 0 < t.conds.length := List.length_pos_iff.2 hnil
              have hf : termW t = [105, 102, 32] ++ (jC ++ [32]) ++ ([116, 104, 101, 110, 32] ++ jA) := by rw [hfin.out, if_neg hnil]
              have hK6 := hide (hK.out hnil w6 he6.out)
              clear hK hnil
              replace hf := hide hf
              go_wp2_with fail
              (with_reducible refine hK6.out.mono ?_)
              rintro e w7 ⟨rfl, he7⟩
              have hEx7 := hide (hEx6.out.trans he7)
              go_wp2
              go_ret2
              exact ⟨by rw [hf.out, ba_app [116, 104, 101, 110, 32], ba_app [105, 102, 32], ba_app1, ba_app, List.append_assoc [105, 102, 32]]; rfl, hEx7.out⟩
  · have htx : termT t = ([], 2) := if_neg hok
    rw [htx]
    rw [show termOk t = false by simpa using hok] at q1
    dsimp only
    clear B s1 s2
    replace E := hide E
    replace q1 := hide q1
    replace hT := hide hT
    replace hD := hide hD
    go_enter Tryz.func12, Tryz.ntmps12
    go_wp2_with fail
    (with_reducible refine (q1.out _ E.out).mono ?_)
    rintro e w1 ⟨rfl, he⟩
    replace he := hide (E.out.trans he)
    go_wp2
    go_ret2
    exact ⟨rfl, he.out⟩
end
end
end Go.Proofs.YtljibkfbldjgdaaGreatDoor
