/- Chapter 16, walks: may a name, a condition, an action be? Chapter 16, walks: may a condition be? Chapter 16, walks: may an action be? Printed by genmaya.py. Chapter 16, walks: a test over conditions, over actions; may a term be? -/
import Derived.Lib.SplitLaws
import Derived.Lib.ParseIntB
import Derived.Lib.ParseIntBCases
import Derived.Lib.ItoaNum
import Derived.Lib.Join
import Derived.WalkKit
import Derived.Below
import Derived.Outline
import Derived.LoopTactic
import Derived.Laws.OwnMore
import Derived.Deep.AppendLies
import Derived.Deep.Draws
import Derived.Lib.Hide
import Derived.BigQuiet
import Derived.Deep.QuietTactic
import Derived.WalkSpells
import Derived.WalkLawsBesides
import Derived.Deep.RegionHeld3
import Derived.Deep.DrawnRows
import Derived.Deep.RegionLaw
import Derived.Lib.ConvBytes
import Derived.Lib.Bytealg
import Derived.Lib.Small
import Derived.Test.YtljibkfbldjgdaaGreatDoorRows
import Derived.ProofKit
import Derived.Deep.Slices
import Derived.Shelf.GgClosure.StringsRunes
import Derived.Test.YtljibkfbldjgdaaGreatDoorProg
import Derived.Test.YtljibkfbldjgdaaGreatDoorShelf
import Derived.Orders
import Derived.StillTail
import Derived.Test.YtljibkfbldjgdaaGreatDoorShelf2
import Derived.Lib.UnsafeStr
import Derived.Shelf.RegionOpenPlain
import Derived.Laws.StructEq
import Derived.Lib.QuietBelow
import Derived.Lib.ItoaMem
import Derived.Lib.ItoaLen
import Derived.Deep.DeepCutAuto
import Derived.Defers
import Derived.Recover
import Derived.Maps.OwnSet
import Derived.Maps.Views
import Derived.Maps.Range
import Derived.DeepKeys5
import Derived.Deep.Cut
import Derived.Test.YtljibkfbldjgdaaGreatDoorPZ01
import Derived.Test.YtljibkfbldjgdaaGreatDoorPZ02
import Derived.Test.YtljibkfbldjgdaaGreatDoorPZ03
import Derived.Test.YtljibkfbldjgdaaGreatDoorPZ04
import Derived.Test.YtljibkfbldjgdaaGreatDoorPZ05
namespace Go.Proofs.YtljibkfbldjgdaaGreatDoor
section
section
open Go.RowKit
set_option linter.unusedVariables false
set_option maxHeartbeats 1000000 in
theorem IsName1_any (z : Int) (w : World) : Calls Tryz.prog 111 #[.int .i32 z] w fun e w' => e = .returned (.bool (!runeZ z)) ∧ w' = w := by
 obtain ⟨b1, b2, b3, b4, b5, r, e1, e2, e3, e4, e5, e6, e7⟩ := rune_cases z
 rw [e6]
 clear e6
 go_enter Tryz.func111, Tryz.ntmps111
 cases b1 <;> cases b2 <;> cases b3 <;> cases b4 <;> subst e7 <;> (go_wp2; go_ret; exact ⟨rfl, rfl⟩)
theorem pname_cases (s : List UInt8) : (s = [] ∧ nameOk s = false) ∨ ∃ x t, s = x :: t ∧ ((16 < s.length ∧ nameOk s = false) ∨ (s.length ≤ 16 ∧ x.toNat < 97 ∧ nameOk s = false) ∨ (s.length ≤ 16 ∧ 97 ≤ x.toNat ∧ 122 < x.toNat ∧ nameOk s = false) ∨ (s.length ≤ 16 ∧ 97 ≤ x.toNat ∧ x.toNat ≤ 122 ∧ s.all nameCh = nameOk s)) := by
  cases s with
  | nil => exact .inl ⟨rfl, by decide⟩
  | cons x t =>
    refine .inr ⟨x, t, rfl, ?_⟩
    have hh : ((x :: t).headD 0).toNat = x.toNat := rfl
    unfold nameOk
    rw [hh, decide_eq_true (p := 1 ≤ (x :: t).length) (by simp), Bool.true_and]
    by_cases h : 16 < (x :: t).length
    · exact .inl ⟨h, by rw [decide_eq_false (by omega), Bool.false_and]⟩
    · rw [decide_eq_true (p := (x :: t).length ≤ 16) (by omega), Bool.true_and]
      by_cases h1 : x.toNat < 97
      · exact .inr (.inl ⟨by omega, h1, by rw [decide_eq_false (by omega), Bool.false_and]⟩)
      · rw [decide_eq_true (p := 97 ≤ x.toNat) (by omega), Bool.true_and]
        by_cases h2 : 122 < x.toNat
        · refine .inr (.inr (.inl ⟨by omega, by omega, h2, ?_⟩))
          rw [List.all_cons]
          have : nameCh x = false := by
            unfold nameCh runeOk
            simp
            omega
          rw [this, Bool.false_and]
        · exact .inr (.inr (.inr ⟨by omega, by omega, by omega, rfl⟩))
set_option maxRecDepth 20000 in
set_option maxHeartbeats 1000000 in
theorem IsName_any (s : List UInt8) (w : World) : Calls Tryz.prog 65 #[.string ⟨s.toArray⟩] w fun e w' => e = .returned (.bool (nameOk s)) ∧ Ext w w' := by
 have q : ∀ W, Calls Tryz.prog 110 #[.string ⟨s.toArray⟩, .func (.func 111) #[] #[]] W fun e w' => e = .returned (.bool (!s.all nameCh)) ∧ Ext W w' := fun W => by
  refine (Tryz.strings_ContainsFunc_runes 111 #[] (fun _ _ => rfl) (fun x => !runeOk x) ⟨s.toArray⟩ W fun W' x hx hb => by
   refine (IsName1_any (x : Int) W').mono ?_
   rintro e w' ⟨rfl, rfl⟩
   exact ⟨by rw [runeZ_nat], 0, rfl⟩).mono ?_
  rintro e w' ⟨rfl, he⟩
  refine ⟨?_, he⟩
  have := name_idx s
  generalize Lib.idxFunc (fun x => !runeOk x) true ⟨s.toArray⟩ = z at this
  cases ha : s.all nameCh with
  | true => rw [decide_eq_false (by have := this.2 ha; omega)]; rfl
  | false => rw [decide_eq_true (by rw [ha] at this; have h2 := mt this.1 (by decide); omega)]; rfl
 have hcs := pname_cases s
 generalize nameOk s = r at hcs ⊢
 generalize s.all nameCh = al at hcs q
 have hsz : (ByteArray.mk s.toArray).size = s.length := ba_size s
 replace q := hide q
 rcases hcs with ⟨rfl, rfl⟩ | ⟨x, t, hs, hcs⟩
 ·go_enter Tryz.func65, Tryz.ntmps65
  go_wp2
  go_ret
  exact ⟨rfl, Ext.refl _⟩
 ·have hix := ba_index0 s x t hs
  have h1 : ¬ s.length = 0 := by rw [hs]; simp
  have hie := hide (show s.isEmpty = false by rw [hs]; rfl)
  have e0 : ¬ s = [] := by rw [hs]; simp
  clear hs
  have g1 : decide ((s.length : Int) < 1) = false := decide_eq_false (by omega)
  have g1' : decide (s.length < 1) = false := decide_eq_false (by omega)
  rcases hcs with ⟨h2, rfl⟩ | ⟨h2, h3, rfl⟩ | ⟨h2, h3, h4, rfl⟩ | ⟨h2, h3, h4, rfl⟩
  ·have g2 : decide ((16 : Int) < (s.length : Int)) = true := decide_eq_true (by omega)
   clear h1 h2
   go_enter Tryz.func65, Tryz.ntmps65
   go_wp2
   go_ret
   exact ⟨rfl, Ext.refl _⟩
  ·have g2 : decide ((16 : Int) < (s.length : Int)) = false := decide_eq_false (by omega)
   have g3 : decide ((x.toNat : Int) < 97) = true := decide_eq_true (by omega)
   clear h1 h2 h3
   go_enter Tryz.func65, Tryz.ntmps65
   go_wp2
   go_ret
   exact ⟨rfl, Ext.refl _⟩
  ·have g2 : decide ((16 : Int) < (s.length : Int)) = false := decide_eq_false (by omega)
   have g3 : decide ((x.toNat : Int) < 97) = false := decide_eq_false (by omega)
   have g4 : decide ((122 : Int) < (x.toNat : Int)) = true := decide_eq_true (by omega)
   clear h1 h2 h3 h4
   go_enter Tryz.func65, Tryz.ntmps65
   go_wp2
   go_ret
   exact ⟨rfl, Ext.refl _⟩
  ·have g2 : decide ((16 : Int) < (s.length : Int)) = false := decide_eq_false (by omega)
   have g3 : decide ((x.toNat : Int) < 97) = false := decide_eq_false (by omega)
   have g4 : decide ((122 : Int) < (x.toNat : Int)) = false := decide_eq_false (by omega)
   clear h1 h2 h3 h4
   go_enter Tryz.func65, Tryz.ntmps65
   go_wp2_with fail
   (with_reducible refine (q.out _).mono ?_)
   rintro e w1 ⟨rfl, he⟩
   replace he := hide he
   go_wp2
   go_ret
   exact ⟨by simp, he.out⟩
end
section
open Go.RowKit
set_option linter.unusedVariables false
attribute [local go_sem ↓] Go.wp_at_zero Go.wp_at_succ
theorem mayc_start (k : Int) (neg : Bool) (name : List UInt8) (n : Int) (w : World) :
  Blk ((w.alloc (Obj.cells #[.int .i64 k, .bool neg, .string ⟨name.toArray⟩, .int .i64 n] 48)).alloc (Obj.cells #[.int .i64 k, .bool neg, .string ⟨#[]⟩, .int .i64 0] 48)) w.heap.size 48 #[.int .i64 k, .bool neg, .string ⟨name.toArray⟩, .int .i64 n] ∧ Blk ((w.alloc (Obj.cells #[.int .i64 k, .bool neg, .string ⟨name.toArray⟩, .int .i64 n] 48)).alloc (Obj.cells #[.int .i64 k, .bool neg, .string ⟨#[]⟩, .int .i64 0] 48)) (w.heap.size + 1) 48 #[.int .i64 k, .bool neg, .string ⟨#[]⟩, .int .i64 0] ∧ Ext w ((w.alloc (Obj.cells #[.int .i64 k, .bool neg, .string ⟨name.toArray⟩, .int .i64 n] 48)).alloc (Obj.cells #[.int .i64 k, .bool neg, .string ⟨#[]⟩, .int .i64 0] 48)) := by
 refine ⟨(Blk.new w 48 #[.int .i64 k, .bool neg, .string ⟨name.toArray⟩, .int .i64 n]).alloc _, ?_, ((Ext.refl w).alloc _).alloc _⟩
 have := Blk.new (w.alloc (Obj.cells #[.int .i64 k, .bool neg, .string ⟨name.toArray⟩, .int .i64 n] 48)) 48 #[.int .i64 k, .bool neg, .string ⟨#[]⟩, .int .i64 0]
 simpa using this
set_option maxRecDepth 20000 in
set_option maxHeartbeats 4000000 in
theorem PMayCond1 (neg : Bool) (name : List UInt8) (n : Int) (w : World) :
    Calls Tryz.prog 79 #[.agg #[.int .i64 1, .bool neg, .string ⟨name.toArray⟩, .int .i64 n]] w fun e w' => e = .returned (.bool (nameOk name && decide (n = 0))) ∧ Ext w w' := by
  have q := fun W => IsName_any name W
  generalize nameOk name = nk at *
  obtain ⟨R, O, E⟩ := mayc_start 1 neg name n w
  replace q := hide q
  replace R := hide R
  replace O := hide O
  replace E := hide E
  go_enter Tryz.func79, Tryz.ntmps79
  go_upto_region 8 with fail
  generalize (w.alloc (Obj.cells #[.int .i64 1, .bool neg, .string ⟨name.toArray⟩, .int .i64 n] 48)).alloc (Obj.cells #[.int .i64 1, .bool neg, .string ⟨#[]⟩, .int .i64 0] 48) = W8 at R O E ⊢
  generalize hg : w.heap.size = rb at R O ⊢
  have r2 : W8.cell? ⟨rb, 2, none⟩ = some (.string ⟨name.toArray⟩) := R.out.cell 2
  have o2 : W8.cell? ⟨rb + 1, 2, none⟩ = some (.string ⟨#[]⟩) := O.out.cell 2
  have of := fun i => O.out.frozen i
  go_region_held3 (fun w' => w'.cell? ⟨rb, 2, none⟩ = some (.string ⟨name.toArray⟩)) (go_keep)
    ((go_at_call 65; refine (q.out _).mono ?_; rintro e w9 ⟨rfl, he⟩
      have E9 := E.out.drew.trans he
      have R9 := R.out.drew.ext he
      have O9 := O.out.drew.ext he
      clear he
      have r92 : w9.cell? ⟨rb, 2, none⟩ = some (.string ⟨name.toArray⟩) := R9.cell 2
      have o92 : w9.cell? ⟨rb + 1, 2, none⟩ = some (.string ⟨#[]⟩) := O9.cell 2
      have of9 := fun i => O9.frozen i
      replace E9 := hide E9
      replace R9 := hide R9
      replace O9 := hide O9))
  clear r2 o2 of R O E
  have R10 := hide (R9.out.far (p := ⟨rb + 1, 2, none⟩) (show rb ≠ rb + 1 by omega) (.string ⟨name.toArray⟩))
  have O10 : Blk (w9.setCell ⟨rb + 1, 2, none⟩ (.string ⟨name.toArray⟩)) (rb + 1) 48 #[.int .i64 1, .bool neg, .string ⟨name.toArray⟩, .int .i64 0] := O9.out.set_ 2 _
  have E10 := hide (E9.out.setCell (show w.heap.size ≤ rb + 1 by omega) (.string ⟨name.toArray⟩) (p := ⟨rb + 1, 2, none⟩))
  replace O10 := hide O10
  clear r92 o92 of9 R9 O9 E9
  generalize w9.setCell ⟨rb + 1, 2, none⟩ (.string ⟨name.toArray⟩) = W9 at R10 O10 E10 ⊢
  have r0 : W9.cell? ⟨rb, 0, none⟩ = some (.int .i64 1) := R10.out.cell 0
  have r1 : W9.cell? ⟨rb, 1, none⟩ = some (.bool neg) := R10.out.cell 1
  have r2 : W9.cell? ⟨rb, 2, none⟩ = some (.string ⟨name.toArray⟩) := R10.out.cell 2
  have r3 : W9.cell? ⟨rb, 3, none⟩ = some (.int .i64 n) := R10.out.cell 3
  have o0 : W9.cell? ⟨rb + 1, 0, none⟩ = some (.int .i64 1) := O10.out.cell 0
  have o1 : W9.cell? ⟨rb + 1, 1, none⟩ = some (.bool neg) := O10.out.cell 1
  have o2 : W9.cell? ⟨rb + 1, 2, none⟩ = some (.string ⟨name.toArray⟩) := O10.out.cell 2
  have o3 : W9.cell? ⟨rb + 1, 3, none⟩ = some (.int .i64 0) := O10.out.cell 3
  cases nk with
  | false =>
    go_wp2_with fail
    go_ret
    exact ⟨by simp, E10.out⟩
  | true =>
    by_cases hn : n = 0
    · subst hn
      go_wp2_with fail
      go_ret
      exact ⟨by simp, E10.out⟩
    · have hnb : (n == 0) = false := by simpa using hn
      go_wp2_with fail
      go_ret
      exact ⟨by first | (simp; done) | simp [hn], E10.out⟩
set_option maxRecDepth 20000 in
set_option maxHeartbeats 4000000 in
theorem PMayCond2 (neg : Bool) (name : List UInt8) (n : Int) (w : World) :
    Calls Tryz.prog 79 #[.agg #[.int .i64 2, .bool neg, .string ⟨name.toArray⟩, .int .i64 n]] w fun e w' => e = .returned (.bool (nameOk name && decide (n = 0))) ∧ Ext w w' := by
  have q := fun W => IsName_any name W
  generalize nameOk name = nk at *
  obtain ⟨R, O, E⟩ := mayc_start 2 neg name n w
  replace q := hide q
  replace R := hide R
  replace O := hide O
  replace E := hide E
  go_enter Tryz.func79, Tryz.ntmps79
  go_upto_region 8 with fail
  generalize (w.alloc (Obj.cells #[.int .i64 2, .bool neg, .string ⟨name.toArray⟩, .int .i64 n] 48)).alloc (Obj.cells #[.int .i64 2, .bool neg, .string ⟨#[]⟩, .int .i64 0] 48) = W8 at R O E ⊢
  generalize hg : w.heap.size = rb at R O ⊢
  have r2 : W8.cell? ⟨rb, 2, none⟩ = some (.string ⟨name.toArray⟩) := R.out.cell 2
  have o2 : W8.cell? ⟨rb + 1, 2, none⟩ = some (.string ⟨#[]⟩) := O.out.cell 2
  have of := fun i => O.out.frozen i
  go_region_held3 (fun w' => w'.cell? ⟨rb, 2, none⟩ = some (.string ⟨name.toArray⟩)) (go_keep)
    ((go_at_call 65; refine (q.out _).mono ?_; rintro e w9 ⟨rfl, he⟩
      have E9 := E.out.drew.trans he
      have R9 := R.out.drew.ext he
      have O9 := O.out.drew.ext he
      clear he
      have r92 : w9.cell? ⟨rb, 2, none⟩ = some (.string ⟨name.toArray⟩) := R9.cell 2
      have o92 : w9.cell? ⟨rb + 1, 2, none⟩ = some (.string ⟨#[]⟩) := O9.cell 2
      have of9 := fun i => O9.frozen i
      replace E9 := hide E9
      replace R9 := hide R9
      replace O9 := hide O9))
  clear r2 o2 of R O E
  have R10 := hide (R9.out.far (p := ⟨rb + 1, 2, none⟩) (show rb ≠ rb + 1 by omega) (.string ⟨name.toArray⟩))
  have O10 : Blk (w9.setCell ⟨rb + 1, 2, none⟩ (.string ⟨name.toArray⟩)) (rb + 1) 48 #[.int .i64 2, .bool neg, .string ⟨name.toArray⟩, .int .i64 0] := O9.out.set_ 2 _
  have E10 := hide (E9.out.setCell (show w.heap.size ≤ rb + 1 by omega) (.string ⟨name.toArray⟩) (p := ⟨rb + 1, 2, none⟩))
  replace O10 := hide O10
  clear r92 o92 of9 R9 O9 E9
  generalize w9.setCell ⟨rb + 1, 2, none⟩ (.string ⟨name.toArray⟩) = W9 at R10 O10 E10 ⊢
  have r0 : W9.cell? ⟨rb, 0, none⟩ = some (.int .i64 2) := R10.out.cell 0
  have r1 : W9.cell? ⟨rb, 1, none⟩ = some (.bool neg) := R10.out.cell 1
  have r2 : W9.cell? ⟨rb, 2, none⟩ = some (.string ⟨name.toArray⟩) := R10.out.cell 2
  have r3 : W9.cell? ⟨rb, 3, none⟩ = some (.int .i64 n) := R10.out.cell 3
  have o0 : W9.cell? ⟨rb + 1, 0, none⟩ = some (.int .i64 2) := O10.out.cell 0
  have o1 : W9.cell? ⟨rb + 1, 1, none⟩ = some (.bool neg) := O10.out.cell 1
  have o2 : W9.cell? ⟨rb + 1, 2, none⟩ = some (.string ⟨name.toArray⟩) := O10.out.cell 2
  have o3 : W9.cell? ⟨rb + 1, 3, none⟩ = some (.int .i64 0) := O10.out.cell 3
  cases nk with
  | false =>
    go_wp2_with fail
    go_ret
    exact ⟨by simp, E10.out⟩
  | true =>
    by_cases hn : n = 0
    · subst hn
      go_wp2_with fail
      go_ret
      exact ⟨by simp, E10.out⟩
    · have hnb : (n == 0) = false := by simpa using hn
      go_wp2_with fail
      go_ret
      exact ⟨by first | (simp; done) | simp [hn], E10.out⟩
set_option maxRecDepth 20000 in
set_option maxHeartbeats 4000000 in
theorem PMayCond3 (neg : Bool) (name : List UInt8) (n : Int) (w : World) :
    Calls Tryz.prog 79 #[.agg #[.int .i64 3, .bool neg, .string ⟨name.toArray⟩, .int .i64 n]] w fun e w' => e = .returned (.bool (nameOk name && decide (n = 0))) ∧ Ext w w' := by
  have q := fun W => IsName_any name W
  generalize nameOk name = nk at *
  obtain ⟨R, O, E⟩ := mayc_start 3 neg name n w
  replace q := hide q
  replace R := hide R
  replace O := hide O
  replace E := hide E
  go_enter Tryz.func79, Tryz.ntmps79
  go_upto_region 8 with fail
  generalize (w.alloc (Obj.cells #[.int .i64 3, .bool neg, .string ⟨name.toArray⟩, .int .i64 n] 48)).alloc (Obj.cells #[.int .i64 3, .bool neg, .string ⟨#[]⟩, .int .i64 0] 48) = W8 at R O E ⊢
  generalize hg : w.heap.size = rb at R O ⊢
  have r2 : W8.cell? ⟨rb, 2, none⟩ = some (.string ⟨name.toArray⟩) := R.out.cell 2
  have o2 : W8.cell? ⟨rb + 1, 2, none⟩ = some (.string ⟨#[]⟩) := O.out.cell 2
  have of := fun i => O.out.frozen i
  go_region_held3 (fun w' => w'.cell? ⟨rb, 2, none⟩ = some (.string ⟨name.toArray⟩)) (go_keep)
    ((go_at_call 65; refine (q.out _).mono ?_; rintro e w9 ⟨rfl, he⟩
      have E9 := E.out.drew.trans he
      have R9 := R.out.drew.ext he
      have O9 := O.out.drew.ext he
      clear he
      have r92 : w9.cell? ⟨rb, 2, none⟩ = some (.string ⟨name.toArray⟩) := R9.cell 2
      have o92 : w9.cell? ⟨rb + 1, 2, none⟩ = some (.string ⟨#[]⟩) := O9.cell 2
      have of9 := fun i => O9.frozen i
      replace E9 := hide E9
      replace R9 := hide R9
      replace O9 := hide O9))
  clear r2 o2 of R O E
  have R10 := hide (R9.out.far (p := ⟨rb + 1, 2, none⟩) (show rb ≠ rb + 1 by omega) (.string ⟨name.toArray⟩))
  have O10 : Blk (w9.setCell ⟨rb + 1, 2, none⟩ (.string ⟨name.toArray⟩)) (rb + 1) 48 #[.int .i64 3, .bool neg, .string ⟨name.toArray⟩, .int .i64 0] := O9.out.set_ 2 _
  have E10 := hide (E9.out.setCell (show w.heap.size ≤ rb + 1 by omega) (.string ⟨name.toArray⟩) (p := ⟨rb + 1, 2, none⟩))
  replace O10 := hide O10
  clear r92 o92 of9 R9 O9 E9
  generalize w9.setCell ⟨rb + 1, 2, none⟩ (.string ⟨name.toArray⟩) = W9 at R10 O10 E10 ⊢
  have r0 : W9.cell? ⟨rb, 0, none⟩ = some (.int .i64 3) := R10.out.cell 0
  have r1 : W9.cell? ⟨rb, 1, none⟩ = some (.bool neg) := R10.out.cell 1
  have r2 : W9.cell? ⟨rb, 2, none⟩ = some (.string ⟨name.toArray⟩) := R10.out.cell 2
  have r3 : W9.cell? ⟨rb, 3, none⟩ = some (.int .i64 n) := R10.out.cell 3
  have o0 : W9.cell? ⟨rb + 1, 0, none⟩ = some (.int .i64 3) := O10.out.cell 0
  have o1 : W9.cell? ⟨rb + 1, 1, none⟩ = some (.bool neg) := O10.out.cell 1
  have o2 : W9.cell? ⟨rb + 1, 2, none⟩ = some (.string ⟨name.toArray⟩) := O10.out.cell 2
  have o3 : W9.cell? ⟨rb + 1, 3, none⟩ = some (.int .i64 0) := O10.out.cell 3
  cases nk with
  | false =>
    go_wp2_with fail
    go_ret
    exact ⟨by simp, E10.out⟩
  | true =>
    by_cases hn : n = 0
    · subst hn
      go_wp2_with fail
      go_ret
      exact ⟨by simp, E10.out⟩
    · have hnb : (n == 0) = false := by simpa using hn
      go_wp2_with fail
      go_ret
      exact ⟨by first | (simp; done) | simp [hn], E10.out⟩
set_option maxRecDepth 20000 in
set_option maxHeartbeats 4000000 in
theorem PMayCond4 (neg : Bool) (name : List UInt8) (n : Int) (w : World) :
    Calls Tryz.prog 79 #[.agg #[.int .i64 4, .bool neg, .string ⟨name.toArray⟩, .int .i64 n]] w fun e w' => e = .returned (.bool (nameOk name && decide (n = 0))) ∧ Ext w w' := by
  have q := fun W => IsName_any name W
  generalize nameOk name = nk at *
  obtain ⟨R, O, E⟩ := mayc_start 4 neg name n w
  replace q := hide q
  replace R := hide R
  replace O := hide O
  replace E := hide E
  go_enter Tryz.func79, Tryz.ntmps79
  go_upto_region 8 with fail
  generalize (w.alloc (Obj.cells #[.int .i64 4, .bool neg, .string ⟨name.toArray⟩, .int .i64 n] 48)).alloc (Obj.cells #[.int .i64 4, .bool neg, .string ⟨#[]⟩, .int .i64 0] 48) = W8 at R O E ⊢
  generalize hg : w.heap.size = rb at R O ⊢
  have r2 : W8.cell? ⟨rb, 2, none⟩ = some (.string ⟨name.toArray⟩) := R.out.cell 2
  have o2 : W8.cell? ⟨rb + 1, 2, none⟩ = some (.string ⟨#[]⟩) := O.out.cell 2
  have of := fun i => O.out.frozen i
  go_region_held3 (fun w' => w'.cell? ⟨rb, 2, none⟩ = some (.string ⟨name.toArray⟩)) (go_keep)
    ((go_at_call 65; refine (q.out _).mono ?_; rintro e w9 ⟨rfl, he⟩
      have E9 := E.out.drew.trans he
      have R9 := R.out.drew.ext he
      have O9 := O.out.drew.ext he
      clear he
      have r92 : w9.cell? ⟨rb, 2, none⟩ = some (.string ⟨name.toArray⟩) := R9.cell 2
      have o92 : w9.cell? ⟨rb + 1, 2, none⟩ = some (.string ⟨#[]⟩) := O9.cell 2
      have of9 := fun i => O9.frozen i
      replace E9 := hide E9
      replace R9 := hide R9
      replace O9 := hide O9))
  clear r2 o2 of R O E
  have R10 := hide (R9.out.far (p := ⟨rb + 1, 2, none⟩) (show rb ≠ rb + 1 by omega) (.string ⟨name.toArray⟩))
  have O10 : Blk (w9.setCell ⟨rb + 1, 2, none⟩ (.string ⟨name.toArray⟩)) (rb + 1) 48 #[.int .i64 4, .bool neg, .string ⟨name.toArray⟩, .int .i64 0] := O9.out.set_ 2 _
  have E10 := hide (E9.out.setCell (show w.heap.size ≤ rb + 1 by omega) (.string ⟨name.toArray⟩) (p := ⟨rb + 1, 2, none⟩))
  replace O10 := hide O10
  clear r92 o92 of9 R9 O9 E9
  generalize w9.setCell ⟨rb + 1, 2, none⟩ (.string ⟨name.toArray⟩) = W9 at R10 O10 E10 ⊢
  have r0 : W9.cell? ⟨rb, 0, none⟩ = some (.int .i64 4) := R10.out.cell 0
  have r1 : W9.cell? ⟨rb, 1, none⟩ = some (.bool neg) := R10.out.cell 1
  have r2 : W9.cell? ⟨rb, 2, none⟩ = some (.string ⟨name.toArray⟩) := R10.out.cell 2
  have r3 : W9.cell? ⟨rb, 3, none⟩ = some (.int .i64 n) := R10.out.cell 3
  have o0 : W9.cell? ⟨rb + 1, 0, none⟩ = some (.int .i64 4) := O10.out.cell 0
  have o1 : W9.cell? ⟨rb + 1, 1, none⟩ = some (.bool neg) := O10.out.cell 1
  have o2 : W9.cell? ⟨rb + 1, 2, none⟩ = some (.string ⟨name.toArray⟩) := O10.out.cell 2
  have o3 : W9.cell? ⟨rb + 1, 3, none⟩ = some (.int .i64 0) := O10.out.cell 3
  cases nk with
  | false =>
    go_wp2_with fail
    go_ret
    exact ⟨by simp, E10.out⟩
  | true =>
    by_cases hn : n = 0
    · subst hn
      go_wp2_with fail
      go_ret
      exact ⟨by simp, E10.out⟩
    · have hnb : (n == 0) = false := by simpa using hn
      go_wp2_with fail
      go_ret
      exact ⟨by first | (simp; done) | simp [hn], E10.out⟩
set_option maxRecDepth 20000 in
set_option maxHeartbeats 4000000 in
theorem PMayCond5 (neg : Bool) (name : List UInt8) (n : Int) (w : World) :
  Calls Tryz.prog 79 #[.agg #[.int .i64 5, .bool neg, .string ⟨name.toArray⟩, .int .i64 n]] w fun e w' => e = .returned (.bool (decide (0 ≤ n ∧ n ≤ 2) && decide (name = []))) ∧ Ext w w' := by
 obtain ⟨R, O, E⟩ := mayc_start 5 neg name n w
 have hcs : (¬ 0 ≤ n ∧ decide (0 ≤ n ∧ n ≤ 2) = false) ∨ (0 ≤ n ∧ ¬ n ≤ 2 ∧ decide (0 ≤ n ∧ n ≤ 2) = false) ∨ (0 ≤ n ∧ n ≤ 2 ∧ decide (0 ≤ n ∧ n ≤ 2) = true) := by
  by_cases h1 : 0 ≤ n
  ·by_cases h2 : n ≤ 2
   ·exact .inr (.inr ⟨h1, h2, decide_eq_true ⟨h1, h2⟩⟩)
   ·exact .inr (.inl ⟨h1, h2, decide_eq_false fun h => h2 h.2⟩)
  ·exact .inl ⟨h1, decide_eq_false fun h => h1 h.1⟩
 generalize decide (0 ≤ n ∧ n ≤ 2) = r at *
 replace R := hide R
 replace O := hide O
 replace E := hide E
 rcases hcs with ⟨h1, rfl⟩ | ⟨h1, h2, rfl⟩ | ⟨h1, h2, rfl⟩
 all_goals
  go_enter Tryz.func79, Tryz.ntmps79
  go_upto_region 10 with fail
  generalize (w.alloc (Obj.cells #[.int .i64 5, .bool neg, .string ⟨name.toArray⟩, .int .i64 n] 48)).alloc (Obj.cells #[.int .i64 5, .bool neg, .string ⟨#[]⟩, .int .i64 0] 48) = W8 at R O E ⊢
  generalize hg : w.heap.size = rb at R O ⊢
  have r3 : W8.cell? ⟨rb, 3, none⟩ = some (.int .i64 n) := R.out.cell 3
  have o3 : W8.cell? ⟨rb + 1, 3, none⟩ = some (.int .i64 0) := O.out.cell 3
  have of := fun i => O.out.frozen i
  go_region
  clear r3 o3 of
  have R10 := hide (R.out.far (p := ⟨rb + 1, 3, none⟩) (show rb ≠ rb + 1 by omega) (.int .i64 n)).drew
  have O10 : Blk (W8.setCell ⟨rb + 1, 3, none⟩ (.int .i64 n)).drew (rb + 1) 48 #[.int .i64 5, .bool neg, .string ⟨#[]⟩, .int .i64 n] := O.out.set_ 3 _
  have E10 := hide (E.out.setCell (show w.heap.size ≤ rb + 1 by omega) (.int .i64 n) (p := ⟨rb + 1, 3, none⟩)).drew
  replace O10 := hide O10
  clear R O E
  generalize (W8.setCell ⟨rb + 1, 3, none⟩ (.int .i64 n)).drew = W9 at R10 O10 E10 ⊢
  have r0 : W9.cell? ⟨rb, 0, none⟩ = some (.int .i64 5) := R10.out.cell 0
  have r1 : W9.cell? ⟨rb, 1, none⟩ = some (.bool neg) := R10.out.cell 1
  have r2 : W9.cell? ⟨rb, 2, none⟩ = some (.string ⟨name.toArray⟩) := R10.out.cell 2
  have r3 : W9.cell? ⟨rb, 3, none⟩ = some (.int .i64 n) := R10.out.cell 3
  have o0 : W9.cell? ⟨rb + 1, 0, none⟩ = some (.int .i64 5) := O10.out.cell 0
  have o1 : W9.cell? ⟨rb + 1, 1, none⟩ = some (.bool neg) := O10.out.cell 1
  have o2 : W9.cell? ⟨rb + 1, 2, none⟩ = some (.string ⟨#[]⟩) := O10.out.cell 2
  have o3 : W9.cell? ⟨rb + 1, 3, none⟩ = some (.int .i64 n) := O10.out.cell 3
 ·go_wp2_with fail
  go_ret
  exact ⟨by simp, E10.out⟩
 ·go_wp2_with fail
  go_ret
  exact ⟨by simp, E10.out⟩
 ·by_cases hn : name = []
  ·subst hn
   go_wp2_with fail
   go_ret
   exact ⟨by simp, E10.out⟩
  ·have hnb : (name == []) = false := by simpa using hn
   go_wp2_with fail
   go_ret
   exact ⟨by first | (simp; done) | simp [hn], E10.out⟩
set_option maxRecDepth 20000 in
set_option maxHeartbeats 4000000 in
theorem PMayCond6 (neg : Bool) (name : List UInt8) (n : Int) (w : World) :
  Calls Tryz.prog 79 #[.agg #[.int .i64 6, .bool neg, .string ⟨name.toArray⟩, .int .i64 n]] w fun e w' => e = .returned (.bool (decide (0 ≤ n ∧ n ≤ 65535) && decide (name = []))) ∧ Ext w w' := by
 obtain ⟨R, O, E⟩ := mayc_start 6 neg name n w
 have hcs : (¬ 0 ≤ n ∧ decide (0 ≤ n ∧ n ≤ 65535) = false) ∨ (0 ≤ n ∧ ¬ n ≤ 65535 ∧ decide (0 ≤ n ∧ n ≤ 65535) = false) ∨ (0 ≤ n ∧ n ≤ 65535 ∧ decide (0 ≤ n ∧ n ≤ 65535) = true) := by
  by_cases h1 : 0 ≤ n
  ·by_cases h2 : n ≤ 65535
   ·exact .inr (.inr ⟨h1, h2, decide_eq_true ⟨h1, h2⟩⟩)
   ·exact .inr (.inl ⟨h1, h2, decide_eq_false fun h => h2 h.2⟩)
  ·exact .inl ⟨h1, decide_eq_false fun h => h1 h.1⟩
 generalize decide (0 ≤ n ∧ n ≤ 65535) = r at *
 replace R := hide R
 replace O := hide O
 replace E := hide E
 rcases hcs with ⟨h1, rfl⟩ | ⟨h1, h2, rfl⟩ | ⟨h1, h2, rfl⟩
 all_goals
  go_enter Tryz.func79, Tryz.ntmps79
  go_upto_region 12 with fail
  generalize (w.alloc (Obj.cells #[.int .i64 6, .bool neg, .string ⟨name.toArray⟩, .int .i64 n] 48)).alloc (Obj.cells #[.int .i64 6, .bool neg, .string ⟨#[]⟩, .int .i64 0] 48) = W8 at R O E ⊢
  generalize hg : w.heap.size = rb at R O ⊢
  have r3 : W8.cell? ⟨rb, 3, none⟩ = some (.int .i64 n) := R.out.cell 3
  have o3 : W8.cell? ⟨rb + 1, 3, none⟩ = some (.int .i64 0) := O.out.cell 3
  have of := fun i => O.out.frozen i
  go_region
  clear r3 o3 of
  have R10 := hide (R.out.far (p := ⟨rb + 1, 3, none⟩) (show rb ≠ rb + 1 by omega) (.int .i64 n)).drew
  have O10 : Blk (W8.setCell ⟨rb + 1, 3, none⟩ (.int .i64 n)).drew (rb + 1) 48 #[.int .i64 6, .bool neg, .string ⟨#[]⟩, .int .i64 n] := O.out.set_ 3 _
  have E10 := hide (E.out.setCell (show w.heap.size ≤ rb + 1 by omega) (.int .i64 n) (p := ⟨rb + 1, 3, none⟩)).drew
  replace O10 := hide O10
  clear R O E
  generalize (W8.setCell ⟨rb + 1, 3, none⟩ (.int .i64 n)).drew = W9 at R10 O10 E10 ⊢
  have r0 : W9.cell? ⟨rb, 0, none⟩ = some (.int .i64 6) := R10.out.cell 0
  have r1 : W9.cell? ⟨rb, 1, none⟩ = some (.bool neg) := R10.out.cell 1
  have r2 : W9.cell? ⟨rb, 2, none⟩ = some (.string ⟨name.toArray⟩) := R10.out.cell 2
  have r3 : W9.cell? ⟨rb, 3, none⟩ = some (.int .i64 n) := R10.out.cell 3
  have o0 : W9.cell? ⟨rb + 1, 0, none⟩ = some (.int .i64 6) := O10.out.cell 0
  have o1 : W9.cell? ⟨rb + 1, 1, none⟩ = some (.bool neg) := O10.out.cell 1
  have o2 : W9.cell? ⟨rb + 1, 2, none⟩ = some (.string ⟨#[]⟩) := O10.out.cell 2
  have o3 : W9.cell? ⟨rb + 1, 3, none⟩ = some (.int .i64 n) := O10.out.cell 3
 ·go_wp2_with fail
  go_ret
  exact ⟨by simp, E10.out⟩
 ·go_wp2_with fail
  go_ret
  exact ⟨by simp, E10.out⟩
 ·by_cases hn : name = []
  ·subst hn
   go_wp2_with fail
   go_ret
   exact ⟨by simp, E10.out⟩
  ·have hnb : (name == []) = false := by simpa using hn
   go_wp2_with fail
   go_ret
   exact ⟨by first | (simp; done) | simp [hn], E10.out⟩
set_option maxRecDepth 20000 in
set_option maxHeartbeats 4000000 in
theorem PMayCond7 (neg : Bool) (name : List UInt8) (n : Int) (w : World) :
  Calls Tryz.prog 79 #[.agg #[.int .i64 7, .bool neg, .string ⟨name.toArray⟩, .int .i64 n]] w fun e w' => e = .returned (.bool (decide (1 ≤ n ∧ n ≤ 5) && decide (name = []))) ∧ Ext w w' := by
 obtain ⟨R, O, E⟩ := mayc_start 7 neg name n w
 have hcs : (¬ 1 ≤ n ∧ decide (1 ≤ n ∧ n ≤ 5) = false) ∨ (1 ≤ n ∧ ¬ n ≤ 5 ∧ decide (1 ≤ n ∧ n ≤ 5) = false) ∨ (1 ≤ n ∧ n ≤ 5 ∧ decide (1 ≤ n ∧ n ≤ 5) = true) := by
  by_cases h1 : 1 ≤ n
  ·by_cases h2 : n ≤ 5
   ·exact .inr (.inr ⟨h1, h2, decide_eq_true ⟨h1, h2⟩⟩)
   ·exact .inr (.inl ⟨h1, h2, decide_eq_false fun h => h2 h.2⟩)
  ·exact .inl ⟨h1, decide_eq_false fun h => h1 h.1⟩
 generalize decide (1 ≤ n ∧ n ≤ 5) = r at *
 replace R := hide R
 replace O := hide O
 replace E := hide E
 rcases hcs with ⟨h1, rfl⟩ | ⟨h1, h2, rfl⟩ | ⟨h1, h2, rfl⟩
 all_goals
  go_enter Tryz.func79, Tryz.ntmps79
  go_upto_region 14 with fail
  generalize (w.alloc (Obj.cells #[.int .i64 7, .bool neg, .string ⟨name.toArray⟩, .int .i64 n] 48)).alloc (Obj.cells #[.int .i64 7, .bool neg, .string ⟨#[]⟩, .int .i64 0] 48) = W8 at R O E ⊢
  generalize hg : w.heap.size = rb at R O ⊢
  have r3 : W8.cell? ⟨rb, 3, none⟩ = some (.int .i64 n) := R.out.cell 3
  have o3 : W8.cell? ⟨rb + 1, 3, none⟩ = some (.int .i64 0) := O.out.cell 3
  have of := fun i => O.out.frozen i
  go_region
  clear r3 o3 of
  have R10 := hide (R.out.far (p := ⟨rb + 1, 3, none⟩) (show rb ≠ rb + 1 by omega) (.int .i64 n)).drew
  have O10 : Blk (W8.setCell ⟨rb + 1, 3, none⟩ (.int .i64 n)).drew (rb + 1) 48 #[.int .i64 7, .bool neg, .string ⟨#[]⟩, .int .i64 n] := O.out.set_ 3 _
  have E10 := hide (E.out.setCell (show w.heap.size ≤ rb + 1 by omega) (.int .i64 n) (p := ⟨rb + 1, 3, none⟩)).drew
  replace O10 := hide O10
  clear R O E
  generalize (W8.setCell ⟨rb + 1, 3, none⟩ (.int .i64 n)).drew = W9 at R10 O10 E10 ⊢
  have r0 : W9.cell? ⟨rb, 0, none⟩ = some (.int .i64 7) := R10.out.cell 0
  have r1 : W9.cell? ⟨rb, 1, none⟩ = some (.bool neg) := R10.out.cell 1
  have r2 : W9.cell? ⟨rb, 2, none⟩ = some (.string ⟨name.toArray⟩) := R10.out.cell 2
  have r3 : W9.cell? ⟨rb, 3, none⟩ = some (.int .i64 n) := R10.out.cell 3
  have o0 : W9.cell? ⟨rb + 1, 0, none⟩ = some (.int .i64 7) := O10.out.cell 0
  have o1 : W9.cell? ⟨rb + 1, 1, none⟩ = some (.bool neg) := O10.out.cell 1
  have o2 : W9.cell? ⟨rb + 1, 2, none⟩ = some (.string ⟨#[]⟩) := O10.out.cell 2
  have o3 : W9.cell? ⟨rb + 1, 3, none⟩ = some (.int .i64 n) := O10.out.cell 3
 ·go_wp2_with fail
  go_ret
  exact ⟨by simp, E10.out⟩
 ·go_wp2_with fail
  go_ret
  exact ⟨by simp, E10.out⟩
 ·by_cases hn : name = []
  ·subst hn
   go_wp2_with fail
   go_ret
   exact ⟨by simp, E10.out⟩
  ·have hnb : (name == []) = false := by simpa using hn
   go_wp2_with fail
   go_ret
   exact ⟨by first | (simp; done) | simp [hn], E10.out⟩
set_option maxRecDepth 20000 in
set_option maxHeartbeats 4000000 in
theorem PMayCond0 (k : Int) (neg : Bool) (name : List UInt8) (n : Int) (w : World) (h1 : ¬ k = 1) (h2 : ¬ k = 2) (h3 : ¬ k = 3) (h4 : ¬ k = 4) (h5 : ¬ k = 5) (h6 : ¬ k = 6) (h7 : ¬ k = 7) :
  Calls Tryz.prog 79 #[.agg #[.int .i64 k, .bool neg, .string ⟨name.toArray⟩, .int .i64 n]] w fun e w' => e = .returned (.bool false) ∧ Ext w w' := by
 obtain ⟨R, O, E⟩ := mayc_start k neg name n w
 have g1 : (k == 1) = false := by simpa using h1
 have g2 : (k == 2) = false := by simpa using h2
 have g3 : (k == 3) = false := by simpa using h3
 have g4 : (k == 4) = false := by simpa using h4
 have g5 : (k == 5) = false := by simpa using h5
 have g6 : (k == 6) = false := by simpa using h6
 have g7 : (k == 7) = false := by simpa using h7
 clear h1 h2 h3 h4 h5 h6 h7
 replace R := hide R
 replace O := hide O
 replace E := hide E
 go_enter Tryz.func79, Tryz.ntmps79
 go_wp2_with fail
 go_ret
 exact ⟨rfl, E.out⟩
theorem PMayCond_any (c : CondS) (w : World) :
  Calls Tryz.prog 79 #[.agg (condCs c).toArray] w fun e w' => e = .returned (.bool (condOk c)) ∧ Ext w w' := by
 obtain ⟨k, neg, name, n⟩ := c
 unfold condOk
 dsimp only
 by_cases h : k = 1 ∨ k = 2 ∨ k = 3 ∨ k = 4
 ·rw [if_pos h]
  rcases h with rfl | rfl | rfl | rfl
  ·exact PMayCond1 neg name n w
  ·exact PMayCond2 neg name n w
  ·exact PMayCond3 neg name n w
  ·exact PMayCond4 neg name n w
 rw [if_neg h]
 by_cases h5 : k = 5
 ·rw [if_pos h5]
  subst h5
  exact PMayCond5 neg name n w
 rw [if_neg h5]
 by_cases h6 : k = 6
 ·rw [if_pos h6]
  subst h6
  exact PMayCond6 neg name n w
 rw [if_neg h6]
 by_cases h7 : k = 7
 ·rw [if_pos h7]
  subst h7
  exact PMayCond7 neg name n w
 rw [if_neg h7]
 exact PMayCond0 k neg name n w (fun e => h (.inl e)) (fun e => h (.inr (.inl e))) (fun e => h (.inr (.inr (.inl e)))) (fun e => h (.inr (.inr (.inr e)))) h5 h6 h7
end
section
open Go.RowKit
set_option linter.unusedVariables false
attribute [local go_sem ↓] Go.wp_at_zero Go.wp_at_succ
theorem maya_start (k : Int) (name : List UInt8) (n : UInt32) (addr : List UInt8) (w : World) :
  Blk ((w.alloc (Obj.cells #[.int .i64 k, .string ⟨name.toArray⟩, .int .u32 (n.toNat : Int), .string ⟨addr.toArray⟩] 51)).alloc (Obj.cells #[.int .i64 k, .string ⟨#[]⟩, .int .u32 0, .string ⟨#[]⟩] 51)) w.heap.size 51 #[.int .i64 k, .string ⟨name.toArray⟩, .int .u32 (n.toNat : Int), .string ⟨addr.toArray⟩] ∧ Blk ((w.alloc (Obj.cells #[.int .i64 k, .string ⟨name.toArray⟩, .int .u32 (n.toNat : Int), .string ⟨addr.toArray⟩] 51)).alloc (Obj.cells #[.int .i64 k, .string ⟨#[]⟩, .int .u32 0, .string ⟨#[]⟩] 51)) (w.heap.size + 1) 51 #[.int .i64 k, .string ⟨#[]⟩, .int .u32 0, .string ⟨#[]⟩] ∧ Ext w ((w.alloc (Obj.cells #[.int .i64 k, .string ⟨name.toArray⟩, .int .u32 (n.toNat : Int), .string ⟨addr.toArray⟩] 51)).alloc (Obj.cells #[.int .i64 k, .string ⟨#[]⟩, .int .u32 0, .string ⟨#[]⟩] 51)) := by
 refine ⟨(Blk.new w 51 #[.int .i64 k, .string ⟨name.toArray⟩, .int .u32 (n.toNat : Int), .string ⟨addr.toArray⟩]).alloc _, ?_, ((Ext.refl w).alloc _).alloc _⟩
 have := Blk.new (w.alloc (Obj.cells #[.int .i64 k, .string ⟨name.toArray⟩, .int .u32 (n.toNat : Int), .string ⟨addr.toArray⟩] 51)) 51 #[.int .i64 k, .string ⟨#[]⟩, .int .u32 0, .string ⟨#[]⟩]
 simpa using this
set_option maxRecDepth 20000 in
set_option maxHeartbeats 8000000 in
theorem PMayAct1 (name : List UInt8) (n : UInt32) (addr : List UInt8) (w : World) :
  Calls Tryz.prog 82 #[.agg #[.int .i64 1, .string ⟨name.toArray⟩, .int .u32 (n.toNat : Int), .string ⟨addr.toArray⟩]] w fun e w' => e = .returned (.bool (decide (name = []) && (decide (n = 0) && decide (addr = [])))) ∧ Ext w w' := by
 obtain ⟨R, O, E⟩ := maya_start 1 name n addr w
 replace R := hide R
 replace O := hide O
 replace E := hide E
 go_enter Tryz.func82, Tryz.ntmps82
 go_upto_region 20 with fail
 generalize (w.alloc (Obj.cells #[.int .i64 1, .string ⟨name.toArray⟩, .int .u32 (n.toNat : Int), .string ⟨addr.toArray⟩] 51)).alloc (Obj.cells #[.int .i64 1, .string ⟨#[]⟩, .int .u32 0, .string ⟨#[]⟩] 51) = W9 at R O E ⊢
 generalize hg : w.heap.size = rb at R O ⊢
 have r0 : W9.cell? ⟨rb, 0, none⟩ = some (.int .i64 1) := R.out.cell 0
 have r1 : W9.cell? ⟨rb, 1, none⟩ = some (.string ⟨name.toArray⟩) := R.out.cell 1
 have r2 : W9.cell? ⟨rb, 2, none⟩ = some (.int .u32 (n.toNat : Int)) := R.out.cell 2
 have r3 : W9.cell? ⟨rb, 3, none⟩ = some (.string ⟨addr.toArray⟩) := R.out.cell 3
 have o0 : W9.cell? ⟨rb + 1, 0, none⟩ = some (.int .i64 1) := O.out.cell 0
 have o1 : W9.cell? ⟨rb + 1, 1, none⟩ = some (.string ⟨#[]⟩) := O.out.cell 1
 have o2 : W9.cell? ⟨rb + 1, 2, none⟩ = some (.int .u32 0) := O.out.cell 2
 have o3 : W9.cell? ⟨rb + 1, 3, none⟩ = some (.string ⟨#[]⟩) := O.out.cell 3
 by_cases hname : name = []
 ·subst hname
  by_cases hn : n = 0
  ·subst hn
   have hz0 : ((0 : UInt32).toNat : Int) = 0 := rfl
   by_cases haddr : addr = []
   ·subst haddr
    go_wp2_with fail
    go_ret
    exact ⟨by simp, E.out⟩
   ·have hbaddr : (addr == []) = false := by simpa using haddr
    go_wp2_with fail
    go_ret
    exact ⟨by first | (simp; done) | simp [haddr], E.out⟩
  ·have hnb : ((n.toNat : Int) == 0) = false := by rw [beq_eq_false_iff_ne]; intro h; exact hn (UInt32.toNat_inj.1 (by rw [show (0 : UInt32).toNat = 0 from rfl]; omega))
   have hnb2 : (n.toNat == 0) = false := by rw [beq_eq_false_iff_ne]; intro h; exact hn (UInt32.toNat_inj.1 (by rw [show (0 : UInt32).toNat = 0 from rfl]; omega))
   have hnb3 : ¬ n.toNat = 0 := by simpa using hnb2
   go_wp2_with fail
   go_ret
   exact ⟨by first | (simp; done) | simp [hn], E.out⟩
 ·have hbname : (name == []) = false := by simpa using hname
  go_wp2_with fail
  go_ret
  exact ⟨by first | (simp; done) | simp [hname], E.out⟩
set_option maxRecDepth 20000 in
set_option maxHeartbeats 8000000 in
theorem PMayAct2 (name : List UInt8) (n : UInt32) (addr : List UInt8) (w : World) :
  Calls Tryz.prog 82 #[.agg #[.int .i64 2, .string ⟨name.toArray⟩, .int .u32 (n.toNat : Int), .string ⟨addr.toArray⟩]] w fun e w' => e = .returned (.bool (decide (name = []) && (decide (n = 0) && decide (addr = [])))) ∧ Ext w w' := by
 obtain ⟨R, O, E⟩ := maya_start 2 name n addr w
 replace R := hide R
 replace O := hide O
 replace E := hide E
 go_enter Tryz.func82, Tryz.ntmps82
 go_upto_region 20 with fail
 generalize (w.alloc (Obj.cells #[.int .i64 2, .string ⟨name.toArray⟩, .int .u32 (n.toNat : Int), .string ⟨addr.toArray⟩] 51)).alloc (Obj.cells #[.int .i64 2, .string ⟨#[]⟩, .int .u32 0, .string ⟨#[]⟩] 51) = W9 at R O E ⊢
 generalize hg : w.heap.size = rb at R O ⊢
 have r0 : W9.cell? ⟨rb, 0, none⟩ = some (.int .i64 2) := R.out.cell 0
 have r1 : W9.cell? ⟨rb, 1, none⟩ = some (.string ⟨name.toArray⟩) := R.out.cell 1
 have r2 : W9.cell? ⟨rb, 2, none⟩ = some (.int .u32 (n.toNat : Int)) := R.out.cell 2
 have r3 : W9.cell? ⟨rb, 3, none⟩ = some (.string ⟨addr.toArray⟩) := R.out.cell 3
 have o0 : W9.cell? ⟨rb + 1, 0, none⟩ = some (.int .i64 2) := O.out.cell 0
 have o1 : W9.cell? ⟨rb + 1, 1, none⟩ = some (.string ⟨#[]⟩) := O.out.cell 1
 have o2 : W9.cell? ⟨rb + 1, 2, none⟩ = some (.int .u32 0) := O.out.cell 2
 have o3 : W9.cell? ⟨rb + 1, 3, none⟩ = some (.string ⟨#[]⟩) := O.out.cell 3
 by_cases hname : name = []
 ·subst hname
  by_cases hn : n = 0
  ·subst hn
   have hz0 : ((0 : UInt32).toNat : Int) = 0 := rfl
   by_cases haddr : addr = []
   ·subst haddr
    go_wp2_with fail
    go_ret
    exact ⟨by simp, E.out⟩
   ·have hbaddr : (addr == []) = false := by simpa using haddr
    go_wp2_with fail
    go_ret
    exact ⟨by first | (simp; done) | simp [haddr], E.out⟩
  ·have hnb : ((n.toNat : Int) == 0) = false := by rw [beq_eq_false_iff_ne]; intro h; exact hn (UInt32.toNat_inj.1 (by rw [show (0 : UInt32).toNat = 0 from rfl]; omega))
   have hnb2 : (n.toNat == 0) = false := by rw [beq_eq_false_iff_ne]; intro h; exact hn (UInt32.toNat_inj.1 (by rw [show (0 : UInt32).toNat = 0 from rfl]; omega))
   have hnb3 : ¬ n.toNat = 0 := by simpa using hnb2
   go_wp2_with fail
   go_ret
   exact ⟨by first | (simp; done) | simp [hn], E.out⟩
 ·have hbname : (name == []) = false := by simpa using hname
  go_wp2_with fail
  go_ret
  exact ⟨by first | (simp; done) | simp [hname], E.out⟩
set_option maxRecDepth 20000 in
set_option maxHeartbeats 8000000 in
theorem PMayAct5 (name : List UInt8) (n : UInt32) (addr : List UInt8) (w : World) :
  Calls Tryz.prog 82 #[.agg #[.int .i64 5, .string ⟨name.toArray⟩, .int .u32 (n.toNat : Int), .string ⟨addr.toArray⟩]] w fun e w' => e = .returned (.bool (decide (name = []) && (decide (n = 0) && decide (addr = [])))) ∧ Ext w w' := by
 obtain ⟨R, O, E⟩ := maya_start 5 name n addr w
 replace R := hide R
 replace O := hide O
 replace E := hide E
 go_enter Tryz.func82, Tryz.ntmps82
 go_upto_region 20 with fail
 generalize (w.alloc (Obj.cells #[.int .i64 5, .string ⟨name.toArray⟩, .int .u32 (n.toNat : Int), .string ⟨addr.toArray⟩] 51)).alloc (Obj.cells #[.int .i64 5, .string ⟨#[]⟩, .int .u32 0, .string ⟨#[]⟩] 51) = W9 at R O E ⊢
 generalize hg : w.heap.size = rb at R O ⊢
 have r0 : W9.cell? ⟨rb, 0, none⟩ = some (.int .i64 5) := R.out.cell 0
 have r1 : W9.cell? ⟨rb, 1, none⟩ = some (.string ⟨name.toArray⟩) := R.out.cell 1
 have r2 : W9.cell? ⟨rb, 2, none⟩ = some (.int .u32 (n.toNat : Int)) := R.out.cell 2
 have r3 : W9.cell? ⟨rb, 3, none⟩ = some (.string ⟨addr.toArray⟩) := R.out.cell 3
 have o0 : W9.cell? ⟨rb + 1, 0, none⟩ = some (.int .i64 5) := O.out.cell 0
 have o1 : W9.cell? ⟨rb + 1, 1, none⟩ = some (.string ⟨#[]⟩) := O.out.cell 1
 have o2 : W9.cell? ⟨rb + 1, 2, none⟩ = some (.int .u32 0) := O.out.cell 2
 have o3 : W9.cell? ⟨rb + 1, 3, none⟩ = some (.string ⟨#[]⟩) := O.out.cell 3
 by_cases hname : name = []
 ·subst hname
  by_cases hn : n = 0
  ·subst hn
   have hz0 : ((0 : UInt32).toNat : Int) = 0 := rfl
   by_cases haddr : addr = []
   ·subst haddr
    go_wp2_with fail
    go_ret
    exact ⟨by simp, E.out⟩
   ·have hbaddr : (addr == []) = false := by simpa using haddr
    go_wp2_with fail
    go_ret
    exact ⟨by first | (simp; done) | simp [haddr], E.out⟩
  ·have hnb : ((n.toNat : Int) == 0) = false := by rw [beq_eq_false_iff_ne]; intro h; exact hn (UInt32.toNat_inj.1 (by rw [show (0 : UInt32).toNat = 0 from rfl]; omega))
   have hnb2 : (n.toNat == 0) = false := by rw [beq_eq_false_iff_ne]; intro h; exact hn (UInt32.toNat_inj.1 (by rw [show (0 : UInt32).toNat = 0 from rfl]; omega))
   have hnb3 : ¬ n.toNat = 0 := by simpa using hnb2
   go_wp2_with fail
   go_ret
   exact ⟨by first | (simp; done) | simp [hn], E.out⟩
 ·have hbname : (name == []) = false := by simpa using hname
  go_wp2_with fail
  go_ret
  exact ⟨by first | (simp; done) | simp [hname], E.out⟩
set_option maxRecDepth 20000 in
set_option maxHeartbeats 8000000 in
theorem PMayAct3 (name : List UInt8) (n : UInt32) (addr : List UInt8) (w : World) :
  Calls Tryz.prog 82 #[.agg #[.int .i64 3, .string ⟨name.toArray⟩, .int .u32 (n.toNat : Int), .string ⟨addr.toArray⟩]] w fun e w' => e = .returned (.bool (decide (name = []) && decide (addr = []))) ∧ Ext w w' := by
 obtain ⟨R, O, E⟩ := maya_start 3 name n addr w
 replace R := hide R
 replace O := hide O
 replace E := hide E
 go_enter Tryz.func82, Tryz.ntmps82
 go_upto_region 11 with fail
 generalize (w.alloc (Obj.cells #[.int .i64 3, .string ⟨name.toArray⟩, .int .u32 (n.toNat : Int), .string ⟨addr.toArray⟩] 51)).alloc (Obj.cells #[.int .i64 3, .string ⟨#[]⟩, .int .u32 0, .string ⟨#[]⟩] 51) = W8 at R O E ⊢
 generalize hg : w.heap.size = rb at R O ⊢
 have r0 : W8.cell? ⟨rb, 0, none⟩ = some (.int .i64 3) := R.out.cell 0
 have r1 : W8.cell? ⟨rb, 1, none⟩ = some (.string ⟨name.toArray⟩) := R.out.cell 1
 have r2 : W8.cell? ⟨rb, 2, none⟩ = some (.int .u32 (n.toNat : Int)) := R.out.cell 2
 have r3 : W8.cell? ⟨rb, 3, none⟩ = some (.string ⟨addr.toArray⟩) := R.out.cell 3
 have o0 : W8.cell? ⟨rb + 1, 0, none⟩ = some (.int .i64 3) := O.out.cell 0
 have o1 : W8.cell? ⟨rb + 1, 1, none⟩ = some (.string ⟨#[]⟩) := O.out.cell 1
 have o2 : W8.cell? ⟨rb + 1, 2, none⟩ = some (.int .u32 0) := O.out.cell 2
 have o3 : W8.cell? ⟨rb + 1, 3, none⟩ = some (.string ⟨#[]⟩) := O.out.cell 3
 have of := fun i => O.out.frozen i
 go_upto_region 20 with fail
 clear r0 r1 r2 r3 o0 o1 o2 o3 of
 have R10 := hide (R.out.far (p := ⟨rb + 1, 2, none⟩) (show rb ≠ rb + 1 by omega) (.int .u32 (n.toNat : Int)))
 have O10 : Blk (W8.setCell ⟨rb + 1, 2, none⟩ (.int .u32 (n.toNat : Int))) (rb + 1) 51 #[.int .i64 3, .string ⟨#[]⟩, .int .u32 (n.toNat : Int), .string ⟨#[]⟩] := O.out.set_ 2 _
 have E10 := hide (E.out.setCell (show w.heap.size ≤ rb + 1 by omega) (.int .u32 (n.toNat : Int)) (p := ⟨rb + 1, 2, none⟩))
 replace O10 := hide O10
 clear R O E
 generalize W8.setCell ⟨rb + 1, 2, none⟩ (.int .u32 (n.toNat : Int)) = W9 at R10 O10 E10 ⊢
 have r0 : W9.cell? ⟨rb, 0, none⟩ = some (.int .i64 3) := R10.out.cell 0
 have r1 : W9.cell? ⟨rb, 1, none⟩ = some (.string ⟨name.toArray⟩) := R10.out.cell 1
 have r2 : W9.cell? ⟨rb, 2, none⟩ = some (.int .u32 (n.toNat : Int)) := R10.out.cell 2
 have r3 : W9.cell? ⟨rb, 3, none⟩ = some (.string ⟨addr.toArray⟩) := R10.out.cell 3
 have o0 : W9.cell? ⟨rb + 1, 0, none⟩ = some (.int .i64 3) := O10.out.cell 0
 have o1 : W9.cell? ⟨rb + 1, 1, none⟩ = some (.string ⟨#[]⟩) := O10.out.cell 1
 have o2 : W9.cell? ⟨rb + 1, 2, none⟩ = some (.int .u32 (n.toNat : Int)) := O10.out.cell 2
 have o3 : W9.cell? ⟨rb + 1, 3, none⟩ = some (.string ⟨#[]⟩) := O10.out.cell 3
 by_cases hname : name = []
 ·subst hname
  by_cases haddr : addr = []
  ·subst haddr
   go_wp2_with fail
   go_ret
   exact ⟨by simp, E10.out⟩
  ·have hbaddr : (addr == []) = false := by simpa using haddr
   go_wp2_with fail
   go_ret
   exact ⟨by first | (simp; done) | simp [haddr], E10.out⟩
 ·have hbname : (name == []) = false := by simpa using hname
  go_wp2_with fail
  go_ret
  exact ⟨by first | (simp; done) | simp [hname], E10.out⟩
set_option maxRecDepth 20000 in
set_option maxHeartbeats 8000000 in
theorem PMayAct4 (name : List UInt8) (n : UInt32) (addr : List UInt8) (w : World) :
  Calls Tryz.prog 82 #[.agg #[.int .i64 4, .string ⟨name.toArray⟩, .int .u32 (n.toNat : Int), .string ⟨addr.toArray⟩]] w fun e w' => e = .returned (.bool (decide (name = []) && decide (addr = []))) ∧ Ext w w' := by
 obtain ⟨R, O, E⟩ := maya_start 4 name n addr w
 replace R := hide R
 replace O := hide O
 replace E := hide E
 go_enter Tryz.func82, Tryz.ntmps82
 go_upto_region 11 with fail
 generalize (w.alloc (Obj.cells #[.int .i64 4, .string ⟨name.toArray⟩, .int .u32 (n.toNat : Int), .string ⟨addr.toArray⟩] 51)).alloc (Obj.cells #[.int .i64 4, .string ⟨#[]⟩, .int .u32 0, .string ⟨#[]⟩] 51) = W8 at R O E ⊢
 generalize hg : w.heap.size = rb at R O ⊢
 have r0 : W8.cell? ⟨rb, 0, none⟩ = some (.int .i64 4) := R.out.cell 0
 have r1 : W8.cell? ⟨rb, 1, none⟩ = some (.string ⟨name.toArray⟩) := R.out.cell 1
 have r2 : W8.cell? ⟨rb, 2, none⟩ = some (.int .u32 (n.toNat : Int)) := R.out.cell 2
 have r3 : W8.cell? ⟨rb, 3, none⟩ = some (.string ⟨addr.toArray⟩) := R.out.cell 3
 have o0 : W8.cell? ⟨rb + 1, 0, none⟩ = some (.int .i64 4) := O.out.cell 0
 have o1 : W8.cell? ⟨rb + 1, 1, none⟩ = some (.string ⟨#[]⟩) := O.out.cell 1
 have o2 : W8.cell? ⟨rb + 1, 2, none⟩ = some (.int .u32 0) := O.out.cell 2
 have o3 : W8.cell? ⟨rb + 1, 3, none⟩ = some (.string ⟨#[]⟩) := O.out.cell 3
 have of := fun i => O.out.frozen i
 go_upto_region 20 with fail
 clear r0 r1 r2 r3 o0 o1 o2 o3 of
 have R10 := hide (R.out.far (p := ⟨rb + 1, 2, none⟩) (show rb ≠ rb + 1 by omega) (.int .u32 (n.toNat : Int)))
 have O10 : Blk (W8.setCell ⟨rb + 1, 2, none⟩ (.int .u32 (n.toNat : Int))) (rb + 1) 51 #[.int .i64 4, .string ⟨#[]⟩, .int .u32 (n.toNat : Int), .string ⟨#[]⟩] := O.out.set_ 2 _
 have E10 := hide (E.out.setCell (show w.heap.size ≤ rb + 1 by omega) (.int .u32 (n.toNat : Int)) (p := ⟨rb + 1, 2, none⟩))
 replace O10 := hide O10
 clear R O E
 generalize W8.setCell ⟨rb + 1, 2, none⟩ (.int .u32 (n.toNat : Int)) = W9 at R10 O10 E10 ⊢
 have r0 : W9.cell? ⟨rb, 0, none⟩ = some (.int .i64 4) := R10.out.cell 0
 have r1 : W9.cell? ⟨rb, 1, none⟩ = some (.string ⟨name.toArray⟩) := R10.out.cell 1
 have r2 : W9.cell? ⟨rb, 2, none⟩ = some (.int .u32 (n.toNat : Int)) := R10.out.cell 2
 have r3 : W9.cell? ⟨rb, 3, none⟩ = some (.string ⟨addr.toArray⟩) := R10.out.cell 3
 have o0 : W9.cell? ⟨rb + 1, 0, none⟩ = some (.int .i64 4) := O10.out.cell 0
 have o1 : W9.cell? ⟨rb + 1, 1, none⟩ = some (.string ⟨#[]⟩) := O10.out.cell 1
 have o2 : W9.cell? ⟨rb + 1, 2, none⟩ = some (.int .u32 (n.toNat : Int)) := O10.out.cell 2
 have o3 : W9.cell? ⟨rb + 1, 3, none⟩ = some (.string ⟨#[]⟩) := O10.out.cell 3
 by_cases hname : name = []
 ·subst hname
  by_cases haddr : addr = []
  ·subst haddr
   go_wp2_with fail
   go_ret
   exact ⟨by simp, E10.out⟩
  ·have hbaddr : (addr == []) = false := by simpa using haddr
   go_wp2_with fail
   go_ret
   exact ⟨by first | (simp; done) | simp [haddr], E10.out⟩
 ·have hbname : (name == []) = false := by simpa using hname
  go_wp2_with fail
  go_ret
  exact ⟨by first | (simp; done) | simp [hname], E10.out⟩
set_option maxRecDepth 20000 in
set_option maxHeartbeats 8000000 in
theorem PMayAct6 (name : List UInt8) (n : UInt32) (addr : List UInt8) (w : World) :
  Calls Tryz.prog 82 #[.agg #[.int .i64 6, .string ⟨name.toArray⟩, .int .u32 (n.toNat : Int), .string ⟨addr.toArray⟩]] w fun e w' => e = .returned (.bool (decide (name = []) && decide (addr = []))) ∧ Ext w w' := by
 obtain ⟨R, O, E⟩ := maya_start 6 name n addr w
 replace R := hide R
 replace O := hide O
 replace E := hide E
 go_enter Tryz.func82, Tryz.ntmps82
 go_upto_region 11 with fail
 generalize (w.alloc (Obj.cells #[.int .i64 6, .string ⟨name.toArray⟩, .int .u32 (n.toNat : Int), .string ⟨addr.toArray⟩] 51)).alloc (Obj.cells #[.int .i64 6, .string ⟨#[]⟩, .int .u32 0, .string ⟨#[]⟩] 51) = W8 at R O E ⊢
 generalize hg : w.heap.size = rb at R O ⊢
 have r0 : W8.cell? ⟨rb, 0, none⟩ = some (.int .i64 6) := R.out.cell 0
 have r1 : W8.cell? ⟨rb, 1, none⟩ = some (.string ⟨name.toArray⟩) := R.out.cell 1
 have r2 : W8.cell? ⟨rb, 2, none⟩ = some (.int .u32 (n.toNat : Int)) := R.out.cell 2
 have r3 : W8.cell? ⟨rb, 3, none⟩ = some (.string ⟨addr.toArray⟩) := R.out.cell 3
 have o0 : W8.cell? ⟨rb + 1, 0, none⟩ = some (.int .i64 6) := O.out.cell 0
 have o1 : W8.cell? ⟨rb + 1, 1, none⟩ = some (.string ⟨#[]⟩) := O.out.cell 1
 have o2 : W8.cell? ⟨rb + 1, 2, none⟩ = some (.int .u32 0) := O.out.cell 2
 have o3 : W8.cell? ⟨rb + 1, 3, none⟩ = some (.string ⟨#[]⟩) := O.out.cell 3
 have of := fun i => O.out.frozen i
 go_upto_region 20 with fail
 clear r0 r1 r2 r3 o0 o1 o2 o3 of
 have R10 := hide (R.out.far (p := ⟨rb + 1, 2, none⟩) (show rb ≠ rb + 1 by omega) (.int .u32 (n.toNat : Int)))
 have O10 : Blk (W8.setCell ⟨rb + 1, 2, none⟩ (.int .u32 (n.toNat : Int))) (rb + 1) 51 #[.int .i64 6, .string ⟨#[]⟩, .int .u32 (n.toNat : Int), .string ⟨#[]⟩] := O.out.set_ 2 _
 have E10 := hide (E.out.setCell (show w.heap.size ≤ rb + 1 by omega) (.int .u32 (n.toNat : Int)) (p := ⟨rb + 1, 2, none⟩))
 replace O10 := hide O10
 clear R O E
 generalize W8.setCell ⟨rb + 1, 2, none⟩ (.int .u32 (n.toNat : Int)) = W9 at R10 O10 E10 ⊢
 have r0 : W9.cell? ⟨rb, 0, none⟩ = some (.int .i64 6) := R10.out.cell 0
 have r1 : W9.cell? ⟨rb, 1, none⟩ = some (.string ⟨name.toArray⟩) := R10.out.cell 1
 have r2 : W9.cell? ⟨rb, 2, none⟩ = some (.int .u32 (n.toNat : Int)) := R10.out.cell 2
 have r3 : W9.cell? ⟨rb, 3, none⟩ = some (.string ⟨addr.toArray⟩) := R10.out.cell 3
 have o0 : W9.cell? ⟨rb + 1, 0, none⟩ = some (.int .i64 6) := O10.out.cell 0
 have o1 : W9.cell? ⟨rb + 1, 1, none⟩ = some (.string ⟨#[]⟩) := O10.out.cell 1
 have o2 : W9.cell? ⟨rb + 1, 2, none⟩ = some (.int .u32 (n.toNat : Int)) := O10.out.cell 2
 have o3 : W9.cell? ⟨rb + 1, 3, none⟩ = some (.string ⟨#[]⟩) := O10.out.cell 3
 by_cases hname : name = []
 ·subst hname
  by_cases haddr : addr = []
  ·subst haddr
   go_wp2_with fail
   go_ret
   exact ⟨by simp, E10.out⟩
  ·have hbaddr : (addr == []) = false := by simpa using haddr
   go_wp2_with fail
   go_ret
   exact ⟨by first | (simp; done) | simp [haddr], E10.out⟩
 ·have hbname : (name == []) = false := by simpa using hname
  go_wp2_with fail
  go_ret
  exact ⟨by first | (simp; done) | simp [hname], E10.out⟩
set_option maxRecDepth 20000 in
set_option maxHeartbeats 8000000 in
theorem PMayAct7 (name : List UInt8) (n : UInt32) (addr : List UInt8) (w : World) :
    Calls Tryz.prog 82 #[.agg #[.int .i64 7, .string ⟨name.toArray⟩, .int .u32 (n.toNat : Int), .string ⟨addr.toArray⟩]] w fun e w' => e = .returned (.bool (nameOk name && (decide (n = 0) && decide (addr = [])))) ∧ Ext w w' := by
  have q := fun W => IsName_any name W
  generalize nameOk name = nk at *
  obtain ⟨R, O, E⟩ := maya_start 7 name n addr w
  replace q := hide q
  replace R := hide R
  replace O := hide O
  replace E := hide E
  go_enter Tryz.func82, Tryz.ntmps82
  go_upto_region 13 with fail
  generalize (w.alloc (Obj.cells #[.int .i64 7, .string ⟨name.toArray⟩, .int .u32 (n.toNat : Int), .string ⟨addr.toArray⟩] 51)).alloc (Obj.cells #[.int .i64 7, .string ⟨#[]⟩, .int .u32 0, .string ⟨#[]⟩] 51) = W8 at R O E ⊢
  generalize hg : w.heap.size = rb at R O ⊢
  have r1 : W8.cell? ⟨rb, 1, none⟩ = some (.string ⟨name.toArray⟩) := R.out.cell 1
  have o1 : W8.cell? ⟨rb + 1, 1, none⟩ = some (.string ⟨#[]⟩) := O.out.cell 1
  have of := fun i => O.out.frozen i
  go_region_held3 (fun w' => w'.cell? ⟨rb, 1, none⟩ = some (.string ⟨name.toArray⟩)) (go_keep)
    ((go_at_call 65; refine (q.out _).mono ?_; rintro e w9 ⟨rfl, he⟩
      have E9 := E.out.drew.trans he
      have R9 := R.out.drew.ext he
      have O9 := O.out.drew.ext he
      clear he
      have r91 : w9.cell? ⟨rb, 1, none⟩ = some (.string ⟨name.toArray⟩) := R9.cell 1
      have o91 : w9.cell? ⟨rb + 1, 1, none⟩ = some (.string ⟨#[]⟩) := O9.cell 1
      have of9 := fun i => O9.frozen i
      replace E9 := hide E9
      replace R9 := hide R9
      replace O9 := hide O9))
  clear r1 o1 of R O E
  have R10 := hide (R9.out.far (p := ⟨rb + 1, 1, none⟩) (show rb ≠ rb + 1 by omega) (.string ⟨name.toArray⟩))
  have O10 : Blk (w9.setCell ⟨rb + 1, 1, none⟩ (.string ⟨name.toArray⟩)) (rb + 1) 51 #[.int .i64 7, .string ⟨name.toArray⟩, .int .u32 0, .string ⟨#[]⟩] := O9.out.set_ 1 _
  have E10 := hide (E9.out.setCell (show w.heap.size ≤ rb + 1 by omega) (.string ⟨name.toArray⟩) (p := ⟨rb + 1, 1, none⟩))
  replace O10 := hide O10
  clear r91 o91 of9 R9 O9 E9
  generalize w9.setCell ⟨rb + 1, 1, none⟩ (.string ⟨name.toArray⟩) = W9 at R10 O10 E10 ⊢
  have r0 : W9.cell? ⟨rb, 0, none⟩ = some (.int .i64 7) := R10.out.cell 0
  have r1 : W9.cell? ⟨rb, 1, none⟩ = some (.string ⟨name.toArray⟩) := R10.out.cell 1
  have r2 : W9.cell? ⟨rb, 2, none⟩ = some (.int .u32 (n.toNat : Int)) := R10.out.cell 2
  have r3 : W9.cell? ⟨rb, 3, none⟩ = some (.string ⟨addr.toArray⟩) := R10.out.cell 3
  have o0 : W9.cell? ⟨rb + 1, 0, none⟩ = some (.int .i64 7) := O10.out.cell 0
  have o1 : W9.cell? ⟨rb + 1, 1, none⟩ = some (.string ⟨name.toArray⟩) := O10.out.cell 1
  have o2 : W9.cell? ⟨rb + 1, 2, none⟩ = some (.int .u32 0) := O10.out.cell 2
  have o3 : W9.cell? ⟨rb + 1, 3, none⟩ = some (.string ⟨#[]⟩) := O10.out.cell 3
  cases nk with
  | false =>
    go_wp2_with fail
    go_ret
    exact ⟨by simp, E10.out⟩
  | true =>
    by_cases hn : n = 0
    · subst hn
      have hz0 : ((0 : UInt32).toNat : Int) = 0 := rfl
      by_cases haddr : addr = []
      · subst haddr
        go_wp2_with fail
        go_ret
        exact ⟨by simp, E10.out⟩
      · have hbaddr : (addr == []) = false := by simpa using haddr
        go_wp2_with fail
        go_ret
        exact ⟨by first | (simp; done) | simp [haddr], E10.out⟩
    · have hnb : ((n.toNat : Int) == 0) = false := by rw [beq_eq_false_iff_ne]; intro h; exact hn (UInt32.toNat_inj.1 (by rw [show (0 : UInt32).toNat = 0 from rfl]; omega))
      have hnb2 : (n.toNat == 0) = false := by rw [beq_eq_false_iff_ne]; intro h; exact hn (UInt32.toNat_inj.1 (by rw [show (0 : UInt32).toNat = 0 from rfl]; omega))
      have hnb3 : ¬ n.toNat = 0 := by simpa using hnb2
      go_wp2_with fail
      go_ret
      exact ⟨by first | (simp; done) | simp [hn], E10.out⟩
set_option maxRecDepth 20000 in
set_option maxHeartbeats 8000000 in
theorem PMayAct8 (name : List UInt8) (n : UInt32) (addr : List UInt8) (w : World) :
  Calls Tryz.prog 82 #[.agg #[.int .i64 8, .string ⟨name.toArray⟩, .int .u32 (n.toNat : Int), .string ⟨addr.toArray⟩]] w fun e w' => e = .returned (.bool (decide (1 ≤ n.toNat ∧ n.toNat ≤ 8) && (decide (name = []) && decide (addr = [])))) ∧ Ext w w' := by
 obtain ⟨R, O, E⟩ := maya_start 8 name n addr w
 have hcs : (decide (1 ≤ n.toNat) = false ∧ decide ((1 : Int) ≤ (n.toNat : Int)) = false ∧ decide (1 ≤ n.toNat ∧ n.toNat ≤ 8) = false) ∨ (decide (1 ≤ n.toNat) = true ∧ decide ((1 : Int) ≤ (n.toNat : Int)) = true ∧ decide ((n.toNat : Int) ≤ 8) = false ∧ decide (1 ≤ n.toNat ∧ n.toNat ≤ 8) = false) ∨ (decide (1 ≤ n.toNat) = true ∧ decide ((1 : Int) ≤ (n.toNat : Int)) = true ∧ decide ((n.toNat : Int) ≤ 8) = true ∧ decide (1 ≤ n.toNat ∧ n.toNat ≤ 8) = true) := by
  by_cases h1 : 1 ≤ n.toNat
  ·by_cases h2 : n.toNat ≤ 8
   ·exact .inr (.inr ⟨decide_eq_true h1, decide_eq_true (by omega), decide_eq_true (by omega), decide_eq_true ⟨h1, h2⟩⟩)
   ·exact .inr (.inl ⟨decide_eq_true h1, decide_eq_true (by omega), decide_eq_false (by omega), decide_eq_false fun h => h2 h.2⟩)
  ·exact .inl ⟨decide_eq_false h1, decide_eq_false (by omega), decide_eq_false fun h => h1 h.1⟩
 generalize decide (1 ≤ n.toNat ∧ n.toNat ≤ 8) = r at *
 replace R := hide R
 replace O := hide O
 replace E := hide E
 rcases hcs with ⟨h0, h1, rfl⟩ | ⟨h0, h1, h2, rfl⟩ | ⟨h0, h1, h2, rfl⟩
 all_goals
  go_enter Tryz.func82, Tryz.ntmps82
  go_upto_region 15 with fail
  generalize (w.alloc (Obj.cells #[.int .i64 8, .string ⟨name.toArray⟩, .int .u32 (n.toNat : Int), .string ⟨addr.toArray⟩] 51)).alloc (Obj.cells #[.int .i64 8, .string ⟨#[]⟩, .int .u32 0, .string ⟨#[]⟩] 51) = W8 at R O E ⊢
  generalize hg : w.heap.size = rb at R O ⊢
  have r9 : W8.cell? ⟨rb, 2, none⟩ = some (.int .u32 (n.toNat : Int)) := R.out.cell 2
  have o9 : W8.cell? ⟨rb + 1, 2, none⟩ = some (.int .u32 0) := O.out.cell 2
  have of := fun i => O.out.frozen i
  go_region
  clear r9 o9 of
  have R10 := hide (R.out.far (p := ⟨rb + 1, 2, none⟩) (show rb ≠ rb + 1 by omega) (.int .u32 (n.toNat : Int))).drew
  have O10 : Blk (W8.setCell ⟨rb + 1, 2, none⟩ (.int .u32 (n.toNat : Int))).drew (rb + 1) 51 #[.int .i64 8, .string ⟨#[]⟩, .int .u32 (n.toNat : Int), .string ⟨#[]⟩] := O.out.set_ 2 _
  have E10 := hide (E.out.setCell (show w.heap.size ≤ rb + 1 by omega) (.int .u32 (n.toNat : Int)) (p := ⟨rb + 1, 2, none⟩)).drew
  replace O10 := hide O10
  clear R O E
  generalize (W8.setCell ⟨rb + 1, 2, none⟩ (.int .u32 (n.toNat : Int))).drew = W9 at R10 O10 E10 ⊢
  have r0 : W9.cell? ⟨rb, 0, none⟩ = some (.int .i64 8) := R10.out.cell 0
  have r1 : W9.cell? ⟨rb, 1, none⟩ = some (.string ⟨name.toArray⟩) := R10.out.cell 1
  have r2 : W9.cell? ⟨rb, 2, none⟩ = some (.int .u32 (n.toNat : Int)) := R10.out.cell 2
  have r3 : W9.cell? ⟨rb, 3, none⟩ = some (.string ⟨addr.toArray⟩) := R10.out.cell 3
  have o0 : W9.cell? ⟨rb + 1, 0, none⟩ = some (.int .i64 8) := O10.out.cell 0
  have o1 : W9.cell? ⟨rb + 1, 1, none⟩ = some (.string ⟨#[]⟩) := O10.out.cell 1
  have o2 : W9.cell? ⟨rb + 1, 2, none⟩ = some (.int .u32 (n.toNat : Int)) := O10.out.cell 2
  have o3 : W9.cell? ⟨rb + 1, 3, none⟩ = some (.string ⟨#[]⟩) := O10.out.cell 3
 ·go_wp2_with fail
  go_ret
  exact ⟨by simp, E10.out⟩
 ·go_wp2_with fail
  go_ret
  exact ⟨by simp, E10.out⟩
 ·by_cases hname : name = []
  ·subst hname
   by_cases haddr : addr = []
   ·subst haddr
    go_wp2_with fail
    go_ret
    exact ⟨by simp, E10.out⟩
   ·have hbaddr : (addr == []) = false := by simpa using haddr
    go_wp2_with fail
    go_ret
    exact ⟨by first | (simp; done) | simp [haddr], E10.out⟩
  ·have hbname : (name == []) = false := by simpa using hname
   go_wp2_with fail
   go_ret
   exact ⟨by first | (simp; done) | simp [hname], E10.out⟩
set_option maxRecDepth 20000 in
set_option maxHeartbeats 8000000 in
theorem PMayAct9 (name : List UInt8) (n : UInt32) (addr : List UInt8) (w : World) :
  Calls Tryz.prog 82 #[.agg #[.int .i64 9, .string ⟨name.toArray⟩, .int .u32 (n.toNat : Int), .string ⟨addr.toArray⟩]] w fun e w' => e = .returned (.bool (decide (addr.length = 4 ∨ addr.length = 16) && (decide (name = []) && decide (n = 0)))) ∧ Ext w w' := by
 obtain ⟨R, O, E⟩ := maya_start 9 name n addr w
 have hsz : (ByteArray.mk addr.toArray).size = addr.length := ba_size addr
 have hcs : (((addr.length : Int) == 4) = true ∧ decide (addr.length = 4 ∨ addr.length = 16) = true) ∨ (((addr.length : Int) == 4) = false ∧ ((addr.length : Int) == 16) = true ∧ decide (addr.length = 4 ∨ addr.length = 16) = true) ∨ (((addr.length : Int) == 4) = false ∧ ((addr.length : Int) == 16) = false ∧ decide (addr.length = 4 ∨ addr.length = 16) = false) := by
  by_cases h1 : addr.length = 4
  ·exact .inl ⟨by rw [beq_iff_eq]; omega, decide_eq_true (.inl h1)⟩
  ·by_cases h2 : addr.length = 16
   ·exact .inr (.inl ⟨by rw [beq_eq_false_iff_ne]; omega, by rw [beq_iff_eq]; omega, decide_eq_true (.inr h2)⟩)
   ·exact .inr (.inr ⟨by rw [beq_eq_false_iff_ne]; omega, by rw [beq_eq_false_iff_ne]; omega, decide_eq_false fun h => h.elim h1 h2⟩)
 generalize decide (addr.length = 4 ∨ addr.length = 16) = r at *
 replace R := hide R
 replace O := hide O
 replace E := hide E
 rcases hcs with ⟨h1, rfl⟩ | ⟨h1, h2, rfl⟩ | ⟨h1, h2, rfl⟩
 all_goals
  go_enter Tryz.func82, Tryz.ntmps82
  go_upto_region 17 with fail
  generalize (w.alloc (Obj.cells #[.int .i64 9, .string ⟨name.toArray⟩, .int .u32 (n.toNat : Int), .string ⟨addr.toArray⟩] 51)).alloc (Obj.cells #[.int .i64 9, .string ⟨#[]⟩, .int .u32 0, .string ⟨#[]⟩] 51) = W8 at R O E ⊢
  generalize hg : w.heap.size = rb at R O ⊢
  have r9 : W8.cell? ⟨rb, 3, none⟩ = some (.string ⟨addr.toArray⟩) := R.out.cell 3
  have o9 : W8.cell? ⟨rb + 1, 3, none⟩ = some (.string ⟨#[]⟩) := O.out.cell 3
  have of := fun i => O.out.frozen i
  go_region
  clear r9 o9 of
  have R10 := hide (R.out.far (p := ⟨rb + 1, 3, none⟩) (show rb ≠ rb + 1 by omega) (.string ⟨addr.toArray⟩)).drew
  have O10 : Blk (W8.setCell ⟨rb + 1, 3, none⟩ (.string ⟨addr.toArray⟩)).drew (rb + 1) 51 #[.int .i64 9, .string ⟨#[]⟩, .int .u32 0, .string ⟨addr.toArray⟩] := O.out.set_ 3 _
  have E10 := hide (E.out.setCell (show w.heap.size ≤ rb + 1 by omega) (.string ⟨addr.toArray⟩) (p := ⟨rb + 1, 3, none⟩)).drew
  replace O10 := hide O10
  clear R O E
  generalize (W8.setCell ⟨rb + 1, 3, none⟩ (.string ⟨addr.toArray⟩)).drew = W9 at R10 O10 E10 ⊢
  have r0 : W9.cell? ⟨rb, 0, none⟩ = some (.int .i64 9) := R10.out.cell 0
  have r1 : W9.cell? ⟨rb, 1, none⟩ = some (.string ⟨name.toArray⟩) := R10.out.cell 1
  have r2 : W9.cell? ⟨rb, 2, none⟩ = some (.int .u32 (n.toNat : Int)) := R10.out.cell 2
  have r3 : W9.cell? ⟨rb, 3, none⟩ = some (.string ⟨addr.toArray⟩) := R10.out.cell 3
  have o0 : W9.cell? ⟨rb + 1, 0, none⟩ = some (.int .i64 9) := O10.out.cell 0
  have o1 : W9.cell? ⟨rb + 1, 1, none⟩ = some (.string ⟨#[]⟩) := O10.out.cell 1
  have o2 : W9.cell? ⟨rb + 1, 2, none⟩ = some (.int .u32 0) := O10.out.cell 2
  have o3 : W9.cell? ⟨rb + 1, 3, none⟩ = some (.string ⟨addr.toArray⟩) := O10.out.cell 3
 ·by_cases hname : name = []
  ·subst hname
   by_cases hn : n = 0
   ·subst hn
    have hz0 : ((0 : UInt32).toNat : Int) = 0 := rfl
    go_wp2_with fail
    go_ret
    exact ⟨by simp, E10.out⟩
   ·have hnb : ((n.toNat : Int) == 0) = false := by rw [beq_eq_false_iff_ne]; intro h; exact hn (UInt32.toNat_inj.1 (by rw [show (0 : UInt32).toNat = 0 from rfl]; omega))
    have hnb2 : (n.toNat == 0) = false := by rw [beq_eq_false_iff_ne]; intro h; exact hn (UInt32.toNat_inj.1 (by rw [show (0 : UInt32).toNat = 0 from rfl]; omega))
    have hnb3 : ¬ n.toNat = 0 := by simpa using hnb2
    go_wp2_with fail
    go_ret
    exact ⟨by first | (simp; done) | simp [hn], E10.out⟩
  ·have hbname : (name == []) = false := by simpa using hname
   go_wp2_with fail
   go_ret
   exact ⟨by first | (simp; done) | simp [hname], E10.out⟩
 ·by_cases hname : name = []
  ·subst hname
   by_cases hn : n = 0
   ·subst hn
    have hz0 : ((0 : UInt32).toNat : Int) = 0 := rfl
    go_wp2_with fail
    go_ret
    exact ⟨by simp, E10.out⟩
   ·have hnb : ((n.toNat : Int) == 0) = false := by rw [beq_eq_false_iff_ne]; intro h; exact hn (UInt32.toNat_inj.1 (by rw [show (0 : UInt32).toNat = 0 from rfl]; omega))
    have hnb2 : (n.toNat == 0) = false := by rw [beq_eq_false_iff_ne]; intro h; exact hn (UInt32.toNat_inj.1 (by rw [show (0 : UInt32).toNat = 0 from rfl]; omega))
    have hnb3 : ¬ n.toNat = 0 := by simpa using hnb2
    go_wp2_with fail
    go_ret
    exact ⟨by first | (simp; done) | simp [hn], E10.out⟩
  ·have hbname : (name == []) = false := by simpa using hname
   go_wp2_with fail
   go_ret
   exact ⟨by first | (simp; done) | simp [hname], E10.out⟩
 ·go_wp2_with fail
  go_ret
  exact ⟨by simp, E10.out⟩
set_option maxRecDepth 20000 in
set_option maxHeartbeats 8000000 in
theorem PMayAct10 (name : List UInt8) (n : UInt32) (addr : List UInt8) (w : World) :
  Calls Tryz.prog 82 #[.agg #[.int .i64 10, .string ⟨name.toArray⟩, .int .u32 (n.toNat : Int), .string ⟨addr.toArray⟩]] w fun e w' => e = .returned (.bool (decide (n.toNat ≤ 2) && (decide (name = []) && decide (addr = [])))) ∧ Ext w w' := by
 obtain ⟨R, O, E⟩ := maya_start 10 name n addr w
 have hcs : (decide ((n.toNat : Int) ≤ 2) = true ∧ decide (n.toNat ≤ 2) = true) ∨ (decide ((n.toNat : Int) ≤ 2) = false ∧ decide (n.toNat ≤ 2) = false) := by
  by_cases h1 : n.toNat ≤ 2
  ·exact .inl ⟨decide_eq_true (by omega), decide_eq_true h1⟩
  ·exact .inr ⟨decide_eq_false (by omega), decide_eq_false h1⟩
 generalize decide (n.toNat ≤ 2) = r at *
 replace R := hide R
 replace O := hide O
 replace E := hide E
 rcases hcs with ⟨h1, rfl⟩ | ⟨h1, rfl⟩
 all_goals
  go_enter Tryz.func82, Tryz.ntmps82
  go_upto_region 19 with fail
  generalize (w.alloc (Obj.cells #[.int .i64 10, .string ⟨name.toArray⟩, .int .u32 (n.toNat : Int), .string ⟨addr.toArray⟩] 51)).alloc (Obj.cells #[.int .i64 10, .string ⟨#[]⟩, .int .u32 0, .string ⟨#[]⟩] 51) = W8 at R O E ⊢
  generalize hg : w.heap.size = rb at R O ⊢
  have r9 : W8.cell? ⟨rb, 2, none⟩ = some (.int .u32 (n.toNat : Int)) := R.out.cell 2
  have o9 : W8.cell? ⟨rb + 1, 2, none⟩ = some (.int .u32 0) := O.out.cell 2
  have of := fun i => O.out.frozen i
  go_region
  clear r9 o9 of
  have R10 := hide (R.out.far (p := ⟨rb + 1, 2, none⟩) (show rb ≠ rb + 1 by omega) (.int .u32 (n.toNat : Int))).drew
  have O10 : Blk (W8.setCell ⟨rb + 1, 2, none⟩ (.int .u32 (n.toNat : Int))).drew (rb + 1) 51 #[.int .i64 10, .string ⟨#[]⟩, .int .u32 (n.toNat : Int), .string ⟨#[]⟩] := O.out.set_ 2 _
  have E10 := hide (E.out.setCell (show w.heap.size ≤ rb + 1 by omega) (.int .u32 (n.toNat : Int)) (p := ⟨rb + 1, 2, none⟩)).drew
  replace O10 := hide O10
  clear R O E
  generalize (W8.setCell ⟨rb + 1, 2, none⟩ (.int .u32 (n.toNat : Int))).drew = W9 at R10 O10 E10 ⊢
  have r0 : W9.cell? ⟨rb, 0, none⟩ = some (.int .i64 10) := R10.out.cell 0
  have r1 : W9.cell? ⟨rb, 1, none⟩ = some (.string ⟨name.toArray⟩) := R10.out.cell 1
  have r2 : W9.cell? ⟨rb, 2, none⟩ = some (.int .u32 (n.toNat : Int)) := R10.out.cell 2
  have r3 : W9.cell? ⟨rb, 3, none⟩ = some (.string ⟨addr.toArray⟩) := R10.out.cell 3
  have o0 : W9.cell? ⟨rb + 1, 0, none⟩ = some (.int .i64 10) := O10.out.cell 0
  have o1 : W9.cell? ⟨rb + 1, 1, none⟩ = some (.string ⟨#[]⟩) := O10.out.cell 1
  have o2 : W9.cell? ⟨rb + 1, 2, none⟩ = some (.int .u32 (n.toNat : Int)) := O10.out.cell 2
  have o3 : W9.cell? ⟨rb + 1, 3, none⟩ = some (.string ⟨#[]⟩) := O10.out.cell 3
 ·by_cases hname : name = []
  ·subst hname
   by_cases haddr : addr = []
   ·subst haddr
    go_wp2_with fail
    go_ret
    exact ⟨by simp, E10.out⟩
   ·have hbaddr : (addr == []) = false := by simpa using haddr
    go_wp2_with fail
    go_ret
    exact ⟨by first | (simp; done) | simp [haddr], E10.out⟩
  ·have hbname : (name == []) = false := by simpa using hname
   go_wp2_with fail
   go_ret
   exact ⟨by first | (simp; done) | simp [hname], E10.out⟩
 ·go_wp2_with fail
  go_ret
  exact ⟨by simp, E10.out⟩
set_option maxRecDepth 20000 in
set_option maxHeartbeats 8000000 in
theorem PMayAct0 (k : Int) (name : List UInt8) (n : UInt32) (addr : List UInt8) (w : World) (h1 : ¬ k = 1) (h2 : ¬ k = 2) (h3 : ¬ k = 3) (h4 : ¬ k = 4) (h5 : ¬ k = 5) (h6 : ¬ k = 6) (h7 : ¬ k = 7) (h8 : ¬ k = 8) (h9 : ¬ k = 9) (h10 : ¬ k = 10) :
  Calls Tryz.prog 82 #[.agg #[.int .i64 k, .string ⟨name.toArray⟩, .int .u32 (n.toNat : Int), .string ⟨addr.toArray⟩]] w fun e w' => e = .returned (.bool false) ∧ Ext w w' := by
 obtain ⟨R, O, E⟩ := maya_start k name n addr w
 have g1 : (k == 1) = false := by simpa using h1
 have g2 : (k == 2) = false := by simpa using h2
 have g3 : (k == 3) = false := by simpa using h3
 have g4 : (k == 4) = false := by simpa using h4
 have g5 : (k == 5) = false := by simpa using h5
 have g6 : (k == 6) = false := by simpa using h6
 have g7 : (k == 7) = false := by simpa using h7
 have g8 : (k == 8) = false := by simpa using h8
 have g9 : (k == 9) = false := by simpa using h9
 have g10 : (k == 10) = false := by simpa using h10
 clear h1 h2 h3 h4 h5 h6 h7 h8 h9 h10
 replace R := hide R
 replace O := hide O
 replace E := hide E
 go_enter Tryz.func82, Tryz.ntmps82
 go_wp2_with fail
 go_ret
 exact ⟨rfl, E.out⟩
theorem PMayAct_any (a : ActS) (w : World) :
  Calls Tryz.prog 82 #[.agg (actCs a).toArray] w fun e w' => e = .returned (.bool (actOk a)) ∧ Ext w w' := by
 obtain ⟨k, name, n, addr⟩ := a
 unfold actOk
 dsimp only
 by_cases h : k = 1 ∨ k = 2 ∨ k = 5
 ·rw [if_pos h]
  rcases h with rfl | rfl | rfl
  ·exact PMayAct1 name n addr w
  ·exact PMayAct2 name n addr w
  ·exact PMayAct5 name n addr w
 rw [if_neg h]
 by_cases h3 : k = 3 ∨ k = 4 ∨ k = 6
 ·rw [if_pos h3]
  rcases h3 with rfl | rfl | rfl
  ·exact PMayAct3 name n addr w
  ·exact PMayAct4 name n addr w
  ·exact PMayAct6 name n addr w
 rw [if_neg h3]
 by_cases h7 : k = 7
 ·rw [if_pos h7]; subst h7; exact PMayAct7 name n addr w
 rw [if_neg h7]
 by_cases h8 : k = 8
 ·rw [if_pos h8]; subst h8; exact PMayAct8 name n addr w
 rw [if_neg h8]
 by_cases h9 : k = 9
 ·rw [if_pos h9]; subst h9; exact PMayAct9 name n addr w
 rw [if_neg h9]
 by_cases h10 : k = 10
 ·rw [if_pos h10]; subst h10; exact PMayAct10 name n addr w
 rw [if_neg h10]
 exact PMayAct0 k name n addr w (fun e => h (.inl e)) (fun e => h (.inr (.inl e))) (fun e => h3 (.inl e)) (fun e => h3 (.inr (.inl e))) (fun e => h (.inr (.inr e))) (fun e => h3 (.inr (.inr e))) h7 h8 h9 h10
end
section
open Go.RowKit
set_option linter.unusedVariables false
set_option maxHeartbeats 1000000 in
theorem IdxCond_any (g : Nat) (lb : Array Value) (eg : ∀ args w, (callFunc g args).run Tryz.prog w = .ok (.enter g args) w) (pr : CondS → Bool) (a : Option Addr) (c : Nat) (l : List CondS) (w : World) (hl : l.length ≤ 16777216) (hs : Sl ECond w (· < w.heap.size) a l)
  (hq : ∀ x ∈ l, ∀ W, Ext w W → Calls Tryz.prog g (#[.agg #[.int .i64 x.kind, .bool x.neg, .string ⟨x.name.toArray⟩, .int .i64 x.n]] ++ lb) W fun e w' => e = .returned (.bool (pr x)) ∧ Ext W w') :
  Calls Tryz.prog 125 #[.slice a l.length c, .func (.func g) #[] lb] w fun e w' => e = .returned (.int .i64 (idxT pr l)) ∧ Ext w w' := by
 replace hs := hide hs
 replace hq := hide hq
 go_enter Tryz.func125, Tryz.ntmps125
 go_wp2
 go_loopw [8] (fun i wr => ∃ k : Nat, k ≤ l.length ∧ i = .int .i64 k ∧ Ext w wr ∧ (l.take k).any pr = false) (fun i _ => l.length - (intOf i).toNat)
 case atStart => exact ⟨0, Nat.zero_le _, rfl, Ext.refl _, rfl⟩
 case round =>
  obtain ⟨k, hk, rfl, he, ha⟩ := hrel
  replace ha := hide ha
  replace he := hide he
  by_cases hlt : k < l.length
  ·obtain ⟨b, off, rfl, _, hin, hc⟩ := ECond.at (hs.out.ext he.out) k hlt
   have q := hq.out l[k] (List.getElem_mem hlt) wr he.out
   have hyes := fun h => idxT_at (pr := pr) hlt h ha.out
   have hno := fun h => any_take (pr := pr) hlt h ha.out
   generalize pr l[k] = r at q hyes hno
   generalize l[k] = x at *
   have x0 : wr.cell? ⟨b, off + k * 4, none⟩ = some (.int .i64 x.kind) := hc 0 _ rfl
   have x1 : wr.cell? ⟨b, off + k * 4 + 1, none⟩ = some (.bool x.neg) := hc 1 _ rfl
   have x2 : wr.cell? ⟨b, off + k * 4 + 2, none⟩ = some (.string ⟨x.name.toArray⟩) := hc 2 _ rfl
   have x3 : wr.cell? ⟨b, off + k * 4 + 3, none⟩ = some (.int .i64 x.n) := hc 3 _ rfl
   clear hc hin
   obtain ⟨y0, y1, y2, y3⟩ := x
   dsimp only at x0 x1 x2 x3 q
   replace q := hide q
   replace hyes := hide hyes
   replace hno := hide hno
   go_wp2_with (go_at_fn g; refine q.out.mono ?_; rintro e W1 ⟨rfl, he1⟩; replace he1 := hide (he.out.trans he1); cases r)
   case roundEnd =>
    go_roundw
    case rel => exact ⟨k + 1, by omega, by go_num, he1.out, hno.out (by trivial)⟩
    case measure => simp [intOf]; omega
   all_goals
    go_ret
    exact ⟨ret_int (hyes.out (by trivial)).symm, he1.out⟩
  ·have hend : idxT pr l = -1 := idxT_none (by
    obtain rfl : k = l.length := by omega
    have := ha.out
    rwa [List.take_length] at this)
   replace hend := hide hend
   go_wp2
   go_ret
   exact ⟨ret_int hend.out.symm, he.out⟩
set_option maxHeartbeats 1000000 in
theorem HasCond_any (g : Nat) (lb : Array Value) (eg : ∀ args w, (callFunc g args).run Tryz.prog w = .ok (.enter g args) w) (pr : CondS → Bool) (a : Option Addr) (c : Nat) (l : List CondS) (w : World) (hl : l.length ≤ 16777216) (hs : Sl ECond w (· < w.heap.size) a l)
  (hq : ∀ x ∈ l, ∀ W, Ext w W → Calls Tryz.prog g (#[.agg #[.int .i64 x.kind, .bool x.neg, .string ⟨x.name.toArray⟩, .int .i64 x.n]] ++ lb) W fun e w' => e = .returned (.bool (pr x)) ∧ Ext W w') :
  Calls Tryz.prog 77 #[.slice a l.length c, .func (.func g) #[] lb] w fun e w' => e = .returned (.bool (l.any pr)) ∧ Ext w w' := by
 have q := IdxCond_any g lb eg pr a c l w hl hs hq
 have hd := idxT_any pr l
 generalize idxT pr l = r at q hd
 generalize l.any pr = y at hd ⊢
 clear hs hq
 replace q := hide q
 go_enter Tryz.func77, Tryz.ntmps77
 go_wp2_with fail
 refine q.out.mono ?_
 rintro e W1 ⟨rfl, he⟩
 replace he := hide he
 go_wp2
 go_ret
 exact ⟨rfl, he.out⟩
set_option maxHeartbeats 1000000 in
theorem IdxAct_any (g : Nat) (lb : Array Value) (eg : ∀ args w, (callFunc g args).run Tryz.prog w = .ok (.enter g args) w) (pr : ActS → Bool) (a : Option Addr) (c : Nat) (l : List ActS) (w : World) (hl : l.length ≤ 16777216) (hs : Sl EAct w (· < w.heap.size) a l)
  (hq : ∀ x ∈ l, ∀ W, Ext w W → Calls Tryz.prog g (#[.agg #[.int .i64 x.kind, .string ⟨x.name.toArray⟩, .int .u32 (x.n.toNat : Int), .string ⟨x.addr.toArray⟩]] ++ lb) W fun e w' => e = .returned (.bool (pr x)) ∧ Ext W w') :
  Calls Tryz.prog 126 #[.slice a l.length c, .func (.func g) #[] lb] w fun e w' => e = .returned (.int .i64 (idxT pr l)) ∧ Ext w w' := by
 replace hs := hide hs
 replace hq := hide hq
 go_enter Tryz.func126, Tryz.ntmps126
 go_wp2
 go_loopw [8] (fun i wr => ∃ k : Nat, k ≤ l.length ∧ i = .int .i64 k ∧ Ext w wr ∧ (l.take k).any pr = false) (fun i _ => l.length - (intOf i).toNat)
 case atStart => exact ⟨0, Nat.zero_le _, rfl, Ext.refl _, rfl⟩
 case round =>
  obtain ⟨k, hk, rfl, he, ha⟩ := hrel
  replace ha := hide ha
  replace he := hide he
  by_cases hlt : k < l.length
  ·obtain ⟨b, off, rfl, _, hin, hc⟩ := EAct.at (hs.out.ext he.out) k hlt
   have q := hq.out l[k] (List.getElem_mem hlt) wr he.out
   have hyes := fun h => idxT_at (pr := pr) hlt h ha.out
   have hno := fun h => any_take (pr := pr) hlt h ha.out
   generalize pr l[k] = r at q hyes hno
   generalize l[k] = x at *
   have x0 : wr.cell? ⟨b, off + k * 4, none⟩ = some (.int .i64 x.kind) := hc 0 _ rfl
   have x1 : wr.cell? ⟨b, off + k * 4 + 1, none⟩ = some (.string ⟨x.name.toArray⟩) := hc 1 _ rfl
   have x2 : wr.cell? ⟨b, off + k * 4 + 2, none⟩ = some (.int .u32 (x.n.toNat : Int)) := hc 2 _ rfl
   have x3 : wr.cell? ⟨b, off + k * 4 + 3, none⟩ = some (.string ⟨x.addr.toArray⟩) := hc 3 _ rfl
   clear hc hin
   obtain ⟨y0, y1, y2, y3⟩ := x
   dsimp only at x0 x1 x2 x3 q
   replace q := hide q
   replace hyes := hide hyes
   replace hno := hide hno
   go_wp2_with (go_at_fn g; refine q.out.mono ?_; rintro e W1 ⟨rfl, he1⟩; replace he1 := hide (he.out.trans he1); cases r)
   case roundEnd =>
    go_roundw
    case rel => exact ⟨k + 1, by omega, by go_num, he1.out, hno.out (by trivial)⟩
    case measure => simp [intOf]; omega
   all_goals
    go_ret
    exact ⟨ret_int (hyes.out (by trivial)).symm, he1.out⟩
  ·have hend : idxT pr l = -1 := idxT_none (by
    obtain rfl : k = l.length := by omega
    have := ha.out
    rwa [List.take_length] at this)
   replace hend := hide hend
   go_wp2
   go_ret
   exact ⟨ret_int hend.out.symm, he.out⟩
set_option maxHeartbeats 1000000 in
theorem HasAct_any (g : Nat) (lb : Array Value) (eg : ∀ args w, (callFunc g args).run Tryz.prog w = .ok (.enter g args) w) (pr : ActS → Bool) (a : Option Addr) (c : Nat) (l : List ActS) (w : World) (hl : l.length ≤ 16777216) (hs : Sl EAct w (· < w.heap.size) a l)
  (hq : ∀ x ∈ l, ∀ W, Ext w W → Calls Tryz.prog g (#[.agg #[.int .i64 x.kind, .string ⟨x.name.toArray⟩, .int .u32 (x.n.toNat : Int), .string ⟨x.addr.toArray⟩]] ++ lb) W fun e w' => e = .returned (.bool (pr x)) ∧ Ext W w') :
  Calls Tryz.prog 80 #[.slice a l.length c, .func (.func g) #[] lb] w fun e w' => e = .returned (.bool (l.any pr)) ∧ Ext w w' := by
 have q := IdxAct_any g lb eg pr a c l w hl hs hq
 have hd := idxT_any pr l
 generalize idxT pr l = r at q hd
 generalize l.any pr = y at hd ⊢
 clear hs hq
 replace q := hide q
 go_enter Tryz.func80, Tryz.ntmps80
 go_wp2_with fail
 refine q.out.mono ?_
 rintro e W1 ⟨rfl, he⟩
 replace he := hide he
 go_wp2
 go_ret
 exact ⟨rfl, he.out⟩
set_option maxHeartbeats 1000000 in
theorem MayTerm1_any (x : CondS) (w : World) : Calls Tryz.prog 78 #[.agg (condCs x).toArray] w fun e w' => e = .returned (.bool (!condOk x)) ∧ Ext w w' := by
 have q := fun W => PMayCond_any x W
 obtain ⟨y0, y1, y2, y3⟩ := x
 generalize condOk ⟨y0, y1, y2, y3⟩ = r at *
 dsimp only [condCs] at *
 replace q := hide q
 go_enter Tryz.func78, Tryz.ntmps78
 go_wp2_with fail
 have E := (Ext.refl w).alloc (Obj.cells (condCs ⟨y0, y1, y2, y3⟩).toArray (if 1 = 1 then 48 else 51))
 have E : Ext w (w.alloc (Obj.cells (condCs ⟨y0, y1, y2, y3⟩).toArray (if 1 = 1 then 48 else 51))) := E
 replace E := hide E
 refine (q.out _).mono ?_
 rintro e w1 ⟨rfl, he⟩
 replace he := hide (E.out.trans he)
 go_wp2
 go_ret
 exact ⟨rfl, he.out⟩
set_option maxHeartbeats 1000000 in
theorem MayTerm2_any (x : ActS) (w : World) : Calls Tryz.prog 81 #[.agg (actCs x).toArray] w fun e w' => e = .returned (.bool (!actOk x)) ∧ Ext w w' := by
 have q := fun W => PMayAct_any x W
 obtain ⟨y0, y1, y2, y3⟩ := x
 generalize actOk ⟨y0, y1, y2, y3⟩ = r at *
 dsimp only [actCs] at *
 replace q := hide q
 go_enter Tryz.func81, Tryz.ntmps81
 go_wp2_with fail
 have E := (Ext.refl w).alloc (Obj.cells (actCs ⟨y0, y1, y2, y3⟩).toArray (if 2 = 1 then 48 else 51))
 have E : Ext w (w.alloc (Obj.cells (actCs ⟨y0, y1, y2, y3⟩).toArray (if 2 = 1 then 48 else 51))) := E
 replace E := hide E
 refine (q.out _).mono ?_
 rintro e w1 ⟨rfl, he⟩
 replace he := hide (E.out.trans he)
 go_wp2
 go_ret
 exact ⟨rfl, he.out⟩
set_option maxHeartbeats 1000000 in
theorem Ends_any (x : ActS) (w : World) : Calls Tryz.prog 83 #[.agg (actCs x).toArray] w fun e w' => e = .returned (.bool (endsA x)) ∧ Ext w w' := by
 obtain ⟨k, y1, y2, y3⟩ := x
 unfold endsA
 dsimp only [actCs]
 have E := hide ((Ext.refl w).alloc (Obj.cells #[.int .i64 k, .string ⟨y1.toArray⟩, .int .u32 (y2.toNat : Int), .string ⟨y3.toArray⟩] 51))
 by_cases h1 : k = 1
 ·subst h1
  go_enter Tryz.func83, Tryz.ntmps83
  go_wp2
  go_ret
  exact ⟨by simp, E.out⟩
 ·have g1 : (k == 1) = false := by simpa using h1
  go_enter Tryz.func83, Tryz.ntmps83
  go_wp2
  go_ret
  exact ⟨by simp [h1]; rfl, E.out⟩
theorem term_cases (t : TermS) : (64 < t.conds.length ∧ termOk t = false) ∨ (t.conds.length ≤ 64 ∧ t.acts.length < 1 ∧ termOk t = false) ∨ (t.conds.length ≤ 64 ∧ 1 ≤ t.acts.length ∧ 64 < t.acts.length ∧ termOk t = false) ∨
    (t.conds.length ≤ 64 ∧ 1 ≤ t.acts.length ∧ t.acts.length ≤ 64 ∧ ((t.conds.any (fun x => !condOk x) = true ∧ termOk t = false) ∨ (t.conds.any (fun x => !condOk x) = false ∧ t.acts.any (fun x => !actOk x) = true ∧ termOk t = false) ∨ (t.conds.any (fun x => !condOk x) = false ∧ t.acts.any (fun x => !actOk x) = false ∧ termOk t = !((t.acts.take (t.acts.length - 1)).any endsA)))) := by
  unfold termOk
  by_cases h1 : 64 < t.conds.length
  · exact .inl ⟨h1, by rw [decide_eq_false (by omega), Bool.false_and]⟩
  rw [decide_eq_true (p := t.conds.length ≤ 64) (by omega), Bool.true_and]
  by_cases h2 : t.acts.length < 1
  · exact .inr (.inl ⟨by omega, h2, by rw [decide_eq_false (by omega), Bool.false_and]⟩)
  by_cases h3 : 64 < t.acts.length
  · exact .inr (.inr (.inl ⟨by omega, by omega, h3, by rw [decide_eq_false (by omega), Bool.false_and]⟩))
  rw [decide_eq_true (p := 1 ≤ t.acts.length ∧ t.acts.length ≤ 64) (by omega), Bool.true_and]
  refine .inr (.inr (.inr ⟨by omega, by omega, by omega, ?_⟩))
  have e1 : t.conds.all condOk = !(t.conds.any fun x => !condOk x) := by rw [List.not_any_eq_all_not]; simp
  have e2 : t.acts.all actOk = !(t.acts.any fun x => !actOk x) := by rw [List.not_any_eq_all_not]; simp
  have e3 : (t.acts.dropLast.all fun a => !endsA a) = !((t.acts.take (t.acts.length - 1)).any endsA) := by rw [List.not_any_eq_all_not, List.dropLast_eq_take]
  rw [e1, e2, e3]
  cases t.conds.any fun x => !condOk x with
  | true => exact .inl ⟨rfl, rfl⟩
  | false =>
    cases t.acts.any fun x => !actOk x with
    | true => exact .inr (.inl ⟨rfl, rfl, rfl⟩)
    | false => exact .inr (.inr ⟨rfl, rfl, by simp⟩)
set_option maxRecDepth 20000 in
set_option maxHeartbeats 4000000 in
theorem PMayTerm_any (a1 : Option Addr) (c1 : Nat) (a2 : Option Addr) (c2 : Nat) (t : TermS) (w : World) (h1 : t.conds.length ≤ 16777216) (h2 : t.acts.length ≤ 16777216) (hc2 : t.acts.length ≤ c2) (s1 : Sl ECond w (· < w.heap.size) a1 t.conds) (s2 : Sl EAct w (· < w.heap.size) a2 t.acts) :
  Calls Tryz.prog 33 #[.agg #[.slice a1 t.conds.length c1, .slice a2 t.acts.length c2]] w fun e w' => e = .returned (.bool (termOk t)) ∧ Ext w w' := by
 have hcs := term_cases t
 generalize termOk t = r at hcs ⊢
 have q1 := fun W (h : Ext w W) => HasCond_any 78 #[] (fun _ _ => rfl) (fun x => !condOk x) a1 c1 t.conds W h1 (s1.ext h) fun x _ W _ => MayTerm1_any x W
 have q2 := fun W (h : Ext w W) => HasAct_any 81 #[] (fun _ _ => rfl) (fun x => !actOk x) a2 c2 t.acts W h2 (s2.ext h) fun x _ W _ => MayTerm2_any x W
 have q3 := fun W (h : Ext w W) => HasAct_any 83 #[] (fun _ _ => rfl) endsA a2 c2 (t.acts.take (t.acts.length - 1)) W (by rw [List.length_take]; omega) ((s2.ext h).take _) fun x _ W _ => Ends_any x W
 rw [List.length_take, show min (t.acts.length - 1) t.acts.length = t.acts.length - 1 by omega] at q3
 generalize t.conds.any (fun x => !condOk x) = b1 at *
 generalize t.acts.any (fun x => !actOk x) = b2 at *
 generalize (t.acts.take (t.acts.length - 1)).any endsA = b3 at *
 generalize t.conds.length = n1 at *
 generalize t.acts.length = n2 at *
 have B := Blk.new w 25 #[.slice a1 n1 c1, .slice a2 n2 c2]
 have E := (Ext.refl w).alloc (Obj.cells #[.slice a1 n1 c1, .slice a2 n2 c2] 25)
 clear s1 s2
 replace q1 := hide q1
 replace q2 := hide q2
 replace q3 := hide q3
 rcases hcs with ⟨k1, rfl⟩ | ⟨k1, k2, rfl⟩ | ⟨k1, k2, k3, rfl⟩ | ⟨k1, k2, k3, hcs⟩
 ·have g1 : decide ((64 : Int) < (n1 : Int)) = true := decide_eq_true (by omega)
  have g1' : decide (64 < n1) = true := decide_eq_true (by omega)
  clear B
  replace E := hide E
  clear k1
  go_enter Tryz.func33, Tryz.ntmps33
  go_wp2
  go_ret
  exact ⟨rfl, E.out⟩
 ·obtain rfl : n2 = 0 := by omega
  have g1 : decide ((64 : Int) < (n1 : Int)) = false := decide_eq_false (by omega)
  have g1' : decide (64 < n1) = false := decide_eq_false (by omega)
  clear B
  replace E := hide E
  clear k1 k2
  go_enter Tryz.func33, Tryz.ntmps33
  go_wp2
  go_ret
  exact ⟨rfl, E.out⟩
 ·have g1 : decide ((64 : Int) < (n1 : Int)) = false := decide_eq_false (by omega)
  have g1' : decide (64 < n1) = false := decide_eq_false (by omega)
  have g2 : decide ((n2 : Int) < 1) = false := decide_eq_false (by omega)
  have g2' : decide (n2 < 1) = false := decide_eq_false (by omega)
  have g3 : decide ((64 : Int) < (n2 : Int)) = true := decide_eq_true (by omega)
  have g3' : decide (64 < n2) = true := decide_eq_true (by omega)
  have g4 : ¬ n2 = 0 := by omega
  clear B
  replace E := hide E
  clear k1 k2 k3
  go_enter Tryz.func33, Tryz.ntmps33
  go_wp2
  go_ret
  exact ⟨rfl, E.out⟩
 ·have g1 : decide ((64 : Int) < (n1 : Int)) = false := decide_eq_false (by omega)
  have g1' : decide (64 < n1) = false := decide_eq_false (by omega)
  have g2 : decide ((n2 : Int) < 1) = false := decide_eq_false (by omega)
  have g2' : decide (n2 < 1) = false := decide_eq_false (by omega)
  have g3 : decide ((64 : Int) < (n2 : Int)) = false := decide_eq_false (by omega)
  have g3' : decide (64 < n2) = false := decide_eq_false (by omega)
  have g4 : ¬ n2 = 0 := by omega
  obtain ⟨m, rfl⟩ : ∃ m, n2 = m + 1 := ⟨n2 - 1, by omega⟩
  rw [Nat.add_sub_cancel] at q3
  have g5 : decide ((m : Int) + 1 < 1) = false := decide_eq_false (by omega)
  have g6 : decide ((64 : Int) < (m : Int) + 1) = false := decide_eq_false (by omega)
  have g7 : wrap64 (m : Int) = (m : Int) := wrap64_id _ (by omega) (by omega)
  have c0 := B.cell 0
  have c1 := B.cell 1
  simp at c0 c1
  replace E := hide E
  clear k1 k2 k3 h1 h2
  replace B := hide B
  rcases hcs with ⟨rfl, rfl⟩ | ⟨rfl, rfl, rfl⟩ | ⟨rfl, rfl, rfl⟩
  ·go_enter Tryz.func33, Tryz.ntmps33
   go_wp2_with fail
   (with_reducible refine (q1.out _ E.out).mono ?_)
   rintro e w1 ⟨rfl, he⟩
   replace he := hide (E.out.trans he)
   go_wp2_with fail
   go_ret
   exact ⟨rfl, he.out⟩
  ·go_enter Tryz.func33, Tryz.ntmps33
   go_wp2_with fail
   (with_reducible refine (q1.out _ E.out).mono ?_)
   rintro e w1 ⟨rfl, he⟩
   replace B := hide (B.out.ext he)
   replace he := hide (E.out.trans he)
   have d0 := B.out.cell 0
   have d1 := B.out.cell 1
   simp at d0 d1
   go_wp2_with fail
   (with_reducible refine (q2.out _ he.out).mono ?_)
   rintro e w2 ⟨rfl, he2⟩
   replace he := hide (he.out.trans he2)
   go_wp2_with fail
   go_ret
   exact ⟨rfl, he.out⟩
  ·go_enter Tryz.func33, Tryz.ntmps33
   go_wp2_with fail
   (with_reducible refine (q1.out _ E.out).mono ?_)
   rintro e w1 ⟨rfl, he⟩
   replace B := hide (B.out.ext he)
   replace he := hide (E.out.trans he)
   have d0 := B.out.cell 0
   have d1 := B.out.cell 1
   simp at d0 d1
   go_wp2_with fail
   (with_reducible refine (q2.out _ he.out).mono ?_)
   rintro e w2 ⟨rfl, he2⟩
   replace B := hide (B.out.ext he2)
   replace he := hide (he.out.trans he2)
   clear d0 d1 he2
   have d0 := B.out.cell 0
   have d1 := B.out.cell 1
   simp at d0 d1
   go_wp2_with fail
   (with_reducible refine (q3.out _ he.out).mono ?_)
   rintro e w3 ⟨rfl, he3⟩
   replace he := hide (he.out.trans he3)
   go_wp2_with fail
   go_ret
   exact ⟨rfl, he.out⟩
end
end
end Go.Proofs.YtljibkfbldjgdaaGreatDoor
