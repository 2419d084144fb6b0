/- Chapter 16, walks: giving up, a number of a word, a word's place in a list, the next word. Chapter 16, walks: a condition read of the words that are left; an action. Chapter 16, walks: a community as a text, and read of a text. Chapter 16, walks: an action read of the words that are left. Printed by genact.py. -/
import Derived.Lib.SplitLaws
import Derived.Lib.ParseIntB
import Derived.Lib.ParseIntBCases
import Derived.Lib.ItoaNum
import Derived.Lib.Join
import Derived.WalkKit
import Derived.Below
import Derived.Outline
import Derived.LoopTactic
import Derived.Laws.OwnMore
import Derived.Deep.AppendLies
import Derived.Deep.Draws
import Derived.Lib.Hide
import Derived.BigQuiet
import Derived.Deep.QuietTactic
import Derived.WalkSpells
import Derived.WalkLawsBesides
import Derived.Deep.RegionHeld3
import Derived.Deep.DrawnRows
import Derived.Deep.RegionLaw
import Derived.Lib.ConvBytes
import Derived.Lib.Bytealg
import Derived.Lib.Small
import Derived.Test.YtljibkfbldjgdaaGreatDoorRows
import Derived.ProofKit
import Derived.Deep.Slices
import Derived.Shelf.GgClosure.StringsRunes
import Derived.Test.YtljibkfbldjgdaaGreatDoorProg
import Derived.Test.YtljibkfbldjgdaaGreatDoorShelf
import Derived.Test.YtljibkfbldjgdaaGreatDoorShelf2
import Derived.Lib.UnsafeStr
import Derived.Shelf.RegionOpenPlain
import Derived.Laws.StructEq
import Derived.Lib.QuietBelow
import Derived.Lib.ItoaMem
import Derived.Lib.ItoaLen
import Derived.Deep.DeepCutAuto
import Derived.Test.YtljibkfbldjgdaaGreatDoorPY01
import Derived.Test.YtljibkfbldjgdaaGreatDoorPY02
import Derived.Test.YtljibkfbldjgdaaGreatDoorPY03
namespace Go.Proofs.YtljibkfbldjgdaaGreatDoor
section
section
open Go.RowKit
set_option linter.unusedVariables false
/-- What is given up with. -/
def noneP : List PanicEntry := [{ v := .iface 93 (.agg #[]), recovered := false }]
theorem must_t (w : World) : Calls Tryz.prog 47 #[.bool true] w fun e w' => e = .returned (.tuple #[]) ∧ w = w' := by
 go_enter Tryz.func47, Tryz.ntmps47
 go_wp2
 go_end0
 exact ⟨rfl, rfl⟩
theorem must_f (w : World) : Calls Tryz.prog 47 #[.bool false] w fun e w' => e = .panicked noneP ∧ w = w' := by
 go_enter Tryz.func47, Tryz.ntmps47
 go_wp2
 exact ⟨rfl, rfl, rfl⟩
/-- The world but one block. -/
structure But (g : Nat) (w w' : World) : Prop where
  os : w'.os = w.os
  tape : w'.tape = w.tape
  output : w'.output = w.output
  size : w.heap.size ≤ w'.heap.size
  block : ∀ b, b < w.heap.size → b ≠ g → w'.heap[b]? = w.heap[b]?
theorem But.of {g : Nat} {w w' : World} (h : Ext w w') : But g w w' := ⟨h.os, h.tape, h.output, h.size, fun b hb _ => h.block b hb⟩
theorem But.refl (g : Nat) (w : World) : But g w w := .of (Ext.refl w)
theorem But.trans {g : Nat} {a b c : World} (h : But g a b) (k : But g b c) : But g a c :=
 ⟨k.os.trans h.os, k.tape.trans h.tape, k.output.trans h.output, Nat.le_trans h.size k.size, fun x hx hg => (k.block x (Nat.lt_of_lt_of_le hx h.size) hg).trans (h.block x hx hg)⟩
theorem But.blk {g h : Nat} {w w' : World} {t : TypeId} {cs : Array Value} (b : But g w w') (k : Blk w h t cs) (hg : h ≠ g) : Blk w' h t cs := (b.block h k.lt hg).trans k
theorem But.ext {g : Nat} {w0 w w' : World} (h : Ext w0 w) (b : But g w w') (hg : w0.heap.size ≤ g) : Ext w0 w' :=
 ⟨b.os.trans h.os, b.tape.trans h.tape, b.output.trans h.output, Nat.le_trans h.size b.size, fun x hx => (b.block x (Nat.lt_of_lt_of_le hx h.size) (by omega)).trans (h.block x hx)⟩
theorem But.set {g : Nat} {a w : World} (h : But g a w) (o : Nat) (u : Value) : But g a (w.setCell ⟨g, o, none⟩ u) :=
 ⟨h.os, h.tape, h.output, by simpa [World.setCell] using h.size, fun b hb hg => (Below.heap_setCell _ _ _ _ (show b ≠ g from hg)).trans (h.block b hb hg)⟩
/-- The words that are left lie in the variable g; what they reach lies in blocks below B. -/
structure WdL (w : World) (g B : Nat) (l : List (List UInt8)) : Prop where
  len : l.length ≤ 1048577
  lt : g < B
  up : B ≤ w.heap.size
  lies : ∃ a c, Blk w g 79 #[.slice a l.length c] ∧ l.length ≤ c ∧ Sl EByt w (fun b => b < B ∧ b ≠ g) a l
theorem WdL.kept {w w' : World} {g B : Nat} {l : List (List UInt8)} (h : WdL w g B l) (hs : w.heap.size ≤ w'.heap.size) (hb : ∀ b, b < B → w'.heap[b]? = w.heap[b]?) : WdL w' g B l := by
 obtain ⟨n, lt, up, a, c, h1, h2, h3⟩ := h
 exact ⟨n, lt, Nat.le_trans up hs, a, c, (hb g lt).trans h1, h2, h3.frame fun b hq => hb b hq.1⟩
theorem WdL.ext {w w' : World} {g B : Nat} {l : List (List UInt8)} (h : WdL w g B l) (e : Ext w w') : WdL w' g B l := h.kept e.size fun b hb => e.block b (Nat.lt_of_lt_of_le hb h.up)
theorem WdL.alloc {w : World} {g B : Nat} {l : List (List UInt8)} (h : WdL w g B l) (o : Obj) : WdL (w.alloc o) g B l := h.ext ((Ext.refl w).alloc o)
theorem WdL.set {w : World} {g B k : Nat} {l : List (List UInt8)} (h : WdL w g B l) (hk : B ≤ k) (o : Nat) (u : Value) : WdL (w.setCell ⟨k, o, none⟩ u) g B l :=
 h.kept (by simp [World.setCell]) fun b hb => Below.heap_setCell _ _ _ _ (show b ≠ k by omega)
theorem Sl.tl {α : Type} {E : Enc α} {w : World} {S : Nat → Prop} {b off : Nat} {x : α} {r : List α} (h : Sl E w S (some ⟨b, off, none⟩) (x :: r)) (hz : E.sz = 1) : Sl E w S (some ⟨b, off + 1, none⟩) r := by
 rcases h with h | ⟨b', off', h1, hb, h⟩
 ·cases h
 ·injection h1 with h1
  injection h1 with h1 h2
  subst h1 h2
  refine .inr ⟨b, off + 1, rfl, hb, fun k y hy => ?_⟩
  obtain ⟨cs, hr, hc⟩ := h (k + 1) y (by simpa using hy)
  refine ⟨cs, hr, fun j u hu => ?_⟩
  have := hc j u hu
  rw [hz] at this ⊢
  rw [show off + 1 + k * 1 + j = off + (k + 1) * 1 + j by omega]
  exact this
/-- The next word. -/
theorem next_none (g : Nat) (w : World) (B : Nat) (h : WdL w g B []) : Calls Tryz.prog 46 #[.pointer (some ⟨g, 0, none⟩)] w fun e w' => e = .panicked noneP ∧ Ext w w' := by
 obtain ⟨n, lt, up, a, c, h1, h2, h3⟩ := h
 have c0 := h1.cell 0
 simp at c0
 clear h1 h3
 go_enter Tryz.func46, Tryz.ntmps46
 go_wp2_with (go_at_call 47; refine (must_f _).mono ?_; rintro e w' ⟨rfl, rfl⟩)
 exact ⟨rfl, rfl, Ext.refl _⟩
theorem next_some (g : Nat) (x : List UInt8) (r : List (List UInt8)) (w : World) (B : Nat) (h : WdL w g B (x :: r)) : Calls Tryz.prog 46 #[.pointer (some ⟨g, 0, none⟩)] w fun e w' => e = .returned (.string ⟨x.toArray⟩) ∧ But g w w' ∧ WdL w' g B r := by
 obtain ⟨n, lt, up, a, c, h1, h2, h3⟩ := h
 have c0 := h1.cell 0
 have f0 := h1.frozen 0
 simp only [List.length_cons] at n h1 h2 c0
 simp at c0
 obtain ⟨b, off, cs, rfl, hb, ⟨hx, hx1⟩, hc⟩ := h3.at 0 (by simp)
 have c1 := hc 0 _ (by rw [hx]; rfl)
 simp at c1
 have hgl := h1.lt
 replace h3 := hide h3
 replace h1 := hide h1
 have hln : ¬ r.length + 1 = 0 := by omega
 have hlc : r.length + 1 ≤ c := h2
 generalize hrl : r.length = rl at c0 hln hlc n h2
 go_enter Tryz.func46, Tryz.ntmps46
 go_wp2_with (go_at_call 47; refine (must_t _).mono ?_; rintro e w' ⟨rfl, rfl⟩)
 ·subst h
  go_ret
  obtain rfl : r = [] := List.eq_nil_of_length_eq_zero (by omega)
  obtain rfl : 0 = rl := hrl
  exact ⟨rfl, (But.refl g w).set 0 _, by simp, lt, by simpa [World.setCell] using up, _, _, h1.out.set_ 0 _, Nat.le_refl _, .inl rfl⟩
 ·go_ret
  subst hrl
  exact ⟨rfl, (But.refl g w).set 0 _, by omega, lt, by simpa [World.setCell] using up, _, _, h1.out.set_ 0 _, by omega, (h3.out.tl rfl).frame fun b hb => Below.heap_setCell _ _ _ _ hb.2⟩
theorem PuA32_any (s : List UInt8) (w : World) (hV : Vars w) (hs : s.length ≤ 1048576) :
  Calls Tryz.prog 137 #[.string ⟨s.toArray⟩, .int .i64 10, .int .i64 32] w (PuP 10 4294967295 s w) := by
 obtain ⟨t1, p1, h1⟩ := hV.es
 obtain ⟨t2, p2, h2⟩ := hV.er
 have hz : (ByteArray.mk s.toArray).size = s.length := ba_size s
 have hrd := fun n => rd_dec (B := 32) (s := s) (n := n) (by decide)
 rcases hp : Lib.parseUintB 32 s with u | _ | _
 ·rw [hp] at hrd
  refine (Any.strconv_ParseUint_10_at32_ok Tryz.laysPu14 ⟨s.toArray⟩ (by omega) u hp w).mono ?_
  rintro e w' ⟨rfl, hw⟩
  have hw2 : Ext w w' := by
   rcases hw with rfl | rfl
   ·exact Ext.refl _
   ·exact ext_bytes _ _ _
  exact ⟨hw2, .inl ⟨u, Lib.parseUintB_le hp, rfl, fun n hn => by have := hrd n hn; injection this with this; exact this.symm⟩⟩
 ·rw [hp] at hrd
  refine (Any.strconv_ParseUint_10_at32_syntax Tryz.laysPu14 ⟨s.toArray⟩ (by omega) hp _ w h1 (.inr ⟨_, _, rfl⟩)).mono ?_
  rintro e w' ⟨N, rfl, _, _, hb⟩
  refine ⟨hb, .inr ⟨?_, _, _, _, rfl⟩⟩
  cases hr : rdN 10 4294967295 s with
  | none => rfl
  | some n => cases hrd n hr
 ·rw [hp] at hrd
  refine (Any.strconv_ParseUint_10_at32_range Tryz.laysPu14 ⟨s.toArray⟩ (by omega) hp _ w h2 (.inr ⟨_, _, rfl⟩)).mono ?_
  rintro e w' ⟨N, rfl, _, _, hb⟩
  refine ⟨hb, .inr ⟨?_, _, _, _, rfl⟩⟩
  cases hr : rdN 10 4294967295 s with
  | none => rfl
  | some n => cases hrd n hr
theorem PuA16_any (s : List UInt8) (w : World) (hV : Vars w) (hs : s.length ≤ 1048576) :
  Calls Tryz.prog 137 #[.string ⟨s.toArray⟩, .int .i64 10, .int .i64 16] w (PuP 10 65535 s w) := by
 obtain ⟨t1, p1, h1⟩ := hV.es
 obtain ⟨t2, p2, h2⟩ := hV.er
 have hz : (ByteArray.mk s.toArray).size = s.length := ba_size s
 have hrd := fun n => rd_dec (B := 16) (s := s) (n := n) (by decide)
 rcases hp : Lib.parseUintB 16 s with u | _ | _
 ·rw [hp] at hrd
  refine (Any.strconv_ParseUint_10_at16_ok Tryz.laysPu14 ⟨s.toArray⟩ (by omega) u hp w).mono ?_
  rintro e w' ⟨rfl, hw⟩
  have hw2 : Ext w w' := by
   rcases hw with rfl | rfl
   ·exact Ext.refl _
   ·exact ext_bytes _ _ _
  exact ⟨hw2, .inl ⟨u, Lib.parseUintB_le hp, rfl, fun n hn => by have := hrd n hn; injection this with this; exact this.symm⟩⟩
 ·rw [hp] at hrd
  refine (Any.strconv_ParseUint_10_at16_syntax Tryz.laysPu14 ⟨s.toArray⟩ (by omega) hp _ w h1 (.inr ⟨_, _, rfl⟩)).mono ?_
  rintro e w' ⟨N, rfl, _, _, hb⟩
  refine ⟨hb, .inr ⟨?_, _, _, _, rfl⟩⟩
  cases hr : rdN 10 65535 s with
  | none => rfl
  | some n => cases hrd n hr
 ·rw [hp] at hrd
  refine (Any.strconv_ParseUint_10_at16_range Tryz.laysPu14 ⟨s.toArray⟩ (by omega) hp _ w h2 (.inr ⟨_, _, rfl⟩)).mono ?_
  rintro e w' ⟨N, rfl, _, _, hb⟩
  refine ⟨hb, .inr ⟨?_, _, _, _, rfl⟩⟩
  cases hr : rdN 10 65535 s with
  | none => rfl
  | some n => cases hrd n hr
theorem num_rd (s : List UInt8) : numO s 4294967296 = rdN 10 4294967295 s := by
  cases h : rdN 10 4294967295 s with
  | some n =>
    obtain ⟨h1, h2⟩ := (rdN_iff (by decide) (by decide)).1 h
    rw [← h2]
    exact numO_dig (by omega)
  | none =>
    cases h2 : numO s 4294967296 with
    | none => rfl
    | some n =>
      obtain ⟨h3, h4⟩ := numO_some h2
      rw [(rdN_iff (b := 10) (most := 4294967295) (by decide) (by decide)).2 ⟨by omega, h4⟩] at h
      cases h
/-- A number of a word, or given up. -/
def NumW (s : List UInt8) (w : World) (e : Ending) (w' : World) : Prop := (e = match numO s 4294967296 with | some n => .returned (.int .u32 (n : Int)) | none => .panicked noneP) ∧ Ext w w'
set_option maxRecDepth 20000 in
theorem PNum_any (s : List UInt8) (w : World) (hT : Tab w) (hV : Vars w) (hs : s.length ≤ 1048576) :
    Calls Tryz.prog 101 #[.string ⟨s.toArray⟩] w (NumW s w) := by
  have hpu := PuA32_any s w hV hs
  have hf := fun (u : Nat) (hu : u ≤ 4294967295) W (h : Ext w W) => (FormatUint_any u (by omega) W (hT.ext h)).mono (R' := fun e w' => e = .returned (.string ⟨(digS 10 u).toArray⟩) ∧ Ext W w') fun e w' q => ⟨by rw [q.1]; unfold dec; rw [digS_dec], q.2⟩
  have hok : ∀ (u : Nat) (W : World), digS 10 u = s → u ≤ 4294967295 → Ext w W → NumW s w (.returned (.int .u32 (u : Int))) W := by
    intro u W h1 h2 hE
    refine ⟨?_, hE⟩
    rw [num_rd, (rdN_iff (by decide) (by decide)).2 ⟨h2, h1⟩]
  have hbad : ∀ (W : World), rdN 10 4294967295 s = none → Ext w W → NumW s w (.panicked noneP) W := by
    intro W h hE
    refine ⟨?_, hE⟩
    rw [num_rd, h]
  have hno : ∀ u : Nat, (∀ n, rdN 10 4294967295 s = some n → n = u) → digS 10 u ≠ s → rdN 10 4294967295 s = none := by
    intro u hn he
    cases hr : rdN 10 4294967295 s with
    | none => rfl
    | some n =>
      have h1 := hn n hr
      subst h1
      exact absurd ((rdN_iff (by decide) (by decide)).1 hr).2 he
  replace hok := hide hok
  replace hbad := hide hbad
  replace hno := hide hno
  replace hpu := hide hpu
  replace hf := hide hf
  clear hT hV hs
  go_enter Tryz.func101, Tryz.ntmps101
  go_wp2_with fail
  refine hpu.out.mono ?_
  rintro e w1 ⟨he, ⟨u, hu, rfl, hn⟩ | ⟨hn, z, T, p, rfl⟩⟩
  · have hq := fun W h => hf.out u hu W h
    have hr := fun W h1 h => hok.out u W h1 hu h
    have hx := fun W h1 h => hbad.out W (hno.out u hn h1) h
    have hw32 : IntKind.u32.wrap (u : Int) = (u : Int) := by rw [IntKind.wrap_u32]; omega
    generalize digS 10 u = d at hq hr hx
    replace hq := hide hq
    replace hr := hide hr
    replace hx := hide hx
    replace hn := hide hn
    replace hu := hide hu
    replace he := hide he
    go_wp2_with fail
    refine (hq.out _ he.out).mono ?_
    rintro e w2 ⟨rfl, he2⟩
    replace he2 := hide (he.out.trans he2)
    by_cases hds : d = s
    · subst hds
      have hdd : ((d == d) = true) := by simp
      go_wp2_with fail
      refine (must_t _).mono ?_
      rintro e w3 ⟨rfl, rfl⟩
      go_wp2
      go_ret
      exact hr.out _ (by trivial) he2.out
    · have hdd : ((d == s) = false) := by simpa using hds
      have hdd2 : ((s == d) = false) := by simpa using fun h => hds h.symm
      replace hds := hide hds
      go_wp2_with fail
      refine (must_f _).mono ?_
      rintro e w3 ⟨rfl, rfl⟩
      go_wp2
      exact ⟨rfl, hx.out _ hds.out he2.out⟩
  · replace hn := hide hn
    replace he := hide he
    go_wp2_with fail
    refine (must_f _).mono ?_
    rintro e w3 ⟨rfl, rfl⟩
    go_wp2
    exact ⟨rfl, hbad.out _ hn.out he.out⟩
/-- A row of words. -/
theorem sl_words {w : World} {g : Nat} {t : TypeId} (l : List (List UInt8)) (hl : ∀ s ∈ l, s.length ≤ 1048576) (h : Blk w g t (l.map fun s => Value.string ⟨s.toArray⟩).toArray) : Sl EByt w (· < w.heap.size) (some ⟨g, 0, none⟩) l := by
  refine .inr ⟨g, 0, rfl, h.lt, fun k x hx => ⟨_, ⟨rfl, hl x (List.mem_of_getElem? hx)⟩, fun j u hu => ?_⟩⟩
  match j, hu with
  | 0, hu =>
    obtain rfl : Value.string ⟨x.toArray⟩ = u := by simpa using hu
    have hc := h.cell (0 + k * 1 + 0)
    rw [List.getElem?_toArray, Nat.zero_add, Nat.mul_one, Nat.add_zero, List.getElem?_map, hx] at hc
    simpa [EByt, Enc.flat] using hc
def idxW (l : List (List UInt8)) (x : List UInt8) : Int := match l.findIdx? (· == x) with | some i => i | none => -1
theorem idxW_at (l : List (List UInt8)) (x : List UInt8) (k : Nat) (hk : k < l.length) (hx : l[k] = x) (hj : ∀ j, j < k → l[j]? ≠ some x) : idxW l x = k := by
 unfold idxW
 have : l.findIdx? (· == x) = some k := by
  rw [List.findIdx?_eq_some_iff_getElem]
  refine ⟨hk, by simpa using hx, fun j hjk => ?_⟩
  have := hj j hjk
  rw [List.getElem?_eq_getElem (by omega)] at this
  simpa using this
 rw [this]
theorem idxW_none (l : List (List UInt8)) (x : List UInt8) (hj : ∀ j, j < l.length → l[j]? ≠ some x) : idxW l x = -1 := by
 unfold idxW
 have : l.findIdx? (· == x) = none := by
  rw [List.findIdx?_eq_none_iff]
  intro y hy
  obtain ⟨j, hj', rfl⟩ := List.getElem_of_mem hy
  have := hj j hj'
  rw [List.getElem?_eq_getElem hj'] at this
  simpa using this
 rw [this]
theorem EByt.at {w : World} {S : Nat → Prop} {a : Option Addr} {l : List (List UInt8)} (h : Sl EByt w S a l) (k : Nat) (hk : k < l.length) : ∃ b off, a = some ⟨b, off, none⟩ ∧ S b ∧ l[k].length ≤ 1048576 ∧ w.cell? ⟨b, off + k, none⟩ = some (.string ⟨l[k].toArray⟩) := by
 obtain ⟨b, off, cs, rfl, hb, ⟨rfl, hi⟩, hc⟩ := h.at k hk
 refine ⟨b, off, rfl, hb, hi, ?_⟩
 have := hc 0 _ rfl
 simpa [EByt, Enc.flat] using this
set_option maxHeartbeats 1000000 in
theorem IndexW_any (a : Option Addr) (c : Nat) (l : List (List UInt8)) (x : List UInt8) (w : World) (S : Nat → Prop) (hl : l.length ≤ 16777216) (hs : Sl EByt w S a l) :
  Calls Tryz.prog 136 #[.slice a l.length c, .string ⟨x.toArray⟩] w fun e w' => e = .returned (.int .i64 (idxW l x)) ∧ w = w' := by
 replace hs := hide hs
 go_enter Tryz.func136, Tryz.ntmps136
 go_wp2
 go_loop [5, 8] (fun _ i => ∃ k : Nat, k ≤ l.length ∧ i = .int .i64 k ∧ ∀ j, j < k → l[j]? ≠ some x) (fun _ i => l.length - (intOf i).toNat)
 case atStart => exact ⟨0, Nat.zero_le _, rfl, fun j h => by omega⟩
 case round =>
  obtain ⟨k, hk, rfl, hj⟩ := hrel
  replace hj := hide hj
  by_cases hlt : k < l.length
  ·obtain ⟨b, off, rfl, _, _, h0⟩ := EByt.at hs.out k hlt
   have hat := idxW_at l x k hlt
   have hne := List.getElem?_eq_getElem hlt
   generalize l[k] = y at h0 hat hne
   replace hat := hide hat
   replace hne := hide hne
   by_cases hq : y = x
   ·subst hq
    have hb : (y == y) = true := by simp
    go_wp2
    go_ret
    exact ⟨ret_int (hat.out (by trivial) hj.out).symm, rfl⟩
   ·have hb : (y == x) = false := by simpa using hq
    have hb2 : (x == y) = false := by simpa using fun h => hq h.symm
    replace hq := hide hq
    go_wp2
    go_round
    case rel => exact ⟨k + 1, by omega, by go_num, fun j hjk => by
     rcases Nat.lt_or_ge j k with h | h
     ·exact hj.out j h
     ·obtain rfl : j = k := by omega
      rw [hne.out]
      intro he; injection he with he; exact hq.out he⟩
    case measure => simp [intOf]; omega
  ·go_wp2
   go_ret
   exact ⟨ret_int (idxW_none l x fun j hj' => hj.out j (by omega)).symm, rfl⟩
/-- A word's place, or given up. -/
theorem PIndex_some (a : Option Addr) (c : Nat) (l : List (List UInt8)) (x : List UInt8) (i : Nat) (w : World) (S : Nat → Prop) (hl : l.length ≤ 16777216) (hs : Sl EByt w S a l) (hx : x ≠ []) (hi : idxW l x = (i : Int)) :
  Calls Tryz.prog 100 #[.slice a l.length c, .string ⟨x.toArray⟩] w fun e w' => e = .returned (.int .i64 (i : Int)) ∧ w = w' := by
 have q := IndexW_any a c l x w S hl hs
 rw [hi] at q
 have hxe : (x == []) = false := by simpa using hx
 replace q := hide q
 go_enter Tryz.func100, Tryz.ntmps100
 go_wp2_with (go_at_call 136; refine q.out.mono ?_; rintro e w' ⟨rfl, rfl⟩)
 refine (must_t _).mono ?_
 rintro e w' ⟨rfl, rfl⟩
 go_wp2
 go_ret
 exact ⟨rfl, rfl⟩
theorem PIndex_none (a : Option Addr) (c : Nat) (l : List (List UInt8)) (x : List UInt8) (w : World) (S : Nat → Prop) (hl : l.length ≤ 16777216) (hs : Sl EByt w S a l) (hi : idxW l x = -1 ∨ x = []) :
  Calls Tryz.prog 100 #[.slice a l.length c, .string ⟨x.toArray⟩] w fun e w' => e = .panicked noneP ∧ w = w' := by
 have q := IndexW_any a c l x w S hl hs
 by_cases hx : x = []
 ·subst hx
  generalize idxW l [] = z at q
  replace q := hide q
  go_enter Tryz.func100, Tryz.ntmps100
  go_wp2_with fail
  refine q.out.mono ?_
  rintro e w' ⟨rfl, rfl⟩
  by_cases hz : 0 ≤ z
  ·go_wp2_with fail
   refine (must_f _).mono ?_
   rintro e w' ⟨rfl, rfl⟩
   go_wp2
   exact ⟨rfl, rfl, rfl⟩
  ·go_wp2_with fail
   refine (must_f _).mono ?_
   rintro e w' ⟨rfl, rfl⟩
   go_wp2
   exact ⟨rfl, rfl, rfl⟩
 ·rw [hi.resolve_right hx] at q
  replace q := hide q
  go_enter Tryz.func100, Tryz.ntmps100
  go_wp2_with (go_at_call 136; refine q.out.mono ?_; rintro e w' ⟨rfl, rfl⟩)
  refine (must_f _).mono ?_
  rintro e w' ⟨rfl, rfl⟩
  go_wp2
  exact ⟨rfl, rfl, rfl⟩
end
section
open Go.RowKit
set_option linter.unusedVariables false
theorem Blk.but {g h : Nat} {w w' : World} {t : TypeId} {cs : Array Value} (k : Blk w h t cs) (b : But g w w') (hg : h ≠ g) : Blk w' h t cs := b.blk k hg
theorem But.alloc {g : Nat} {a w : World} (h : But g a w) (o : Obj) : But g a (w.alloc o) := h.trans (But.of ((Ext.refl w).alloc o))
theorem But.far {g k : Nat} {a w : World} (h : But g a w) (hk : a.heap.size ≤ k) (o : Nat) (u : Value) : But g a (w.setCell ⟨k, o, none⟩ u) :=
 ⟨h.os, h.tape, h.output, by simpa [World.setCell] using h.size, fun b hb hg => (Below.heap_setCell _ _ _ _ (show b ≠ k by omega)).trans (h.block b hb hg)⟩
def CoP (r : Option (CondS × List (List UInt8))) (g B : Nat) (w : World) (e : Ending) (w' : World) : Prop :=
 (match r with | some (c, q) => e = .returned (.agg (condCs c).toArray) ∧ WdL w' g B q | none => e = .panicked noneP) ∧ But g w w'
theorem CoP.ok {l : List (List UInt8)} {c : CondS} {q : List (List UInt8)} {g B : Nat} {w w' : World} (h : readC l = some (c, q)) (hw : WdL w' g B q) (hb : But g w w') : CoP (readC l) g B w (.returned (.agg (condCs c).toArray)) w' := by
 rw [h]; exact ⟨⟨rfl, hw⟩, hb⟩
theorem CoP.no {l : List (List UInt8)} {g B : Nat} {w w' : World} (h : readC l = none) (hb : But g w w') : CoP (readC l) g B w (.panicked noneP) w' := by
 rw [h]; exact ⟨rfl, hb⟩
theorem cond_two (w : World) (t : TypeId) (cs : Array Value) : Blk ((w.alloc (.cells cs t)).alloc (.cells cs t)) w.heap.size t cs ∧ Blk ((w.alloc (.cells cs t)).alloc (.cells cs t)) (w.heap.size + 1) t cs := by
 refine ⟨(Blk.new w t cs).alloc _, ?_⟩
 have := Blk.new (w.alloc (.cells cs t)) t cs
 simpa using this
def kW : List (List UInt8) := [[112, 114, 101, 102, 105, 120], [99, 111, 109, 109], [112, 97, 116, 104], [112, 101, 101, 114], [111, 114, 105, 103, 105, 110], [108, 101, 110, 103, 116, 104], [102, 97, 109]]
theorem kw_cases (y : List UInt8) : y = [112, 114, 101, 102, 105, 120] ∨ y = [99, 111, 109, 109] ∨ y = [112, 97, 116, 104] ∨ y = [112, 101, 101, 114] ∨ y = [111, 114, 105, 103, 105, 110] ∨ y = [108, 101, 110, 103, 116, 104] ∨ y = [102, 97, 109] ∨ (idxW kW y = -1 ∧ ∀ neg q, readV neg (y :: q) = none) := by
 by_cases h1 : y = [112, 114, 101, 102, 105, 120]
 ·exact .inl h1
 by_cases h2 : y = [99, 111, 109, 109]
 ·exact .inr (.inl h2)
 by_cases h3 : y = [112, 97, 116, 104]
 ·exact .inr (.inr (.inl h3))
 by_cases h4 : y = [112, 101, 101, 114]
 ·exact .inr (.inr (.inr (.inl h4)))
 by_cases h5 : y = [111, 114, 105, 103, 105, 110]
 ·exact .inr (.inr (.inr (.inr (.inl h5))))
 by_cases h6 : y = [108, 101, 110, 103, 116, 104]
 ·exact .inr (.inr (.inr (.inr (.inr (.inl h6)))))
 by_cases h7 : y = [102, 97, 109]
 ·exact .inr (.inr (.inr (.inr (.inr (.inr (.inl h7))))))
 refine .inr (.inr (.inr (.inr (.inr (.inr (.inr ⟨idxW_none kW y fun j hj => ?_, fun neg q => ?_⟩))))))
 ·have : j < 7 := hj
  rcases (show j = 0 ∨ j = 1 ∨ j = 2 ∨ j = 3 ∨ j = 4 ∨ j = 5 ∨ j = 6 by omega) with rfl | rfl | rfl | rfl | rfl | rfl | rfl
  ·exact fun h => h1 (Option.some.inj h).symm
  ·exact fun h => h2 (Option.some.inj h).symm
  ·exact fun h => h3 (Option.some.inj h).symm
  ·exact fun h => h4 (Option.some.inj h).symm
  ·exact fun h => h5 (Option.some.inj h).symm
  ·exact fun h => h6 (Option.some.inj h).symm
  ·exact fun h => h7 (Option.some.inj h).symm
 ·cases q with
  | nil => rfl
  | cons x r => simp only [readV, h1, h2, h3, h4, h5, h6, h7, if_false]
theorem readV_one (neg : Bool) (y : List UInt8) : readV neg [y] = none := rfl
def oW : List (List UInt8) := [originT 0, originT 1, originT 2]
def fW : List (List UInt8) := [[], nameS 1, nameS 2, nameS 3, nameS 4, nameS 5]
theorem oW_cases (x : List UInt8) : (∃ n : Nat, idxW oW x = (n : Int) ∧ x ≠ [] ∧ originN x = some (n : Int)) ∨ ((idxW oW x = -1 ∨ x = []) ∧ originN x = none) := by
 by_cases h1 : x = originT 0
 ·subst h1; exact .inl ⟨0, by decide +kernel, by decide, by decide +kernel⟩
 by_cases h2 : x = originT 1
 ·subst h2; exact .inl ⟨1, by decide +kernel, by decide, by decide +kernel⟩
 by_cases h3 : x = originT 2
 ·subst h3; exact .inl ⟨2, by decide +kernel, by decide, by decide +kernel⟩
 refine .inr ⟨.inl (idxW_none oW x fun j hj => ?_), ?_⟩
 ·have : j < 3 := hj
  rcases (show j = 0 ∨ j = 1 ∨ j = 2 by omega) with rfl | rfl | rfl
  ·exact fun h => h1 (Option.some.inj h).symm
  ·exact fun h => h2 (Option.some.inj h).symm
  ·exact fun h => h3 (Option.some.inj h).symm
 ·unfold originN
  rw [if_neg h1, if_neg h2, if_neg h3]
theorem fW_cases (x : List UInt8) : (∃ n : Nat, idxW fW x = (n : Int) ∧ x ≠ [] ∧ famN x = (n : Int) ∧ ¬ famN x = 0) ∨ ((idxW fW x = -1 ∨ x = []) ∧ famN x = 0) := by
 by_cases h0 : x = []
 ·subst h0; exact .inr ⟨.inr rfl, by decide +kernel⟩
 by_cases h1 : x = nameS 1
 ·subst h1; exact .inl ⟨1, by decide +kernel, by decide, by decide +kernel, by decide +kernel⟩
 by_cases h2 : x = nameS 2
 ·subst h2; exact .inl ⟨2, by decide +kernel, by decide, by decide +kernel, by decide +kernel⟩
 by_cases h3 : x = nameS 3
 ·subst h3; exact .inl ⟨3, by decide +kernel, by decide, by decide +kernel, by decide +kernel⟩
 by_cases h4 : x = nameS 4
 ·subst h4; exact .inl ⟨4, by decide +kernel, by decide, by decide +kernel, by decide +kernel⟩
 by_cases h5 : x = nameS 5
 ·subst h5; exact .inl ⟨5, by decide +kernel, by decide, by decide +kernel, by decide +kernel⟩
 refine .inr ⟨.inl (idxW_none fW x fun j hj => ?_), ?_⟩
 ·have : j < 6 := hj
  rcases (show j = 0 ∨ j = 1 ∨ j = 2 ∨ j = 3 ∨ j = 4 ∨ j = 5 by omega) with rfl | rfl | rfl | rfl | rfl | rfl
  ·exact fun h => h0 (Option.some.inj h).symm
  ·exact fun h => h1 (Option.some.inj h).symm
  ·exact fun h => h2 (Option.some.inj h).symm
  ·exact fun h => h3 (Option.some.inj h).symm
  ·exact fun h => h4 (Option.some.inj h).symm
  ·exact fun h => h5 (Option.some.inj h).symm
 ·have h1' : ¬ x = [118, 52] := h1
  have h2' : ¬ x = [118, 54] := h2
  have h3' : ¬ x = [108, 52] := h3
  have h4' : ¬ x = [118, 112, 110, 52] := h4
  have h5' : ¬ x = [118, 112, 110, 54] := h5
  unfold famN
  rw [if_neg h1', if_neg h2', if_neg h3', if_neg h4', if_neg h5']
theorem POrigins_any (w : World) : Calls Tryz.prog 84 #[] w fun e w' => e = .returned (.slice (some ⟨w.heap.size, 0, none⟩) 3 3) ∧ w.alloc (Obj.cells (oW.map fun s => Value.string ⟨s.toArray⟩).toArray 9) = w' := by
 go_enter Tryz.func84, Tryz.ntmps84
 go_wp2
 go_ret
 exact ⟨rfl, rfl⟩
theorem PFams_any (w : World) : Calls Tryz.prog 86 #[] w fun e w' => e = .returned (.slice (some ⟨w.heap.size, 0, none⟩) 6 6) ∧ w.alloc (Obj.cells (fW.map fun s => Value.string ⟨s.toArray⟩).toArray 9) = w' := by
 go_enter Tryz.func86, Tryz.ntmps86
 go_wp2
 go_ret
 exact ⟨rfl, rfl⟩
theorem But.set4 {g k : Nat} {a w : World} (h : But g a w) (hk : a.heap.size ≤ k) (u0 u1 u2 u3 : Value) : But g a ((((w.setCell ⟨k, 0, none⟩ u0).setCell ⟨k, 1, none⟩ u1).setCell ⟨k, 2, none⟩ u2).setCell ⟨k, 3, none⟩ u3) :=
 (((h.far hk 0 u0).far hk 1 u1).far hk 2 u2).far hk 3 u3
theorem WdL.set4 {w : World} {g B k : Nat} {l : List (List UInt8)} (h : WdL w g B l) (hk : B ≤ k) (u0 u1 u2 u3 : Value) : WdL ((((w.setCell ⟨k, 0, none⟩ u0).setCell ⟨k, 1, none⟩ u1).setCell ⟨k, 2, none⟩ u2).setCell ⟨k, 3, none⟩ u3) g B l :=
 (((h.set hk 0 u0).set hk 1 u1).set hk 2 u2).set hk 3 u3
theorem Blk.fill4 {w : World} {g : Nat} {T : TypeId} {a b c d : Value} (h : Blk w g T #[a, b, c, d]) (u0 u1 u2 u3 : Value) :
  Blk ((((w.setCell ⟨g, 0, none⟩ u0).setCell ⟨g, 1, none⟩ u1).setCell ⟨g, 2, none⟩ u2).setCell ⟨g, 3, none⟩ u3) g T #[u0, u1, u2, u3] := by
 simpa using (((h.set_ 0 u0).set_ 1 u1).set_ 2 u2).set_ 3 u3
set_option maxRecDepth 20000 in
set_option maxHeartbeats 4000000 in
theorem PCond_any (g B : Nat) (l : List (List UInt8)) (w0 w : World) (hT : Tab w0) (hV : Vars w0) (h0 : Ext w0 w) (hg : w0.heap.size ≤ g) (h : WdL w g B l) (hl : ∀ x ∈ l, x.length ≤ 1048576) :
  Calls Tryz.prog 48 #[(.func (.func 46) #[] #[.pointer (some ⟨g, 0, none⟩)])] w (CoP (readC l) g B w) := by
 have hok := fun c q W (h : readC l = some (c, q)) hw hb => CoP.ok (w := w) (w' := W) (g := g) (B := B) h hw hb
 have hno := fun W (h : readC l = none) hb => CoP.no (w := w) (w' := W) (g := g) (B := B) h hb
 generalize CoP (readC l) g B w = Post at hok hno ⊢
 have hmf : ∀ (fn : Fn) (first cap : Array Value) (w : World), (Instr.makeFunc fn first cap).run Tryz.prog w = .ok (.func fn first cap) w := fun _ _ _ _ => rfl
 have hgl := h.lt
 have hBw := h.up
 obtain ⟨R, C⟩ := cond_two w 48 #[.int .i64 0, .bool false, .string ⟨#[]⟩, .int .i64 0]
 have hW := (h.alloc (Obj.cells #[.int .i64 0, .bool false, .string ⟨#[]⟩, .int .i64 0] 48)).alloc (Obj.cells #[.int .i64 0, .bool false, .string ⟨#[]⟩, .int .i64 0] 48)
 have hb := ((But.refl g w).alloc (Obj.cells #[.int .i64 0, .bool false, .string ⟨#[]⟩, .int .i64 0] 48)).alloc (Obj.cells #[.int .i64 0, .bool false, .string ⟨#[]⟩, .int .i64 0] 48)
 generalize hWb : (w.alloc (Obj.cells #[.int .i64 0, .bool false, .string ⟨#[]⟩, .int .i64 0] 48)).alloc (Obj.cells #[.int .i64 0, .bool false, .string ⟨#[]⟩, .int .i64 0] 48) = W1 at R C hW hb
 generalize hrb : w.heap.size = rb at R C hBw
 clear h
 replace hok := hide hok
 replace hno := hide hno
 replace hT := hide hT
 replace hV := hide hV
 replace h0 := hide h0
 replace hl := hide hl
 replace R := hide R
 replace C := hide C
 replace hW := hide hW
 replace hb := hide hb
 go_enter Tryz.func48, Tryz.ntmps48
 go_wp2_with fail
 clear hWb
 rcases l with _ | ⟨x, r⟩
 ·refine (next_none g _ B hW.out).mono ?_
  rintro e W2 ⟨rfl, he⟩
  go_wp2
  exact ⟨rfl, hno.out _ rfl (hb.out.trans (But.of he))⟩
 refine (next_some g x r _ B hW.out).mono ?_
 rintro e W2 ⟨rfl, hb2, hW2⟩
 replace hb := hide (hb.out.trans hb2)
 replace R := hide (R.out.but hb2 (by omega))
 replace C := hide (C.out.but hb2 (by omega))
 clear hb2 hW
 replace hW := hide hW2
 clear hW2
 go_upto_if 8 with fail
 go_cut [4] (fun s4 wx => ∃ (neg : Bool) (y : List UInt8) (q : List (List UInt8)), s4 = .string ⟨y.toArray⟩ ∧ readC (x :: r) = readV neg (y :: q) ∧ WdL wx g B q ∧ (∀ z ∈ (y :: q), z ∈ (x :: r)) ∧ But g w wx ∧ Blk wx rb 48 #[.int .i64 0, .bool false, .string ⟨#[]⟩, .int .i64 0] ∧ Blk wx (rb + 1) 48 #[.int .i64 0, .bool neg, .string ⟨#[]⟩, .int .i64 0])
 case first =>
  have C_0 := C.out.cell 0
  have C_1 : W2.cell? ⟨rb + 1, 1, none⟩ = some (.bool false) := C.out.cell 1
  have C_f := fun i => C.out.frozen i
  by_cases hn : x = [110, 111, 116]
  ·subst hn
   have hrc : readC ([110, 111, 116] :: r) = readV true r := readC_not r
   have hW3 := hide (hW.out.set (show B ≤ rb + 1 by omega) 1 (.bool true))
   have hb3 := hide (hb.out.far (k := rb + 1) (by omega) 1 (.bool true))
   have R3 := hide (R.out.far (p := ⟨rb + 1, 1, none⟩) (show rb ≠ rb + 1 by omega) (.bool true))
   have C3 := hide (C.out.set_ 1 (.bool true))
   replace hrc := hide hrc
   go_wp2_with fail
   rcases r with _ | ⟨y, q⟩
   ·refine (next_none g _ B hW3.out).mono ?_
    rintro e W4 ⟨rfl, he⟩
    go_wp2
    exact ⟨rfl, hno.out _ hrc.out (hb3.out.trans (But.of he))⟩
   ·refine (next_some g y q _ B hW3.out).mono ?_
    rintro e W4 ⟨rfl, hb2, hW4⟩
    replace hb4 := hide (hb3.out.trans hb2)
    replace R4 := hide (R3.out.but hb2 (by omega))
    replace C4 := hide (C3.out.but hb2 (by omega))
    clear hb2 hW3 hb3 R3 C3
    replace hW4 := hide hW4
    go_wp2_with fail
    go_meet
    case rel => exact ⟨true, y, q, rfl, hrc.out, hW4.out, fun z hz => List.mem_cons_of_mem _ hz, hb4.out, R4.out, C4.out⟩
  ·have e1 : (x == [110, 111, 116]) = false := beq_eq_false_iff_ne.2 hn
   have hrc : readC (x :: r) = readV false (x :: r) := if_neg hn
   replace hrc := hide hrc
   rw [e1]
   go_wp2_with fail
   go_meet
   case rel => exact ⟨false, x, r, rfl, hrc.out, hW.out, fun z hz => hz, hb.out, R.out, C.out⟩
 case rest =>
  clear hb R C hW
  obtain ⟨neg, y, q, rfl, hrc, hW, hmem, hb, R, C⟩ := hcut
  rw [hrc] at hok hno
  clear hrc
  have hlq : ∀ z ∈ (y :: q), z.length ≤ 1048576 := fun z hz => hl.out z (hmem z hz)
  clear hmem hl
  generalize x :: r = l0 at *
  replace hW := hide hW
  replace hb := hide hb
  replace R := hide R
  replace C := hide C
  replace hlq := hide hlq
  rcases kw_cases y with rfl | rfl | rfl | rfl | rfl | rfl | rfl | ⟨hi, hno2⟩
  ·have hrv : ∀ x s, readV neg ([112, 114, 101, 102, 105, 120] :: x :: s) = some (⟨1, neg, x, 0⟩, s) := fun x s => by simp [readV]
   replace hrv := hide hrv
   have K := Blk.new wc 9 #[.string ⟨#[112, 114, 101, 102, 105, 120]⟩, .string ⟨#[99, 111, 109, 109]⟩, .string ⟨#[112, 97, 116, 104]⟩, .string ⟨#[112, 101, 101, 114]⟩, .string ⟨#[111, 114, 105, 103, 105, 110]⟩, .string ⟨#[108, 101, 110, 103, 116, 104]⟩, .string ⟨#[102, 97, 109]⟩]
   have hW3 := hW.out.alloc (Obj.cells #[.string ⟨#[112, 114, 101, 102, 105, 120]⟩, .string ⟨#[99, 111, 109, 109]⟩, .string ⟨#[112, 97, 116, 104]⟩, .string ⟨#[112, 101, 101, 114]⟩, .string ⟨#[111, 114, 105, 103, 105, 110]⟩, .string ⟨#[108, 101, 110, 103, 116, 104]⟩, .string ⟨#[102, 97, 109]⟩] 9)
   have hb3 := hb.out.alloc (Obj.cells #[.string ⟨#[112, 114, 101, 102, 105, 120]⟩, .string ⟨#[99, 111, 109, 109]⟩, .string ⟨#[112, 97, 116, 104]⟩, .string ⟨#[112, 101, 101, 114]⟩, .string ⟨#[111, 114, 105, 103, 105, 110]⟩, .string ⟨#[108, 101, 110, 103, 116, 104]⟩, .string ⟨#[102, 97, 109]⟩] 9)
   have R3 := R.out.alloc (Obj.cells #[.string ⟨#[112, 114, 101, 102, 105, 120]⟩, .string ⟨#[99, 111, 109, 109]⟩, .string ⟨#[112, 97, 116, 104]⟩, .string ⟨#[112, 101, 101, 114]⟩, .string ⟨#[111, 114, 105, 103, 105, 110]⟩, .string ⟨#[108, 101, 110, 103, 116, 104]⟩, .string ⟨#[102, 97, 109]⟩] 9)
   have C3 := C.out.alloc (Obj.cells #[.string ⟨#[112, 114, 101, 102, 105, 120]⟩, .string ⟨#[99, 111, 109, 109]⟩, .string ⟨#[112, 97, 116, 104]⟩, .string ⟨#[112, 101, 101, 114]⟩, .string ⟨#[111, 114, 105, 103, 105, 110]⟩, .string ⟨#[108, 101, 110, 103, 116, 104]⟩, .string ⟨#[102, 97, 109]⟩] 9)
   clear hW hb R C
   generalize hWc : wc.alloc (Obj.cells #[.string ⟨#[112, 114, 101, 102, 105, 120]⟩, .string ⟨#[99, 111, 109, 109]⟩, .string ⟨#[112, 97, 116, 104]⟩, .string ⟨#[112, 101, 101, 114]⟩, .string ⟨#[111, 114, 105, 103, 105, 110]⟩, .string ⟨#[108, 101, 110, 103, 116, 104]⟩, .string ⟨#[102, 97, 109]⟩] 9) = W3 at K hW3 hb3 R3 C3
   generalize hkc : wc.heap.size = kc at K
   have hKs := sl_words kW (by decide) K
   have qi : Calls Tryz.prog 100 #[.slice (some ⟨kc, 0, none⟩) 7 7, .string ⟨#[112, 114, 101, 102, 105, 120]⟩] W3 fun e w' => e = .returned (.int .i64 0) ∧ W3 = w' := PIndex_some _ 7 kW [112, 114, 101, 102, 105, 120] 0 W3 _ (by decide) hKs (by decide) (by decide +kernel)
   clear K hKs
   have c0 : W3.cell? ⟨rb + 1, 0, none⟩ = some (.int .i64 0) := C3.cell 0
   have cf := fun i => C3.frozen i
   replace hW3 := hide hW3
   replace hb3 := hide hb3
   replace R3 := hide R3
   replace C3 := hide C3
   replace qi := hide qi
   go_wp2_with fail
   refine qi.out.mono ?_
   rintro e W4 ⟨rfl, rfl⟩
   clear qi hWc hkc
   have hW5 := hide (hW3.out.set (show B ≤ rb + 1 by omega) 0 (.int .i64 1))
   have hb5 := hide (hb3.out.far (k := rb + 1) (by omega) 0 (.int .i64 1))
   have R5 := hide (R3.out.far (p := ⟨rb + 1, 0, none⟩) (show rb ≠ rb + 1 by omega) (.int .i64 1))
   have C5 : Blk (W3.setCell ⟨rb + 1, 0, none⟩ (.int .i64 1)) (rb + 1) 48 #[.int .i64 1, .bool neg, .string ⟨#[]⟩, .int .i64 0] := C3.out.set_ 0 (.int .i64 1)
   replace C5 := hide C5
   clear hW3 hb3 R3 C3
   go_wp2_with fail
   rcases q with _ | ⟨x2, q⟩
   ·refine (next_none g _ B hW5.out).mono ?_
    rintro e W6 ⟨rfl, he⟩
    go_wp2
    exact ⟨rfl, hno.out _ (readV_one neg _) (hb5.out.trans (But.of he))⟩
   refine (next_some g x2 q _ B hW5.out).mono ?_
   rintro e W6 ⟨rfl, hb2, hW6⟩
   replace hb6 := hide (hb5.out.trans hb2)
   replace R6 := hide (R5.out.but hb2 (by omega))
   replace C6 := hide (C5.out.but hb2 (by omega))
   replace hW6 := hide hW6
   clear hW5 hb5 R5 C5 hb2 c0 cf
   have hx2 := hlq.out x2 (by simp)
   have c0 : W6.cell? ⟨rb + 1, 0, none⟩ = some (.int .i64 1) := C6.out.cell 0
   have c2 : W6.cell? ⟨rb + 1, 2, none⟩ = some (.string ⟨#[]⟩) := C6.out.cell 2
   have c3 : W6.cell? ⟨rb + 1, 3, none⟩ = some (.int .i64 0) := C6.out.cell 3
   have cf := fun i => C6.out.frozen i
   have hW7 := hide (hW6.out.set (show B ≤ rb + 1 by omega) 2 (.string ⟨x2.toArray⟩))
   have hb7 := hide (hb6.out.far (k := rb + 1) (by omega) 2 (.string ⟨x2.toArray⟩))
   have R7 := hide (R6.out.far (p := ⟨rb + 1, 2, none⟩) (show rb ≠ rb + 1 by omega) (.string ⟨x2.toArray⟩))
   have C7 : Blk (W6.setCell ⟨rb + 1, 2, none⟩ (.string ⟨x2.toArray⟩)) (rb + 1) 48 #[.int .i64 1, .bool neg, .string ⟨x2.toArray⟩, .int .i64 0] := C6.out.set_ 2 (.string ⟨x2.toArray⟩)
   replace C7 := hide C7
   go_upto_region 16 with fail
   generalize hW8 : W6.setCell ⟨rb + 1, 2, none⟩ (.string ⟨x2.toArray⟩) = W8 at hW7 hb7 R7 C7 ⊢
   clear c0 c2 c3 cf hW8
   have zz0 : W8.cell? ⟨rb + 1, 0, none⟩ = some (.int .i64 1) := C7.out.cell 0
   have zz1 : W8.cell? ⟨rb + 1, 1, none⟩ = some (.bool neg) := C7.out.cell 1
   have zz2 : W8.cell? ⟨rb + 1, 2, none⟩ = some (.string ⟨x2.toArray⟩) := C7.out.cell 2
   have zz3 : W8.cell? ⟨rb + 1, 3, none⟩ = some (.int .i64 0) := C7.out.cell 3
   have r0 : W8.cell? ⟨rb, 0, none⟩ = some (.int .i64 0) := R7.out.cell 0
   have r1 : W8.cell? ⟨rb, 1, none⟩ = some (.bool false) := R7.out.cell 1
   have r2 : W8.cell? ⟨rb, 2, none⟩ = some (.string ⟨#[]⟩) := R7.out.cell 2
   have r3 : W8.cell? ⟨rb, 3, none⟩ = some (.int .i64 0) := R7.out.cell 3
   have rf := fun i => R7.out.frozen i
   have hRZ := R7.out.fill4 (.int .i64 1) (.bool neg) (.string ⟨x2.toArray⟩) (.int .i64 0)
   have hWZ := hW7.out.set4 (show B ≤ rb by omega) (.int .i64 1) (.bool neg) (.string ⟨x2.toArray⟩) (.int .i64 0)
   have hbZ := hb7.out.set4 (k := rb) (by omega) (.int .i64 1) (.bool neg) (.string ⟨x2.toArray⟩) (.int .i64 0)
   have z0 := hRZ.cell 0
   have z1 := hRZ.cell 1
   have z2 := hRZ.cell 2
   have z3 := hRZ.cell 3
   simp at z0 z1 z2 z3
   clear hRZ
   replace hWZ := hide hWZ
   replace hbZ := hide hbZ
   go_wp2_with fail
   exact bodyPost_ret (v := .agg #[.int .i64 1, .bool neg, .string ⟨x2.toArray⟩, .int .i64 0]) (by simp [results, Tryz.results48, go_sem, z0, z1, z2, z3]) rfl (hok.out _ _ _ (hrv.out x2 q) hWZ.out hbZ.out)
  ·have hrv : ∀ x s, readV neg ([99, 111, 109, 109] :: x :: s) = some (⟨2, neg, x, 0⟩, s) := fun x s => by simp [readV]
   replace hrv := hide hrv
   have K := Blk.new wc 9 #[.string ⟨#[112, 114, 101, 102, 105, 120]⟩, .string ⟨#[99, 111, 109, 109]⟩, .string ⟨#[112, 97, 116, 104]⟩, .string ⟨#[112, 101, 101, 114]⟩, .string ⟨#[111, 114, 105, 103, 105, 110]⟩, .string ⟨#[108, 101, 110, 103, 116, 104]⟩, .string ⟨#[102, 97, 109]⟩]
   have hW3 := hW.out.alloc (Obj.cells #[.string ⟨#[112, 114, 101, 102, 105, 120]⟩, .string ⟨#[99, 111, 109, 109]⟩, .string ⟨#[112, 97, 116, 104]⟩, .string ⟨#[112, 101, 101, 114]⟩, .string ⟨#[111, 114, 105, 103, 105, 110]⟩, .string ⟨#[108, 101, 110, 103, 116, 104]⟩, .string ⟨#[102, 97, 109]⟩] 9)
   have hb3 := hb.out.alloc (Obj.cells #[.string ⟨#[112, 114, 101, 102, 105, 120]⟩, .string ⟨#[99, 111, 109, 109]⟩, .string ⟨#[112, 97, 116, 104]⟩, .string ⟨#[112, 101, 101, 114]⟩, .string ⟨#[111, 114, 105, 103, 105, 110]⟩, .string ⟨#[108, 101, 110, 103, 116, 104]⟩, .string ⟨#[102, 97, 109]⟩] 9)
   have R3 := R.out.alloc (Obj.cells #[.string ⟨#[112, 114, 101, 102, 105, 120]⟩, .string ⟨#[99, 111, 109, 109]⟩, .string ⟨#[112, 97, 116, 104]⟩, .string ⟨#[112, 101, 101, 114]⟩, .string ⟨#[111, 114, 105, 103, 105, 110]⟩, .string ⟨#[108, 101, 110, 103, 116, 104]⟩, .string ⟨#[102, 97, 109]⟩] 9)
   have C3 := C.out.alloc (Obj.cells #[.string ⟨#[112, 114, 101, 102, 105, 120]⟩, .string ⟨#[99, 111, 109, 109]⟩, .string ⟨#[112, 97, 116, 104]⟩, .string ⟨#[112, 101, 101, 114]⟩, .string ⟨#[111, 114, 105, 103, 105, 110]⟩, .string ⟨#[108, 101, 110, 103, 116, 104]⟩, .string ⟨#[102, 97, 109]⟩] 9)
   clear hW hb R C
   generalize hWc : wc.alloc (Obj.cells #[.string ⟨#[112, 114, 101, 102, 105, 120]⟩, .string ⟨#[99, 111, 109, 109]⟩, .string ⟨#[112, 97, 116, 104]⟩, .string ⟨#[112, 101, 101, 114]⟩, .string ⟨#[111, 114, 105, 103, 105, 110]⟩, .string ⟨#[108, 101, 110, 103, 116, 104]⟩, .string ⟨#[102, 97, 109]⟩] 9) = W3 at K hW3 hb3 R3 C3
   generalize hkc : wc.heap.size = kc at K
   have hKs := sl_words kW (by decide) K
   have qi : Calls Tryz.prog 100 #[.slice (some ⟨kc, 0, none⟩) 7 7, .string ⟨#[99, 111, 109, 109]⟩] W3 fun e w' => e = .returned (.int .i64 1) ∧ W3 = w' := PIndex_some _ 7 kW [99, 111, 109, 109] 1 W3 _ (by decide) hKs (by decide) (by decide +kernel)
   clear K hKs
   have c0 : W3.cell? ⟨rb + 1, 0, none⟩ = some (.int .i64 0) := C3.cell 0
   have cf := fun i => C3.frozen i
   replace hW3 := hide hW3
   replace hb3 := hide hb3
   replace R3 := hide R3
   replace C3 := hide C3
   replace qi := hide qi
   go_wp2_with fail
   refine qi.out.mono ?_
   rintro e W4 ⟨rfl, rfl⟩
   clear qi hWc hkc
   have hW5 := hide (hW3.out.set (show B ≤ rb + 1 by omega) 0 (.int .i64 2))
   have hb5 := hide (hb3.out.far (k := rb + 1) (by omega) 0 (.int .i64 2))
   have R5 := hide (R3.out.far (p := ⟨rb + 1, 0, none⟩) (show rb ≠ rb + 1 by omega) (.int .i64 2))
   have C5 : Blk (W3.setCell ⟨rb + 1, 0, none⟩ (.int .i64 2)) (rb + 1) 48 #[.int .i64 2, .bool neg, .string ⟨#[]⟩, .int .i64 0] := C3.out.set_ 0 (.int .i64 2)
   replace C5 := hide C5
   clear hW3 hb3 R3 C3
   go_wp2_with fail
   rcases q with _ | ⟨x2, q⟩
   ·refine (next_none g _ B hW5.out).mono ?_
    rintro e W6 ⟨rfl, he⟩
    go_wp2
    exact ⟨rfl, hno.out _ (readV_one neg _) (hb5.out.trans (But.of he))⟩
   refine (next_some g x2 q _ B hW5.out).mono ?_
   rintro e W6 ⟨rfl, hb2, hW6⟩
   replace hb6 := hide (hb5.out.trans hb2)
   replace R6 := hide (R5.out.but hb2 (by omega))
   replace C6 := hide (C5.out.but hb2 (by omega))
   replace hW6 := hide hW6
   clear hW5 hb5 R5 C5 hb2 c0 cf
   have hx2 := hlq.out x2 (by simp)
   have c0 : W6.cell? ⟨rb + 1, 0, none⟩ = some (.int .i64 2) := C6.out.cell 0
   have c2 : W6.cell? ⟨rb + 1, 2, none⟩ = some (.string ⟨#[]⟩) := C6.out.cell 2
   have c3 : W6.cell? ⟨rb + 1, 3, none⟩ = some (.int .i64 0) := C6.out.cell 3
   have cf := fun i => C6.out.frozen i
   have hW7 := hide (hW6.out.set (show B ≤ rb + 1 by omega) 2 (.string ⟨x2.toArray⟩))
   have hb7 := hide (hb6.out.far (k := rb + 1) (by omega) 2 (.string ⟨x2.toArray⟩))
   have R7 := hide (R6.out.far (p := ⟨rb + 1, 2, none⟩) (show rb ≠ rb + 1 by omega) (.string ⟨x2.toArray⟩))
   have C7 : Blk (W6.setCell ⟨rb + 1, 2, none⟩ (.string ⟨x2.toArray⟩)) (rb + 1) 48 #[.int .i64 2, .bool neg, .string ⟨x2.toArray⟩, .int .i64 0] := C6.out.set_ 2 (.string ⟨x2.toArray⟩)
   replace C7 := hide C7
   go_upto_region 16 with fail
   generalize hW8 : W6.setCell ⟨rb + 1, 2, none⟩ (.string ⟨x2.toArray⟩) = W8 at hW7 hb7 R7 C7 ⊢
   clear c0 c2 c3 cf hW8
   have zz0 : W8.cell? ⟨rb + 1, 0, none⟩ = some (.int .i64 2) := C7.out.cell 0
   have zz1 : W8.cell? ⟨rb + 1, 1, none⟩ = some (.bool neg) := C7.out.cell 1
   have zz2 : W8.cell? ⟨rb + 1, 2, none⟩ = some (.string ⟨x2.toArray⟩) := C7.out.cell 2
   have zz3 : W8.cell? ⟨rb + 1, 3, none⟩ = some (.int .i64 0) := C7.out.cell 3
   have r0 : W8.cell? ⟨rb, 0, none⟩ = some (.int .i64 0) := R7.out.cell 0
   have r1 : W8.cell? ⟨rb, 1, none⟩ = some (.bool false) := R7.out.cell 1
   have r2 : W8.cell? ⟨rb, 2, none⟩ = some (.string ⟨#[]⟩) := R7.out.cell 2
   have r3 : W8.cell? ⟨rb, 3, none⟩ = some (.int .i64 0) := R7.out.cell 3
   have rf := fun i => R7.out.frozen i
   have hRZ := R7.out.fill4 (.int .i64 2) (.bool neg) (.string ⟨x2.toArray⟩) (.int .i64 0)
   have hWZ := hW7.out.set4 (show B ≤ rb by omega) (.int .i64 2) (.bool neg) (.string ⟨x2.toArray⟩) (.int .i64 0)
   have hbZ := hb7.out.set4 (k := rb) (by omega) (.int .i64 2) (.bool neg) (.string ⟨x2.toArray⟩) (.int .i64 0)
   have z0 := hRZ.cell 0
   have z1 := hRZ.cell 1
   have z2 := hRZ.cell 2
   have z3 := hRZ.cell 3
   simp at z0 z1 z2 z3
   clear hRZ
   replace hWZ := hide hWZ
   replace hbZ := hide hbZ
   go_wp2_with fail
   exact bodyPost_ret (v := .agg #[.int .i64 2, .bool neg, .string ⟨x2.toArray⟩, .int .i64 0]) (by simp [results, Tryz.results48, go_sem, z0, z1, z2, z3]) rfl (hok.out _ _ _ (hrv.out x2 q) hWZ.out hbZ.out)
  ·have hrv : ∀ x s, readV neg ([112, 97, 116, 104] :: x :: s) = some (⟨3, neg, x, 0⟩, s) := fun x s => by simp [readV]
   replace hrv := hide hrv
   have K := Blk.new wc 9 #[.string ⟨#[112, 114, 101, 102, 105, 120]⟩, .string ⟨#[99, 111, 109, 109]⟩, .string ⟨#[112, 97, 116, 104]⟩, .string ⟨#[112, 101, 101, 114]⟩, .string ⟨#[111, 114, 105, 103, 105, 110]⟩, .string ⟨#[108, 101, 110, 103, 116, 104]⟩, .string ⟨#[102, 97, 109]⟩]
   have hW3 := hW.out.alloc (Obj.cells #[.string ⟨#[112, 114, 101, 102, 105, 120]⟩, .string ⟨#[99, 111, 109, 109]⟩, .string ⟨#[112, 97, 116, 104]⟩, .string ⟨#[112, 101, 101, 114]⟩, .string ⟨#[111, 114, 105, 103, 105, 110]⟩, .string ⟨#[108, 101, 110, 103, 116, 104]⟩, .string ⟨#[102, 97, 109]⟩] 9)
   have hb3 := hb.out.alloc (Obj.cells #[.string ⟨#[112, 114, 101, 102, 105, 120]⟩, .string ⟨#[99, 111, 109, 109]⟩, .string ⟨#[112, 97, 116, 104]⟩, .string ⟨#[112, 101, 101, 114]⟩, .string ⟨#[111, 114, 105, 103, 105, 110]⟩, .string ⟨#[108, 101, 110, 103, 116, 104]⟩, .string ⟨#[102, 97, 109]⟩] 9)
   have R3 := R.out.alloc (Obj.cells #[.string ⟨#[112, 114, 101, 102, 105, 120]⟩, .string ⟨#[99, 111, 109, 109]⟩, .string ⟨#[112, 97, 116, 104]⟩, .string ⟨#[112, 101, 101, 114]⟩, .string ⟨#[111, 114, 105, 103, 105, 110]⟩, .string ⟨#[108, 101, 110, 103, 116, 104]⟩, .string ⟨#[102, 97, 109]⟩] 9)
   have C3 := C.out.alloc (Obj.cells #[.string ⟨#[112, 114, 101, 102, 105, 120]⟩, .string ⟨#[99, 111, 109, 109]⟩, .string ⟨#[112, 97, 116, 104]⟩, .string ⟨#[112, 101, 101, 114]⟩, .string ⟨#[111, 114, 105, 103, 105, 110]⟩, .string ⟨#[108, 101, 110, 103, 116, 104]⟩, .string ⟨#[102, 97, 109]⟩] 9)
   clear hW hb R C
   generalize hWc : wc.alloc (Obj.cells #[.string ⟨#[112, 114, 101, 102, 105, 120]⟩, .string ⟨#[99, 111, 109, 109]⟩, .string ⟨#[112, 97, 116, 104]⟩, .string ⟨#[112, 101, 101, 114]⟩, .string ⟨#[111, 114, 105, 103, 105, 110]⟩, .string ⟨#[108, 101, 110, 103, 116, 104]⟩, .string ⟨#[102, 97, 109]⟩] 9) = W3 at K hW3 hb3 R3 C3
   generalize hkc : wc.heap.size = kc at K
   have hKs := sl_words kW (by decide) K
   have qi : Calls Tryz.prog 100 #[.slice (some ⟨kc, 0, none⟩) 7 7, .string ⟨#[112, 97, 116, 104]⟩] W3 fun e w' => e = .returned (.int .i64 2) ∧ W3 = w' := PIndex_some _ 7 kW [112, 97, 116, 104] 2 W3 _ (by decide) hKs (by decide) (by decide +kernel)
   clear K hKs
   have c0 : W3.cell? ⟨rb + 1, 0, none⟩ = some (.int .i64 0) := C3.cell 0
   have cf := fun i => C3.frozen i
   replace hW3 := hide hW3
   replace hb3 := hide hb3
   replace R3 := hide R3
   replace C3 := hide C3
   replace qi := hide qi
   go_wp2_with fail
   refine qi.out.mono ?_
   rintro e W4 ⟨rfl, rfl⟩
   clear qi hWc hkc
   have hW5 := hide (hW3.out.set (show B ≤ rb + 1 by omega) 0 (.int .i64 3))
   have hb5 := hide (hb3.out.far (k := rb + 1) (by omega) 0 (.int .i64 3))
   have R5 := hide (R3.out.far (p := ⟨rb + 1, 0, none⟩) (show rb ≠ rb + 1 by omega) (.int .i64 3))
   have C5 : Blk (W3.setCell ⟨rb + 1, 0, none⟩ (.int .i64 3)) (rb + 1) 48 #[.int .i64 3, .bool neg, .string ⟨#[]⟩, .int .i64 0] := C3.out.set_ 0 (.int .i64 3)
   replace C5 := hide C5
   clear hW3 hb3 R3 C3
   go_wp2_with fail
   rcases q with _ | ⟨x2, q⟩
   ·refine (next_none g _ B hW5.out).mono ?_
    rintro e W6 ⟨rfl, he⟩
    go_wp2
    exact ⟨rfl, hno.out _ (readV_one neg _) (hb5.out.trans (But.of he))⟩
   refine (next_some g x2 q _ B hW5.out).mono ?_
   rintro e W6 ⟨rfl, hb2, hW6⟩
   replace hb6 := hide (hb5.out.trans hb2)
   replace R6 := hide (R5.out.but hb2 (by omega))
   replace C6 := hide (C5.out.but hb2 (by omega))
   replace hW6 := hide hW6
   clear hW5 hb5 R5 C5 hb2 c0 cf
   have hx2 := hlq.out x2 (by simp)
   have c0 : W6.cell? ⟨rb + 1, 0, none⟩ = some (.int .i64 3) := C6.out.cell 0
   have c2 : W6.cell? ⟨rb + 1, 2, none⟩ = some (.string ⟨#[]⟩) := C6.out.cell 2
   have c3 : W6.cell? ⟨rb + 1, 3, none⟩ = some (.int .i64 0) := C6.out.cell 3
   have cf := fun i => C6.out.frozen i
   have hW7 := hide (hW6.out.set (show B ≤ rb + 1 by omega) 2 (.string ⟨x2.toArray⟩))
   have hb7 := hide (hb6.out.far (k := rb + 1) (by omega) 2 (.string ⟨x2.toArray⟩))
   have R7 := hide (R6.out.far (p := ⟨rb + 1, 2, none⟩) (show rb ≠ rb + 1 by omega) (.string ⟨x2.toArray⟩))
   have C7 : Blk (W6.setCell ⟨rb + 1, 2, none⟩ (.string ⟨x2.toArray⟩)) (rb + 1) 48 #[.int .i64 3, .bool neg, .string ⟨x2.toArray⟩, .int .i64 0] := C6.out.set_ 2 (.string ⟨x2.toArray⟩)
   replace C7 := hide C7
   go_upto_region 16 with fail
   generalize hW8 : W6.setCell ⟨rb + 1, 2, none⟩ (.string ⟨x2.toArray⟩) = W8 at hW7 hb7 R7 C7 ⊢
   clear c0 c2 c3 cf hW8
   have zz0 : W8.cell? ⟨rb + 1, 0, none⟩ = some (.int .i64 3) := C7.out.cell 0
   have zz1 : W8.cell? ⟨rb + 1, 1, none⟩ = some (.bool neg) := C7.out.cell 1
   have zz2 : W8.cell? ⟨rb + 1, 2, none⟩ = some (.string ⟨x2.toArray⟩) := C7.out.cell 2
   have zz3 : W8.cell? ⟨rb + 1, 3, none⟩ = some (.int .i64 0) := C7.out.cell 3
   have r0 : W8.cell? ⟨rb, 0, none⟩ = some (.int .i64 0) := R7.out.cell 0
   have r1 : W8.cell? ⟨rb, 1, none⟩ = some (.bool false) := R7.out.cell 1
   have r2 : W8.cell? ⟨rb, 2, none⟩ = some (.string ⟨#[]⟩) := R7.out.cell 2
   have r3 : W8.cell? ⟨rb, 3, none⟩ = some (.int .i64 0) := R7.out.cell 3
   have rf := fun i => R7.out.frozen i
   have hRZ := R7.out.fill4 (.int .i64 3) (.bool neg) (.string ⟨x2.toArray⟩) (.int .i64 0)
   have hWZ := hW7.out.set4 (show B ≤ rb by omega) (.int .i64 3) (.bool neg) (.string ⟨x2.toArray⟩) (.int .i64 0)
   have hbZ := hb7.out.set4 (k := rb) (by omega) (.int .i64 3) (.bool neg) (.string ⟨x2.toArray⟩) (.int .i64 0)
   have z0 := hRZ.cell 0
   have z1 := hRZ.cell 1
   have z2 := hRZ.cell 2
   have z3 := hRZ.cell 3
   simp at z0 z1 z2 z3
   clear hRZ
   replace hWZ := hide hWZ
   replace hbZ := hide hbZ
   go_wp2_with fail
   exact bodyPost_ret (v := .agg #[.int .i64 3, .bool neg, .string ⟨x2.toArray⟩, .int .i64 0]) (by simp [results, Tryz.results48, go_sem, z0, z1, z2, z3]) rfl (hok.out _ _ _ (hrv.out x2 q) hWZ.out hbZ.out)
  ·have hrv : ∀ x s, readV neg ([112, 101, 101, 114] :: x :: s) = some (⟨4, neg, x, 0⟩, s) := fun x s => by simp [readV]
   replace hrv := hide hrv
   have K := Blk.new wc 9 #[.string ⟨#[112, 114, 101, 102, 105, 120]⟩, .string ⟨#[99, 111, 109, 109]⟩, .string ⟨#[112, 97, 116, 104]⟩, .string ⟨#[112, 101, 101, 114]⟩, .string ⟨#[111, 114, 105, 103, 105, 110]⟩, .string ⟨#[108, 101, 110, 103, 116, 104]⟩, .string ⟨#[102, 97, 109]⟩]
   have hW3 := hW.out.alloc (Obj.cells #[.string ⟨#[112, 114, 101, 102, 105, 120]⟩, .string ⟨#[99, 111, 109, 109]⟩, .string ⟨#[112, 97, 116, 104]⟩, .string ⟨#[112, 101, 101, 114]⟩, .string ⟨#[111, 114, 105, 103, 105, 110]⟩, .string ⟨#[108, 101, 110, 103, 116, 104]⟩, .string ⟨#[102, 97, 109]⟩] 9)
   have hb3 := hb.out.alloc (Obj.cells #[.string ⟨#[112, 114, 101, 102, 105, 120]⟩, .string ⟨#[99, 111, 109, 109]⟩, .string ⟨#[112, 97, 116, 104]⟩, .string ⟨#[112, 101, 101, 114]⟩, .string ⟨#[111, 114, 105, 103, 105, 110]⟩, .string ⟨#[108, 101, 110, 103, 116, 104]⟩, .string ⟨#[102, 97, 109]⟩] 9)
   have R3 := R.out.alloc (Obj.cells #[.string ⟨#[112, 114, 101, 102, 105, 120]⟩, .string ⟨#[99, 111, 109, 109]⟩, .string ⟨#[112, 97, 116, 104]⟩, .string ⟨#[112, 101, 101, 114]⟩, .string ⟨#[111, 114, 105, 103, 105, 110]⟩, .string ⟨#[108, 101, 110, 103, 116, 104]⟩, .string ⟨#[102, 97, 109]⟩] 9)
   have C3 := C.out.alloc (Obj.cells #[.string ⟨#[112, 114, 101, 102, 105, 120]⟩, .string ⟨#[99, 111, 109, 109]⟩, .string ⟨#[112, 97, 116, 104]⟩, .string ⟨#[112, 101, 101, 114]⟩, .string ⟨#[111, 114, 105, 103, 105, 110]⟩, .string ⟨#[108, 101, 110, 103, 116, 104]⟩, .string ⟨#[102, 97, 109]⟩] 9)
   clear hW hb R C
   generalize hWc : wc.alloc (Obj.cells #[.string ⟨#[112, 114, 101, 102, 105, 120]⟩, .string ⟨#[99, 111, 109, 109]⟩, .string ⟨#[112, 97, 116, 104]⟩, .string ⟨#[112, 101, 101, 114]⟩, .string ⟨#[111, 114, 105, 103, 105, 110]⟩, .string ⟨#[108, 101, 110, 103, 116, 104]⟩, .string ⟨#[102, 97, 109]⟩] 9) = W3 at K hW3 hb3 R3 C3
   generalize hkc : wc.heap.size = kc at K
   have hKs := sl_words kW (by decide) K
   have qi : Calls Tryz.prog 100 #[.slice (some ⟨kc, 0, none⟩) 7 7, .string ⟨#[112, 101, 101, 114]⟩] W3 fun e w' => e = .returned (.int .i64 3) ∧ W3 = w' := PIndex_some _ 7 kW [112, 101, 101, 114] 3 W3 _ (by decide) hKs (by decide) (by decide +kernel)
   clear K hKs
   have c0 : W3.cell? ⟨rb + 1, 0, none⟩ = some (.int .i64 0) := C3.cell 0
   have cf := fun i => C3.frozen i
   replace hW3 := hide hW3
   replace hb3 := hide hb3
   replace R3 := hide R3
   replace C3 := hide C3
   replace qi := hide qi
   go_wp2_with fail
   refine qi.out.mono ?_
   rintro e W4 ⟨rfl, rfl⟩
   clear qi hWc hkc
   have hW5 := hide (hW3.out.set (show B ≤ rb + 1 by omega) 0 (.int .i64 4))
   have hb5 := hide (hb3.out.far (k := rb + 1) (by omega) 0 (.int .i64 4))
   have R5 := hide (R3.out.far (p := ⟨rb + 1, 0, none⟩) (show rb ≠ rb + 1 by omega) (.int .i64 4))
   have C5 : Blk (W3.setCell ⟨rb + 1, 0, none⟩ (.int .i64 4)) (rb + 1) 48 #[.int .i64 4, .bool neg, .string ⟨#[]⟩, .int .i64 0] := C3.out.set_ 0 (.int .i64 4)
   replace C5 := hide C5
   clear hW3 hb3 R3 C3
   go_wp2_with fail
   rcases q with _ | ⟨x2, q⟩
   ·refine (next_none g _ B hW5.out).mono ?_
    rintro e W6 ⟨rfl, he⟩
    go_wp2
    exact ⟨rfl, hno.out _ (readV_one neg _) (hb5.out.trans (But.of he))⟩
   refine (next_some g x2 q _ B hW5.out).mono ?_
   rintro e W6 ⟨rfl, hb2, hW6⟩
   replace hb6 := hide (hb5.out.trans hb2)
   replace R6 := hide (R5.out.but hb2 (by omega))
   replace C6 := hide (C5.out.but hb2 (by omega))
   replace hW6 := hide hW6
   clear hW5 hb5 R5 C5 hb2 c0 cf
   have hx2 := hlq.out x2 (by simp)
   have c0 : W6.cell? ⟨rb + 1, 0, none⟩ = some (.int .i64 4) := C6.out.cell 0
   have c2 : W6.cell? ⟨rb + 1, 2, none⟩ = some (.string ⟨#[]⟩) := C6.out.cell 2
   have c3 : W6.cell? ⟨rb + 1, 3, none⟩ = some (.int .i64 0) := C6.out.cell 3
   have cf := fun i => C6.out.frozen i
   have hW7 := hide (hW6.out.set (show B ≤ rb + 1 by omega) 2 (.string ⟨x2.toArray⟩))
   have hb7 := hide (hb6.out.far (k := rb + 1) (by omega) 2 (.string ⟨x2.toArray⟩))
   have R7 := hide (R6.out.far (p := ⟨rb + 1, 2, none⟩) (show rb ≠ rb + 1 by omega) (.string ⟨x2.toArray⟩))
   have C7 : Blk (W6.setCell ⟨rb + 1, 2, none⟩ (.string ⟨x2.toArray⟩)) (rb + 1) 48 #[.int .i64 4, .bool neg, .string ⟨x2.toArray⟩, .int .i64 0] := C6.out.set_ 2 (.string ⟨x2.toArray⟩)
   replace C7 := hide C7
   go_upto_region 16 with fail
   generalize hW8 : W6.setCell ⟨rb + 1, 2, none⟩ (.string ⟨x2.toArray⟩) = W8 at hW7 hb7 R7 C7 ⊢
   clear c0 c2 c3 cf hW8
   have zz0 : W8.cell? ⟨rb + 1, 0, none⟩ = some (.int .i64 4) := C7.out.cell 0
   have zz1 : W8.cell? ⟨rb + 1, 1, none⟩ = some (.bool neg) := C7.out.cell 1
   have zz2 : W8.cell? ⟨rb + 1, 2, none⟩ = some (.string ⟨x2.toArray⟩) := C7.out.cell 2
   have zz3 : W8.cell? ⟨rb + 1, 3, none⟩ = some (.int .i64 0) := C7.out.cell 3
   have r0 : W8.cell? ⟨rb, 0, none⟩ = some (.int .i64 0) := R7.out.cell 0
   have r1 : W8.cell? ⟨rb, 1, none⟩ = some (.bool false) := R7.out.cell 1
   have r2 : W8.cell? ⟨rb, 2, none⟩ = some (.string ⟨#[]⟩) := R7.out.cell 2
   have r3 : W8.cell? ⟨rb, 3, none⟩ = some (.int .i64 0) := R7.out.cell 3
   have rf := fun i => R7.out.frozen i
   have hRZ := R7.out.fill4 (.int .i64 4) (.bool neg) (.string ⟨x2.toArray⟩) (.int .i64 0)
   have hWZ := hW7.out.set4 (show B ≤ rb by omega) (.int .i64 4) (.bool neg) (.string ⟨x2.toArray⟩) (.int .i64 0)
   have hbZ := hb7.out.set4 (k := rb) (by omega) (.int .i64 4) (.bool neg) (.string ⟨x2.toArray⟩) (.int .i64 0)
   have z0 := hRZ.cell 0
   have z1 := hRZ.cell 1
   have z2 := hRZ.cell 2
   have z3 := hRZ.cell 3
   simp at z0 z1 z2 z3
   clear hRZ
   replace hWZ := hide hWZ
   replace hbZ := hide hbZ
   go_wp2_with fail
   exact bodyPost_ret (v := .agg #[.int .i64 4, .bool neg, .string ⟨x2.toArray⟩, .int .i64 0]) (by simp [results, Tryz.results48, go_sem, z0, z1, z2, z3]) rfl (hok.out _ _ _ (hrv.out x2 q) hWZ.out hbZ.out)
  ·have hrv : ∀ x s, readV neg ([111, 114, 105, 103, 105, 110] :: x :: s) = (originN x).map fun n => (⟨5, neg, [], n⟩, s) := fun x s => by simp [readV]
   replace hrv := hide hrv
   have K := Blk.new wc 9 #[.string ⟨#[112, 114, 101, 102, 105, 120]⟩, .string ⟨#[99, 111, 109, 109]⟩, .string ⟨#[112, 97, 116, 104]⟩, .string ⟨#[112, 101, 101, 114]⟩, .string ⟨#[111, 114, 105, 103, 105, 110]⟩, .string ⟨#[108, 101, 110, 103, 116, 104]⟩, .string ⟨#[102, 97, 109]⟩]
   have hW3 := hW.out.alloc (Obj.cells #[.string ⟨#[112, 114, 101, 102, 105, 120]⟩, .string ⟨#[99, 111, 109, 109]⟩, .string ⟨#[112, 97, 116, 104]⟩, .string ⟨#[112, 101, 101, 114]⟩, .string ⟨#[111, 114, 105, 103, 105, 110]⟩, .string ⟨#[108, 101, 110, 103, 116, 104]⟩, .string ⟨#[102, 97, 109]⟩] 9)
   have hb3 := hb.out.alloc (Obj.cells #[.string ⟨#[112, 114, 101, 102, 105, 120]⟩, .string ⟨#[99, 111, 109, 109]⟩, .string ⟨#[112, 97, 116, 104]⟩, .string ⟨#[112, 101, 101, 114]⟩, .string ⟨#[111, 114, 105, 103, 105, 110]⟩, .string ⟨#[108, 101, 110, 103, 116, 104]⟩, .string ⟨#[102, 97, 109]⟩] 9)
   have R3 := R.out.alloc (Obj.cells #[.string ⟨#[112, 114, 101, 102, 105, 120]⟩, .string ⟨#[99, 111, 109, 109]⟩, .string ⟨#[112, 97, 116, 104]⟩, .string ⟨#[112, 101, 101, 114]⟩, .string ⟨#[111, 114, 105, 103, 105, 110]⟩, .string ⟨#[108, 101, 110, 103, 116, 104]⟩, .string ⟨#[102, 97, 109]⟩] 9)
   have C3 := C.out.alloc (Obj.cells #[.string ⟨#[112, 114, 101, 102, 105, 120]⟩, .string ⟨#[99, 111, 109, 109]⟩, .string ⟨#[112, 97, 116, 104]⟩, .string ⟨#[112, 101, 101, 114]⟩, .string ⟨#[111, 114, 105, 103, 105, 110]⟩, .string ⟨#[108, 101, 110, 103, 116, 104]⟩, .string ⟨#[102, 97, 109]⟩] 9)
   clear hW hb R C
   generalize hWc : wc.alloc (Obj.cells #[.string ⟨#[112, 114, 101, 102, 105, 120]⟩, .string ⟨#[99, 111, 109, 109]⟩, .string ⟨#[112, 97, 116, 104]⟩, .string ⟨#[112, 101, 101, 114]⟩, .string ⟨#[111, 114, 105, 103, 105, 110]⟩, .string ⟨#[108, 101, 110, 103, 116, 104]⟩, .string ⟨#[102, 97, 109]⟩] 9) = W3 at K hW3 hb3 R3 C3
   generalize hkc : wc.heap.size = kc at K
   have hKs := sl_words kW (by decide) K
   have qi : Calls Tryz.prog 100 #[.slice (some ⟨kc, 0, none⟩) 7 7, .string ⟨#[111, 114, 105, 103, 105, 110]⟩] W3 fun e w' => e = .returned (.int .i64 4) ∧ W3 = w' := PIndex_some _ 7 kW [111, 114, 105, 103, 105, 110] 4 W3 _ (by decide) hKs (by decide) (by decide +kernel)
   clear K hKs
   have c0 : W3.cell? ⟨rb + 1, 0, none⟩ = some (.int .i64 0) := C3.cell 0
   have cf := fun i => C3.frozen i
   replace hW3 := hide hW3
   replace hb3 := hide hb3
   replace R3 := hide R3
   replace C3 := hide C3
   replace qi := hide qi
   go_wp2_with fail
   refine qi.out.mono ?_
   rintro e W4 ⟨rfl, rfl⟩
   clear qi hWc hkc
   have hW5 := hide (hW3.out.set (show B ≤ rb + 1 by omega) 0 (.int .i64 5))
   have hb5 := hide (hb3.out.far (k := rb + 1) (by omega) 0 (.int .i64 5))
   have R5 := hide (R3.out.far (p := ⟨rb + 1, 0, none⟩) (show rb ≠ rb + 1 by omega) (.int .i64 5))
   have C5 : Blk (W3.setCell ⟨rb + 1, 0, none⟩ (.int .i64 5)) (rb + 1) 48 #[.int .i64 5, .bool neg, .string ⟨#[]⟩, .int .i64 0] := C3.out.set_ 0 (.int .i64 5)
   replace C5 := hide C5
   clear hW3 hb3 R3 C3
   go_wp2_with fail
   rcases q with _ | ⟨x2, q⟩
   ·refine (next_none g _ B hW5.out).mono ?_
    rintro e W6 ⟨rfl, he⟩
    go_wp2
    exact ⟨rfl, hno.out _ (readV_one neg _) (hb5.out.trans (But.of he))⟩
   refine (next_some g x2 q _ B hW5.out).mono ?_
   rintro e W6 ⟨rfl, hb2, hW6⟩
   replace hb6 := hide (hb5.out.trans hb2)
   replace R6 := hide (R5.out.but hb2 (by omega))
   replace C6 := hide (C5.out.but hb2 (by omega))
   replace hW6 := hide hW6
   clear hW5 hb5 R5 C5 hb2 c0 cf
   have hx2 := hlq.out x2 (by simp)
   have c0 : W6.cell? ⟨rb + 1, 0, none⟩ = some (.int .i64 5) := C6.out.cell 0
   have c2 : W6.cell? ⟨rb + 1, 2, none⟩ = some (.string ⟨#[]⟩) := C6.out.cell 2
   have c3 : W6.cell? ⟨rb + 1, 3, none⟩ = some (.int .i64 0) := C6.out.cell 3
   have cf := fun i => C6.out.frozen i
   have K2 := Blk.new W6 9 #[.string ⟨#[105, 103, 112]⟩, .string ⟨#[101, 103, 112]⟩, .string ⟨#[105, 110, 99, 111, 109, 112, 108, 101, 116, 101]⟩]
   have hW7 := hW6.out.alloc (Obj.cells #[.string ⟨#[105, 103, 112]⟩, .string ⟨#[101, 103, 112]⟩, .string ⟨#[105, 110, 99, 111, 109, 112, 108, 101, 116, 101]⟩] 9)
   have hb7 := hb6.out.alloc (Obj.cells #[.string ⟨#[105, 103, 112]⟩, .string ⟨#[101, 103, 112]⟩, .string ⟨#[105, 110, 99, 111, 109, 112, 108, 101, 116, 101]⟩] 9)
   have R7 := R6.out.alloc (Obj.cells #[.string ⟨#[105, 103, 112]⟩, .string ⟨#[101, 103, 112]⟩, .string ⟨#[105, 110, 99, 111, 109, 112, 108, 101, 116, 101]⟩] 9)
   have C7 := C6.out.alloc (Obj.cells #[.string ⟨#[105, 103, 112]⟩, .string ⟨#[101, 103, 112]⟩, .string ⟨#[105, 110, 99, 111, 109, 112, 108, 101, 116, 101]⟩] 9)
   have qo : Calls Tryz.prog 84 #[] W6 fun e w' => e = .returned (.slice (some ⟨W6.heap.size, 0, none⟩) 3 3) ∧ W6.alloc (Obj.cells #[.string ⟨#[105, 103, 112]⟩, .string ⟨#[101, 103, 112]⟩, .string ⟨#[105, 110, 99, 111, 109, 112, 108, 101, 116, 101]⟩] 9) = w' := POrigins_any W6
   generalize hWo : W6.alloc (Obj.cells #[.string ⟨#[105, 103, 112]⟩, .string ⟨#[101, 103, 112]⟩, .string ⟨#[105, 110, 99, 111, 109, 112, 108, 101, 116, 101]⟩] 9) = W7 at K2 hW7 hb7 R7 C7 qo
   generalize hk2 : W6.heap.size = k2 at K2 qo
   clear hWo hk2
   have hKs2 := sl_words oW (by decide) K2
   clear K2
   replace hW7 := hide hW7
   replace hb7 := hide hb7
   replace R7 := hide R7
   replace C7 := hide C7
   replace qo := hide qo
   rcases oW_cases x2 with ⟨n, hi, hne, hon⟩ | ⟨hi, hon⟩
   ·have qi2 : Calls Tryz.prog 100 #[.slice (some ⟨k2, 0, none⟩) 3 3, .string ⟨x2.toArray⟩] W7 fun e w' => e = .returned (.int .i64 (n : Int)) ∧ W7 = w' := PIndex_some _ 3 oW x2 n W7 _ (by decide) hKs2 hne hi
    have hgo := (hrv.out x2 q).trans (show _ = some ((⟨5, neg, [], (n : Int)⟩ : CondS), q) from by rw [hon]; rfl)
    clear hi hne hon hKs2
    have d0 : W7.cell? ⟨rb + 1, 0, none⟩ = some (.int .i64 5) := C7.out.cell 0
    have d3 : W7.cell? ⟨rb + 1, 3, none⟩ = some (.int .i64 0) := C7.out.cell 3
    have df := fun i => C7.out.frozen i
    replace qi2 := hide qi2
    replace hgo := hide hgo
    go_wp2_with fail
    refine qo.out.mono ?_
    rintro e w_ ⟨rfl, rfl⟩
    clear c0 c2 c3 cf
    go_wp2_with fail
    refine qi2.out.mono ?_
    rintro e w_ ⟨rfl, rfl⟩
    have hW8 := hide (hW7.out.set (show B ≤ rb + 1 by omega) 3 (.int .i64 (n : Int)))
    have hb8 := hide (hb7.out.far (k := rb + 1) (by omega) 3 (.int .i64 (n : Int)))
    have R8 := hide (R7.out.far (p := ⟨rb + 1, 3, none⟩) (show rb ≠ rb + 1 by omega) (.int .i64 (n : Int)))
    have C8 : Blk (W7.setCell ⟨rb + 1, 3, none⟩ (.int .i64 (n : Int))) (rb + 1) 48 #[.int .i64 5, .bool neg, .string ⟨#[]⟩, .int .i64 (n : Int)] := C7.out.set_ 3 (.int .i64 (n : Int))
    replace C8 := hide C8
    go_upto_region 16 with fail
    generalize hW9 : W7.setCell ⟨rb + 1, 3, none⟩ (.int .i64 (n : Int)) = W9 at hW8 hb8 R8 C8 ⊢
    clear d0 d3 df hW9
    have zz0 : W9.cell? ⟨rb + 1, 0, none⟩ = some (.int .i64 5) := C8.out.cell 0
    have zz1 : W9.cell? ⟨rb + 1, 1, none⟩ = some (.bool neg) := C8.out.cell 1
    have zz2 : W9.cell? ⟨rb + 1, 2, none⟩ = some (.string ⟨#[]⟩) := C8.out.cell 2
    have zz3 : W9.cell? ⟨rb + 1, 3, none⟩ = some (.int .i64 (n : Int)) := C8.out.cell 3
    have r0 : W9.cell? ⟨rb, 0, none⟩ = some (.int .i64 0) := R8.out.cell 0
    have r1 : W9.cell? ⟨rb, 1, none⟩ = some (.bool false) := R8.out.cell 1
    have r2 : W9.cell? ⟨rb, 2, none⟩ = some (.string ⟨#[]⟩) := R8.out.cell 2
    have r3 : W9.cell? ⟨rb, 3, none⟩ = some (.int .i64 0) := R8.out.cell 3
    have rf := fun i => R8.out.frozen i
    have hRZ := R8.out.fill4 (.int .i64 5) (.bool neg) (.string ⟨#[]⟩) (.int .i64 (n : Int))
    have hWZ := hW8.out.set4 (show B ≤ rb by omega) (.int .i64 5) (.bool neg) (.string ⟨#[]⟩) (.int .i64 (n : Int))
    have hbZ := hb8.out.set4 (k := rb) (by omega) (.int .i64 5) (.bool neg) (.string ⟨#[]⟩) (.int .i64 (n : Int))
    have z0 := hRZ.cell 0
    have z1 := hRZ.cell 1
    have z2 := hRZ.cell 2
    have z3 := hRZ.cell 3
    simp at z0 z1 z2 z3
    clear hRZ
    replace hWZ := hide hWZ
    replace hbZ := hide hbZ
    go_wp2_with fail
    exact bodyPost_ret (v := .agg #[.int .i64 5, .bool neg, .string ⟨#[]⟩, .int .i64 (n : Int)]) (by simp [results, Tryz.results48, go_sem, z0, z1, z2, z3]) rfl (hok.out _ _ _ hgo.out hWZ.out hbZ.out)
   ·have qi2 : Calls Tryz.prog 100 #[.slice (some ⟨k2, 0, none⟩) 3 3, .string ⟨x2.toArray⟩] W7 fun e w' => e = .panicked noneP ∧ W7 = w' := PIndex_none _ 3 oW x2 W7 _ (by decide) hKs2 hi
    have hgo := (hrv.out x2 q).trans (show _ = none from by rw [hon]; rfl)
    clear hi hon hKs2
    have d0 : W7.cell? ⟨rb + 1, 0, none⟩ = some (.int .i64 5) := C7.out.cell 0
    have d3 : W7.cell? ⟨rb + 1, 3, none⟩ = some (.int .i64 0) := C7.out.cell 3
    have df := fun i => C7.out.frozen i
    replace qi2 := hide qi2
    replace hgo := hide hgo
    go_wp2_with fail
    refine qo.out.mono ?_
    rintro e w_ ⟨rfl, rfl⟩
    clear c0 c2 c3 cf
    go_wp2_with fail
    refine qi2.out.mono ?_
    rintro e w_ ⟨rfl, rfl⟩
    go_wp2
    exact ⟨rfl, hno.out _ hgo.out hb7.out⟩
  ·skip
   have K := Blk.new wc 9 #[.string ⟨#[112, 114, 101, 102, 105, 120]⟩, .string ⟨#[99, 111, 109, 109]⟩, .string ⟨#[112, 97, 116, 104]⟩, .string ⟨#[112, 101, 101, 114]⟩, .string ⟨#[111, 114, 105, 103, 105, 110]⟩, .string ⟨#[108, 101, 110, 103, 116, 104]⟩, .string ⟨#[102, 97, 109]⟩]
   have hW3 := hW.out.alloc (Obj.cells #[.string ⟨#[112, 114, 101, 102, 105, 120]⟩, .string ⟨#[99, 111, 109, 109]⟩, .string ⟨#[112, 97, 116, 104]⟩, .string ⟨#[112, 101, 101, 114]⟩, .string ⟨#[111, 114, 105, 103, 105, 110]⟩, .string ⟨#[108, 101, 110, 103, 116, 104]⟩, .string ⟨#[102, 97, 109]⟩] 9)
   have hb3 := hb.out.alloc (Obj.cells #[.string ⟨#[112, 114, 101, 102, 105, 120]⟩, .string ⟨#[99, 111, 109, 109]⟩, .string ⟨#[112, 97, 116, 104]⟩, .string ⟨#[112, 101, 101, 114]⟩, .string ⟨#[111, 114, 105, 103, 105, 110]⟩, .string ⟨#[108, 101, 110, 103, 116, 104]⟩, .string ⟨#[102, 97, 109]⟩] 9)
   have R3 := R.out.alloc (Obj.cells #[.string ⟨#[112, 114, 101, 102, 105, 120]⟩, .string ⟨#[99, 111, 109, 109]⟩, .string ⟨#[112, 97, 116, 104]⟩, .string ⟨#[112, 101, 101, 114]⟩, .string ⟨#[111, 114, 105, 103, 105, 110]⟩, .string ⟨#[108, 101, 110, 103, 116, 104]⟩, .string ⟨#[102, 97, 109]⟩] 9)
   have C3 := C.out.alloc (Obj.cells #[.string ⟨#[112, 114, 101, 102, 105, 120]⟩, .string ⟨#[99, 111, 109, 109]⟩, .string ⟨#[112, 97, 116, 104]⟩, .string ⟨#[112, 101, 101, 114]⟩, .string ⟨#[111, 114, 105, 103, 105, 110]⟩, .string ⟨#[108, 101, 110, 103, 116, 104]⟩, .string ⟨#[102, 97, 109]⟩] 9)
   clear hW hb R C
   generalize hWc : wc.alloc (Obj.cells #[.string ⟨#[112, 114, 101, 102, 105, 120]⟩, .string ⟨#[99, 111, 109, 109]⟩, .string ⟨#[112, 97, 116, 104]⟩, .string ⟨#[112, 101, 101, 114]⟩, .string ⟨#[111, 114, 105, 103, 105, 110]⟩, .string ⟨#[108, 101, 110, 103, 116, 104]⟩, .string ⟨#[102, 97, 109]⟩] 9) = W3 at K hW3 hb3 R3 C3
   generalize hkc : wc.heap.size = kc at K
   have hKs := sl_words kW (by decide) K
   have qi : Calls Tryz.prog 100 #[.slice (some ⟨kc, 0, none⟩) 7 7, .string ⟨#[108, 101, 110, 103, 116, 104]⟩] W3 fun e w' => e = .returned (.int .i64 5) ∧ W3 = w' := PIndex_some _ 7 kW [108, 101, 110, 103, 116, 104] 5 W3 _ (by decide) hKs (by decide) (by decide +kernel)
   clear K hKs
   have c0 : W3.cell? ⟨rb + 1, 0, none⟩ = some (.int .i64 0) := C3.cell 0
   have cf := fun i => C3.frozen i
   replace hW3 := hide hW3
   replace hb3 := hide hb3
   replace R3 := hide R3
   replace C3 := hide C3
   replace qi := hide qi
   go_wp2_with fail
   refine qi.out.mono ?_
   rintro e W4 ⟨rfl, rfl⟩
   clear qi hWc hkc
   have hW5 := hide (hW3.out.set (show B ≤ rb + 1 by omega) 0 (.int .i64 6))
   have hb5 := hide (hb3.out.far (k := rb + 1) (by omega) 0 (.int .i64 6))
   have R5 := hide (R3.out.far (p := ⟨rb + 1, 0, none⟩) (show rb ≠ rb + 1 by omega) (.int .i64 6))
   have C5 : Blk (W3.setCell ⟨rb + 1, 0, none⟩ (.int .i64 6)) (rb + 1) 48 #[.int .i64 6, .bool neg, .string ⟨#[]⟩, .int .i64 0] := C3.out.set_ 0 (.int .i64 6)
   replace C5 := hide C5
   clear hW3 hb3 R3 C3
   go_wp2_with fail
   rcases q with _ | ⟨x2, q⟩
   ·refine (next_none g _ B hW5.out).mono ?_
    rintro e W6 ⟨rfl, he⟩
    go_wp2
    exact ⟨rfl, hno.out _ (readV_one neg _) (hb5.out.trans (But.of he))⟩
   refine (next_some g x2 q _ B hW5.out).mono ?_
   rintro e W6 ⟨rfl, hb2, hW6⟩
   replace hb6 := hide (hb5.out.trans hb2)
   replace R6 := hide (R5.out.but hb2 (by omega))
   replace C6 := hide (C5.out.but hb2 (by omega))
   replace hW6 := hide hW6
   clear hW5 hb5 R5 C5 hb2 c0 cf
   have hx2 := hlq.out x2 (by simp)
   have c0 : W6.cell? ⟨rb + 1, 0, none⟩ = some (.int .i64 6) := C6.out.cell 0
   have c2 : W6.cell? ⟨rb + 1, 2, none⟩ = some (.string ⟨#[]⟩) := C6.out.cell 2
   have c3 : W6.cell? ⟨rb + 1, 3, none⟩ = some (.int .i64 0) := C6.out.cell 3
   have cf := fun i => C6.out.frozen i
   have hE6 := But.ext h0.out hb6.out hg
   have qn := PNum_any x2 W6 (hT.out.ext hE6) (hV.out.ext hE6) hx2
   unfold NumW at qn
   clear hE6
   rcases hnn : numO x2 4294967296 with _ | n
   ·rw [hnn] at qn
    have hgo : readV neg ([108, 101, 110, 103, 116, 104] :: x2 :: q) = none := by simp [readV, hnn]
    replace qn := hide qn
    replace hgo := hide hgo
    clear hnn
    go_wp2_with fail
    refine qn.out.mono ?_
    rintro e W7 ⟨rfl, he⟩
    go_wp2
    exact ⟨rfl, hno.out _ hgo.out (hb6.out.trans (But.of he))⟩
   ·rw [hnn] at qn
    have hn32 := (numO_some hnn).1
    have hgo : readV neg ([108, 101, 110, 103, 116, 104] :: x2 :: q) = some ((⟨6, neg, [], (n : Int)⟩ : CondS), q) := by simp [readV, hnn]
    have hwn : IntKind.i64.wrap (n : Int) = (n : Int) := by rw [IntKind.wrap_i64]; omega
    replace qn := hide qn
    replace hgo := hide hgo
    clear hnn hn32
    go_wp2_with fail
    refine qn.out.mono ?_
    rintro e W7 ⟨rfl, he⟩
    have hW7 := hide (hW6.out.ext he)
    have hb7 := hide (hb6.out.trans (But.of he))
    have R7 := hide (R6.out.ext he)
    have C7 := hide (C6.out.ext he)
    clear he c0 c2 c3 cf
    have d0 : W7.cell? ⟨rb + 1, 0, none⟩ = some (.int .i64 6) := C7.out.cell 0
    have d3 : W7.cell? ⟨rb + 1, 3, none⟩ = some (.int .i64 0) := C7.out.cell 3
    have df := fun i => C7.out.frozen i
    have hW8 := hide (hW7.out.set (show B ≤ rb + 1 by omega) 3 (.int .i64 (n : Int)))
    have hb8 := hide (hb7.out.far (k := rb + 1) (by omega) 3 (.int .i64 (n : Int)))
    have R8 := hide (R7.out.far (p := ⟨rb + 1, 3, none⟩) (show rb ≠ rb + 1 by omega) (.int .i64 (n : Int)))
    have C8 : Blk (W7.setCell ⟨rb + 1, 3, none⟩ (.int .i64 (n : Int))) (rb + 1) 48 #[.int .i64 6, .bool neg, .string ⟨#[]⟩, .int .i64 (n : Int)] := C7.out.set_ 3 (.int .i64 (n : Int))
    replace C8 := hide C8
    go_upto_region 16 with fail
    generalize hW9 : W7.setCell ⟨rb + 1, 3, none⟩ (.int .i64 (n : Int)) = W9 at hW8 hb8 R8 C8 ⊢
    clear d0 d3 df hW9
    have zz0 : W9.cell? ⟨rb + 1, 0, none⟩ = some (.int .i64 6) := C8.out.cell 0
    have zz1 : W9.cell? ⟨rb + 1, 1, none⟩ = some (.bool neg) := C8.out.cell 1
    have zz2 : W9.cell? ⟨rb + 1, 2, none⟩ = some (.string ⟨#[]⟩) := C8.out.cell 2
    have zz3 : W9.cell? ⟨rb + 1, 3, none⟩ = some (.int .i64 (n : Int)) := C8.out.cell 3
    have r0 : W9.cell? ⟨rb, 0, none⟩ = some (.int .i64 0) := R8.out.cell 0
    have r1 : W9.cell? ⟨rb, 1, none⟩ = some (.bool false) := R8.out.cell 1
    have r2 : W9.cell? ⟨rb, 2, none⟩ = some (.string ⟨#[]⟩) := R8.out.cell 2
    have r3 : W9.cell? ⟨rb, 3, none⟩ = some (.int .i64 0) := R8.out.cell 3
    have rf := fun i => R8.out.frozen i
    have hRZ := R8.out.fill4 (.int .i64 6) (.bool neg) (.string ⟨#[]⟩) (.int .i64 (n : Int))
    have hWZ := hW8.out.set4 (show B ≤ rb by omega) (.int .i64 6) (.bool neg) (.string ⟨#[]⟩) (.int .i64 (n : Int))
    have hbZ := hb8.out.set4 (k := rb) (by omega) (.int .i64 6) (.bool neg) (.string ⟨#[]⟩) (.int .i64 (n : Int))
    have z0 := hRZ.cell 0
    have z1 := hRZ.cell 1
    have z2 := hRZ.cell 2
    have z3 := hRZ.cell 3
    simp at z0 z1 z2 z3
    clear hRZ
    replace hWZ := hide hWZ
    replace hbZ := hide hbZ
    go_wp2_with fail
    exact bodyPost_ret (v := .agg #[.int .i64 6, .bool neg, .string ⟨#[]⟩, .int .i64 (n : Int)]) (by simp [results, Tryz.results48, go_sem, z0, z1, z2, z3]) rfl (hok.out _ _ _ hgo.out hWZ.out hbZ.out)
  ·have hrv : ∀ x s, readV neg ([102, 97, 109] :: x :: s) = (if famN x = 0 then none else some (⟨7, neg, [], famN x⟩, s)) := fun x s => by simp [readV]
   replace hrv := hide hrv
   have K := Blk.new wc 9 #[.string ⟨#[112, 114, 101, 102, 105, 120]⟩, .string ⟨#[99, 111, 109, 109]⟩, .string ⟨#[112, 97, 116, 104]⟩, .string ⟨#[112, 101, 101, 114]⟩, .string ⟨#[111, 114, 105, 103, 105, 110]⟩, .string ⟨#[108, 101, 110, 103, 116, 104]⟩, .string ⟨#[102, 97, 109]⟩]
   have hW3 := hW.out.alloc (Obj.cells #[.string ⟨#[112, 114, 101, 102, 105, 120]⟩, .string ⟨#[99, 111, 109, 109]⟩, .string ⟨#[112, 97, 116, 104]⟩, .string ⟨#[112, 101, 101, 114]⟩, .string ⟨#[111, 114, 105, 103, 105, 110]⟩, .string ⟨#[108, 101, 110, 103, 116, 104]⟩, .string ⟨#[102, 97, 109]⟩] 9)
   have hb3 := hb.out.alloc (Obj.cells #[.string ⟨#[112, 114, 101, 102, 105, 120]⟩, .string ⟨#[99, 111, 109, 109]⟩, .string ⟨#[112, 97, 116, 104]⟩, .string ⟨#[112, 101, 101, 114]⟩, .string ⟨#[111, 114, 105, 103, 105, 110]⟩, .string ⟨#[108, 101, 110, 103, 116, 104]⟩, .string ⟨#[102, 97, 109]⟩] 9)
   have R3 := R.out.alloc (Obj.cells #[.string ⟨#[112, 114, 101, 102, 105, 120]⟩, .string ⟨#[99, 111, 109, 109]⟩, .string ⟨#[112, 97, 116, 104]⟩, .string ⟨#[112, 101, 101, 114]⟩, .string ⟨#[111, 114, 105, 103, 105, 110]⟩, .string ⟨#[108, 101, 110, 103, 116, 104]⟩, .string ⟨#[102, 97, 109]⟩] 9)
   have C3 := C.out.alloc (Obj.cells #[.string ⟨#[112, 114, 101, 102, 105, 120]⟩, .string ⟨#[99, 111, 109, 109]⟩, .string ⟨#[112, 97, 116, 104]⟩, .string ⟨#[112, 101, 101, 114]⟩, .string ⟨#[111, 114, 105, 103, 105, 110]⟩, .string ⟨#[108, 101, 110, 103, 116, 104]⟩, .string ⟨#[102, 97, 109]⟩] 9)
   clear hW hb R C
   generalize hWc : wc.alloc (Obj.cells #[.string ⟨#[112, 114, 101, 102, 105, 120]⟩, .string ⟨#[99, 111, 109, 109]⟩, .string ⟨#[112, 97, 116, 104]⟩, .string ⟨#[112, 101, 101, 114]⟩, .string ⟨#[111, 114, 105, 103, 105, 110]⟩, .string ⟨#[108, 101, 110, 103, 116, 104]⟩, .string ⟨#[102, 97, 109]⟩] 9) = W3 at K hW3 hb3 R3 C3
   generalize hkc : wc.heap.size = kc at K
   have hKs := sl_words kW (by decide) K
   have qi : Calls Tryz.prog 100 #[.slice (some ⟨kc, 0, none⟩) 7 7, .string ⟨#[102, 97, 109]⟩] W3 fun e w' => e = .returned (.int .i64 6) ∧ W3 = w' := PIndex_some _ 7 kW [102, 97, 109] 6 W3 _ (by decide) hKs (by decide) (by decide +kernel)
   clear K hKs
   have c0 : W3.cell? ⟨rb + 1, 0, none⟩ = some (.int .i64 0) := C3.cell 0
   have cf := fun i => C3.frozen i
   replace hW3 := hide hW3
   replace hb3 := hide hb3
   replace R3 := hide R3
   replace C3 := hide C3
   replace qi := hide qi
   go_wp2_with fail
   refine qi.out.mono ?_
   rintro e W4 ⟨rfl, rfl⟩
   clear qi hWc hkc
   have hW5 := hide (hW3.out.set (show B ≤ rb + 1 by omega) 0 (.int .i64 7))
   have hb5 := hide (hb3.out.far (k := rb + 1) (by omega) 0 (.int .i64 7))
   have R5 := hide (R3.out.far (p := ⟨rb + 1, 0, none⟩) (show rb ≠ rb + 1 by omega) (.int .i64 7))
   have C5 : Blk (W3.setCell ⟨rb + 1, 0, none⟩ (.int .i64 7)) (rb + 1) 48 #[.int .i64 7, .bool neg, .string ⟨#[]⟩, .int .i64 0] := C3.out.set_ 0 (.int .i64 7)
   replace C5 := hide C5
   clear hW3 hb3 R3 C3
   go_wp2_with fail
   rcases q with _ | ⟨x2, q⟩
   ·refine (next_none g _ B hW5.out).mono ?_
    rintro e W6 ⟨rfl, he⟩
    go_wp2
    exact ⟨rfl, hno.out _ (readV_one neg _) (hb5.out.trans (But.of he))⟩
   refine (next_some g x2 q _ B hW5.out).mono ?_
   rintro e W6 ⟨rfl, hb2, hW6⟩
   replace hb6 := hide (hb5.out.trans hb2)
   replace R6 := hide (R5.out.but hb2 (by omega))
   replace C6 := hide (C5.out.but hb2 (by omega))
   replace hW6 := hide hW6
   clear hW5 hb5 R5 C5 hb2 c0 cf
   have hx2 := hlq.out x2 (by simp)
   have c0 : W6.cell? ⟨rb + 1, 0, none⟩ = some (.int .i64 7) := C6.out.cell 0
   have c2 : W6.cell? ⟨rb + 1, 2, none⟩ = some (.string ⟨#[]⟩) := C6.out.cell 2
   have c3 : W6.cell? ⟨rb + 1, 3, none⟩ = some (.int .i64 0) := C6.out.cell 3
   have cf := fun i => C6.out.frozen i
   have K2 := Blk.new W6 9 #[.string ⟨#[]⟩, .string ⟨#[118, 52]⟩, .string ⟨#[118, 54]⟩, .string ⟨#[108, 52]⟩, .string ⟨#[118, 112, 110, 52]⟩, .string ⟨#[118, 112, 110, 54]⟩]
   have hW7 := hW6.out.alloc (Obj.cells #[.string ⟨#[]⟩, .string ⟨#[118, 52]⟩, .string ⟨#[118, 54]⟩, .string ⟨#[108, 52]⟩, .string ⟨#[118, 112, 110, 52]⟩, .string ⟨#[118, 112, 110, 54]⟩] 9)
   have hb7 := hb6.out.alloc (Obj.cells #[.string ⟨#[]⟩, .string ⟨#[118, 52]⟩, .string ⟨#[118, 54]⟩, .string ⟨#[108, 52]⟩, .string ⟨#[118, 112, 110, 52]⟩, .string ⟨#[118, 112, 110, 54]⟩] 9)
   have R7 := R6.out.alloc (Obj.cells #[.string ⟨#[]⟩, .string ⟨#[118, 52]⟩, .string ⟨#[118, 54]⟩, .string ⟨#[108, 52]⟩, .string ⟨#[118, 112, 110, 52]⟩, .string ⟨#[118, 112, 110, 54]⟩] 9)
   have C7 := C6.out.alloc (Obj.cells #[.string ⟨#[]⟩, .string ⟨#[118, 52]⟩, .string ⟨#[118, 54]⟩, .string ⟨#[108, 52]⟩, .string ⟨#[118, 112, 110, 52]⟩, .string ⟨#[118, 112, 110, 54]⟩] 9)
   have qo : Calls Tryz.prog 86 #[] W6 fun e w' => e = .returned (.slice (some ⟨W6.heap.size, 0, none⟩) 6 6) ∧ W6.alloc (Obj.cells #[.string ⟨#[]⟩, .string ⟨#[118, 52]⟩, .string ⟨#[118, 54]⟩, .string ⟨#[108, 52]⟩, .string ⟨#[118, 112, 110, 52]⟩, .string ⟨#[118, 112, 110, 54]⟩] 9) = w' := PFams_any W6
   generalize hWo : W6.alloc (Obj.cells #[.string ⟨#[]⟩, .string ⟨#[118, 52]⟩, .string ⟨#[118, 54]⟩, .string ⟨#[108, 52]⟩, .string ⟨#[118, 112, 110, 52]⟩, .string ⟨#[118, 112, 110, 54]⟩] 9) = W7 at K2 hW7 hb7 R7 C7 qo
   generalize hk2 : W6.heap.size = k2 at K2 qo
   clear hWo hk2
   have hKs2 := sl_words fW (by decide) K2
   clear K2
   replace hW7 := hide hW7
   replace hb7 := hide hb7
   replace R7 := hide R7
   replace C7 := hide C7
   replace qo := hide qo
   rcases fW_cases x2 with ⟨n, hi, hne, hon⟩ | ⟨hi, hon⟩
   ·have qi2 : Calls Tryz.prog 100 #[.slice (some ⟨k2, 0, none⟩) 6 6, .string ⟨x2.toArray⟩] W7 fun e w' => e = .returned (.int .i64 (n : Int)) ∧ W7 = w' := PIndex_some _ 6 fW x2 n W7 _ (by decide) hKs2 hne hi
    have hgo := (hrv.out x2 q).trans (show _ = some ((⟨7, neg, [], (n : Int)⟩ : CondS), q) from by rw [if_neg hon.2, hon.1])
    clear hi hne hon hKs2
    have d0 : W7.cell? ⟨rb + 1, 0, none⟩ = some (.int .i64 7) := C7.out.cell 0
    have d3 : W7.cell? ⟨rb + 1, 3, none⟩ = some (.int .i64 0) := C7.out.cell 3
    have df := fun i => C7.out.frozen i
    replace qi2 := hide qi2
    replace hgo := hide hgo
    go_wp2_with fail
    refine qo.out.mono ?_
    rintro e w_ ⟨rfl, rfl⟩
    clear c0 c2 c3 cf
    go_wp2_with fail
    refine qi2.out.mono ?_
    rintro e w_ ⟨rfl, rfl⟩
    have hW8 := hide (hW7.out.set (show B ≤ rb + 1 by omega) 3 (.int .i64 (n : Int)))
    have hb8 := hide (hb7.out.far (k := rb + 1) (by omega) 3 (.int .i64 (n : Int)))
    have R8 := hide (R7.out.far (p := ⟨rb + 1, 3, none⟩) (show rb ≠ rb + 1 by omega) (.int .i64 (n : Int)))
    have C8 : Blk (W7.setCell ⟨rb + 1, 3, none⟩ (.int .i64 (n : Int))) (rb + 1) 48 #[.int .i64 7, .bool neg, .string ⟨#[]⟩, .int .i64 (n : Int)] := C7.out.set_ 3 (.int .i64 (n : Int))
    replace C8 := hide C8
    go_upto_region 16 with fail
    generalize hW9 : W7.setCell ⟨rb + 1, 3, none⟩ (.int .i64 (n : Int)) = W9 at hW8 hb8 R8 C8 ⊢
    clear d0 d3 df hW9
    have zz0 : W9.cell? ⟨rb + 1, 0, none⟩ = some (.int .i64 7) := C8.out.cell 0
    have zz1 : W9.cell? ⟨rb + 1, 1, none⟩ = some (.bool neg) := C8.out.cell 1
    have zz2 : W9.cell? ⟨rb + 1, 2, none⟩ = some (.string ⟨#[]⟩) := C8.out.cell 2
    have zz3 : W9.cell? ⟨rb + 1, 3, none⟩ = some (.int .i64 (n : Int)) := C8.out.cell 3
    have r0 : W9.cell? ⟨rb, 0, none⟩ = some (.int .i64 0) := R8.out.cell 0
    have r1 : W9.cell? ⟨rb, 1, none⟩ = some (.bool false) := R8.out.cell 1
    have r2 : W9.cell? ⟨rb, 2, none⟩ = some (.string ⟨#[]⟩) := R8.out.cell 2
    have r3 : W9.cell? ⟨rb, 3, none⟩ = some (.int .i64 0) := R8.out.cell 3
    have rf := fun i => R8.out.frozen i
    have hRZ := R8.out.fill4 (.int .i64 7) (.bool neg) (.string ⟨#[]⟩) (.int .i64 (n : Int))
    have hWZ := hW8.out.set4 (show B ≤ rb by omega) (.int .i64 7) (.bool neg) (.string ⟨#[]⟩) (.int .i64 (n : Int))
    have hbZ := hb8.out.set4 (k := rb) (by omega) (.int .i64 7) (.bool neg) (.string ⟨#[]⟩) (.int .i64 (n : Int))
    have z0 := hRZ.cell 0
    have z1 := hRZ.cell 1
    have z2 := hRZ.cell 2
    have z3 := hRZ.cell 3
    simp at z0 z1 z2 z3
    clear hRZ
    replace hWZ := hide hWZ
    replace hbZ := hide hbZ
    go_wp2_with fail
    exact bodyPost_ret (v := .agg #[.int .i64 7, .bool neg, .string ⟨#[]⟩, .int .i64 (n : Int)]) (by simp [results, Tryz.results48, go_sem, z0, z1, z2, z3]) rfl (hok.out _ _ _ hgo.out hWZ.out hbZ.out)
   ·have qi2 : Calls Tryz.prog 100 #[.slice (some ⟨k2, 0, none⟩) 6 6, .string ⟨x2.toArray⟩] W7 fun e w' => e = .panicked noneP ∧ W7 = w' := PIndex_none _ 6 fW x2 W7 _ (by decide) hKs2 hi
    have hgo := (hrv.out x2 q).trans (show _ = none from if_pos hon)
    clear hi hon hKs2
    have d0 : W7.cell? ⟨rb + 1, 0, none⟩ = some (.int .i64 7) := C7.out.cell 0
    have d3 : W7.cell? ⟨rb + 1, 3, none⟩ = some (.int .i64 0) := C7.out.cell 3
    have df := fun i => C7.out.frozen i
    replace qi2 := hide qi2
    replace hgo := hide hgo
    go_wp2_with fail
    refine qo.out.mono ?_
    rintro e w_ ⟨rfl, rfl⟩
    clear c0 c2 c3 cf
    go_wp2_with fail
    refine qi2.out.mono ?_
    rintro e w_ ⟨rfl, rfl⟩
    go_wp2
    exact ⟨rfl, hno.out _ hgo.out hb7.out⟩
  ·have hnn : readV neg (y :: q) = none := hno2 neg q
   have K := Blk.new wc 9 #[.string ⟨#[112, 114, 101, 102, 105, 120]⟩, .string ⟨#[99, 111, 109, 109]⟩, .string ⟨#[112, 97, 116, 104]⟩, .string ⟨#[112, 101, 101, 114]⟩, .string ⟨#[111, 114, 105, 103, 105, 110]⟩, .string ⟨#[108, 101, 110, 103, 116, 104]⟩, .string ⟨#[102, 97, 109]⟩]
   have hW3 := hW.out.alloc (Obj.cells #[.string ⟨#[112, 114, 101, 102, 105, 120]⟩, .string ⟨#[99, 111, 109, 109]⟩, .string ⟨#[112, 97, 116, 104]⟩, .string ⟨#[112, 101, 101, 114]⟩, .string ⟨#[111, 114, 105, 103, 105, 110]⟩, .string ⟨#[108, 101, 110, 103, 116, 104]⟩, .string ⟨#[102, 97, 109]⟩] 9)
   have hb3 := hb.out.alloc (Obj.cells #[.string ⟨#[112, 114, 101, 102, 105, 120]⟩, .string ⟨#[99, 111, 109, 109]⟩, .string ⟨#[112, 97, 116, 104]⟩, .string ⟨#[112, 101, 101, 114]⟩, .string ⟨#[111, 114, 105, 103, 105, 110]⟩, .string ⟨#[108, 101, 110, 103, 116, 104]⟩, .string ⟨#[102, 97, 109]⟩] 9)
   have R3 := R.out.alloc (Obj.cells #[.string ⟨#[112, 114, 101, 102, 105, 120]⟩, .string ⟨#[99, 111, 109, 109]⟩, .string ⟨#[112, 97, 116, 104]⟩, .string ⟨#[112, 101, 101, 114]⟩, .string ⟨#[111, 114, 105, 103, 105, 110]⟩, .string ⟨#[108, 101, 110, 103, 116, 104]⟩, .string ⟨#[102, 97, 109]⟩] 9)
   have C3 := C.out.alloc (Obj.cells #[.string ⟨#[112, 114, 101, 102, 105, 120]⟩, .string ⟨#[99, 111, 109, 109]⟩, .string ⟨#[112, 97, 116, 104]⟩, .string ⟨#[112, 101, 101, 114]⟩, .string ⟨#[111, 114, 105, 103, 105, 110]⟩, .string ⟨#[108, 101, 110, 103, 116, 104]⟩, .string ⟨#[102, 97, 109]⟩] 9)
   clear hW hb R C
   generalize hWc : wc.alloc (Obj.cells #[.string ⟨#[112, 114, 101, 102, 105, 120]⟩, .string ⟨#[99, 111, 109, 109]⟩, .string ⟨#[112, 97, 116, 104]⟩, .string ⟨#[112, 101, 101, 114]⟩, .string ⟨#[111, 114, 105, 103, 105, 110]⟩, .string ⟨#[108, 101, 110, 103, 116, 104]⟩, .string ⟨#[102, 97, 109]⟩] 9) = W3 at K hW3 hb3 R3 C3
   generalize hkc : wc.heap.size = kc at K
   have hKs := sl_words kW (by decide) K
   have qi : Calls Tryz.prog 100 #[.slice (some ⟨kc, 0, none⟩) 7 7, .string ⟨y.toArray⟩] W3 fun e w' => e = .panicked noneP ∧ W3 = w' := PIndex_none _ 7 kW y W3 _ (by decide) hKs (.inl hi)
   clear K hKs hi hno2
   replace hW3 := hide hW3
   replace hb3 := hide hb3
   replace R3 := hide R3
   replace C3 := hide C3
   replace qi := hide qi
   replace hnn := hide hnn
   go_wp2_with fail
   refine qi.out.mono ?_
   rintro e W4 ⟨rfl, rfl⟩
   go_wp2
   exact ⟨rfl, hno.out _ hnn.out hb3.out⟩
end
section
open Go.RowKit
set_option linter.unusedVariables false
def comm3 (c : UInt32) : List UInt8 :=
 if c.toNat = 4294967041 then [110, 111, 45, 101, 120, 112, 111, 114, 116]
 else if c.toNat = 4294967042 then [110, 111, 45, 97, 100, 118, 101, 114, 116, 105, 115, 101]
 else if c.toNat = 4294967043 then [110, 111, 45, 101, 120, 112, 111, 114, 116, 45, 115, 117, 98, 99, 111, 110, 102, 101, 100]
 else []
set_option maxHeartbeats 1000000 in
theorem CNamed_any (c : UInt32) (w : World) : Calls Tryz.prog 129 #[.int .u32 (c.toNat : Int)] w fun e w' => e = .returned (.string ⟨(comm3 c).toArray⟩) ∧ w = w' := by
 unfold comm3
 generalize c.toNat = n
 by_cases h1 : n = 4294967041
 ·subst h1
  rw [if_pos rfl]
  go_enter Tryz.func129, Tryz.ntmps129
  go_wp2
  go_ret
  exact ⟨rfl, rfl⟩
 rw [if_neg h1]
 have e1 : ((n : Int) == 4294967041) = false := by rw [beq_eq_false_iff_ne]; omega
 clear h1
 by_cases h2 : n = 4294967042
 ·subst h2
  rw [if_pos rfl]
  go_enter Tryz.func129, Tryz.ntmps129
  go_wp2
  go_ret
  exact ⟨rfl, rfl⟩
 rw [if_neg h2]
 have e2 : ((n : Int) == 4294967042) = false := by rw [beq_eq_false_iff_ne]; omega
 clear h2
 by_cases h3 : n = 4294967043
 ·subst h3
  rw [if_pos rfl]
  go_enter Tryz.func129, Tryz.ntmps129
  go_wp2
  go_ret
  exact ⟨rfl, rfl⟩
 rw [if_neg h3]
 have e3 : ((n : Int) == 4294967043) = false := by rw [beq_eq_false_iff_ne]; omega
 clear h3
 go_enter Tryz.func129, Tryz.ntmps129
 go_wp2
 go_ret
 exact ⟨rfl, rfl⟩
theorem comm3_t (c : UInt32) : (comm3 c ≠ [] ∧ commT c = comm3 c) ∨ (comm3 c = [] ∧ commT c = digS 10 (c.toNat / 65536) ++ (58 :: digS 10 (c.toNat % 65536))) := by
 unfold comm3 commT
 by_cases h1 : c.toNat = 4294967041
 ·rw [if_pos h1, if_pos h1]; exact .inl ⟨by decide, rfl⟩
 rw [if_neg h1, if_neg h1]
 by_cases h2 : c.toNat = 4294967042
 ·rw [if_pos h2, if_pos h2]; exact .inl ⟨by decide, rfl⟩
 rw [if_neg h2, if_neg h2]
 by_cases h3 : c.toNat = 4294967043
 ·rw [if_pos h3, if_pos h3]; exact .inl ⟨by decide, rfl⟩
 rw [if_neg h3, if_neg h3]
 exact .inr ⟨rfl, rfl⟩
theorem and_low (c : Nat) (h : c < 4294967296) : bits BinOp.and IntKind.u32 (c : Int) 65535 = ((c % 65536 : Nat) : Int) := by
 have := (bits_nat .u32 32 (by decide) (fun n h1 h2 => by rw [IntKind.wrap_u32]; have : n < 4294967296 := h2; omega) c 65535 h (by decide)).1
 rw [show (65535 : Nat) = 2 ^ 16 - 1 by decide, Nat.and_two_pow_sub_one_eq_mod] at this
 exact this
theorem or_pair (a b : Nat) (ha : a ≤ 65535) (hb : b ≤ 65535) : bits BinOp.or IntKind.u64 ((a : Int) * 65536) (b : Int) = ((a * 65536 + b : Nat) : Int) := by
 rw [show (a : Int) * 65536 = ((a * 65536 : Nat) : Int) by omega, u64_or_nat _ _ (by omega) (by omega)]
 have h := Nat.shiftLeft_add_eq_or_of_lt (show b < 2 ^ 16 by omega) a
 rw [Nat.shiftLeft_eq] at h
 rw [← h]
set_option maxRecDepth 20000 in
set_option maxHeartbeats 1000000 in
theorem CText_any (c : UInt32) (w : World) (hT : Tab w) : Calls Tryz.prog 88 #[.int .u32 (c.toNat : Int)] w fun e w' => e = .returned (.string ⟨(commT c).toArray⟩) ∧ Ext w w' := by
 have hq := CNamed_any c w
 have hI := fun (u : Nat) (hu : u ≤ 65535) W (h : Ext w W) => (Itoa_any u (by omega) W (hT.ext h)).mono (R' := fun e w' => e = .returned (.string ⟨(digS 10 u).toArray⟩) ∧ Ext W w') fun e w' q => ⟨by rw [q.1]; unfold dec; rw [digS_dec], q.2⟩
 have hlt := c.toNat_lt
 rcases comm3_t c with ⟨h1, h2⟩ | ⟨h1, h2⟩
 ·rw [h2]
  generalize comm3 c = t at *
  have e1 : (t == []) = false := by simpa using h1
  have e2 : (t != []) = true := by simpa using h1
  clear hI h2 hlt
  replace hq := hide hq
  go_enter Tryz.func88, Tryz.ntmps88
  go_wp2_with fail
  refine hq.out.mono ?_
  rintro e w_ ⟨rfl, rfl⟩
  go_wp2
  go_ret
  exact ⟨rfl, Ext.refl _⟩
 ·rw [h2]
  rw [h1] at hq
  clear h1 h2
  have h1 : c.toNat / 65536 ≤ 65535 := by omega
  have h2 : c.toNat % 65536 ≤ 65535 := by omega
  have q1 := hI _ h1
  have q2 := hI _ h2
  clear hI
  have hs1 : (digS 10 (c.toNat / 65536)).length ≤ 5 := digS_len (by decide) 5 _ (by omega) (by decide)
  have hs2 : (digS 10 (c.toNat % 65536)).length ≤ 5 := digS_len (by decide) 5 _ (by omega) (by decide)
  rw [show ((c.toNat / 65536 : Nat) : Int) = (c.toNat : Int) / 65536 by omega] at q1
  have q1' := q1 w (Ext.refl w)
  generalize digS 10 (c.toNat / 65536) = d1 at *
  have hm := and_low c.toNat (by omega)
  generalize digS 10 (c.toNat % 65536) = d2 at *
  generalize c.toNat % 65536 = m at *
  have hw : wrap64 (m : Int) = (m : Int) := wrap64_id _ (by omega) (by omega)
  have hz1 : ¬ 9223372036854775807 < (ByteArray.mk d1.toArray).size + (ByteArray.mk #[58]).size := by rw [ba_size]; show ¬ _ < d1.length + 1; omega
  have hz2 : ¬ 9223372036854775807 < ((ByteArray.mk d1.toArray) ++ ⟨#[58]⟩).size + (ByteArray.mk d2.toArray).size := by rw [ba_sz_app, ba_size, ba_size]; show ¬ _ < d1.length + 1 + d2.length; omega
  clear q1
  replace q1' := hide q1'
  replace q2 := hide q2
  replace hq := hide hq
  go_enter Tryz.func88, Tryz.ntmps88
  go_wp2_with fail
  refine hq.out.mono ?_
  rintro e w_ ⟨rfl, rfl⟩
  go_wp2_with fail
  refine q1'.out.mono ?_
  rintro e w1 ⟨rfl, he⟩
  have q3 := q2.out w1 he
  clear q1' hq q2
  replace q3 := hide q3
  replace he := hide he
  go_wp2_with fail
  refine q3.out.mono ?_
  rintro e w2 ⟨rfl, he2⟩
  replace he2 := hide (he.out.trans he2)
  go_wp2
  go_ret
  exact ⟨by rw [ba_app1, ba_app, List.append_assoc]; rfl, he2.out⟩
theorem commP_cases (s : List UInt8) : (∃ c : UInt32, commT c = s ∧ commO s = some c) ∨ (commO s = none ∧ ∀ c, commT c ≠ s) := by
 by_cases h : ∃ c, commT c = s
 ·obtain ⟨c, hc⟩ := h
  exact .inl ⟨c, hc, by rw [← hc]; exact commO_t c⟩
 ·refine .inr ⟨?_, fun c hc => h ⟨c, hc⟩⟩
  unfold commO
  rw [dif_neg h]
/-- What the reading of a community answers. -/
def CoR (s : List UInt8) (w : World) (e : Ending) (w' : World) : Prop :=
 (e = match commO s with | some c => .returned (.tuple #[.int .u32 (c.toNat : Int), .int .i64 0]) | none => .returned (.tuple #[.int .u32 0, .int .i64 4])) ∧ Ext w w'
theorem CoR.ok {c : UInt32} {s : List UInt8} {w w' : World} (h : commT c = s) (he : Ext w w') : CoR s w (.returned (.tuple #[.int .u32 (c.toNat : Int), .int .i64 0])) w' := by
 unfold CoR
 rw [← h, commO_t]
 exact ⟨rfl, he⟩
theorem CoR.no {s : List UInt8} {w w' : World} (h : ∀ c, commT c ≠ s) (he : Ext w w') : CoR s w (.returned (.tuple #[.int .u32 0, .int .i64 4])) w' := by
 unfold CoR
 rcases commP_cases s with ⟨c, hc, _⟩ | ⟨hn, _⟩
 ·exact absurd hc (h c)
 ·rw [hn]; exact ⟨rfl, he⟩
def n1T : List UInt8 := [110, 111, 45, 101, 120, 112, 111, 114, 116]
def n2T : List UInt8 := [110, 111, 45, 97, 100, 118, 101, 114, 116, 105, 115, 101]
def n3T : List UInt8 := [110, 111, 45, 101, 120, 112, 111, 114, 116, 45, 115, 117, 98, 99, 111, 110, 102, 101, 100]
theorem commT_n (k : Nat) (t : List UInt8) (h : (k = 4294967041 ∧ t = n1T) ∨ (k = 4294967042 ∧ t = n2T) ∨ (k = 4294967043 ∧ t = n3T)) : commT (UInt32.ofNat k) = t ∧ ((UInt32.ofNat k).toNat : Int) = k := by
 rcases h with ⟨rfl, rfl⟩ | ⟨rfl, rfl⟩ | ⟨rfl, rfl⟩ <;> exact ⟨by decide +kernel, by decide +kernel⟩
set_option maxHeartbeats 1000000 in
theorem CNamed_4294967041 (w : World) : Calls Tryz.prog 129 #[.int .u32 4294967041] w fun e w' => e = .returned (.string ⟨(comm3 (UInt32.ofNat 4294967041)).toArray⟩) ∧ w = w' := by
 have h := CNamed_any (UInt32.ofNat 4294967041) w
 rw [show (((UInt32.ofNat 4294967041).toNat : Nat) : Int) = 4294967041 by decide +kernel] at h
 exact h
set_option maxHeartbeats 1000000 in
theorem CNamed_4294967042 (w : World) : Calls Tryz.prog 129 #[.int .u32 4294967042] w fun e w' => e = .returned (.string ⟨(comm3 (UInt32.ofNat 4294967042)).toArray⟩) ∧ w = w' := by
 have h := CNamed_any (UInt32.ofNat 4294967042) w
 rw [show (((UInt32.ofNat 4294967042).toNat : Nat) : Int) = 4294967042 by decide +kernel] at h
 exact h
set_option maxHeartbeats 1000000 in
theorem CNamed_4294967043 (w : World) : Calls Tryz.prog 129 #[.int .u32 4294967043] w fun e w' => e = .returned (.string ⟨(comm3 (UInt32.ofNat 4294967043)).toArray⟩) ∧ w = w' := by
 have h := CNamed_any (UInt32.ofNat 4294967043) w
 rw [show (((UInt32.ofNat 4294967043).toNat : Nat) : Int) = 4294967043 by decide +kernel] at h
 exact h
theorem comm_cut {s : List UInt8} (h1 : s ≠ n1T) (h2 : s ≠ n2T) (h3 : s ≠ n3T) {c : UInt32} (h : commT c = s) :
  rdN 10 65535 (Lib.cut s [58]).1 = some (c.toNat / 65536) ∧ rdN 10 65535 (Lib.cut s [58]).2.1 = some (c.toNat % 65536) := by
 have hlt := c.toNat_lt
 rcases comm_cases c with ⟨_, e⟩ | ⟨_, e⟩ | ⟨_, e⟩ | e
 ·exact absurd (h.symm.trans e) h1
 ·exact absurd (h.symm.trans e) h2
 ·exact absurd (h.symm.trans e) h3
 ·rw [e] at h
  have h58 : (58 : UInt8) ∉ digS 10 (c.toNat / 65536) := digS_no (by decide) (by decide) _ 58 (by decide)
  rw [← h, cut_hit h58]
  exact ⟨(rdN_iff (by decide) (by decide)).2 ⟨by omega, rfl⟩, (rdN_iff (by decide) (by decide)).2 ⟨by omega, rfl⟩⟩
theorem comm_bad1 {s : List UInt8} (h1 : s ≠ n1T) (h2 : s ≠ n2T) (h3 : s ≠ n3T) (h : rdN 10 65535 (Lib.cut s [58]).1 = none) : ∀ c, commT c ≠ s := fun c hc => by
 rw [(comm_cut h1 h2 h3 hc).1] at h; cases h
theorem comm_bad2 {s : List UInt8} (h1 : s ≠ n1T) (h2 : s ≠ n2T) (h3 : s ≠ n3T) (h : rdN 10 65535 (Lib.cut s [58]).2.1 = none) : ∀ c, commT c ≠ s := fun c hc => by
 rw [(comm_cut h1 h2 h3 hc).2] at h; cases h
theorem comm_bad3 {s : List UInt8} (h1 : s ≠ n1T) (h2 : s ≠ n2T) (h3 : s ≠ n3T) {u v : Nat} (hu : ∀ n, rdN 10 65535 (Lib.cut s [58]).1 = some n → n = u) (hv : ∀ n, rdN 10 65535 (Lib.cut s [58]).2.1 = some n → n = v) {d : UInt32} (hd : d.toNat = u * 65536 + v) (hne : commT d ≠ s) : ∀ c, commT c ≠ s := fun c hc => by
 obtain ⟨a, b⟩ := comm_cut h1 h2 h3 hc
 have e1 := hu _ a
 have e2 := hv _ b
 exact hne (by rw [← hc]; congr 1; exact UInt32.toNat_inj.1 (by omega))
set_option maxRecDepth 20000 in
set_option maxHeartbeats 4000000 in
theorem CParse_any (s : List UInt8) (w : World) (hT : Tab w) (hV : Vars w) (hs : s.length ≤ 1048576) : Calls Tryz.prog 102 #[.string ⟨s.toArray⟩] w (CoR s w) := by
 have k1 := CNamed_4294967041
 have k2 := CNamed_4294967042
 have k3 := CNamed_4294967043
 rw [show comm3 (UInt32.ofNat 4294967041) = n1T by decide +kernel] at k1
 rw [show comm3 (UInt32.ofNat 4294967042) = n2T by decide +kernel] at k2
 rw [show comm3 (UInt32.ofNat 4294967043) = n3T by decide +kernel] at k3
 have hok := fun c W h he => CoR.ok (c := c) (s := s) (w := w) (w' := W) h he
 have hno := fun W h he => CoR.no (s := s) (w := w) (w' := W) h he
 have hr : ∀ (k : Nat) t, s = t → ((k = 4294967041 ∧ t = n1T) ∨ (k = 4294967042 ∧ t = n2T) ∨ (k = 4294967043 ∧ t = n3T)) → CoR s w (.returned (.tuple #[.int .u32 (k : Int), .int .i64 0])) w := fun k t h1 h2 => by
  obtain ⟨h3, h4⟩ := commT_n k t h2
  have := hok _ w (h3.trans h1.symm) (Ext.refl w)
  rw [h4] at this
  exact this
 generalize CoR s w = Post at *
 replace hT := hide hT
 replace hV := hide hV
 replace hok := hide hok
 replace hno := hide hno
 replace k1 := hide k1
 replace k2 := hide k2
 replace k3 := hide k3
 by_cases h1 : s = n1T
 ·have hr1 := hr 4294967041 n1T h1 (.inl ⟨rfl, rfl⟩)
  clear hr
  subst h1
  replace hr1 := hide hr1
  go_enter Tryz.func102, Tryz.ntmps102
  go_wp2_with fail
  refine wp_loop_rounds 1 ?_
  rw [rounds_succ]
  go_wp2_with fail
  (with_reducible refine (k1.out w).mono ?_)
  rintro e w_ ⟨rfl, rfl⟩
  go_wp2_with fail
  try go_ret2
  exact hr1.out
 have b1 : (n1T == s) = false := beq_eq_false_iff_ne.2 fun h => h1 h.symm
 by_cases h2 : s = n2T
 ·have hr1 := hr 4294967042 n2T h2 (.inr (.inl ⟨rfl, rfl⟩))
  clear hr h1
  subst h2
  replace hr1 := hide hr1
  go_enter Tryz.func102, Tryz.ntmps102
  go_wp2_with fail
  refine wp_loop_rounds 2 ?_
  rw [rounds_succ]
  go_wp2_with fail
  (with_reducible refine (k1.out w).mono ?_)
  rintro e w_ ⟨rfl, rfl⟩
  go_wp2_with fail
  rw [rounds_succ]
  go_wp2_with fail
  (with_reducible refine (k2.out w).mono ?_)
  rintro e w_ ⟨rfl, rfl⟩
  go_wp2_with fail
  try go_ret2
  exact hr1.out
 have b2 : (n2T == s) = false := beq_eq_false_iff_ne.2 fun h => h2 h.symm
 by_cases h3 : s = n3T
 ·have hr1 := hr 4294967043 n3T h3 (.inr (.inr ⟨rfl, rfl⟩))
  clear hr h1 h2
  subst h3
  replace hr1 := hide hr1
  go_enter Tryz.func102, Tryz.ntmps102
  go_wp2_with fail
  refine wp_loop_rounds 3 ?_
  rw [rounds_succ]
  go_wp2_with fail
  (with_reducible refine (k1.out w).mono ?_)
  rintro e w_ ⟨rfl, rfl⟩
  go_wp2_with fail
  rw [rounds_succ]
  go_wp2_with fail
  (with_reducible refine (k2.out w).mono ?_)
  rintro e w_ ⟨rfl, rfl⟩
  go_wp2_with fail
  rw [rounds_succ]
  go_wp2_with fail
  (with_reducible refine (k3.out w).mono ?_)
  rintro e w_ ⟨rfl, rfl⟩
  go_wp2_with fail
  try go_ret2
  exact hr1.out
 have b3 : (n3T == s) = false := beq_eq_false_iff_ne.2 fun h => h3 h.symm
 have hx1 := comm_bad1 h1 h2 h3
 have hx2 := comm_bad2 h1 h2 h3
 have hx3 := fun u v (hu : ∀ n, rdN 10 65535 (Lib.cut s [58]).1 = some n → n = u) (hv : ∀ n, rdN 10 65535 (Lib.cut s [58]).2.1 = some n → n = v) d hd hne => comm_bad3 h1 h2 h3 hu hv (d := d) hd hne
 clear hr h1 h2 h3
 have qc := Cut_any s 58 w hV.out hs
 obtain ⟨hl1, hl2⟩ := cut_len s 58
 have qa := fun W (h : Ext w W) => PuA16_any (Lib.cut s [58]).1 W (hV.out.ext h) (by omega)
 have qb := fun W (h : Ext w W) => PuA16_any (Lib.cut s [58]).2.1 W (hV.out.ext h) (by omega)
 have qt := fun (c : UInt32) W (h : Ext w W) => CText_any c W (hT.out.ext h)
 unfold PuP at qa qb
 generalize (Lib.cut s [58]).1 = hi at *
 generalize (Lib.cut s [58]).2.1 = lo at *
 generalize (Lib.cut s [58]).2.2 = is at *
 clear hl1 hl2 hs
 replace qc := hide qc
 replace qa := hide qa
 replace qb := hide qb
 replace qt := hide qt
 replace hx1 := hide hx1
 replace hx2 := hide hx2
 replace hx3 := hide hx3
 go_enter Tryz.func102, Tryz.ntmps102
 go_wp2_with fail
 refine wp_loop_rounds 4 ?_
 rw [rounds_succ]
 go_wp2_with fail
 (with_reducible refine (k1.out w).mono ?_)
 rintro e w_ ⟨rfl, rfl⟩
 go_wp2_with fail
 rw [rounds_succ]
 go_wp2_with fail
 (with_reducible refine (k2.out w).mono ?_)
 rintro e w_ ⟨rfl, rfl⟩
 go_wp2_with fail
 rw [rounds_succ]
 go_wp2_with fail
 (with_reducible refine (k3.out w).mono ?_)
 rintro e w_ ⟨rfl, rfl⟩
 go_wp2_with fail
 rw [rounds_succ]
 go_wp2_with fail
 (with_reducible refine qc.out.mono ?_)
 rintro e W1 ⟨rfl, hd⟩
 have he1 := hide hd.ext
 clear hd
 go_wp2_with fail
 (with_reducible refine (qa.out W1 he1.out).mono ?_)
 rintro e W2 ⟨he2, hA⟩
 replace he2 := hide (he1.out.trans he2)
 clear he1
 rcases hA with ⟨u, hu, rfl, hun⟩ | ⟨hn, z, T, p, rfl⟩
 ·replace hun := hide hun
  go_wp2_with fail
  (with_reducible refine (qb.out W2 he2.out).mono ?_)
  rintro e W3 ⟨he3, hB⟩
  replace he3 := hide (he2.out.trans he3)
  clear he2
  rcases hB with ⟨v, hv, rfl, hvn⟩ | ⟨hn, z, T, p, rfl⟩
  ·replace hvn := hide hvn
   have hor := or_pair u v hu hv
   obtain ⟨d, hd⟩ : ∃ d : UInt32, d.toNat = u * 65536 + v := ⟨UInt32.ofNat (u * 65536 + v), by rw [UInt32.toNat_ofNat']; omega⟩
   rw [← hd] at hor
   have hx := hx3.out u v hun.out hvn.out d hd
   have hok1 := hok.out d
   have q4 := qt.out d W3 he3.out
   have hwd : IntKind.u32.wrap (d.toNat : Int) = (d.toNat : Int) := by rw [IntKind.wrap_u32]; have := d.toNat_lt; omega
   clear hd
   generalize commT d = t at *
   replace hx := hide hx
   replace hok1 := hide hok1
   replace q4 := hide q4
   go_wp2_with fail
   (with_reducible refine q4.out.mono ?_)
   rintro e W4 ⟨rfl, he4⟩
   replace he4 := hide (he3.out.trans he4)
   by_cases hts : t = s
   ·subst hts
    have hfin := hok1.out W4 (by trivial) he4.out
    replace hfin := hide hfin
    go_wp2_with fail
    try go_ret2
    exact hfin.out
   ·have g1 : (t == s) = false := beq_eq_false_iff_ne.2 hts
    have hfin := hide (hno.out W4 (hx.out hts) he4.out)
    clear hts
    go_wp2_with fail
    try go_ret2
    exact hfin.out
  ·have hfin := hide (hno.out W3 (hx2.out hn) he3.out)
   clear hn
   go_wp2_with fail
   try go_ret2
   exact hfin.out
 ·replace hn := hide hn
  go_wp2_with fail
  (with_reducible refine (qb.out W2 he2.out).mono ?_)
  rintro e W3 ⟨he3, hB⟩
  replace he3 := hide (he2.out.trans he3)
  have hfin := hide (hno.out W3 (hx1.out hn.out) he3.out)
  clear he2
  rcases hB with ⟨v, hv, rfl, hvn⟩ | ⟨hn, z2, T2, p2, rfl⟩
  ·clear hvn
   go_wp2_with fail
   try go_ret2
   exact hfin.out
  ·clear hn
   go_wp2_with fail
   try go_ret2
   exact hfin.out
end
section
open Go.RowKit
set_option linter.unusedVariables false
def AcP (r : Option (ActS × List (List UInt8))) (g B : Nat) (w : World) (e : Ending) (w' : World) : Prop :=
 (match r with | some (a, q) => e = .returned (.agg (actCs a).toArray) ∧ WdL w' g B q | none => e = .panicked noneP) ∧ But g w w'
theorem AcP.ok {l : List (List UInt8)} {a : ActS} {q : List (List UInt8)} {g B : Nat} {w w' : World} (h : readA l = some (a, q)) (hw : WdL w' g B q) (hb : But g w w') : AcP (readA l) g B w (.returned (.agg (actCs a).toArray)) w' := by
 rw [h]; exact ⟨⟨rfl, hw⟩, hb⟩
theorem AcP.no {l : List (List UInt8)} {g B : Nat} {w w' : World} (h : readA l = none) (hb : But g w w') : AcP (readA l) g B w (.panicked noneP) w' := by
 rw [h]; exact ⟨rfl, hb⟩
def aW : List (List UInt8) := [[97, 99, 99, 101, 112, 116], [114, 101, 106, 101, 99, 116], [112, 114, 101, 102], [109, 101, 100], [110, 111, 45, 109, 101, 100], [97, 100, 100], [100, 101, 108], [112, 114, 101, 112, 101, 110, 100], [110, 101, 120, 116], [111, 114, 105, 103, 105, 110]]
theorem aw_cases (y : List UInt8) : y = [97, 99, 99, 101, 112, 116] ∨ y = [114, 101, 106, 101, 99, 116] ∨ y = [112, 114, 101, 102] ∨ y = [109, 101, 100] ∨ y = [110, 111, 45, 109, 101, 100] ∨ y = [97, 100, 100] ∨ y = [100, 101, 108] ∨ y = [112, 114, 101, 112, 101, 110, 100] ∨ y = [110, 101, 120, 116] ∨ y = [111, 114, 105, 103, 105, 110] ∨ (idxW aW y = -1 ∧ actK y = 0) := by
 by_cases h0 : y = [97, 99, 99, 101, 112, 116]
 ·exact .inl h0
 by_cases h1 : y = [114, 101, 106, 101, 99, 116]
 ·exact .inr (.inl h1)
 by_cases h2 : y = [112, 114, 101, 102]
 ·exact .inr (.inr (.inl h2))
 by_cases h3 : y = [109, 101, 100]
 ·exact .inr (.inr (.inr (.inl h3)))
 by_cases h4 : y = [110, 111, 45, 109, 101, 100]
 ·exact .inr (.inr (.inr (.inr (.inl h4))))
 by_cases h5 : y = [97, 100, 100]
 ·exact .inr (.inr (.inr (.inr (.inr (.inl h5)))))
 by_cases h6 : y = [100, 101, 108]
 ·exact .inr (.inr (.inr (.inr (.inr (.inr (.inl h6))))))
 by_cases h7 : y = [112, 114, 101, 112, 101, 110, 100]
 ·exact .inr (.inr (.inr (.inr (.inr (.inr (.inr (.inl h7)))))))
 by_cases h8 : y = [110, 101, 120, 116]
 ·exact .inr (.inr (.inr (.inr (.inr (.inr (.inr (.inr (.inl h8))))))))
 by_cases h9 : y = [111, 114, 105, 103, 105, 110]
 ·exact .inr (.inr (.inr (.inr (.inr (.inr (.inr (.inr (.inr (.inl h9)))))))))
 refine .inr (.inr (.inr (.inr (.inr (.inr (.inr (.inr (.inr (.inr (⟨idxW_none aW y fun j hj => ?_, ?_⟩))))))))))
 ·have : j < 10 := hj
  rcases (show j = 0 ∨ j = 1 ∨ j = 2 ∨ j = 3 ∨ j = 4 ∨ j = 5 ∨ j = 6 ∨ j = 7 ∨ j = 8 ∨ j = 9 by omega) with rfl | rfl | rfl | rfl | rfl | rfl | rfl | rfl | rfl | rfl
  ·exact fun h => h0 (Option.some.inj h).symm
  ·exact fun h => h1 (Option.some.inj h).symm
  ·exact fun h => h2 (Option.some.inj h).symm
  ·exact fun h => h3 (Option.some.inj h).symm
  ·exact fun h => h4 (Option.some.inj h).symm
  ·exact fun h => h5 (Option.some.inj h).symm
  ·exact fun h => h6 (Option.some.inj h).symm
  ·exact fun h => h7 (Option.some.inj h).symm
  ·exact fun h => h8 (Option.some.inj h).symm
  ·exact fun h => h9 (Option.some.inj h).symm
 ·unfold actK
  rw [if_neg h0, if_neg h1, if_neg h2, if_neg h3, if_neg h4, if_neg h5, if_neg h6, if_neg h7, if_neg h8, if_neg h9]
theorem readA_short (w : List UInt8) (h0 : actK w ≠ 0) (h : ¬ (actK w = 1 ∨ actK w = 2 ∨ actK w = 5)) : readA [w] = none := by
 simp only [readA]
 rw [if_neg h0, if_neg h]
theorem readA_none (w : List UInt8) (r : List (List UInt8)) (h0 : actK w = 0) : readA (w :: r) = none := by
 simp only [readA]
 rw [if_pos h0]
set_option maxRecDepth 20000 in
set_option maxHeartbeats 8000000 in
theorem PAct_any (g B : Nat) (l : List (List UInt8)) (w0 w : World) (hT : Tab w0) (hV : Vars w0) (hD : Deb w0) (h0 : Ext w0 w) (hg : w0.heap.size ≤ g) (h : WdL w g B l) (hl : ∀ x ∈ l, x.length ≤ 1048576) :
  Calls Tryz.prog 49 #[(.func (.func 46) #[] #[.pointer (some ⟨g, 0, none⟩)])] w (AcP (readA l) g B w) := by
 have hok := fun c q W (h : readA l = some (c, q)) hw hb => AcP.ok (w := w) (w' := W) (g := g) (B := B) h hw hb
 have hno := fun W (h : readA l = none) hb => AcP.no (w := w) (w' := W) (g := g) (B := B) h hb
 generalize AcP (readA l) g B w = Post at hok hno ⊢
 have hgl := h.lt
 have hBw := h.up
 obtain ⟨R, C⟩ := cond_two w 51 #[.int .i64 0, .string ⟨#[]⟩, .int .u32 0, .string ⟨#[]⟩]
 have hW := (h.alloc (Obj.cells #[.int .i64 0, .string ⟨#[]⟩, .int .u32 0, .string ⟨#[]⟩] 51)).alloc (Obj.cells #[.int .i64 0, .string ⟨#[]⟩, .int .u32 0, .string ⟨#[]⟩] 51)
 have hb := ((But.refl g w).alloc (Obj.cells #[.int .i64 0, .string ⟨#[]⟩, .int .u32 0, .string ⟨#[]⟩] 51)).alloc (Obj.cells #[.int .i64 0, .string ⟨#[]⟩, .int .u32 0, .string ⟨#[]⟩] 51)
 generalize hWb : (w.alloc (Obj.cells #[.int .i64 0, .string ⟨#[]⟩, .int .u32 0, .string ⟨#[]⟩] 51)).alloc (Obj.cells #[.int .i64 0, .string ⟨#[]⟩, .int .u32 0, .string ⟨#[]⟩] 51) = W0 at R C hW hb
 generalize hrb : w.heap.size = rb at R C hBw
 have K := Blk.new W0 9 #[.string ⟨#[97, 99, 99, 101, 112, 116]⟩, .string ⟨#[114, 101, 106, 101, 99, 116]⟩, .string ⟨#[112, 114, 101, 102]⟩, .string ⟨#[109, 101, 100]⟩, .string ⟨#[110, 111, 45, 109, 101, 100]⟩, .string ⟨#[97, 100, 100]⟩, .string ⟨#[100, 101, 108]⟩, .string ⟨#[112, 114, 101, 112, 101, 110, 100]⟩, .string ⟨#[110, 101, 120, 116]⟩, .string ⟨#[111, 114, 105, 103, 105, 110]⟩]
 have hW1 := hW.alloc (Obj.cells #[.string ⟨#[97, 99, 99, 101, 112, 116]⟩, .string ⟨#[114, 101, 106, 101, 99, 116]⟩, .string ⟨#[112, 114, 101, 102]⟩, .string ⟨#[109, 101, 100]⟩, .string ⟨#[110, 111, 45, 109, 101, 100]⟩, .string ⟨#[97, 100, 100]⟩, .string ⟨#[100, 101, 108]⟩, .string ⟨#[112, 114, 101, 112, 101, 110, 100]⟩, .string ⟨#[110, 101, 120, 116]⟩, .string ⟨#[111, 114, 105, 103, 105, 110]⟩] 9)
 have hb1 := hb.alloc (Obj.cells #[.string ⟨#[97, 99, 99, 101, 112, 116]⟩, .string ⟨#[114, 101, 106, 101, 99, 116]⟩, .string ⟨#[112, 114, 101, 102]⟩, .string ⟨#[109, 101, 100]⟩, .string ⟨#[110, 111, 45, 109, 101, 100]⟩, .string ⟨#[97, 100, 100]⟩, .string ⟨#[100, 101, 108]⟩, .string ⟨#[112, 114, 101, 112, 101, 110, 100]⟩, .string ⟨#[110, 101, 120, 116]⟩, .string ⟨#[111, 114, 105, 103, 105, 110]⟩] 9)
 have R1 := R.alloc (Obj.cells #[.string ⟨#[97, 99, 99, 101, 112, 116]⟩, .string ⟨#[114, 101, 106, 101, 99, 116]⟩, .string ⟨#[112, 114, 101, 102]⟩, .string ⟨#[109, 101, 100]⟩, .string ⟨#[110, 111, 45, 109, 101, 100]⟩, .string ⟨#[97, 100, 100]⟩, .string ⟨#[100, 101, 108]⟩, .string ⟨#[112, 114, 101, 112, 101, 110, 100]⟩, .string ⟨#[110, 101, 120, 116]⟩, .string ⟨#[111, 114, 105, 103, 105, 110]⟩] 9)
 have C1 := C.alloc (Obj.cells #[.string ⟨#[97, 99, 99, 101, 112, 116]⟩, .string ⟨#[114, 101, 106, 101, 99, 116]⟩, .string ⟨#[112, 114, 101, 102]⟩, .string ⟨#[109, 101, 100]⟩, .string ⟨#[110, 111, 45, 109, 101, 100]⟩, .string ⟨#[97, 100, 100]⟩, .string ⟨#[100, 101, 108]⟩, .string ⟨#[112, 114, 101, 112, 101, 110, 100]⟩, .string ⟨#[110, 101, 120, 116]⟩, .string ⟨#[111, 114, 105, 103, 105, 110]⟩] 9)
 generalize hWc : W0.alloc (Obj.cells #[.string ⟨#[97, 99, 99, 101, 112, 116]⟩, .string ⟨#[114, 101, 106, 101, 99, 116]⟩, .string ⟨#[112, 114, 101, 102]⟩, .string ⟨#[109, 101, 100]⟩, .string ⟨#[110, 111, 45, 109, 101, 100]⟩, .string ⟨#[97, 100, 100]⟩, .string ⟨#[100, 101, 108]⟩, .string ⟨#[112, 114, 101, 112, 101, 110, 100]⟩, .string ⟨#[110, 101, 120, 116]⟩, .string ⟨#[111, 114, 105, 103, 105, 110]⟩] 9) = W1 at K hW1 hb1 R1 C1
 generalize hkc : W0.heap.size = kc at K
 have hkk : kc ≠ g := by have := hW.up; omega
 clear h R C hW hb
 replace hok := hide hok
 replace hno := hide hno
 replace hT := hide hT
 replace hV := hide hV
 replace hD := hide hD
 replace h0 := hide h0
 replace hl := hide hl
 replace K := hide K
 replace hW1 := hide hW1
 replace hb1 := hide hb1
 replace R1 := hide R1
 replace C1 := hide C1
 go_enter Tryz.func49, Tryz.ntmps49
 go_wp2_with fail
 rcases l with _ | ⟨x, r⟩
 ·refine (next_none g _ B hW1.out).mono ?_
  rintro e W2 ⟨rfl, he⟩
  go_wp2
  exact ⟨rfl, hno.out _ rfl (hb1.out.trans (But.of he))⟩
 refine (next_some g x r _ B hW1.out).mono ?_
 rintro e W2 ⟨rfl, hb2, hW2⟩
 have hb3 := hide (hb1.out.trans hb2)
 have R3 := hide (R1.out.but hb2 (by omega))
 have C3 := hide (C1.out.but hb2 (by omega))
 have K3 := K.out.but hb2 hkk
 have hKs := sl_words aW (by decide) K3
 have hW3 := hide hW2
 clear hb1 R1 C1 hW1 hb2 hW2 K K3 hWc hkc hWb
 rcases aw_cases x with rfl | rfl | rfl | rfl | rfl | rfl | rfl | rfl | rfl | rfl | ⟨hi, hk0⟩
 ·have qi : Calls Tryz.prog 100 #[.slice (some ⟨kc, 0, none⟩) 10 10, .string ⟨#[97, 99, 99, 101, 112, 116]⟩] W2 fun e w' => e = .returned (.int .i64 0) ∧ W2 = w' := PIndex_some _ 10 aW [97, 99, 99, 101, 112, 116] 0 W2 _ (by decide) hKs (by decide) (by decide +kernel)
  clear hKs hkk
  replace qi := hide qi
  have c0 : W2.cell? ⟨rb + 1, 0, none⟩ = some (.int .i64 0) := C3.out.cell 0
  have c1 : W2.cell? ⟨rb + 1, 1, none⟩ = some (.string ⟨#[]⟩) := C3.out.cell 1
  have c2 : W2.cell? ⟨rb + 1, 2, none⟩ = some (.int .u32 0) := C3.out.cell 2
  have c3 : W2.cell? ⟨rb + 1, 3, none⟩ = some (.string ⟨#[]⟩) := C3.out.cell 3
  have cf := fun i => C3.out.frozen i
  go_wp2_with fail
  (with_reducible refine qi.out.mono ?_)
  rintro e w_ ⟨rfl, rfl⟩
  clear qi
  have hW4 := hide (hW3.out.set (show B ≤ rb + 1 by omega) 0 (.int .i64 1))
  have hb4 := hide (hb3.out.far (k := rb + 1) (by omega) 0 (.int .i64 1))
  have R4 := hide (R3.out.far (p := ⟨rb + 1, 0, none⟩) (show rb ≠ rb + 1 by omega) (.int .i64 1))
  have C4 : Blk (W2.setCell ⟨rb + 1, 0, none⟩ (.int .i64 1)) (rb + 1) 51 #[.int .i64 1, .string ⟨#[]⟩, .int .u32 0, .string ⟨#[]⟩] := C3.out.set_ 0 (.int .i64 1)
  replace C4 := hide C4
  clear hW3 hb3 R3 C3
  go_upto_region 3 with fail
  clear c0 c1 c2 c3 cf
  generalize W2.setCell ⟨rb + 1, 0, none⟩ (.int .i64 1) = W4 at hW4 hb4 R4 C4 ⊢
  have c0 : W4.cell? ⟨rb + 1, 0, none⟩ = some (.int .i64 1) := C4.out.cell 0
  have c1 : W4.cell? ⟨rb + 1, 1, none⟩ = some (.string ⟨#[]⟩) := C4.out.cell 1
  have c2 : W4.cell? ⟨rb + 1, 2, none⟩ = some (.int .u32 0) := C4.out.cell 2
  have c3 : W4.cell? ⟨rb + 1, 3, none⟩ = some (.string ⟨#[]⟩) := C4.out.cell 3
  have cf := fun i => C4.out.frozen i
  have hgo := readA_one [97, 99, 99, 101, 112, 116] r (by decide)
  rw [show actK [97, 99, 99, 101, 112, 116] = 1 by decide] at hgo
  replace hgo := hide hgo
  go_wp2_with fail
  (with_reducible refine (must_t _).mono ?_)
  rintro e w_ ⟨rfl, rfl⟩
  clear c0 c1 c2 c3 cf
  have zz0 : W4.cell? ⟨rb + 1, 0, none⟩ = some (.int .i64 1) := C4.out.cell 0
  have zz1 : W4.cell? ⟨rb + 1, 1, none⟩ = some (.string ⟨#[]⟩) := C4.out.cell 1
  have zz2 : W4.cell? ⟨rb + 1, 2, none⟩ = some (.int .u32 0) := C4.out.cell 2
  have zz3 : W4.cell? ⟨rb + 1, 3, none⟩ = some (.string ⟨#[]⟩) := C4.out.cell 3
  have r0 : W4.cell? ⟨rb, 0, none⟩ = some (.int .i64 0) := R4.out.cell 0
  have r1 : W4.cell? ⟨rb, 1, none⟩ = some (.string ⟨#[]⟩) := R4.out.cell 1
  have r2 : W4.cell? ⟨rb, 2, none⟩ = some (.int .u32 0) := R4.out.cell 2
  have r3 : W4.cell? ⟨rb, 3, none⟩ = some (.string ⟨#[]⟩) := R4.out.cell 3
  have rf := fun i => R4.out.frozen i
  have hRZ := R4.out.fill4 (.int .i64 1) (.string ⟨#[]⟩) (.int .u32 0) (.string ⟨#[]⟩)
  have hWZ := hW4.out.set4 (show B ≤ rb by omega) (.int .i64 1) (.string ⟨#[]⟩) (.int .u32 0) (.string ⟨#[]⟩)
  have hbZ := hb4.out.set4 (k := rb) (by omega) (.int .i64 1) (.string ⟨#[]⟩) (.int .u32 0) (.string ⟨#[]⟩)
  have z0 := hRZ.cell 0
  have z1 := hRZ.cell 1
  have z2 := hRZ.cell 2
  have z3 := hRZ.cell 3
  simp at z0 z1 z2 z3
  clear hRZ
  replace hWZ := hide hWZ
  replace hbZ := hide hbZ
  go_wp2_with fail
  exact bodyPost_ret (v := .agg #[.int .i64 1, .string ⟨#[]⟩, .int .u32 0, .string ⟨#[]⟩]) (by simp [results, Tryz.results49, go_sem, z0, z1, z2, z3]) rfl (hok.out _ _ _ hgo.out hWZ.out hbZ.out)
 ·have qi : Calls Tryz.prog 100 #[.slice (some ⟨kc, 0, none⟩) 10 10, .string ⟨#[114, 101, 106, 101, 99, 116]⟩] W2 fun e w' => e = .returned (.int .i64 1) ∧ W2 = w' := PIndex_some _ 10 aW [114, 101, 106, 101, 99, 116] 1 W2 _ (by decide) hKs (by decide) (by decide +kernel)
  clear hKs hkk
  replace qi := hide qi
  have c0 : W2.cell? ⟨rb + 1, 0, none⟩ = some (.int .i64 0) := C3.out.cell 0
  have c1 : W2.cell? ⟨rb + 1, 1, none⟩ = some (.string ⟨#[]⟩) := C3.out.cell 1
  have c2 : W2.cell? ⟨rb + 1, 2, none⟩ = some (.int .u32 0) := C3.out.cell 2
  have c3 : W2.cell? ⟨rb + 1, 3, none⟩ = some (.string ⟨#[]⟩) := C3.out.cell 3
  have cf := fun i => C3.out.frozen i
  go_wp2_with fail
  (with_reducible refine qi.out.mono ?_)
  rintro e w_ ⟨rfl, rfl⟩
  clear qi
  have hW4 := hide (hW3.out.set (show B ≤ rb + 1 by omega) 0 (.int .i64 2))
  have hb4 := hide (hb3.out.far (k := rb + 1) (by omega) 0 (.int .i64 2))
  have R4 := hide (R3.out.far (p := ⟨rb + 1, 0, none⟩) (show rb ≠ rb + 1 by omega) (.int .i64 2))
  have C4 : Blk (W2.setCell ⟨rb + 1, 0, none⟩ (.int .i64 2)) (rb + 1) 51 #[.int .i64 2, .string ⟨#[]⟩, .int .u32 0, .string ⟨#[]⟩] := C3.out.set_ 0 (.int .i64 2)
  replace C4 := hide C4
  clear hW3 hb3 R3 C3
  go_upto_region 3 with fail
  clear c0 c1 c2 c3 cf
  generalize W2.setCell ⟨rb + 1, 0, none⟩ (.int .i64 2) = W4 at hW4 hb4 R4 C4 ⊢
  have c0 : W4.cell? ⟨rb + 1, 0, none⟩ = some (.int .i64 2) := C4.out.cell 0
  have c1 : W4.cell? ⟨rb + 1, 1, none⟩ = some (.string ⟨#[]⟩) := C4.out.cell 1
  have c2 : W4.cell? ⟨rb + 1, 2, none⟩ = some (.int .u32 0) := C4.out.cell 2
  have c3 : W4.cell? ⟨rb + 1, 3, none⟩ = some (.string ⟨#[]⟩) := C4.out.cell 3
  have cf := fun i => C4.out.frozen i
  have hgo := readA_one [114, 101, 106, 101, 99, 116] r (by decide)
  rw [show actK [114, 101, 106, 101, 99, 116] = 2 by decide] at hgo
  replace hgo := hide hgo
  go_wp2_with fail
  (with_reducible refine (must_t _).mono ?_)
  rintro e w_ ⟨rfl, rfl⟩
  clear c0 c1 c2 c3 cf
  have zz0 : W4.cell? ⟨rb + 1, 0, none⟩ = some (.int .i64 2) := C4.out.cell 0
  have zz1 : W4.cell? ⟨rb + 1, 1, none⟩ = some (.string ⟨#[]⟩) := C4.out.cell 1
  have zz2 : W4.cell? ⟨rb + 1, 2, none⟩ = some (.int .u32 0) := C4.out.cell 2
  have zz3 : W4.cell? ⟨rb + 1, 3, none⟩ = some (.string ⟨#[]⟩) := C4.out.cell 3
  have r0 : W4.cell? ⟨rb, 0, none⟩ = some (.int .i64 0) := R4.out.cell 0
  have r1 : W4.cell? ⟨rb, 1, none⟩ = some (.string ⟨#[]⟩) := R4.out.cell 1
  have r2 : W4.cell? ⟨rb, 2, none⟩ = some (.int .u32 0) := R4.out.cell 2
  have r3 : W4.cell? ⟨rb, 3, none⟩ = some (.string ⟨#[]⟩) := R4.out.cell 3
  have rf := fun i => R4.out.frozen i
  have hRZ := R4.out.fill4 (.int .i64 2) (.string ⟨#[]⟩) (.int .u32 0) (.string ⟨#[]⟩)
  have hWZ := hW4.out.set4 (show B ≤ rb by omega) (.int .i64 2) (.string ⟨#[]⟩) (.int .u32 0) (.string ⟨#[]⟩)
  have hbZ := hb4.out.set4 (k := rb) (by omega) (.int .i64 2) (.string ⟨#[]⟩) (.int .u32 0) (.string ⟨#[]⟩)
  have z0 := hRZ.cell 0
  have z1 := hRZ.cell 1
  have z2 := hRZ.cell 2
  have z3 := hRZ.cell 3
  simp at z0 z1 z2 z3
  clear hRZ
  replace hWZ := hide hWZ
  replace hbZ := hide hbZ
  go_wp2_with fail
  exact bodyPost_ret (v := .agg #[.int .i64 2, .string ⟨#[]⟩, .int .u32 0, .string ⟨#[]⟩]) (by simp [results, Tryz.results49, go_sem, z0, z1, z2, z3]) rfl (hok.out _ _ _ hgo.out hWZ.out hbZ.out)
 ·have qi : Calls Tryz.prog 100 #[.slice (some ⟨kc, 0, none⟩) 10 10, .string ⟨#[112, 114, 101, 102]⟩] W2 fun e w' => e = .returned (.int .i64 2) ∧ W2 = w' := PIndex_some _ 10 aW [112, 114, 101, 102] 2 W2 _ (by decide) hKs (by decide) (by decide +kernel)
  clear hKs hkk
  replace qi := hide qi
  have c0 : W2.cell? ⟨rb + 1, 0, none⟩ = some (.int .i64 0) := C3.out.cell 0
  have c1 : W2.cell? ⟨rb + 1, 1, none⟩ = some (.string ⟨#[]⟩) := C3.out.cell 1
  have c2 : W2.cell? ⟨rb + 1, 2, none⟩ = some (.int .u32 0) := C3.out.cell 2
  have c3 : W2.cell? ⟨rb + 1, 3, none⟩ = some (.string ⟨#[]⟩) := C3.out.cell 3
  have cf := fun i => C3.out.frozen i
  go_wp2_with fail
  (with_reducible refine qi.out.mono ?_)
  rintro e w_ ⟨rfl, rfl⟩
  clear qi
  have hW4 := hide (hW3.out.set (show B ≤ rb + 1 by omega) 0 (.int .i64 3))
  have hb4 := hide (hb3.out.far (k := rb + 1) (by omega) 0 (.int .i64 3))
  have R4 := hide (R3.out.far (p := ⟨rb + 1, 0, none⟩) (show rb ≠ rb + 1 by omega) (.int .i64 3))
  have C4 : Blk (W2.setCell ⟨rb + 1, 0, none⟩ (.int .i64 3)) (rb + 1) 51 #[.int .i64 3, .string ⟨#[]⟩, .int .u32 0, .string ⟨#[]⟩] := C3.out.set_ 0 (.int .i64 3)
  replace C4 := hide C4
  clear hW3 hb3 R3 C3
  go_upto_region 3 with fail
  clear c0 c1 c2 c3 cf
  generalize W2.setCell ⟨rb + 1, 0, none⟩ (.int .i64 3) = W4 at hW4 hb4 R4 C4 ⊢
  have c0 : W4.cell? ⟨rb + 1, 0, none⟩ = some (.int .i64 3) := C4.out.cell 0
  have c1 : W4.cell? ⟨rb + 1, 1, none⟩ = some (.string ⟨#[]⟩) := C4.out.cell 1
  have c2 : W4.cell? ⟨rb + 1, 2, none⟩ = some (.int .u32 0) := C4.out.cell 2
  have c3 : W4.cell? ⟨rb + 1, 3, none⟩ = some (.string ⟨#[]⟩) := C4.out.cell 3
  have cf := fun i => C4.out.frozen i
  have hsh := readA_short [112, 114, 101, 102] (by decide) (by decide)
  have htw := fun x s => readA_two [112, 114, 101, 102] x s (by decide) (by decide)
  rw [show actK [112, 114, 101, 102] = 3 by decide] at htw
  replace htw := hide htw
  replace hsh := hide hsh
  go_wp2_with fail
  rcases r with _ | ⟨x2, q⟩
  ·refine (next_none g _ B hW4.out).mono ?_
   rintro e W6 ⟨rfl, he⟩
   go_wp2
   exact ⟨rfl, hno.out _ hsh.out (hb4.out.trans (But.of he))⟩
  refine (next_some g x2 q _ B hW4.out).mono ?_
  rintro e W6 ⟨rfl, hb2, hW6⟩
  have hb6 := hide (hb4.out.trans hb2)
  have R6 := hide (R4.out.but hb2 (by omega))
  have C6 := hide (C4.out.but hb2 (by omega))
  replace hW6 := hide hW6
  clear hW4 hb4 R4 C4 hb2 c0 c1 c2 c3 cf
  have hx2 := hl.out x2 (by simp)
  have c0 : W6.cell? ⟨rb + 1, 0, none⟩ = some (.int .i64 3) := C6.out.cell 0
  have c1 : W6.cell? ⟨rb + 1, 1, none⟩ = some (.string ⟨#[]⟩) := C6.out.cell 1
  have c2 : W6.cell? ⟨rb + 1, 2, none⟩ = some (.int .u32 0) := C6.out.cell 2
  have c3 : W6.cell? ⟨rb + 1, 3, none⟩ = some (.string ⟨#[]⟩) := C6.out.cell 3
  have cf := fun i => C6.out.frozen i
  have hE6 := But.ext h0.out hb6.out hg
  have qn := PNum_any x2 W6 (hT.out.ext hE6) (hV.out.ext hE6) hx2
  unfold NumW at qn
  clear hE6
  rcases hnn : numO x2 4294967296 with _ | n
  ·rw [hnn] at qn
   have hgo := (htw.out x2 q).trans (show _ = none by unfold readX; rw [if_pos (by decide), hnn]; rfl)
   replace qn := hide qn
   replace hgo := hide hgo
   clear hnn
   go_wp2_with fail
   (with_reducible refine qn.out.mono ?_)
   rintro e W7 ⟨rfl, he⟩
   go_wp2
   exact ⟨rfl, hno.out _ hgo.out (hb6.out.trans (But.of he))⟩
  ·rw [hnn] at qn
   have hn32 := (numO_some hnn).1
   have hgo := (htw.out x2 q).trans (show _ = some ((⟨3, [], UInt32.ofNat n, []⟩ : ActS), q) by unfold readX; rw [if_pos (by decide), hnn]; rfl)
   have hun : (UInt32.ofNat n).toNat = n := by rw [UInt32.toNat_ofNat']; omega
   obtain ⟨u, hu⟩ : ∃ u, UInt32.ofNat n = u := ⟨_, rfl⟩
   rw [hu] at hgo hun
   dsimp only at qn
   rw [← hun] at qn
   replace qn := hide qn
   replace hgo := hide hgo
   clear hnn hn32 hun hu
   go_wp2_with fail
   (with_reducible refine qn.out.mono ?_)
   rintro e W7 ⟨rfl, he⟩
   have hW7 := hide (hW6.out.ext he)
   have hb7 := hide (hb6.out.trans (But.of he))
   have R7 := hide (R6.out.ext he)
   have C7 := hide (C6.out.ext he)
   clear he c0 c1 c2 c3 cf hW6 hb6 R6 C6
   have c0 : W7.cell? ⟨rb + 1, 0, none⟩ = some (.int .i64 3) := C7.out.cell 0
   have c1 : W7.cell? ⟨rb + 1, 1, none⟩ = some (.string ⟨#[]⟩) := C7.out.cell 1
   have c2 : W7.cell? ⟨rb + 1, 2, none⟩ = some (.int .u32 0) := C7.out.cell 2
   have c3 : W7.cell? ⟨rb + 1, 3, none⟩ = some (.string ⟨#[]⟩) := C7.out.cell 3
   have cf := fun i => C7.out.frozen i
   have hW8 := hide (hW7.out.set (show B ≤ rb + 1 by omega) 2 (.int .u32 (u.toNat : Int)))
   have hb8 := hide (hb7.out.far (k := rb + 1) (by omega) 2 (.int .u32 (u.toNat : Int)))
   have R8 := hide (R7.out.far (p := ⟨rb + 1, 2, none⟩) (show rb ≠ rb + 1 by omega) (.int .u32 (u.toNat : Int)))
   have C8 : Blk (W7.setCell ⟨rb + 1, 2, none⟩ (.int .u32 (u.toNat : Int))) (rb + 1) 51 #[.int .i64 3, .string ⟨#[]⟩, .int .u32 (u.toNat : Int), .string ⟨#[]⟩] := C7.out.set_ 2 (.int .u32 (u.toNat : Int))
   replace C8 := hide C8
   clear hW7 hb7 R7 C7
   go_upto_region 17 with fail
   clear c0 c1 c2 c3 cf
   generalize W7.setCell ⟨rb + 1, 2, none⟩ (.int .u32 (u.toNat : Int)) = W8 at hW8 hb8 R8 C8 ⊢
   go_wp2_with fail
   (with_reducible refine (must_t _).mono ?_)
   rintro e w_ ⟨rfl, rfl⟩
   have zz0 : W8.cell? ⟨rb + 1, 0, none⟩ = some (.int .i64 3) := C8.out.cell 0
   have zz1 : W8.cell? ⟨rb + 1, 1, none⟩ = some (.string ⟨#[]⟩) := C8.out.cell 1
   have zz2 : W8.cell? ⟨rb + 1, 2, none⟩ = some (.int .u32 (u.toNat : Int)) := C8.out.cell 2
   have zz3 : W8.cell? ⟨rb + 1, 3, none⟩ = some (.string ⟨#[]⟩) := C8.out.cell 3
   have r0 : W8.cell? ⟨rb, 0, none⟩ = some (.int .i64 0) := R8.out.cell 0
   have r1 : W8.cell? ⟨rb, 1, none⟩ = some (.string ⟨#[]⟩) := R8.out.cell 1
   have r2 : W8.cell? ⟨rb, 2, none⟩ = some (.int .u32 0) := R8.out.cell 2
   have r3 : W8.cell? ⟨rb, 3, none⟩ = some (.string ⟨#[]⟩) := R8.out.cell 3
   have rf := fun i => R8.out.frozen i
   have hRZ := R8.out.fill4 (.int .i64 3) (.string ⟨#[]⟩) (.int .u32 (u.toNat : Int)) (.string ⟨#[]⟩)
   have hWZ := hW8.out.set4 (show B ≤ rb by omega) (.int .i64 3) (.string ⟨#[]⟩) (.int .u32 (u.toNat : Int)) (.string ⟨#[]⟩)
   have hbZ := hb8.out.set4 (k := rb) (by omega) (.int .i64 3) (.string ⟨#[]⟩) (.int .u32 (u.toNat : Int)) (.string ⟨#[]⟩)
   have z0 := hRZ.cell 0
   have z1 := hRZ.cell 1
   have z2 := hRZ.cell 2
   have z3 := hRZ.cell 3
   simp at z0 z1 z2 z3
   clear hRZ
   replace hWZ := hide hWZ
   replace hbZ := hide hbZ
   go_wp2_with fail
   exact bodyPost_ret (v := .agg #[.int .i64 3, .string ⟨#[]⟩, .int .u32 (u.toNat : Int), .string ⟨#[]⟩]) (by simp [results, Tryz.results49, go_sem, z0, z1, z2, z3]) rfl (hok.out _ _ _ hgo.out hWZ.out hbZ.out)
 ·have qi : Calls Tryz.prog 100 #[.slice (some ⟨kc, 0, none⟩) 10 10, .string ⟨#[109, 101, 100]⟩] W2 fun e w' => e = .returned (.int .i64 3) ∧ W2 = w' := PIndex_some _ 10 aW [109, 101, 100] 3 W2 _ (by decide) hKs (by decide) (by decide +kernel)
  clear hKs hkk
  replace qi := hide qi
  have c0 : W2.cell? ⟨rb + 1, 0, none⟩ = some (.int .i64 0) := C3.out.cell 0
  have c1 : W2.cell? ⟨rb + 1, 1, none⟩ = some (.string ⟨#[]⟩) := C3.out.cell 1
  have c2 : W2.cell? ⟨rb + 1, 2, none⟩ = some (.int .u32 0) := C3.out.cell 2
  have c3 : W2.cell? ⟨rb + 1, 3, none⟩ = some (.string ⟨#[]⟩) := C3.out.cell 3
  have cf := fun i => C3.out.frozen i
  go_wp2_with fail
  (with_reducible refine qi.out.mono ?_)
  rintro e w_ ⟨rfl, rfl⟩
  clear qi
  have hW4 := hide (hW3.out.set (show B ≤ rb + 1 by omega) 0 (.int .i64 4))
  have hb4 := hide (hb3.out.far (k := rb + 1) (by omega) 0 (.int .i64 4))
  have R4 := hide (R3.out.far (p := ⟨rb + 1, 0, none⟩) (show rb ≠ rb + 1 by omega) (.int .i64 4))
  have C4 : Blk (W2.setCell ⟨rb + 1, 0, none⟩ (.int .i64 4)) (rb + 1) 51 #[.int .i64 4, .string ⟨#[]⟩, .int .u32 0, .string ⟨#[]⟩] := C3.out.set_ 0 (.int .i64 4)
  replace C4 := hide C4
  clear hW3 hb3 R3 C3
  go_upto_region 3 with fail
  clear c0 c1 c2 c3 cf
  generalize W2.setCell ⟨rb + 1, 0, none⟩ (.int .i64 4) = W4 at hW4 hb4 R4 C4 ⊢
  have c0 : W4.cell? ⟨rb + 1, 0, none⟩ = some (.int .i64 4) := C4.out.cell 0
  have c1 : W4.cell? ⟨rb + 1, 1, none⟩ = some (.string ⟨#[]⟩) := C4.out.cell 1
  have c2 : W4.cell? ⟨rb + 1, 2, none⟩ = some (.int .u32 0) := C4.out.cell 2
  have c3 : W4.cell? ⟨rb + 1, 3, none⟩ = some (.string ⟨#[]⟩) := C4.out.cell 3
  have cf := fun i => C4.out.frozen i
  have hsh := readA_short [109, 101, 100] (by decide) (by decide)
  have htw := fun x s => readA_two [109, 101, 100] x s (by decide) (by decide)
  rw [show actK [109, 101, 100] = 4 by decide] at htw
  replace htw := hide htw
  replace hsh := hide hsh
  go_wp2_with fail
  rcases r with _ | ⟨x2, q⟩
  ·refine (next_none g _ B hW4.out).mono ?_
   rintro e W6 ⟨rfl, he⟩
   go_wp2
   exact ⟨rfl, hno.out _ hsh.out (hb4.out.trans (But.of he))⟩
  refine (next_some g x2 q _ B hW4.out).mono ?_
  rintro e W6 ⟨rfl, hb2, hW6⟩
  have hb6 := hide (hb4.out.trans hb2)
  have R6 := hide (R4.out.but hb2 (by omega))
  have C6 := hide (C4.out.but hb2 (by omega))
  replace hW6 := hide hW6
  clear hW4 hb4 R4 C4 hb2 c0 c1 c2 c3 cf
  have hx2 := hl.out x2 (by simp)
  have c0 : W6.cell? ⟨rb + 1, 0, none⟩ = some (.int .i64 4) := C6.out.cell 0
  have c1 : W6.cell? ⟨rb + 1, 1, none⟩ = some (.string ⟨#[]⟩) := C6.out.cell 1
  have c2 : W6.cell? ⟨rb + 1, 2, none⟩ = some (.int .u32 0) := C6.out.cell 2
  have c3 : W6.cell? ⟨rb + 1, 3, none⟩ = some (.string ⟨#[]⟩) := C6.out.cell 3
  have cf := fun i => C6.out.frozen i
  have hE6 := But.ext h0.out hb6.out hg
  have qn := PNum_any x2 W6 (hT.out.ext hE6) (hV.out.ext hE6) hx2
  unfold NumW at qn
  clear hE6
  rcases hnn : numO x2 4294967296 with _ | n
  ·rw [hnn] at qn
   have hgo := (htw.out x2 q).trans (show _ = none by unfold readX; rw [if_pos (by decide), hnn]; rfl)
   replace qn := hide qn
   replace hgo := hide hgo
   clear hnn
   go_wp2_with fail
   (with_reducible refine qn.out.mono ?_)
   rintro e W7 ⟨rfl, he⟩
   go_wp2
   exact ⟨rfl, hno.out _ hgo.out (hb6.out.trans (But.of he))⟩
  ·rw [hnn] at qn
   have hn32 := (numO_some hnn).1
   have hgo := (htw.out x2 q).trans (show _ = some ((⟨4, [], UInt32.ofNat n, []⟩ : ActS), q) by unfold readX; rw [if_pos (by decide), hnn]; rfl)
   have hun : (UInt32.ofNat n).toNat = n := by rw [UInt32.toNat_ofNat']; omega
   obtain ⟨u, hu⟩ : ∃ u, UInt32.ofNat n = u := ⟨_, rfl⟩
   rw [hu] at hgo hun
   dsimp only at qn
   rw [← hun] at qn
   replace qn := hide qn
   replace hgo := hide hgo
   clear hnn hn32 hun hu
   go_wp2_with fail
   (with_reducible refine qn.out.mono ?_)
   rintro e W7 ⟨rfl, he⟩
   have hW7 := hide (hW6.out.ext he)
   have hb7 := hide (hb6.out.trans (But.of he))
   have R7 := hide (R6.out.ext he)
   have C7 := hide (C6.out.ext he)
   clear he c0 c1 c2 c3 cf hW6 hb6 R6 C6
   have c0 : W7.cell? ⟨rb + 1, 0, none⟩ = some (.int .i64 4) := C7.out.cell 0
   have c1 : W7.cell? ⟨rb + 1, 1, none⟩ = some (.string ⟨#[]⟩) := C7.out.cell 1
   have c2 : W7.cell? ⟨rb + 1, 2, none⟩ = some (.int .u32 0) := C7.out.cell 2
   have c3 : W7.cell? ⟨rb + 1, 3, none⟩ = some (.string ⟨#[]⟩) := C7.out.cell 3
   have cf := fun i => C7.out.frozen i
   have hW8 := hide (hW7.out.set (show B ≤ rb + 1 by omega) 2 (.int .u32 (u.toNat : Int)))
   have hb8 := hide (hb7.out.far (k := rb + 1) (by omega) 2 (.int .u32 (u.toNat : Int)))
   have R8 := hide (R7.out.far (p := ⟨rb + 1, 2, none⟩) (show rb ≠ rb + 1 by omega) (.int .u32 (u.toNat : Int)))
   have C8 : Blk (W7.setCell ⟨rb + 1, 2, none⟩ (.int .u32 (u.toNat : Int))) (rb + 1) 51 #[.int .i64 4, .string ⟨#[]⟩, .int .u32 (u.toNat : Int), .string ⟨#[]⟩] := C7.out.set_ 2 (.int .u32 (u.toNat : Int))
   replace C8 := hide C8
   clear hW7 hb7 R7 C7
   go_upto_region 17 with fail
   clear c0 c1 c2 c3 cf
   generalize W7.setCell ⟨rb + 1, 2, none⟩ (.int .u32 (u.toNat : Int)) = W8 at hW8 hb8 R8 C8 ⊢
   go_wp2_with fail
   (with_reducible refine (must_t _).mono ?_)
   rintro e w_ ⟨rfl, rfl⟩
   have zz0 : W8.cell? ⟨rb + 1, 0, none⟩ = some (.int .i64 4) := C8.out.cell 0
   have zz1 : W8.cell? ⟨rb + 1, 1, none⟩ = some (.string ⟨#[]⟩) := C8.out.cell 1
   have zz2 : W8.cell? ⟨rb + 1, 2, none⟩ = some (.int .u32 (u.toNat : Int)) := C8.out.cell 2
   have zz3 : W8.cell? ⟨rb + 1, 3, none⟩ = some (.string ⟨#[]⟩) := C8.out.cell 3
   have r0 : W8.cell? ⟨rb, 0, none⟩ = some (.int .i64 0) := R8.out.cell 0
   have r1 : W8.cell? ⟨rb, 1, none⟩ = some (.string ⟨#[]⟩) := R8.out.cell 1
   have r2 : W8.cell? ⟨rb, 2, none⟩ = some (.int .u32 0) := R8.out.cell 2
   have r3 : W8.cell? ⟨rb, 3, none⟩ = some (.string ⟨#[]⟩) := R8.out.cell 3
   have rf := fun i => R8.out.frozen i
   have hRZ := R8.out.fill4 (.int .i64 4) (.string ⟨#[]⟩) (.int .u32 (u.toNat : Int)) (.string ⟨#[]⟩)
   have hWZ := hW8.out.set4 (show B ≤ rb by omega) (.int .i64 4) (.string ⟨#[]⟩) (.int .u32 (u.toNat : Int)) (.string ⟨#[]⟩)
   have hbZ := hb8.out.set4 (k := rb) (by omega) (.int .i64 4) (.string ⟨#[]⟩) (.int .u32 (u.toNat : Int)) (.string ⟨#[]⟩)
   have z0 := hRZ.cell 0
   have z1 := hRZ.cell 1
   have z2 := hRZ.cell 2
   have z3 := hRZ.cell 3
   simp at z0 z1 z2 z3
   clear hRZ
   replace hWZ := hide hWZ
   replace hbZ := hide hbZ
   go_wp2_with fail
   exact bodyPost_ret (v := .agg #[.int .i64 4, .string ⟨#[]⟩, .int .u32 (u.toNat : Int), .string ⟨#[]⟩]) (by simp [results, Tryz.results49, go_sem, z0, z1, z2, z3]) rfl (hok.out _ _ _ hgo.out hWZ.out hbZ.out)
 ·have qi : Calls Tryz.prog 100 #[.slice (some ⟨kc, 0, none⟩) 10 10, .string ⟨#[110, 111, 45, 109, 101, 100]⟩] W2 fun e w' => e = .returned (.int .i64 4) ∧ W2 = w' := PIndex_some _ 10 aW [110, 111, 45, 109, 101, 100] 4 W2 _ (by decide) hKs (by decide) (by decide +kernel)
  clear hKs hkk
  replace qi := hide qi
  have c0 : W2.cell? ⟨rb + 1, 0, none⟩ = some (.int .i64 0) := C3.out.cell 0
  have c1 : W2.cell? ⟨rb + 1, 1, none⟩ = some (.string ⟨#[]⟩) := C3.out.cell 1
  have c2 : W2.cell? ⟨rb + 1, 2, none⟩ = some (.int .u32 0) := C3.out.cell 2
  have c3 : W2.cell? ⟨rb + 1, 3, none⟩ = some (.string ⟨#[]⟩) := C3.out.cell 3
  have cf := fun i => C3.out.frozen i
  go_wp2_with fail
  (with_reducible refine qi.out.mono ?_)
  rintro e w_ ⟨rfl, rfl⟩
  clear qi
  have hW4 := hide (hW3.out.set (show B ≤ rb + 1 by omega) 0 (.int .i64 5))
  have hb4 := hide (hb3.out.far (k := rb + 1) (by omega) 0 (.int .i64 5))
  have R4 := hide (R3.out.far (p := ⟨rb + 1, 0, none⟩) (show rb ≠ rb + 1 by omega) (.int .i64 5))
  have C4 : Blk (W2.setCell ⟨rb + 1, 0, none⟩ (.int .i64 5)) (rb + 1) 51 #[.int .i64 5, .string ⟨#[]⟩, .int .u32 0, .string ⟨#[]⟩] := C3.out.set_ 0 (.int .i64 5)
  replace C4 := hide C4
  clear hW3 hb3 R3 C3
  go_upto_region 3 with fail
  clear c0 c1 c2 c3 cf
  generalize W2.setCell ⟨rb + 1, 0, none⟩ (.int .i64 5) = W4 at hW4 hb4 R4 C4 ⊢
  have c0 : W4.cell? ⟨rb + 1, 0, none⟩ = some (.int .i64 5) := C4.out.cell 0
  have c1 : W4.cell? ⟨rb + 1, 1, none⟩ = some (.string ⟨#[]⟩) := C4.out.cell 1
  have c2 : W4.cell? ⟨rb + 1, 2, none⟩ = some (.int .u32 0) := C4.out.cell 2
  have c3 : W4.cell? ⟨rb + 1, 3, none⟩ = some (.string ⟨#[]⟩) := C4.out.cell 3
  have cf := fun i => C4.out.frozen i
  have hgo := readA_one [110, 111, 45, 109, 101, 100] r (by decide)
  rw [show actK [110, 111, 45, 109, 101, 100] = 5 by decide] at hgo
  replace hgo := hide hgo
  go_wp2_with fail
  (with_reducible refine (must_t _).mono ?_)
  rintro e w_ ⟨rfl, rfl⟩
  clear c0 c1 c2 c3 cf
  have zz0 : W4.cell? ⟨rb + 1, 0, none⟩ = some (.int .i64 5) := C4.out.cell 0
  have zz1 : W4.cell? ⟨rb + 1, 1, none⟩ = some (.string ⟨#[]⟩) := C4.out.cell 1
  have zz2 : W4.cell? ⟨rb + 1, 2, none⟩ = some (.int .u32 0) := C4.out.cell 2
  have zz3 : W4.cell? ⟨rb + 1, 3, none⟩ = some (.string ⟨#[]⟩) := C4.out.cell 3
  have r0 : W4.cell? ⟨rb, 0, none⟩ = some (.int .i64 0) := R4.out.cell 0
  have r1 : W4.cell? ⟨rb, 1, none⟩ = some (.string ⟨#[]⟩) := R4.out.cell 1
  have r2 : W4.cell? ⟨rb, 2, none⟩ = some (.int .u32 0) := R4.out.cell 2
  have r3 : W4.cell? ⟨rb, 3, none⟩ = some (.string ⟨#[]⟩) := R4.out.cell 3
  have rf := fun i => R4.out.frozen i
  have hRZ := R4.out.fill4 (.int .i64 5) (.string ⟨#[]⟩) (.int .u32 0) (.string ⟨#[]⟩)
  have hWZ := hW4.out.set4 (show B ≤ rb by omega) (.int .i64 5) (.string ⟨#[]⟩) (.int .u32 0) (.string ⟨#[]⟩)
  have hbZ := hb4.out.set4 (k := rb) (by omega) (.int .i64 5) (.string ⟨#[]⟩) (.int .u32 0) (.string ⟨#[]⟩)
  have z0 := hRZ.cell 0
  have z1 := hRZ.cell 1
  have z2 := hRZ.cell 2
  have z3 := hRZ.cell 3
  simp at z0 z1 z2 z3
  clear hRZ
  replace hWZ := hide hWZ
  replace hbZ := hide hbZ
  go_wp2_with fail
  exact bodyPost_ret (v := .agg #[.int .i64 5, .string ⟨#[]⟩, .int .u32 0, .string ⟨#[]⟩]) (by simp [results, Tryz.results49, go_sem, z0, z1, z2, z3]) rfl (hok.out _ _ _ hgo.out hWZ.out hbZ.out)
 ·have qi : Calls Tryz.prog 100 #[.slice (some ⟨kc, 0, none⟩) 10 10, .string ⟨#[97, 100, 100]⟩] W2 fun e w' => e = .returned (.int .i64 5) ∧ W2 = w' := PIndex_some _ 10 aW [97, 100, 100] 5 W2 _ (by decide) hKs (by decide) (by decide +kernel)
  clear hKs hkk
  replace qi := hide qi
  have c0 : W2.cell? ⟨rb + 1, 0, none⟩ = some (.int .i64 0) := C3.out.cell 0
  have c1 : W2.cell? ⟨rb + 1, 1, none⟩ = some (.string ⟨#[]⟩) := C3.out.cell 1
  have c2 : W2.cell? ⟨rb + 1, 2, none⟩ = some (.int .u32 0) := C3.out.cell 2
  have c3 : W2.cell? ⟨rb + 1, 3, none⟩ = some (.string ⟨#[]⟩) := C3.out.cell 3
  have cf := fun i => C3.out.frozen i
  go_wp2_with fail
  (with_reducible refine qi.out.mono ?_)
  rintro e w_ ⟨rfl, rfl⟩
  clear qi
  have hW4 := hide (hW3.out.set (show B ≤ rb + 1 by omega) 0 (.int .i64 6))
  have hb4 := hide (hb3.out.far (k := rb + 1) (by omega) 0 (.int .i64 6))
  have R4 := hide (R3.out.far (p := ⟨rb + 1, 0, none⟩) (show rb ≠ rb + 1 by omega) (.int .i64 6))
  have C4 : Blk (W2.setCell ⟨rb + 1, 0, none⟩ (.int .i64 6)) (rb + 1) 51 #[.int .i64 6, .string ⟨#[]⟩, .int .u32 0, .string ⟨#[]⟩] := C3.out.set_ 0 (.int .i64 6)
  replace C4 := hide C4
  clear hW3 hb3 R3 C3
  go_upto_region 3 with fail
  clear c0 c1 c2 c3 cf
  generalize W2.setCell ⟨rb + 1, 0, none⟩ (.int .i64 6) = W4 at hW4 hb4 R4 C4 ⊢
  have c0 : W4.cell? ⟨rb + 1, 0, none⟩ = some (.int .i64 6) := C4.out.cell 0
  have c1 : W4.cell? ⟨rb + 1, 1, none⟩ = some (.string ⟨#[]⟩) := C4.out.cell 1
  have c2 : W4.cell? ⟨rb + 1, 2, none⟩ = some (.int .u32 0) := C4.out.cell 2
  have c3 : W4.cell? ⟨rb + 1, 3, none⟩ = some (.string ⟨#[]⟩) := C4.out.cell 3
  have cf := fun i => C4.out.frozen i
  have hsh := readA_short [97, 100, 100] (by decide) (by decide)
  have htw := fun x s => readA_two [97, 100, 100] x s (by decide) (by decide)
  rw [show actK [97, 100, 100] = 6 by decide] at htw
  replace htw := hide htw
  replace hsh := hide hsh
  go_wp2_with fail
  rcases r with _ | ⟨x2, q⟩
  ·refine (next_none g _ B hW4.out).mono ?_
   rintro e W6 ⟨rfl, he⟩
   go_wp2
   exact ⟨rfl, hno.out _ hsh.out (hb4.out.trans (But.of he))⟩
  refine (next_some g x2 q _ B hW4.out).mono ?_
  rintro e W6 ⟨rfl, hb2, hW6⟩
  have hb6 := hide (hb4.out.trans hb2)
  have R6 := hide (R4.out.but hb2 (by omega))
  have C6 := hide (C4.out.but hb2 (by omega))
  replace hW6 := hide hW6
  clear hW4 hb4 R4 C4 hb2 c0 c1 c2 c3 cf
  have hx2 := hl.out x2 (by simp)
  have c0 : W6.cell? ⟨rb + 1, 0, none⟩ = some (.int .i64 6) := C6.out.cell 0
  have c1 : W6.cell? ⟨rb + 1, 1, none⟩ = some (.string ⟨#[]⟩) := C6.out.cell 1
  have c2 : W6.cell? ⟨rb + 1, 2, none⟩ = some (.int .u32 0) := C6.out.cell 2
  have c3 : W6.cell? ⟨rb + 1, 3, none⟩ = some (.string ⟨#[]⟩) := C6.out.cell 3
  have cf := fun i => C6.out.frozen i
  have hE6 := But.ext h0.out hb6.out hg
  have qn := CParse_any x2 W6 (hT.out.ext hE6) (hV.out.ext hE6) hx2
  unfold CoR at qn
  clear hE6
  rcases hnn : commO x2 with _ | u
  ·rw [hnn] at qn
   have hgo := (htw.out x2 q).trans (show _ = none by unfold readX; rw [if_neg (by decide), if_pos rfl, hnn]; rfl)
   replace qn := hide qn
   replace hgo := hide hgo
   clear hnn
   go_wp2_with fail
   (with_reducible refine qn.out.mono ?_)
   rintro e W7 ⟨rfl, he⟩
   have hb7 := hide ((hb6.out.trans (But.of he)).far (k := rb + 1) (by omega) 2 (.int .u32 0))
   have C7 := hide (C6.out.ext he)
   clear he c0 c1 c2 c3 cf
   have c0 : W7.cell? ⟨rb + 1, 0, none⟩ = some (.int .i64 6) := C7.out.cell 0
   have c1 : W7.cell? ⟨rb + 1, 1, none⟩ = some (.string ⟨#[]⟩) := C7.out.cell 1
   have c2 : W7.cell? ⟨rb + 1, 2, none⟩ = some (.int .u32 0) := C7.out.cell 2
   have c3 : W7.cell? ⟨rb + 1, 3, none⟩ = some (.string ⟨#[]⟩) := C7.out.cell 3
   have cf := fun i => C7.out.frozen i
   go_wp2_with fail
   (with_reducible refine (must_f _).mono ?_)
   rintro e w_ ⟨rfl, rfl⟩
   go_wp2
   exact ⟨rfl, hno.out _ hgo.out hb7.out⟩
  ·rw [hnn] at qn
   have hgo := (htw.out x2 q).trans (show _ = some ((⟨6, [], u, []⟩ : ActS), q) by unfold readX; rw [if_neg (by decide), if_pos rfl, hnn]; rfl)
   dsimp only at qn
   replace qn := hide qn
   replace hgo := hide hgo
   clear hnn
   go_wp2_with fail
   (with_reducible refine qn.out.mono ?_)
   rintro e W7 ⟨rfl, he⟩
   have hW7 := hide (hW6.out.ext he)
   have hb7 := hide (hb6.out.trans (But.of he))
   have R7 := hide (R6.out.ext he)
   have C7 := hide (C6.out.ext he)
   clear he c0 c1 c2 c3 cf hW6 hb6 R6 C6
   have c0 : W7.cell? ⟨rb + 1, 0, none⟩ = some (.int .i64 6) := C7.out.cell 0
   have c1 : W7.cell? ⟨rb + 1, 1, none⟩ = some (.string ⟨#[]⟩) := C7.out.cell 1
   have c2 : W7.cell? ⟨rb + 1, 2, none⟩ = some (.int .u32 0) := C7.out.cell 2
   have c3 : W7.cell? ⟨rb + 1, 3, none⟩ = some (.string ⟨#[]⟩) := C7.out.cell 3
   have cf := fun i => C7.out.frozen i
   have hW8 := hide (hW7.out.set (show B ≤ rb + 1 by omega) 2 (.int .u32 (u.toNat : Int)))
   have hb8 := hide (hb7.out.far (k := rb + 1) (by omega) 2 (.int .u32 (u.toNat : Int)))
   have R8 := hide (R7.out.far (p := ⟨rb + 1, 2, none⟩) (show rb ≠ rb + 1 by omega) (.int .u32 (u.toNat : Int)))
   have C8 : Blk (W7.setCell ⟨rb + 1, 2, none⟩ (.int .u32 (u.toNat : Int))) (rb + 1) 51 #[.int .i64 6, .string ⟨#[]⟩, .int .u32 (u.toNat : Int), .string ⟨#[]⟩] := C7.out.set_ 2 (.int .u32 (u.toNat : Int))
   replace C8 := hide C8
   clear hW7 hb7 R7 C7
   go_upto_region 17 with fail
   clear c0 c1 c2 c3 cf
   generalize W7.setCell ⟨rb + 1, 2, none⟩ (.int .u32 (u.toNat : Int)) = W8 at hW8 hb8 R8 C8 ⊢
   go_wp2_with fail
   (with_reducible refine (must_t _).mono ?_)
   rintro e w_ ⟨rfl, rfl⟩
   have zz0 : W8.cell? ⟨rb + 1, 0, none⟩ = some (.int .i64 6) := C8.out.cell 0
   have zz1 : W8.cell? ⟨rb + 1, 1, none⟩ = some (.string ⟨#[]⟩) := C8.out.cell 1
   have zz2 : W8.cell? ⟨rb + 1, 2, none⟩ = some (.int .u32 (u.toNat : Int)) := C8.out.cell 2
   have zz3 : W8.cell? ⟨rb + 1, 3, none⟩ = some (.string ⟨#[]⟩) := C8.out.cell 3
   have r0 : W8.cell? ⟨rb, 0, none⟩ = some (.int .i64 0) := R8.out.cell 0
   have r1 : W8.cell? ⟨rb, 1, none⟩ = some (.string ⟨#[]⟩) := R8.out.cell 1
   have r2 : W8.cell? ⟨rb, 2, none⟩ = some (.int .u32 0) := R8.out.cell 2
   have r3 : W8.cell? ⟨rb, 3, none⟩ = some (.string ⟨#[]⟩) := R8.out.cell 3
   have rf := fun i => R8.out.frozen i
   have hRZ := R8.out.fill4 (.int .i64 6) (.string ⟨#[]⟩) (.int .u32 (u.toNat : Int)) (.string ⟨#[]⟩)
   have hWZ := hW8.out.set4 (show B ≤ rb by omega) (.int .i64 6) (.string ⟨#[]⟩) (.int .u32 (u.toNat : Int)) (.string ⟨#[]⟩)
   have hbZ := hb8.out.set4 (k := rb) (by omega) (.int .i64 6) (.string ⟨#[]⟩) (.int .u32 (u.toNat : Int)) (.string ⟨#[]⟩)
   have z0 := hRZ.cell 0
   have z1 := hRZ.cell 1
   have z2 := hRZ.cell 2
   have z3 := hRZ.cell 3
   simp at z0 z1 z2 z3
   clear hRZ
   replace hWZ := hide hWZ
   replace hbZ := hide hbZ
   go_wp2_with fail
   exact bodyPost_ret (v := .agg #[.int .i64 6, .string ⟨#[]⟩, .int .u32 (u.toNat : Int), .string ⟨#[]⟩]) (by simp [results, Tryz.results49, go_sem, z0, z1, z2, z3]) rfl (hok.out _ _ _ hgo.out hWZ.out hbZ.out)
 ·have qi : Calls Tryz.prog 100 #[.slice (some ⟨kc, 0, none⟩) 10 10, .string ⟨#[100, 101, 108]⟩] W2 fun e w' => e = .returned (.int .i64 6) ∧ W2 = w' := PIndex_some _ 10 aW [100, 101, 108] 6 W2 _ (by decide) hKs (by decide) (by decide +kernel)
  clear hKs hkk
  replace qi := hide qi
  have c0 : W2.cell? ⟨rb + 1, 0, none⟩ = some (.int .i64 0) := C3.out.cell 0
  have c1 : W2.cell? ⟨rb + 1, 1, none⟩ = some (.string ⟨#[]⟩) := C3.out.cell 1
  have c2 : W2.cell? ⟨rb + 1, 2, none⟩ = some (.int .u32 0) := C3.out.cell 2
  have c3 : W2.cell? ⟨rb + 1, 3, none⟩ = some (.string ⟨#[]⟩) := C3.out.cell 3
  have cf := fun i => C3.out.frozen i
  go_wp2_with fail
  (with_reducible refine qi.out.mono ?_)
  rintro e w_ ⟨rfl, rfl⟩
  clear qi
  have hW4 := hide (hW3.out.set (show B ≤ rb + 1 by omega) 0 (.int .i64 7))
  have hb4 := hide (hb3.out.far (k := rb + 1) (by omega) 0 (.int .i64 7))
  have R4 := hide (R3.out.far (p := ⟨rb + 1, 0, none⟩) (show rb ≠ rb + 1 by omega) (.int .i64 7))
  have C4 : Blk (W2.setCell ⟨rb + 1, 0, none⟩ (.int .i64 7)) (rb + 1) 51 #[.int .i64 7, .string ⟨#[]⟩, .int .u32 0, .string ⟨#[]⟩] := C3.out.set_ 0 (.int .i64 7)
  replace C4 := hide C4
  clear hW3 hb3 R3 C3
  go_upto_region 3 with fail
  clear c0 c1 c2 c3 cf
  generalize W2.setCell ⟨rb + 1, 0, none⟩ (.int .i64 7) = W4 at hW4 hb4 R4 C4 ⊢
  have c0 : W4.cell? ⟨rb + 1, 0, none⟩ = some (.int .i64 7) := C4.out.cell 0
  have c1 : W4.cell? ⟨rb + 1, 1, none⟩ = some (.string ⟨#[]⟩) := C4.out.cell 1
  have c2 : W4.cell? ⟨rb + 1, 2, none⟩ = some (.int .u32 0) := C4.out.cell 2
  have c3 : W4.cell? ⟨rb + 1, 3, none⟩ = some (.string ⟨#[]⟩) := C4.out.cell 3
  have cf := fun i => C4.out.frozen i
  have hsh := readA_short [100, 101, 108] (by decide) (by decide)
  have htw := fun x s => readA_two [100, 101, 108] x s (by decide) (by decide)
  rw [show actK [100, 101, 108] = 7 by decide] at htw
  replace htw := hide htw
  replace hsh := hide hsh
  go_wp2_with fail
  rcases r with _ | ⟨x2, q⟩
  ·refine (next_none g _ B hW4.out).mono ?_
   rintro e W6 ⟨rfl, he⟩
   go_wp2
   exact ⟨rfl, hno.out _ hsh.out (hb4.out.trans (But.of he))⟩
  refine (next_some g x2 q _ B hW4.out).mono ?_
  rintro e W6 ⟨rfl, hb2, hW6⟩
  have hb6 := hide (hb4.out.trans hb2)
  have R6 := hide (R4.out.but hb2 (by omega))
  have C6 := hide (C4.out.but hb2 (by omega))
  replace hW6 := hide hW6
  clear hW4 hb4 R4 C4 hb2 c0 c1 c2 c3 cf
  have hx2 := hl.out x2 (by simp)
  have c0 : W6.cell? ⟨rb + 1, 0, none⟩ = some (.int .i64 7) := C6.out.cell 0
  have c1 : W6.cell? ⟨rb + 1, 1, none⟩ = some (.string ⟨#[]⟩) := C6.out.cell 1
  have c2 : W6.cell? ⟨rb + 1, 2, none⟩ = some (.int .u32 0) := C6.out.cell 2
  have c3 : W6.cell? ⟨rb + 1, 3, none⟩ = some (.string ⟨#[]⟩) := C6.out.cell 3
  have cf := fun i => C6.out.frozen i
  have hgo := (htw.out x2 q).trans (show _ = some ((⟨7, x2, 0, []⟩ : ActS), q) by unfold readX; rw [if_neg (by decide), if_neg (by decide), if_pos rfl]; rfl)
  replace hgo := hide hgo
  have hW8 := hide (hW6.out.set (show B ≤ rb + 1 by omega) 1 (.string ⟨x2.toArray⟩))
  have hb8 := hide (hb6.out.far (k := rb + 1) (by omega) 1 (.string ⟨x2.toArray⟩))
  have R8 := hide (R6.out.far (p := ⟨rb + 1, 1, none⟩) (show rb ≠ rb + 1 by omega) (.string ⟨x2.toArray⟩))
  have C8 : Blk (W6.setCell ⟨rb + 1, 1, none⟩ (.string ⟨x2.toArray⟩)) (rb + 1) 51 #[.int .i64 7, .string ⟨x2.toArray⟩, .int .u32 0, .string ⟨#[]⟩] := C6.out.set_ 1 (.string ⟨x2.toArray⟩)
  replace C8 := hide C8
  clear hW6 hb6 R6 C6
  go_upto_region 17 with fail
  clear c0 c1 c2 c3 cf
  generalize W6.setCell ⟨rb + 1, 1, none⟩ (.string ⟨x2.toArray⟩) = W8 at hW8 hb8 R8 C8 ⊢
  go_wp2_with fail
  (with_reducible refine (must_t _).mono ?_)
  rintro e w_ ⟨rfl, rfl⟩
  have zz0 : W8.cell? ⟨rb + 1, 0, none⟩ = some (.int .i64 7) := C8.out.cell 0
  have zz1 : W8.cell? ⟨rb + 1, 1, none⟩ = some (.string ⟨x2.toArray⟩) := C8.out.cell 1
  have zz2 : W8.cell? ⟨rb + 1, 2, none⟩ = some (.int .u32 0) := C8.out.cell 2
  have zz3 : W8.cell? ⟨rb + 1, 3, none⟩ = some (.string ⟨#[]⟩) := C8.out.cell 3
  have r0 : W8.cell? ⟨rb, 0, none⟩ = some (.int .i64 0) := R8.out.cell 0
  have r1 : W8.cell? ⟨rb, 1, none⟩ = some (.string ⟨#[]⟩) := R8.out.cell 1
  have r2 : W8.cell? ⟨rb, 2, none⟩ = some (.int .u32 0) := R8.out.cell 2
  have r3 : W8.cell? ⟨rb, 3, none⟩ = some (.string ⟨#[]⟩) := R8.out.cell 3
  have rf := fun i => R8.out.frozen i
  have hRZ := R8.out.fill4 (.int .i64 7) (.string ⟨x2.toArray⟩) (.int .u32 0) (.string ⟨#[]⟩)
  have hWZ := hW8.out.set4 (show B ≤ rb by omega) (.int .i64 7) (.string ⟨x2.toArray⟩) (.int .u32 0) (.string ⟨#[]⟩)
  have hbZ := hb8.out.set4 (k := rb) (by omega) (.int .i64 7) (.string ⟨x2.toArray⟩) (.int .u32 0) (.string ⟨#[]⟩)
  have z0 := hRZ.cell 0
  have z1 := hRZ.cell 1
  have z2 := hRZ.cell 2
  have z3 := hRZ.cell 3
  simp at z0 z1 z2 z3
  clear hRZ
  replace hWZ := hide hWZ
  replace hbZ := hide hbZ
  go_wp2_with fail
  exact bodyPost_ret (v := .agg #[.int .i64 7, .string ⟨x2.toArray⟩, .int .u32 0, .string ⟨#[]⟩]) (by simp [results, Tryz.results49, go_sem, z0, z1, z2, z3]) rfl (hok.out _ _ _ hgo.out hWZ.out hbZ.out)
 ·have qi : Calls Tryz.prog 100 #[.slice (some ⟨kc, 0, none⟩) 10 10, .string ⟨#[112, 114, 101, 112, 101, 110, 100]⟩] W2 fun e w' => e = .returned (.int .i64 7) ∧ W2 = w' := PIndex_some _ 10 aW [112, 114, 101, 112, 101, 110, 100] 7 W2 _ (by decide) hKs (by decide) (by decide +kernel)
  clear hKs hkk
  replace qi := hide qi
  have c0 : W2.cell? ⟨rb + 1, 0, none⟩ = some (.int .i64 0) := C3.out.cell 0
  have c1 : W2.cell? ⟨rb + 1, 1, none⟩ = some (.string ⟨#[]⟩) := C3.out.cell 1
  have c2 : W2.cell? ⟨rb + 1, 2, none⟩ = some (.int .u32 0) := C3.out.cell 2
  have c3 : W2.cell? ⟨rb + 1, 3, none⟩ = some (.string ⟨#[]⟩) := C3.out.cell 3
  have cf := fun i => C3.out.frozen i
  go_wp2_with fail
  (with_reducible refine qi.out.mono ?_)
  rintro e w_ ⟨rfl, rfl⟩
  clear qi
  have hW4 := hide (hW3.out.set (show B ≤ rb + 1 by omega) 0 (.int .i64 8))
  have hb4 := hide (hb3.out.far (k := rb + 1) (by omega) 0 (.int .i64 8))
  have R4 := hide (R3.out.far (p := ⟨rb + 1, 0, none⟩) (show rb ≠ rb + 1 by omega) (.int .i64 8))
  have C4 : Blk (W2.setCell ⟨rb + 1, 0, none⟩ (.int .i64 8)) (rb + 1) 51 #[.int .i64 8, .string ⟨#[]⟩, .int .u32 0, .string ⟨#[]⟩] := C3.out.set_ 0 (.int .i64 8)
  replace C4 := hide C4
  clear hW3 hb3 R3 C3
  go_upto_region 3 with fail
  clear c0 c1 c2 c3 cf
  generalize W2.setCell ⟨rb + 1, 0, none⟩ (.int .i64 8) = W4 at hW4 hb4 R4 C4 ⊢
  have c0 : W4.cell? ⟨rb + 1, 0, none⟩ = some (.int .i64 8) := C4.out.cell 0
  have c1 : W4.cell? ⟨rb + 1, 1, none⟩ = some (.string ⟨#[]⟩) := C4.out.cell 1
  have c2 : W4.cell? ⟨rb + 1, 2, none⟩ = some (.int .u32 0) := C4.out.cell 2
  have c3 : W4.cell? ⟨rb + 1, 3, none⟩ = some (.string ⟨#[]⟩) := C4.out.cell 3
  have cf := fun i => C4.out.frozen i
  have hsh := readA_short [112, 114, 101, 112, 101, 110, 100] (by decide) (by decide)
  have htw := fun x s => readA_two [112, 114, 101, 112, 101, 110, 100] x s (by decide) (by decide)
  rw [show actK [112, 114, 101, 112, 101, 110, 100] = 8 by decide] at htw
  replace htw := hide htw
  replace hsh := hide hsh
  go_wp2_with fail
  rcases r with _ | ⟨x2, q⟩
  ·refine (next_none g _ B hW4.out).mono ?_
   rintro e W6 ⟨rfl, he⟩
   go_wp2
   exact ⟨rfl, hno.out _ hsh.out (hb4.out.trans (But.of he))⟩
  refine (next_some g x2 q _ B hW4.out).mono ?_
  rintro e W6 ⟨rfl, hb2, hW6⟩
  have hb6 := hide (hb4.out.trans hb2)
  have R6 := hide (R4.out.but hb2 (by omega))
  have C6 := hide (C4.out.but hb2 (by omega))
  replace hW6 := hide hW6
  clear hW4 hb4 R4 C4 hb2 c0 c1 c2 c3 cf
  have hx2 := hl.out x2 (by simp)
  have c0 : W6.cell? ⟨rb + 1, 0, none⟩ = some (.int .i64 8) := C6.out.cell 0
  have c1 : W6.cell? ⟨rb + 1, 1, none⟩ = some (.string ⟨#[]⟩) := C6.out.cell 1
  have c2 : W6.cell? ⟨rb + 1, 2, none⟩ = some (.int .u32 0) := C6.out.cell 2
  have c3 : W6.cell? ⟨rb + 1, 3, none⟩ = some (.string ⟨#[]⟩) := C6.out.cell 3
  have cf := fun i => C6.out.frozen i
  have hE6 := But.ext h0.out hb6.out hg
  have qn := PNum_any x2 W6 (hT.out.ext hE6) (hV.out.ext hE6) hx2
  unfold NumW at qn
  clear hE6
  rcases hnn : numO x2 4294967296 with _ | n
  ·rw [hnn] at qn
   have hgo := (htw.out x2 q).trans (show _ = none by unfold readX; rw [if_pos (by decide), hnn]; rfl)
   replace qn := hide qn
   replace hgo := hide hgo
   clear hnn
   go_wp2_with fail
   (with_reducible refine qn.out.mono ?_)
   rintro e W7 ⟨rfl, he⟩
   go_wp2
   exact ⟨rfl, hno.out _ hgo.out (hb6.out.trans (But.of he))⟩
  ·rw [hnn] at qn
   have hn32 := (numO_some hnn).1
   have hgo := (htw.out x2 q).trans (show _ = some ((⟨8, [], UInt32.ofNat n, []⟩ : ActS), q) by unfold readX; rw [if_pos (by decide), hnn]; rfl)
   have hun : (UInt32.ofNat n).toNat = n := by rw [UInt32.toNat_ofNat']; omega
   obtain ⟨u, hu⟩ : ∃ u, UInt32.ofNat n = u := ⟨_, rfl⟩
   rw [hu] at hgo hun
   dsimp only at qn
   rw [← hun] at qn
   replace qn := hide qn
   replace hgo := hide hgo
   clear hnn hn32 hun hu
   go_wp2_with fail
   (with_reducible refine qn.out.mono ?_)
   rintro e W7 ⟨rfl, he⟩
   have hW7 := hide (hW6.out.ext he)
   have hb7 := hide (hb6.out.trans (But.of he))
   have R7 := hide (R6.out.ext he)
   have C7 := hide (C6.out.ext he)
   clear he c0 c1 c2 c3 cf hW6 hb6 R6 C6
   have c0 : W7.cell? ⟨rb + 1, 0, none⟩ = some (.int .i64 8) := C7.out.cell 0
   have c1 : W7.cell? ⟨rb + 1, 1, none⟩ = some (.string ⟨#[]⟩) := C7.out.cell 1
   have c2 : W7.cell? ⟨rb + 1, 2, none⟩ = some (.int .u32 0) := C7.out.cell 2
   have c3 : W7.cell? ⟨rb + 1, 3, none⟩ = some (.string ⟨#[]⟩) := C7.out.cell 3
   have cf := fun i => C7.out.frozen i
   have hW8 := hide (hW7.out.set (show B ≤ rb + 1 by omega) 2 (.int .u32 (u.toNat : Int)))
   have hb8 := hide (hb7.out.far (k := rb + 1) (by omega) 2 (.int .u32 (u.toNat : Int)))
   have R8 := hide (R7.out.far (p := ⟨rb + 1, 2, none⟩) (show rb ≠ rb + 1 by omega) (.int .u32 (u.toNat : Int)))
   have C8 : Blk (W7.setCell ⟨rb + 1, 2, none⟩ (.int .u32 (u.toNat : Int))) (rb + 1) 51 #[.int .i64 8, .string ⟨#[]⟩, .int .u32 (u.toNat : Int), .string ⟨#[]⟩] := C7.out.set_ 2 (.int .u32 (u.toNat : Int))
   replace C8 := hide C8
   clear hW7 hb7 R7 C7
   go_upto_region 17 with fail
   clear c0 c1 c2 c3 cf
   generalize W7.setCell ⟨rb + 1, 2, none⟩ (.int .u32 (u.toNat : Int)) = W8 at hW8 hb8 R8 C8 ⊢
   go_wp2_with fail
   (with_reducible refine (must_t _).mono ?_)
   rintro e w_ ⟨rfl, rfl⟩
   have zz0 : W8.cell? ⟨rb + 1, 0, none⟩ = some (.int .i64 8) := C8.out.cell 0
   have zz1 : W8.cell? ⟨rb + 1, 1, none⟩ = some (.string ⟨#[]⟩) := C8.out.cell 1
   have zz2 : W8.cell? ⟨rb + 1, 2, none⟩ = some (.int .u32 (u.toNat : Int)) := C8.out.cell 2
   have zz3 : W8.cell? ⟨rb + 1, 3, none⟩ = some (.string ⟨#[]⟩) := C8.out.cell 3
   have r0 : W8.cell? ⟨rb, 0, none⟩ = some (.int .i64 0) := R8.out.cell 0
   have r1 : W8.cell? ⟨rb, 1, none⟩ = some (.string ⟨#[]⟩) := R8.out.cell 1
   have r2 : W8.cell? ⟨rb, 2, none⟩ = some (.int .u32 0) := R8.out.cell 2
   have r3 : W8.cell? ⟨rb, 3, none⟩ = some (.string ⟨#[]⟩) := R8.out.cell 3
   have rf := fun i => R8.out.frozen i
   have hRZ := R8.out.fill4 (.int .i64 8) (.string ⟨#[]⟩) (.int .u32 (u.toNat : Int)) (.string ⟨#[]⟩)
   have hWZ := hW8.out.set4 (show B ≤ rb by omega) (.int .i64 8) (.string ⟨#[]⟩) (.int .u32 (u.toNat : Int)) (.string ⟨#[]⟩)
   have hbZ := hb8.out.set4 (k := rb) (by omega) (.int .i64 8) (.string ⟨#[]⟩) (.int .u32 (u.toNat : Int)) (.string ⟨#[]⟩)
   have z0 := hRZ.cell 0
   have z1 := hRZ.cell 1
   have z2 := hRZ.cell 2
   have z3 := hRZ.cell 3
   simp at z0 z1 z2 z3
   clear hRZ
   replace hWZ := hide hWZ
   replace hbZ := hide hbZ
   go_wp2_with fail
   exact bodyPost_ret (v := .agg #[.int .i64 8, .string ⟨#[]⟩, .int .u32 (u.toNat : Int), .string ⟨#[]⟩]) (by simp [results, Tryz.results49, go_sem, z0, z1, z2, z3]) rfl (hok.out _ _ _ hgo.out hWZ.out hbZ.out)
 ·have qi : Calls Tryz.prog 100 #[.slice (some ⟨kc, 0, none⟩) 10 10, .string ⟨#[110, 101, 120, 116]⟩] W2 fun e w' => e = .returned (.int .i64 8) ∧ W2 = w' := PIndex_some _ 10 aW [110, 101, 120, 116] 8 W2 _ (by decide) hKs (by decide) (by decide +kernel)
  clear hKs hkk
  replace qi := hide qi
  have c0 : W2.cell? ⟨rb + 1, 0, none⟩ = some (.int .i64 0) := C3.out.cell 0
  have c1 : W2.cell? ⟨rb + 1, 1, none⟩ = some (.string ⟨#[]⟩) := C3.out.cell 1
  have c2 : W2.cell? ⟨rb + 1, 2, none⟩ = some (.int .u32 0) := C3.out.cell 2
  have c3 : W2.cell? ⟨rb + 1, 3, none⟩ = some (.string ⟨#[]⟩) := C3.out.cell 3
  have cf := fun i => C3.out.frozen i
  go_wp2_with fail
  (with_reducible refine qi.out.mono ?_)
  rintro e w_ ⟨rfl, rfl⟩
  clear qi
  have hW4 := hide (hW3.out.set (show B ≤ rb + 1 by omega) 0 (.int .i64 9))
  have hb4 := hide (hb3.out.far (k := rb + 1) (by omega) 0 (.int .i64 9))
  have R4 := hide (R3.out.far (p := ⟨rb + 1, 0, none⟩) (show rb ≠ rb + 1 by omega) (.int .i64 9))
  have C4 : Blk (W2.setCell ⟨rb + 1, 0, none⟩ (.int .i64 9)) (rb + 1) 51 #[.int .i64 9, .string ⟨#[]⟩, .int .u32 0, .string ⟨#[]⟩] := C3.out.set_ 0 (.int .i64 9)
  replace C4 := hide C4
  clear hW3 hb3 R3 C3
  go_upto_region 3 with fail
  clear c0 c1 c2 c3 cf
  generalize W2.setCell ⟨rb + 1, 0, none⟩ (.int .i64 9) = W4 at hW4 hb4 R4 C4 ⊢
  have c0 : W4.cell? ⟨rb + 1, 0, none⟩ = some (.int .i64 9) := C4.out.cell 0
  have c1 : W4.cell? ⟨rb + 1, 1, none⟩ = some (.string ⟨#[]⟩) := C4.out.cell 1
  have c2 : W4.cell? ⟨rb + 1, 2, none⟩ = some (.int .u32 0) := C4.out.cell 2
  have c3 : W4.cell? ⟨rb + 1, 3, none⟩ = some (.string ⟨#[]⟩) := C4.out.cell 3
  have cf := fun i => C4.out.frozen i
  have hsh := readA_short [110, 101, 120, 116] (by decide) (by decide)
  have htw := fun x s => readA_two [110, 101, 120, 116] x s (by decide) (by decide)
  rw [show actK [110, 101, 120, 116] = 9 by decide] at htw
  replace htw := hide htw
  replace hsh := hide hsh
  go_wp2_with fail
  rcases r with _ | ⟨x2, q⟩
  ·refine (next_none g _ B hW4.out).mono ?_
   rintro e W6 ⟨rfl, he⟩
   go_wp2
   exact ⟨rfl, hno.out _ hsh.out (hb4.out.trans (But.of he))⟩
  refine (next_some g x2 q _ B hW4.out).mono ?_
  rintro e W6 ⟨rfl, hb2, hW6⟩
  have hb6 := hide (hb4.out.trans hb2)
  have R6 := hide (R4.out.but hb2 (by omega))
  have C6 := hide (C4.out.but hb2 (by omega))
  replace hW6 := hide hW6
  clear hW4 hb4 R4 C4 hb2 c0 c1 c2 c3 cf
  have hx2 := hl.out x2 (by simp)
  have c0 : W6.cell? ⟨rb + 1, 0, none⟩ = some (.int .i64 9) := C6.out.cell 0
  have c1 : W6.cell? ⟨rb + 1, 1, none⟩ = some (.string ⟨#[]⟩) := C6.out.cell 1
  have c2 : W6.cell? ⟨rb + 1, 2, none⟩ = some (.int .u32 0) := C6.out.cell 2
  have c3 : W6.cell? ⟨rb + 1, 3, none⟩ = some (.string ⟨#[]⟩) := C6.out.cell 3
  have cf := fun i => C6.out.frozen i
  have hE6 := But.ext h0.out hb6.out hg
  have qn := AAddr_any x2 hx2 W6 (hT.out.ext hE6) (hD.out.ext hE6) (hV.out.ext hE6)
  unfold AdP at qn
  clear hE6
  have hax : readX 9 x2 = if (addrC x2).2 = 0 then some ⟨9, [], 0, (addrC x2).1⟩ else none := by unfold readX; rw [if_neg (by decide), if_neg (by decide), if_neg (by decide), if_pos rfl]
  rcases addrC_err x2 with hz | hz
  ·have hgo := (htw.out x2 q).trans (show _ = some ((⟨9, [], 0, (addrC x2).1⟩ : ActS), q) by rw [hax, if_pos hz]; rfl)
   rw [hz] at qn
   generalize (addrC x2).1 = ad at *
   clear hax hz
   replace qn := hide qn
   replace hgo := hide hgo
   go_wp2_with fail
   (with_reducible refine qn.out.mono ?_)
   rintro e W7 ⟨rfl, he⟩
   have hW7 := hide (hW6.out.ext he)
   have hb7 := hide (hb6.out.trans (But.of he))
   have R7 := hide (R6.out.ext he)
   have C7 := hide (C6.out.ext he)
   clear he c0 c1 c2 c3 cf hW6 hb6 R6 C6
   have c0 : W7.cell? ⟨rb + 1, 0, none⟩ = some (.int .i64 9) := C7.out.cell 0
   have c1 : W7.cell? ⟨rb + 1, 1, none⟩ = some (.string ⟨#[]⟩) := C7.out.cell 1
   have c2 : W7.cell? ⟨rb + 1, 2, none⟩ = some (.int .u32 0) := C7.out.cell 2
   have c3 : W7.cell? ⟨rb + 1, 3, none⟩ = some (.string ⟨#[]⟩) := C7.out.cell 3
   have cf := fun i => C7.out.frozen i
   have hW8 := hide (hW7.out.set (show B ≤ rb + 1 by omega) 3 (.string ⟨ad.toArray⟩))
   have hb8 := hide (hb7.out.far (k := rb + 1) (by omega) 3 (.string ⟨ad.toArray⟩))
   have R8 := hide (R7.out.far (p := ⟨rb + 1, 3, none⟩) (show rb ≠ rb + 1 by omega) (.string ⟨ad.toArray⟩))
   have C8 : Blk (W7.setCell ⟨rb + 1, 3, none⟩ (.string ⟨ad.toArray⟩)) (rb + 1) 51 #[.int .i64 9, .string ⟨#[]⟩, .int .u32 0, .string ⟨ad.toArray⟩] := C7.out.set_ 3 (.string ⟨ad.toArray⟩)
   replace C8 := hide C8
   clear hW7 hb7 R7 C7
   go_upto_region 17 with fail
   clear c0 c1 c2 c3 cf
   generalize W7.setCell ⟨rb + 1, 3, none⟩ (.string ⟨ad.toArray⟩) = W8 at hW8 hb8 R8 C8 ⊢
   go_wp2_with fail
   (with_reducible refine (must_t _).mono ?_)
   rintro e w_ ⟨rfl, rfl⟩
   have zz0 : W8.cell? ⟨rb + 1, 0, none⟩ = some (.int .i64 9) := C8.out.cell 0
   have zz1 : W8.cell? ⟨rb + 1, 1, none⟩ = some (.string ⟨#[]⟩) := C8.out.cell 1
   have zz2 : W8.cell? ⟨rb + 1, 2, none⟩ = some (.int .u32 0) := C8.out.cell 2
   have zz3 : W8.cell? ⟨rb + 1, 3, none⟩ = some (.string ⟨ad.toArray⟩) := C8.out.cell 3
   have r0 : W8.cell? ⟨rb, 0, none⟩ = some (.int .i64 0) := R8.out.cell 0
   have r1 : W8.cell? ⟨rb, 1, none⟩ = some (.string ⟨#[]⟩) := R8.out.cell 1
   have r2 : W8.cell? ⟨rb, 2, none⟩ = some (.int .u32 0) := R8.out.cell 2
   have r3 : W8.cell? ⟨rb, 3, none⟩ = some (.string ⟨#[]⟩) := R8.out.cell 3
   have rf := fun i => R8.out.frozen i
   have hRZ := R8.out.fill4 (.int .i64 9) (.string ⟨#[]⟩) (.int .u32 0) (.string ⟨ad.toArray⟩)
   have hWZ := hW8.out.set4 (show B ≤ rb by omega) (.int .i64 9) (.string ⟨#[]⟩) (.int .u32 0) (.string ⟨ad.toArray⟩)
   have hbZ := hb8.out.set4 (k := rb) (by omega) (.int .i64 9) (.string ⟨#[]⟩) (.int .u32 0) (.string ⟨ad.toArray⟩)
   have z0 := hRZ.cell 0
   have z1 := hRZ.cell 1
   have z2 := hRZ.cell 2
   have z3 := hRZ.cell 3
   simp at z0 z1 z2 z3
   clear hRZ
   replace hWZ := hide hWZ
   replace hbZ := hide hbZ
   go_wp2_with fail
   exact bodyPost_ret (v := .agg #[.int .i64 9, .string ⟨#[]⟩, .int .u32 0, .string ⟨ad.toArray⟩]) (by simp [results, Tryz.results49, go_sem, z0, z1, z2, z3]) rfl (hok.out _ _ _ hgo.out hWZ.out hbZ.out)
  ·have hgo := (htw.out x2 q).trans (show _ = none by rw [hax, hz]; rfl)
   rw [hz] at qn
   clear hax hz
   replace qn := hide qn
   replace hgo := hide hgo
   go_wp2_with fail
   (with_reducible refine qn.out.mono ?_)
   rintro e W7 ⟨rfl, he⟩
   have hb7 := hide ((hb6.out.trans (But.of he)).far (k := rb + 1) (by omega) 3 (.string ⟨#[]⟩))
   have C7 := hide (C6.out.ext he)
   clear he c0 c1 c2 c3 cf
   have c0 : W7.cell? ⟨rb + 1, 0, none⟩ = some (.int .i64 9) := C7.out.cell 0
   have c1 : W7.cell? ⟨rb + 1, 1, none⟩ = some (.string ⟨#[]⟩) := C7.out.cell 1
   have c2 : W7.cell? ⟨rb + 1, 2, none⟩ = some (.int .u32 0) := C7.out.cell 2
   have c3 : W7.cell? ⟨rb + 1, 3, none⟩ = some (.string ⟨#[]⟩) := C7.out.cell 3
   have cf := fun i => C7.out.frozen i
   go_wp2_with fail
   (with_reducible refine (must_f _).mono ?_)
   rintro e w_ ⟨rfl, rfl⟩
   go_wp2
   exact ⟨rfl, hno.out _ hgo.out hb7.out⟩
 ·have qi : Calls Tryz.prog 100 #[.slice (some ⟨kc, 0, none⟩) 10 10, .string ⟨#[111, 114, 105, 103, 105, 110]⟩] W2 fun e w' => e = .returned (.int .i64 9) ∧ W2 = w' := PIndex_some _ 10 aW [111, 114, 105, 103, 105, 110] 9 W2 _ (by decide) hKs (by decide) (by decide +kernel)
  clear hKs hkk
  replace qi := hide qi
  have c0 : W2.cell? ⟨rb + 1, 0, none⟩ = some (.int .i64 0) := C3.out.cell 0
  have c1 : W2.cell? ⟨rb + 1, 1, none⟩ = some (.string ⟨#[]⟩) := C3.out.cell 1
  have c2 : W2.cell? ⟨rb + 1, 2, none⟩ = some (.int .u32 0) := C3.out.cell 2
  have c3 : W2.cell? ⟨rb + 1, 3, none⟩ = some (.string ⟨#[]⟩) := C3.out.cell 3
  have cf := fun i => C3.out.frozen i
  go_wp2_with fail
  (with_reducible refine qi.out.mono ?_)
  rintro e w_ ⟨rfl, rfl⟩
  clear qi
  have hW4 := hide (hW3.out.set (show B ≤ rb + 1 by omega) 0 (.int .i64 10))
  have hb4 := hide (hb3.out.far (k := rb + 1) (by omega) 0 (.int .i64 10))
  have R4 := hide (R3.out.far (p := ⟨rb + 1, 0, none⟩) (show rb ≠ rb + 1 by omega) (.int .i64 10))
  have C4 : Blk (W2.setCell ⟨rb + 1, 0, none⟩ (.int .i64 10)) (rb + 1) 51 #[.int .i64 10, .string ⟨#[]⟩, .int .u32 0, .string ⟨#[]⟩] := C3.out.set_ 0 (.int .i64 10)
  replace C4 := hide C4
  clear hW3 hb3 R3 C3
  go_upto_region 3 with fail
  clear c0 c1 c2 c3 cf
  generalize W2.setCell ⟨rb + 1, 0, none⟩ (.int .i64 10) = W4 at hW4 hb4 R4 C4 ⊢
  have c0 : W4.cell? ⟨rb + 1, 0, none⟩ = some (.int .i64 10) := C4.out.cell 0
  have c1 : W4.cell? ⟨rb + 1, 1, none⟩ = some (.string ⟨#[]⟩) := C4.out.cell 1
  have c2 : W4.cell? ⟨rb + 1, 2, none⟩ = some (.int .u32 0) := C4.out.cell 2
  have c3 : W4.cell? ⟨rb + 1, 3, none⟩ = some (.string ⟨#[]⟩) := C4.out.cell 3
  have cf := fun i => C4.out.frozen i
  have hsh := readA_short [111, 114, 105, 103, 105, 110] (by decide) (by decide)
  have htw := fun x s => readA_two [111, 114, 105, 103, 105, 110] x s (by decide) (by decide)
  rw [show actK [111, 114, 105, 103, 105, 110] = 10 by decide] at htw
  replace htw := hide htw
  replace hsh := hide hsh
  have K2 := Blk.new W4 9 #[.string ⟨#[105, 103, 112]⟩, .string ⟨#[101, 103, 112]⟩, .string ⟨#[105, 110, 99, 111, 109, 112, 108, 101, 116, 101]⟩]
  have hW5 := hW4.out.alloc (Obj.cells #[.string ⟨#[105, 103, 112]⟩, .string ⟨#[101, 103, 112]⟩, .string ⟨#[105, 110, 99, 111, 109, 112, 108, 101, 116, 101]⟩] 9)
  have hb5 := hb4.out.alloc (Obj.cells #[.string ⟨#[105, 103, 112]⟩, .string ⟨#[101, 103, 112]⟩, .string ⟨#[105, 110, 99, 111, 109, 112, 108, 101, 116, 101]⟩] 9)
  have R5 := R4.out.alloc (Obj.cells #[.string ⟨#[105, 103, 112]⟩, .string ⟨#[101, 103, 112]⟩, .string ⟨#[105, 110, 99, 111, 109, 112, 108, 101, 116, 101]⟩] 9)
  have C5 := C4.out.alloc (Obj.cells #[.string ⟨#[105, 103, 112]⟩, .string ⟨#[101, 103, 112]⟩, .string ⟨#[105, 110, 99, 111, 109, 112, 108, 101, 116, 101]⟩] 9)
  have qo : Calls Tryz.prog 84 #[] W4 fun e w' => e = .returned (.slice (some ⟨W4.heap.size, 0, none⟩) 3 3) ∧ W4.alloc (Obj.cells #[.string ⟨#[105, 103, 112]⟩, .string ⟨#[101, 103, 112]⟩, .string ⟨#[105, 110, 99, 111, 109, 112, 108, 101, 116, 101]⟩] 9) = w' := POrigins_any W4
  generalize hWo : W4.alloc (Obj.cells #[.string ⟨#[105, 103, 112]⟩, .string ⟨#[101, 103, 112]⟩, .string ⟨#[105, 110, 99, 111, 109, 112, 108, 101, 116, 101]⟩] 9) = W5 at K2 hW5 hb5 R5 C5 qo
  generalize hk2 : W4.heap.size = k2 at K2 qo
  have hk2g : k2 ≠ g := by rw [← hk2]; have := hW4.out.up; omega
  clear hWo hk2 hW4 hb4 R4 C4
  replace K2 := hide K2
  replace hW5 := hide hW5
  replace hb5 := hide hb5
  replace R5 := hide R5
  replace C5 := hide C5
  replace qo := hide qo
  go_wp2_with fail
  (with_reducible refine qo.out.mono ?_)
  rintro e w_ ⟨rfl, rfl⟩
  clear c0 c1 c2 c3 cf qo
  go_wp2_with fail
  rcases r with _ | ⟨x2, q⟩
  ·refine (next_none g _ B hW5.out).mono ?_
   rintro e W6 ⟨rfl, he⟩
   go_wp2
   exact ⟨rfl, hno.out _ hsh.out (hb5.out.trans (But.of he))⟩
  refine (next_some g x2 q _ B hW5.out).mono ?_
  rintro e W6 ⟨rfl, hb2, hW6⟩
  have hb6 := hide (hb5.out.trans hb2)
  have R6 := hide (R5.out.but hb2 (by omega))
  have C6 := hide (C5.out.but hb2 (by omega))
  replace hW6 := hide hW6
  have hKs2 := sl_words oW (by decide) (K2.out.but hb2 hk2g)
  clear K2 hk2g
  clear hW5 hb5 R5 C5 hb2
  have hx2 := hl.out x2 (by simp)
  have c0 : W6.cell? ⟨rb + 1, 0, none⟩ = some (.int .i64 10) := C6.out.cell 0
  have c1 : W6.cell? ⟨rb + 1, 1, none⟩ = some (.string ⟨#[]⟩) := C6.out.cell 1
  have c2 : W6.cell? ⟨rb + 1, 2, none⟩ = some (.int .u32 0) := C6.out.cell 2
  have c3 : W6.cell? ⟨rb + 1, 3, none⟩ = some (.string ⟨#[]⟩) := C6.out.cell 3
  have cf := fun i => C6.out.frozen i
  have hax : readX 10 x2 = (originN x2).map fun n => ⟨10, [], UInt32.ofNat n.toNat, []⟩ := by unfold readX; rw [if_neg (by decide), if_neg (by decide), if_neg (by decide), if_neg (by decide)]
  rcases oW_cases x2 with ⟨n, hi, hne, hon⟩ | ⟨hi, hon⟩
  ·have qi2 : Calls Tryz.prog 100 #[.slice (some ⟨k2, 0, none⟩) 3 3, .string ⟨x2.toArray⟩] W6 fun e w' => e = .returned (.int .i64 (n : Int)) ∧ W6 = w' := PIndex_some _ 3 oW x2 n W6 _ (by decide) hKs2 hne hi
   have hnb : n ≤ 2 := by unfold originN at hon; split at hon <;> (try split at hon) <;> (try split at hon) <;> simp at hon <;> omega
   have hgo := (htw.out x2 q).trans (show _ = some ((⟨10, [], UInt32.ofNat n, []⟩ : ActS), q) by rw [hax, hon]; rfl)
   have hun : (UInt32.ofNat n).toNat = n := by rw [UInt32.toNat_ofNat']; omega
   obtain ⟨u, hu⟩ : ∃ u, UInt32.ofNat n = u := ⟨_, rfl⟩
   rw [hu] at hgo hun
   rw [← hun] at qi2
   have hwu : IntKind.u32.wrap (u.toNat : Int) = (u.toNat : Int) := by rw [IntKind.wrap_u32]; omega
   clear hi hne hon hax hKs2 hnb hun hu
   replace qi2 := hide qi2
   replace hgo := hide hgo
   go_wp2_with fail
   (with_reducible refine qi2.out.mono ?_)
   rintro e w_ ⟨rfl, rfl⟩
   have hW8 := hide (hW6.out.set (show B ≤ rb + 1 by omega) 2 (.int .u32 (u.toNat : Int)))
   have hb8 := hide (hb6.out.far (k := rb + 1) (by omega) 2 (.int .u32 (u.toNat : Int)))
   have R8 := hide (R6.out.far (p := ⟨rb + 1, 2, none⟩) (show rb ≠ rb + 1 by omega) (.int .u32 (u.toNat : Int)))
   have C8 : Blk (W6.setCell ⟨rb + 1, 2, none⟩ (.int .u32 (u.toNat : Int))) (rb + 1) 51 #[.int .i64 10, .string ⟨#[]⟩, .int .u32 (u.toNat : Int), .string ⟨#[]⟩] := C6.out.set_ 2 (.int .u32 (u.toNat : Int))
   replace C8 := hide C8
   clear hW6 hb6 R6 C6
   go_upto_region 17 with fail
   clear c0 c1 c2 c3 cf
   generalize W6.setCell ⟨rb + 1, 2, none⟩ (.int .u32 (u.toNat : Int)) = W8 at hW8 hb8 R8 C8 ⊢
   go_wp2_with fail
   (with_reducible refine (must_t _).mono ?_)
   rintro e w_ ⟨rfl, rfl⟩
   have zz0 : W8.cell? ⟨rb + 1, 0, none⟩ = some (.int .i64 10) := C8.out.cell 0
   have zz1 : W8.cell? ⟨rb + 1, 1, none⟩ = some (.string ⟨#[]⟩) := C8.out.cell 1
   have zz2 : W8.cell? ⟨rb + 1, 2, none⟩ = some (.int .u32 (u.toNat : Int)) := C8.out.cell 2
   have zz3 : W8.cell? ⟨rb + 1, 3, none⟩ = some (.string ⟨#[]⟩) := C8.out.cell 3
   have r0 : W8.cell? ⟨rb, 0, none⟩ = some (.int .i64 0) := R8.out.cell 0
   have r1 : W8.cell? ⟨rb, 1, none⟩ = some (.string ⟨#[]⟩) := R8.out.cell 1
   have r2 : W8.cell? ⟨rb, 2, none⟩ = some (.int .u32 0) := R8.out.cell 2
   have r3 : W8.cell? ⟨rb, 3, none⟩ = some (.string ⟨#[]⟩) := R8.out.cell 3
   have rf := fun i => R8.out.frozen i
   have hRZ := R8.out.fill4 (.int .i64 10) (.string ⟨#[]⟩) (.int .u32 (u.toNat : Int)) (.string ⟨#[]⟩)
   have hWZ := hW8.out.set4 (show B ≤ rb by omega) (.int .i64 10) (.string ⟨#[]⟩) (.int .u32 (u.toNat : Int)) (.string ⟨#[]⟩)
   have hbZ := hb8.out.set4 (k := rb) (by omega) (.int .i64 10) (.string ⟨#[]⟩) (.int .u32 (u.toNat : Int)) (.string ⟨#[]⟩)
   have z0 := hRZ.cell 0
   have z1 := hRZ.cell 1
   have z2 := hRZ.cell 2
   have z3 := hRZ.cell 3
   simp at z0 z1 z2 z3
   clear hRZ
   replace hWZ := hide hWZ
   replace hbZ := hide hbZ
   go_wp2_with fail
   exact bodyPost_ret (v := .agg #[.int .i64 10, .string ⟨#[]⟩, .int .u32 (u.toNat : Int), .string ⟨#[]⟩]) (by simp [results, Tryz.results49, go_sem, z0, z1, z2, z3]) rfl (hok.out _ _ _ hgo.out hWZ.out hbZ.out)
  ·have qi2 : Calls Tryz.prog 100 #[.slice (some ⟨k2, 0, none⟩) 3 3, .string ⟨x2.toArray⟩] W6 fun e w' => e = .panicked noneP ∧ W6 = w' := PIndex_none _ 3 oW x2 W6 _ (by decide) hKs2 hi
   have hgo := (htw.out x2 q).trans (show _ = none by rw [hax, hon]; rfl)
   clear hi hon hax hKs2
   replace qi2 := hide qi2
   replace hgo := hide hgo
   go_wp2_with fail
   (with_reducible refine qi2.out.mono ?_)
   rintro e w_ ⟨rfl, rfl⟩
   go_wp2
   exact ⟨rfl, hno.out _ hgo.out hb6.out⟩
 ·have qi : Calls Tryz.prog 100 #[.slice (some ⟨kc, 0, none⟩) 10 10, .string ⟨x.toArray⟩] W2 fun e w' => e = .panicked noneP ∧ W2 = w' := PIndex_none _ 10 aW x W2 _ (by decide) hKs (.inl hi)
  have hgo := readA_none x r hk0
  clear hKs hi hk0
  replace qi := hide qi
  replace hgo := hide hgo
  go_wp2_with fail
  (with_reducible refine qi.out.mono ?_)
  rintro e w_ ⟨rfl, rfl⟩
  go_wp2
  exact ⟨rfl, hno.out _ hgo.out hb3.out⟩
end
end
end Go.Proofs.YtljibkfbldjgdaaGreatDoor
