/- Chapter 16, walks: the closure that recovers. Chapter 16, plain: reading a term word by word, without fuel. A region that draws its order: x.f = append(x.f, f(y)): one call, which may panic and may write, beside the load of the slice. A map that remembers answers: every entry holds what a function says at its key. Keys of two whole numbers. The keys of sets.Match's memory; the recursion of sets.Match, walked. The recursion of sets.Match, walked. The recursion of sets.Match, walked: every spot. Walks: may a pattern be (sets.atoms); does a pattern match (sets.Match). Walks: which prefix covers which. Walks: which prefix covers which: the document's. Walks: a number is put behind bytes: wire.Put. Walks: an item that may be; the first item of which a function says yes. Walks: may an item be; a name; a pattern (as functions that are handed on). Walks: a name. Walks: communities laid as bytes, -/
import Derived.Lib.SplitLaws
import Derived.Lib.ParseIntB
import Derived.Lib.ParseIntBCases
import Derived.Lib.ItoaNum
import Derived.Lib.Join
import Derived.WalkKit
import Derived.Below
import Derived.Outline
import Derived.LoopTactic
import Derived.Laws.OwnMore
import Derived.Deep.AppendLies
import Derived.Deep.Draws
import Derived.Lib.Hide
import Derived.BigQuiet
import Derived.Deep.QuietTactic
import Derived.WalkSpells
import Derived.WalkLawsBesides
import Derived.Deep.RegionHeld3
import Derived.Deep.DrawnRows
import Derived.Deep.RegionLaw
import Derived.Lib.ConvBytes
import Derived.Lib.Bytealg
import Derived.Lib.Small
import Derived.Test.YtljibkfbldjgdaaGreatDoorRows
import Derived.ProofKit
import Derived.Deep.Slices
import Derived.Shelf.GgClosure.StringsRunes
import Derived.Test.YtljibkfbldjgdaaGreatDoorProg
import Derived.Test.YtljibkfbldjgdaaGreatDoorShelf
import Derived.Orders
import Derived.StillTail
import Derived.Test.YtljibkfbldjgdaaGreatDoorShelf2
import Derived.Lib.UnsafeStr
import Derived.Shelf.RegionOpenPlain
import Derived.Laws.StructEq
import Derived.Lib.QuietBelow
import Derived.Lib.ItoaMem
import Derived.Lib.ItoaLen
import Derived.Deep.DeepCutAuto
import Derived.Defers
import Derived.Recover
import Derived.Maps.OwnSet
import Derived.Maps.Views
import Derived.Maps.Range
import Derived.DeepKeys5
import Derived.Deep.Cut
import Derived.Test.YtljibkfbldjgdaaGreatDoorPZ01
import Derived.Test.YtljibkfbldjgdaaGreatDoorPZ02
import Derived.Test.YtljibkfbldjgdaaGreatDoorPZ03
import Derived.Test.YtljibkfbldjgdaaGreatDoorPZ04
namespace Go.Proofs.YtljibkfbldjgdaaGreatDoor
section
section
open Go.RowKit
set_option linter.unusedVariables false
def noneR : List PanicEntry := [{ v := .iface 93 (.agg #[]), recovered := true }]
set_option maxRecDepth 20000 in
set_option maxHeartbeats 2000000 in
theorem catch_panicking (p q : Nat) (x0 x1 y : Value) (w : World) (hP : Blk w p 25 #[x0, x1]) (hQ : Blk w q 39 #[y]) (hpq : p ≠ q) :
  CallsD Tryz.prog 44 #[.pointer (some ⟨p, 0, none⟩), .pointer (some ⟨q, 0, none⟩)] (.panicking noneP) w fun e u' w' =>
   e = .returned (.tuple #[]) ∧ u' = .panicking noneR ∧ w' = ((((w.alloc (.cells #[] 93)).alloc (.cells #[.int .i64 9, .int .i64 0] 84)).setCell ⟨p, 0, none⟩ (.slice none 0 0)).setCell ⟨p, 1, none⟩ (.slice none 0 0)).setCell ⟨q, 0, none⟩ (.iface 80 (.pointer (some ⟨w.heap.size + 1, 0, none⟩))) := by
 have hta : ∀ W, (Instr.typeAssert (.iface 93 (.agg #[])) 20 93 true).run Tryz.prog W = .ok (.tuple #[.agg #[], .bool true]) W := fun W => by kernel_rfl
 refine callsD_of_wpS Tryz.func44 rfl fun c₀ cs hu => ?_
 unfold noneP at hu
 have P2 := (hP.alloc (Obj.cells #[] 93)).alloc (Obj.cells #[.int .i64 9, .int .i64 0] 84)
 have Q2 := (hQ.alloc (Obj.cells #[] 93)).alloc (Obj.cells #[.int .i64 9, .int .i64 0] 84)
 generalize hW : (w.alloc (Obj.cells #[] 93)).alloc (Obj.cells #[.int .i64 9, .int .i64 0] 84) = W2 at P2 Q2 ⊢
 have c0 : W2.cell? ⟨p, 0, none⟩ = some x0 := P2.cell 0
 have c1 : W2.cell? ⟨p, 1, none⟩ = some x1 := P2.cell 1
 have c2 : W2.cell? ⟨q, 0, none⟩ = some y := Q2.cell 0
 have f0 := fun i => P2.frozen i
 have f1 := fun i => Q2.frozen i
 have hqp : q ≠ p := Ne.symm hpq
 clear hP hQ P2 Q2
 simp only [Tryz.ntmps44, List.size_toArray, List.length_cons, List.length_nil, Nat.reduceAdd, Nat.reduceSub, Array.replicate_succ, Array.replicate_zero, List.push_toArray, List.append_toArray, List.nil_append, List.cons_append]
 apply wpS_seq
 apply wpS_region
 simp [wpOpsS, go_sem, recoverD, hu, Exit.thenS]
 refine wpS_of_wp ?_
 go_wp2
 simp [bodyPostS, results, Tryz.results44, noneR]
 done
theorem catch_idle (p q : Nat) (w : World) :
  CallsD Tryz.prog 44 #[.pointer (some ⟨p, 0, none⟩), .pointer (some ⟨q, 0, none⟩)] .returning w fun e u' w' => e = .returned (.tuple #[]) ∧ u' = .returning ∧ w' = w := by
 refine callsD_of_wpS Tryz.func44 rfl fun c₀ cs hu => ?_
 simp only [Tryz.ntmps44, List.size_toArray, List.length_cons, List.length_nil, Nat.reduceAdd, Nat.reduceSub, Array.replicate_succ, Array.replicate_zero, List.push_toArray, List.append_toArray, List.nil_append, List.cons_append]
 apply wpS_seq
 apply wpS_region
 simp [wpOpsS, go_sem, recoverD, hu, Exit.thenS]
 refine wpS_of_wp ?_
 go_wp2
 cases c₀
 simp_all [bodyPostS, results, Tryz.results44]
end
section
open Go.RowKit
set_option linter.unusedVariables false
theorem readV_len {neg : Bool} {l q : List (List UInt8)} {c : CondS} (h : readV neg l = some (c, q)) : q.length + 2 = l.length := by
  match l, h with
  | [], h => cases h
  | [k], h => cases h
  | k :: x :: r, h =>
    simp only [readV] at h
    generalize numO x 4294967296 = z at h
    have e : q = r := by
      split at h
      · injection h with h; injection h with _ h; exact h.symm
      split at h
      · injection h with h; injection h with _ h; exact h.symm
      split at h
      · injection h with h; injection h with _ h; exact h.symm
      split at h
      · injection h with h; injection h with _ h; exact h.symm
      split at h
      · obtain ⟨n, _, h⟩ := Option.map_eq_some_iff.1 h; injection h with _ h; exact h.symm
      split at h
      · cases z with
        | none => cases h
        | some n => injection h with h; injection h with _ h; exact h.symm
      split at h
      · split at h
        · cases h
        · injection h with h; injection h with _ h; exact h.symm
      cases h
    rw [e]; rfl
theorem readC_len {l q : List (List UInt8)} {c : CondS} (h : readC l = some (c, q)) : q.length + 2 ≤ l.length := by
  match l, h with
  | [], h => cases h
  | w :: r, h =>
    simp only [readC] at h
    split at h
    · have := readV_len h; simp; omega
    · have := readV_len h; omega
theorem readA_len {l q : List (List UInt8)} {a : ActS} (h : readA l = some (a, q)) : q.length + 1 ≤ l.length := by
  match l, h with
  | [], h => cases h
  | w :: r, h =>
    simp only [readA] at h
    split at h
    · cases h
    split at h
    · injection h with h; injection h with _ h; rw [← h]; simp
    match r, h with
    | [], h => cases h
    | x :: s, h =>
      obtain ⟨b, _, h⟩ := Option.map_eq_some_iff.1 h
      injection h with _ h
      rw [← h]; simp
theorem readCs_fuel : ∀ (n m : Nat) (w : List UInt8) (r : List (List UInt8)), r.length < n → r.length < m → readCs n w r = readCs m w r
  | 0, _, _, _, h, _ => by omega
  | _ + 1, 0, _, _, _, h => by omega
  | n + 1, m + 1, w, r, hn, hm => by
    simp only [readCs]
    split
    · rfl
    split
    · cases hc : readC r with
      | none => rfl
      | some p =>
        obtain ⟨c, q⟩ := p
        cases q with
        | nil => rfl
        | cons v q =>
          have := readC_len hc
          simp at this
          simp only []
          rw [readCs_fuel n m v q (by omega) (by omega)]
    · rfl
theorem readAs_fuel : ∀ (n m : Nat) (r : List (List UInt8)), r.length < n → r.length < m → readAs n r = readAs m r
  | 0, _, _, h, _ => by omega
  | _ + 1, 0, _, _, h => by omega
  | n + 1, m + 1, r, hn, hm => by
    simp only [readAs]
    cases hc : readA r with
    | none => rfl
    | some p =>
      obtain ⟨a, q⟩ := p
      cases q with
      | nil => rfl
      | cons v q =>
        have := readA_len hc
        simp at this
        simp only []
        rw [readAs_fuel n m q (by omega) (by omega)]
noncomputable def rCs (w : List UInt8) (r : List (List UInt8)) : Option (List CondS × List (List UInt8)) := readCs (r.length + 1) w r
noncomputable def rAs (r : List (List UInt8)) : Option (List ActS) := readAs (r.length + 1) r
theorem readV_mem {neg : Bool} {l q : List (List UInt8)} {c : CondS} (h : readV neg l = some (c, q)) : ∃ k x, l = k :: x :: q := by
  have hl := readV_len h
  match l, h with
  | [], h => cases h
  | [k], h => cases h
  | k :: x :: r, h =>
    refine ⟨k, x, ?_⟩
    simp only [readV] at h
    generalize numO x 4294967296 = z at h
    have e : q = r := by
      split at h
      · injection h with h; injection h with _ h; exact h.symm
      split at h
      · injection h with h; injection h with _ h; exact h.symm
      split at h
      · injection h with h; injection h with _ h; exact h.symm
      split at h
      · injection h with h; injection h with _ h; exact h.symm
      split at h
      · obtain ⟨n, _, h⟩ := Option.map_eq_some_iff.1 h; injection h with _ h; exact h.symm
      split at h
      · cases z with
        | none => cases h
        | some n => injection h with h; injection h with _ h; exact h.symm
      split at h
      · split at h
        · cases h
        · injection h with h; injection h with _ h; exact h.symm
      cases h
    rw [e]
theorem readC_mem {l q : List (List UInt8)} {c : CondS} (h : readC l = some (c, q)) : ∀ y ∈ q, y ∈ l := by
  match l, h with
  | [], h => cases h
  | w :: r, h =>
    simp only [readC] at h
    split at h
    · obtain ⟨k, x, e⟩ := readV_mem h
      rw [e]; intro y hy; simp [hy]
    · obtain ⟨k, x, e⟩ := readV_mem h
      rw [e]; intro y hy; simp [hy]
theorem readA_mem {l q : List (List UInt8)} {a : ActS} (h : readA l = some (a, q)) : ∀ y ∈ q, y ∈ l := by
  match l, h with
  | [], h => cases h
  | w :: r, h =>
    simp only [readA] at h
    split at h
    · cases h
    split at h
    · injection h with h; injection h with _ h; rw [← h]; intro y hy; simp [hy]
    match r, h with
    | [], h => cases h
    | x :: s, h =>
      obtain ⟨b, _, h⟩ := Option.map_eq_some_iff.1 h
      injection h with _ h
      rw [← h]; intro y hy; simp [hy]
theorem condIn_mk {k n : Int} {neg : Bool} {name : List UInt8} (hk : 0 ≤ k ∧ k ≤ 10) (hn : name.length ≤ 1048576) (h : 0 ≤ n ∧ n ≤ 4294967296) : CondIn ⟨k, neg, name, n⟩ :=
 ⟨show i64 k by unfold i64; omega, hn, show i64 n by unfold i64; omega⟩
theorem readV_in {neg : Bool} {l q : List (List UInt8)} {c : CondS} (h : readV neg l = some (c, q)) (hl : ∀ y ∈ l, y.length ≤ 1048576) : CondIn c := by
  match l, h, hl with
  | [], h, _ => cases h
  | [k], h, _ => cases h
  | k :: x :: r, h, hl =>
    simp only [readV] at h
    have hx := hl x (by simp)
    have hz : ∀ n, numO x 4294967296 = some n → n < 4294967296 := fun n hn => (numO_some hn).1
    generalize numO x 4294967296 = z at h hz
    split at h
    · injection h with h; injection h with h _; rw [← h]; exact condIn_mk (by decide) hx (by decide)
    split at h
    · injection h with h; injection h with h _; rw [← h]; exact condIn_mk (by decide) hx (by decide)
    split at h
    · injection h with h; injection h with h _; rw [← h]; exact condIn_mk (by decide) hx (by decide)
    split at h
    · injection h with h; injection h with h _; rw [← h]; exact condIn_mk (by decide) hx (by decide)
    split at h
    · obtain ⟨n, hn, h⟩ := Option.map_eq_some_iff.1 h
      injection h with h _
      rw [← h]
      refine condIn_mk (by decide) (by simp) ?_
      unfold originN at hn
      split at hn
      · injection hn with hn; subst hn; decide
      split at hn
      · injection hn with hn; subst hn; decide
      split at hn
      · injection hn with hn; subst hn; decide
      cases hn
    split at h
    · cases z with
      | none => cases h
      | some n =>
        have hb := hz n rfl
        injection h with h; injection h with h _; rw [← h]
        exact condIn_mk (by decide) (by simp) (by omega)
    split at h
    · split at h
      · cases h
      · injection h with h; injection h with h _; rw [← h]
        have := famN_bd x
        exact condIn_mk (by decide) (by simp) (by omega)
    cases h
theorem readC_in {l q : List (List UInt8)} {c : CondS} (h : readC l = some (c, q)) (hl : ∀ y ∈ l, y.length ≤ 1048576) : CondIn c := by
  match l, h, hl with
  | [], h, _ => cases h
  | w :: r, h, hl =>
    simp only [readC] at h
    split at h
    · exact readV_in h fun y hy => hl y (by simp [hy])
    · exact readV_in h hl
theorem actIn_mk {k : Int} {name addr : List UInt8} {n : UInt32} (hk : 0 ≤ k ∧ k ≤ 10) (hn : name.length ≤ 1048576) (ha : addr.length ≤ 1048576) : ActIn ⟨k, name, n, addr⟩ :=
 ⟨show i64 k by unfold i64; omega, hn, ha⟩
theorem addrC_len (x : List UInt8) : (addrC x).1.length ≤ 16 := by
 rcases addrC_err x with h | h
 ·have := (addr_text h).2.1
  omega
 ·rw [h]; simp
theorem actK_bd (w : List UInt8) : 0 ≤ actK w ∧ actK w ≤ 10 := by
 unfold actK
 repeat' split <;> try omega
theorem readX_in {k : Int} {x : List UInt8} {a : ActS} (hk : 0 ≤ k ∧ k ≤ 10) (h : readX k x = some a) (hx : x.length ≤ 1048576) : ActIn a := by
 unfold readX at h
 generalize numO x 4294967296 = z at h
 split at h
 ·obtain ⟨n, _, rfl⟩ := Option.map_eq_some_iff.1 h; exact actIn_mk hk (by simp) (by simp)
 split at h
 ·obtain ⟨n, _, rfl⟩ := Option.map_eq_some_iff.1 h; exact actIn_mk (by decide) (by simp) (by simp)
 split at h
 ·injection h with h; subst h; exact actIn_mk (by decide) hx (by simp)
 split at h
 ·split at h
  ·injection h with h; subst h; exact actIn_mk (by decide) (by simp) (by have := addrC_len x; omega)
  ·cases h
 ·obtain ⟨n, _, rfl⟩ := Option.map_eq_some_iff.1 h; exact actIn_mk (by decide) (by simp) (by simp)
theorem readA_in {l q : List (List UInt8)} {a : ActS} (h : readA l = some (a, q)) (hl : ∀ y ∈ l, y.length ≤ 1048576) : ActIn a := by
  match l, h, hl with
  | [], h, _ => cases h
  | w :: r, h, hl =>
    have hb := actK_bd w
    simp only [readA] at h
    split at h
    · cases h
    split at h
    · injection h with h; injection h with h _; rw [← h]; exact actIn_mk hb (by simp) (by simp)
    match r, h, hl with
    | [], h, _ => cases h
    | x :: s, h, hl =>
      obtain ⟨b, hb2, h⟩ := Option.map_eq_some_iff.1 h
      injection h with h _
      rw [← h]
      exact readX_in hb hb2 (hl x (by simp))
/-- What follows an action. -/
noncomputable def tailA : List (List UInt8) → Option (List ActS)
 | [] => some []
 | w :: q => if w = [97, 110, 100] then rAs q else none
theorem rCs_then (r : List (List UInt8)) : rCs [116, 104, 101, 110] r = some ([], r) := by
 unfold rCs
 simp only [readCs]
 rfl
theorem rCs_bad {w : List UInt8} (r : List (List UInt8)) (h1 : w ≠ [116, 104, 101, 110]) (h2 : w ≠ [105, 102]) (h3 : w ≠ [97, 110, 100]) : rCs w r = none := by
 unfold rCs
 simp only [readCs]
 rw [if_neg h1, if_neg (fun h => h.elim h2 h3)]
theorem rCs_none {w : List UInt8} {r : List (List UInt8)} (h1 : w ≠ [116, 104, 101, 110]) (h : readC r = none ∨ ∃ c, readC r = some (c, [])) : rCs w r = none := by
 unfold rCs
 simp only [readCs]
 rw [if_neg h1]
 split
 ·rcases h with h | ⟨c, h⟩ <;> rw [h]
 ·rfl
theorem rCs_some {w v : List UInt8} {r q : List (List UInt8)} {c : CondS} (h1 : w ≠ [116, 104, 101, 110]) (h2 : w = [105, 102] ∨ w = [97, 110, 100]) (h : readC r = some (c, v :: q)) : rCs w r = (rCs v q).map fun p => (c :: p.1, p.2) := by
 have := readC_len h
 simp at this
 show readCs (r.length + 1) w r = (readCs (q.length + 1) v q).map _
 rw [readCs, if_neg h1, if_pos h2, h]
 simp only []
 rw [readCs_fuel r.length (q.length + 1) v q (by omega) (by omega)]
theorem rAs_none {r : List (List UInt8)} (h : readA r = none) : rAs r = none := by
 unfold rAs
 simp only [readAs, h]
theorem rAs_some {r q : List (List UInt8)} {a : ActS} (h : readA r = some (a, q)) : rAs r = (tailA q).map (a :: ·) := by
  unfold rAs
  simp only [readAs, h]
  cases q with
  | nil => rfl
  | cons w q =>
    have := readA_len h
    simp at this
    simp only [tailA]
    split
    · unfold rAs
      rw [readAs_fuel r.length (q.length + 1) q (by omega) (by omega)]
    · rfl
theorem readCs_len : ∀ (n : Nat) (w : List UInt8) (r : List (List UInt8)) (p : List CondS × List (List UInt8)), readCs n w r = some p → p.2.length ≤ r.length
  | 0, _, _, _, h => by cases h
  | n + 1, w, r, p, h => by
    simp only [readCs] at h
    split at h
    · injection h with h; rw [← h]; exact Nat.le_refl _
    split at h
    · split at h
      · rename_i c v q hc
        obtain ⟨p', hp, rfl⟩ := Option.map_eq_some_iff.1 h
        have h1 := readCs_len n v q p' hp
        have h2 := readC_len hc
        simp at h2
        show p'.2.length ≤ _
        omega
      · cases h
    · cases h
theorem readT_if (r : List (List UInt8)) : readT ([105, 102] :: r) = (rCs [105, 102] r).bind fun p => (rAs p.2).map fun l => ⟨[] ++ p.1, l⟩ := by
  simp only [readT]
  rw [if_pos trivial]
  show (rCs [105, 102] r).bind _ = _
  cases hc : rCs [105, 102] r with
  | none => rfl
  | some p =>
    have := readCs_len _ _ _ _ hc
    show Option.map _ (readAs (r.length + 1) p.2) = Option.map _ (readAs (p.2.length + 1) p.2)
    rw [readAs_fuel (r.length + 1) (p.2.length + 1) p.2 (by omega) (by omega)]
    rfl
theorem readT_then (r : List (List UInt8)) : readT ([116, 104, 101, 110] :: r) = (rAs r).map fun l => ⟨[], l⟩ := by
 simp only [readT]
 rw [if_neg (by decide), if_pos trivial]
 rfl
theorem readT_bad {w : List UInt8} (r : List (List UInt8)) (h1 : w ≠ [116, 104, 101, 110]) (h2 : w ≠ [105, 102]) : readT (w :: r) = none := by
 simp only [readT]
 rw [if_neg h2, if_neg h1]
theorem termO_none {s : List UInt8} (h : readT (spl 32 s) = none) : termO s = none := by
 unfold termO
 rw [h]
 rfl
theorem termO_one {s : List UInt8} {t : TermS} (h : readT (spl 32 s) = some t) : termO s = if termT t = (s, 0) then some t else none := by
 unfold termO
 rw [h]
 rfl
end
section
open Go.RowKit
set_option linter.unusedVariables false
theorem wp_value {P : Program} {o : Oper} {a : Act} {w w' : World} {u : Value} {K : Act → World → Prop} {Q : Exit → Act → World → Prop} (h : (execOp a.eval o).run P w = .ok (.value u) w') (hk : K (a.put o.dst u) w') : Oper.wp P o a w K Q := by
 unfold Oper.wp
 rw [h]
 exact hk
theorem putD_defers {done : Nat → Bool} {val : Nat → Value} : ∀ (l : List Oper) (k : Nat) (a : Act), (putD done val l k a).defers = a.defers
  | [], _, _ => rfl
  | o :: l, k, a => by
    simp only [putD]
    rw [putD_defers l]
    split
    · cases o.dst <;> rfl
    · rfl
/-- A frame that agrees with a0 beside what the region writes. -/
structure Agr (ops : Array Oper) (a0 a : Act) : Prop where
  out : ∀ t, outB' ops t = true → a.eval (.tmp t) = a0.eval (.tmp t)
  defers : a.defers = a0.defers
  size : a.tmps.size = a0.tmps.size
def depB (ops : Array Oper) (i j : Nat) : Bool := match ops[i]? with | some o => o.after.any fun e => Region.binds .any e && e.on == j | none => false
theorem depB_spec {ops : Array Oper} {i j : Nat} (h : depB ops i j = true) {o : Oper} (ho : ops[i]? = some o) {done : Nat → Bool} (hd : ∀ e ∈ o.after, Region.binds .any e = true → done e.on = true) : done j = true := by
 unfold depB at h
 rw [ho] at h
 obtain ⟨k, hk, he⟩ := Array.any_eq_true.1 h
 simp only [Bool.and_eq_true, beq_iff_eq] at he
 rw [← he.2]
 exact hd _ (Array.getElem_mem hk) he.1
structure ApJ (w : World) (v0 v1 v2 : Value) (RV : Value → World → Prop) (cv : Value → Array Value) (t4 : TypeId) (done : Nat → Bool) (val : Nat → Value) (W' : World) : Prop where
  c0 : done 0 = true → val 0 = v0
  c1 : done 1 = true → val 1 = v1
  c2 : done 2 = true → val 2 = v2
  d4 : done 4 = true → done 3 = true
  s0 : done 3 = false → W' = w.drew
  s1 : done 3 = true → ∃ W, RV (val 3) W ∧ ((done 4 = false ∧ W' = W) ∨ (done 4 = true ∧ W' = W.alloc (.cells (cv (val 3)) t4) ∧ val 4 = .slice (some ⟨W.heap.size, 0, none⟩) 1 1))
theorem wp_region_apd {P : Program} {id : Nat} {ops : Array Oper} {Q : Exit → Act → World → Prop} {a0 : Act} {w : World} (hm : P.follows .mixedOrders = true) (hB : distB ops.toList = true) (hb : backM .any ops = true)
    (ht : (decide (5 < ops.size) && Region.sinkB .any ops 5 && Region.chainB .any ops 5 && Region.seqB .any ops (ops.size - 5) 5 (headA 5 (ops.size - 5))) = true)
    (o0 o1 o2 o3 o4 : Oper) (l : List Oper) (hl : ops.toList = o0 :: o1 :: o2 :: o3 :: o4 :: l) (hg : ops.toList.all (fun o => o.guard.isNone) = true)
    (d0 d1 d2 d3 d4 : Tmp) (hd : (o0.dst, o1.dst, o2.dst, o3.dst, o4.dst) = (some d0, some d1, some d2, some d3, some d4)) (hs : d0 < a0.tmps.size ∧ d1 < a0.tmps.size ∧ d2 < a0.tmps.size ∧ d3 < a0.tmps.size ∧ d4 < a0.tmps.size)
    (hdep : (depB ops 1 0 && (depB ops 3 2 && depB ops 4 3)) = true)
    (v0 v1 v2 : Value) (RV : Value → World → Prop) (cv : Value → Array Value) (t4 : TypeId) (Old : World → Prop)
    (x0 : ∀ (a : Act) (W : World), Agr ops a0 a → (execOp a.eval o0).run P W = .ok (.value v0) W)
    (x1 : ∀ (a : Act) (W : World), a.eval (.tmp d0) = v0 → Old W → (execOp a.eval o1).run P W = .ok (.value v1) W)
    (x2 : ∀ (a : Act) (W : World), Agr ops a0 a → (execOp a.eval o2).run P W = .ok (.value v2) W)
    (x3 : ∀ (a : Act), Agr ops a0 a → a.eval (.tmp d2) = v2 → o3.wp P a w.drew (fun a' w' => ∃ v, a' = a.put o3.dst v ∧ RV v w') Q)
    (x4 : ∀ (a : Act) (W : World) (v : Value), a.eval (.tmp d3) = v → RV v W → (execOp a.eval o4).run P W = .ok (.value (.slice (some ⟨W.heap.size, 0, none⟩) 1 1)) (W.alloc (.cells (cv v) t4)))
    (hO0 : Old w.drew) (hO1 : ∀ v W, RV v W → Old W) (hO2 : ∀ v W, RV v W → Old (W.alloc (.cells (cv v) t4)))
    (hend : ∀ v W, RV v W → wpList P ops Q l (((((a0.put (some d0) v0).put (some d1) v1).put (some d2) v2).put (some d3) v).put (some d4) (.slice (some ⟨W.heap.size, 0, none⟩) 1 1)) (W.alloc (.cells (cv v) t4))) :
    (Code.region id ops true).wp P Q a0 w := by
  simp only [Prod.mk.injEq] at hd
  obtain ⟨e0, e1, e2, e3, e4⟩ := hd
  obtain ⟨s0, s1, s2, s3, s4⟩ := hs
  simp only [Bool.and_eq_true] at hdep
  obtain ⟨p10, p32, p43⟩ := hdep
  have hat : ∀ (i : Nat) (o : Oper), (o0 :: o1 :: o2 :: o3 :: o4 :: l)[i]? = some o → ops[i]? = some o := fun i o h => by
    rw [← Array.getElem?_toList, hl]; exact h
  have g : ∀ {i : Nat} {o : Oper}, ops[i]? = some o → o.guard = none := fun {i o} ho => by
    have hmem : o ∈ ops.toList := by rw [← Array.getElem?_toList] at ho; exact List.mem_of_getElem? ho
    have := List.all_eq_true.1 hg o hmem
    simpa using this
  have agr : ∀ done val, Agr ops a0 (putD done val ops.toList 0 a0) := fun done val =>
    ⟨fun t h => eval_putD_out t _ _ _ (outB'_spec h), putD_defers _ _ _, putD_size _ _ _⟩
  have ev : ∀ {i : Nat} {o : Oper} {d : Tmp} {done : Nat → Bool} {val : Nat → Value}, (o0 :: o1 :: o2 :: o3 :: o4 :: l)[i]? = some o → o.dst = some d → done i = true → d < a0.tmps.size → (putD done val ops.toList 0 a0).eval (.tmp d) = val i := fun {i o d done val} ho hd hdn hs => by
    have := eval_putD (done := done) (val := val) ops.toList 0 i a0 o d hB (by rw [hl]; exact ho) hd (by rw [Nat.zero_add]; exact hdn) hs
    rwa [Nat.zero_add] at this
  refine wp_region_JT (J := ApJ w v0 v1 v2 RV cv t4) 5 hm hB hb ht (fun _ => undef) ⟨fun h => Bool.noConfusion h, fun h => Bool.noConfusion h, fun h => Bool.noConfusion h, fun h => Bool.noConfusion h, fun _ => rfl, fun h => Bool.noConfusion h⟩ ?_ ?_
  · intro i o done val w' hi ho hdn hdeps J
    refine ⟨wanted_none' (g ho), ?_⟩
    have A := agr done val
    rcases (show i = 0 ∨ i = 1 ∨ i = 2 ∨ i = 3 ∨ i = 4 by omega) with rfl | rfl | rfl | rfl | rfl
    · obtain rfl : o0 = o := Option.some.inj ((hat 0 o0 rfl).symm.trans ho)
      refine wp_value (x0 _ w' A) ⟨v0, rfl, fun _ => updF_same _ _ _, fun h => ?_, fun h => ?_, fun h => ?_, fun h => ?_, fun h => ?_⟩
      · rw [updF_ne _ _ (by decide)] at h ⊢; exact J.c1 h
      · rw [updF_ne _ _ (by decide)] at h ⊢; exact J.c2 h
      · rw [updF_ne _ _ (by decide)] at h ⊢; exact J.d4 h
      · rw [updF_ne _ _ (by decide)] at h; exact J.s0 h
      · rw [updF_ne _ _ (by decide)] at h; rw [updF_ne _ _ (by decide), updF_ne _ _ (by decide), updF_ne _ _ (by decide)]; exact J.s1 h
    · obtain rfl : o1 = o := Option.some.inj ((hat 1 o1 rfl).symm.trans ho)
      have h0 := depB_spec p10 ho hdeps
      have hold : Old w' := by
        cases h3 : done 3 with
        | false => rw [J.s0 h3]; exact hO0
        | true =>
          obtain ⟨W, hR, ⟨_, rfl⟩ | ⟨_, rfl, _⟩⟩ := J.s1 h3
          · exact hO1 _ _ hR
          · exact hO2 _ _ hR
      refine wp_value (x1 _ w' (by rw [ev (i := 0) rfl e0 h0 s0]; exact J.c0 h0) hold) ⟨v1, rfl, fun h => ?_, fun _ => updF_same _ _ _, fun h => ?_, fun h => ?_, fun h => ?_, fun h => ?_⟩
      · rw [updF_ne _ _ (by decide)] at h ⊢; exact J.c0 h
      · rw [updF_ne _ _ (by decide)] at h ⊢; exact J.c2 h
      · rw [updF_ne _ _ (by decide)] at h ⊢; exact J.d4 h
      · rw [updF_ne _ _ (by decide)] at h; exact J.s0 h
      · rw [updF_ne _ _ (by decide)] at h; rw [updF_ne _ _ (by decide), updF_ne _ _ (by decide), updF_ne _ _ (by decide)]; exact J.s1 h
    · obtain rfl : o2 = o := Option.some.inj ((hat 2 o2 rfl).symm.trans ho)
      refine wp_value (x2 _ w' A) ⟨v2, rfl, fun h => ?_, fun h => ?_, fun _ => updF_same _ _ _, fun h => ?_, fun h => ?_, fun h => ?_⟩
      · rw [updF_ne _ _ (by decide)] at h ⊢; exact J.c0 h
      · rw [updF_ne _ _ (by decide)] at h ⊢; exact J.c1 h
      · rw [updF_ne _ _ (by decide)] at h ⊢; exact J.d4 h
      · rw [updF_ne _ _ (by decide)] at h; exact J.s0 h
      · rw [updF_ne _ _ (by decide)] at h; rw [updF_ne _ _ (by decide), updF_ne _ _ (by decide), updF_ne _ _ (by decide)]; exact J.s1 h
    · obtain rfl : o3 = o := Option.some.inj ((hat 3 o3 rfl).symm.trans ho)
      have h2 := depB_spec p32 ho hdeps
      have h4 : done 4 = false := by
        cases h : done 4 with
        | false => rfl
        | true => rw [J.d4 h] at hdn; cases hdn
      obtain rfl := J.s0 hdn
      refine Oper.wp_mono ?_ (x3 _ A (by rw [ev (i := 2) rfl e2 h2 s2]; exact J.c2 h2))
      rintro a' w'' ⟨v, rfl, hR⟩
      refine ⟨v, rfl, fun h => ?_, fun h => ?_, fun h => ?_, fun h => updF_same _ _ _, fun h => ?_, fun h => ?_⟩
      · rw [updF_ne _ _ (by decide)] at h ⊢; exact J.c0 h
      · rw [updF_ne _ _ (by decide)] at h ⊢; exact J.c1 h
      · rw [updF_ne _ _ (by decide)] at h ⊢; exact J.c2 h
      · rw [updF_same] at h; cases h
      · rw [updF_same, updF_ne _ _ (by decide)]
        exact ⟨w'', hR, .inl ⟨h4, rfl⟩⟩
    · obtain rfl : o4 = o := Option.some.inj ((hat 4 o4 rfl).symm.trans ho)
      have h3 := depB_spec p43 ho hdeps
      obtain ⟨W, hR, ⟨_, rfl⟩ | ⟨h4, _, _⟩⟩ := J.s1 h3
      · refine wp_value (x4 _ w' (val 3) (ev (i := 3) rfl e3 h3 s3) hR) ⟨_, rfl, fun h => ?_, fun h => ?_, fun h => ?_, fun h => ?_, fun h => ?_, fun h => ?_⟩
        · rw [updF_ne _ _ (by decide)] at h ⊢; exact J.c0 h
        · rw [updF_ne _ _ (by decide)] at h ⊢; exact J.c1 h
        · rw [updF_ne _ _ (by decide)] at h ⊢; exact J.c2 h
        · rw [updF_ne _ _ (by decide)]; exact h3
        · rw [updF_ne _ _ (by decide), h3] at h; cases h
        · rw [updF_ne _ _ (by decide)]
          exact ⟨w', hR, .inr ⟨updF_same _ _ _, rfl, updF_same _ _ _⟩⟩
      · rw [hdn] at h4; cases h4
  · intro done val w' hall hnone J
    obtain ⟨W, hR, ⟨h4, _⟩ | ⟨_, rfl, h4⟩⟩ := J.s1 (hall 3 (by decide))
    · rw [hall 4 (by decide)] at h4; cases h4
    have := hend (val 3) W hR
    have hrest : ∀ (l : List Oper) (k : Nat) (a : Act), 5 ≤ k → putD done val l k a = a := by
      intro l
      induction l with
      | nil => intro k a _; rfl
      | cons o l ih => intro k a hk; simp only [putD]; rw [hnone k hk, if_neg (by decide)]; exact ih _ _ (by omega)
    rw [hl]
    simp only [putD, hall 0 (by decide), hall 1 (by decide), hall 2 (by decide), hall 3 (by decide), hall 4 (by decide), if_true]
    rw [hrest _ _ _ (by decide), e0, e1, e2, e3, e4, J.c0 (hall 0 (by decide)), J.c1 (hall 1 (by decide)), J.c2 (hall 2 (by decide)), h4]
    exact this
/-- The call of such a region: it returns, or it panics. -/
theorem wp_called {P : Program} {Q : Exit → Act → World → Prop} {K : Act → World → Prop} {o : Oper} {a : Act} {w : World} (f : FuncId) {fn : Func} (xs : Array Operand) (ts : Array TypeId)
  (hop : o.op = Op.call { callee := Callee.value (Operand.func f), args := xs, argTypes := ts }) (hf : P.funcs[f]? = some fn) (hname : (fn.name == "runtime.NumGoroutine") = false) (hb : fn.body.isNone = false) (vs : Array Value) (hx : xs.map a.eval = vs)
  {R : Ending → World → Prop} (hc : Calls P f vs w R) (hk : ∀ v w', R (.returned v) w' → K (a.put o.dst v) w') (hp : ∀ ch w', R (.panicked ch) w' → Q (.panic ch) a w') (ho : ∀ w', ¬ R .outgrown w') : Oper.wp P o a w K Q := by
 unfold Oper.wp
 have h1 : fn.name ≠ "runtime.NumGoroutine" := by simpa using hname
 have hev : a.eval (Operand.func f) = .func (.func f) #[] #[] := rfl
 have h2 : ¬ (fn.body = none) := by intro h; simp [h] at hb
 have hrun : (execOp a.eval o).run P w = .ok (.enter f vs) w := by
  simp [execOp, hop, resolve, hev, Deferred.ofValue, invoke, hx, callFunc, hf, h1, h2]
 rw [hrun, Oper.upon_enter]
 refine hc.mono fun e w' h => ?_
 cases e with
 | returned v => exact hk v w' h
 | panicked ch => exact hp ch w' h
 | outgrown => exact absurd h (ho w')
end
end
section
open Go.RowKit Go.Maps
set_option linter.unusedVariables false
open Classical in
theorem nodup_le {α : Type} : ∀ {a b : List α}, a.Pairwise (· ≠ ·) → (∀ x ∈ a, x ∈ b) → a.length ≤ b.length
  | [], b, _, _ => Nat.zero_le _
  | x :: a, b, hp, hs => by
    have hp' := List.pairwise_cons.1 hp
    have h1 : a.length ≤ (b.erase x).length := nodup_le hp'.2 fun y hy => by
      have hne : y ≠ x := fun e => hp'.1 y hy e.symm
      exact (List.mem_erase_of_ne hne).2 (hs y (List.mem_cons_of_mem _ hy))
    rw [List.length_erase_of_mem (hs x (List.mem_cons_self ..))] at h1
    have h2 := List.length_pos_of_mem (hs x (List.mem_cons_self ..))
    simp only [List.length_cons]
    omega
section
variable {P : Program} {k e t : TypeId} {w w' : World} {b : Nat}
/-- Every entry of the map at block b: its key is that of an x of the list G, its element what f says at x. -/
def Memo {α : Type} (P : Program) (k e : TypeId) (key : α → Value) (G : List α) (f : α → Bool) (w : World) (b : Nat) : Prop :=
 ∃ D : DataW Unit, w.ownsMap P k (plainElem P e) b (Maps.size D) D ∧ ∀ l, Maps.has D l = true → ∃ x ∈ G, keyOf P k (key x) = some l ∧ ∀ z, D.atKey l z = .lit (.bool (f x))
variable {α : Type} {key : α → Value} {G : List α} {f : α → Bool}
theorem Memo.made : Memo P k e key G f (w.alloc (.map #[] 0)) w.heap.size :=
 ⟨.map [], World.ownsMap_made w P k _, fun l h => by simp [Maps.has] at h⟩
theorem Memo.lt (h : Memo P k e key G f w b) : b < w.heap.size := by
 obtain ⟨D, h, _⟩ := h
 exact h.lt
theorem Memo.kept {row : Option Nat} (h : Memo P k e key G f w b) (hg : w.grownBy w' row) (hne : some b ≠ row) : Memo P k e key G f w' b := by
 obtain ⟨D, h, hh⟩ := h
 exact ⟨D, h.kept hg hne, hh⟩
theorem Memo.frame (h : Memo P k e key G f w b) (hb : w'.heap[b]? = w.heap[b]?) : Memo P k e key G f w' b := by
 obtain ⟨D, ⟨es, clock, h1, F, hs, hD⟩, hh⟩ := h
 exact ⟨D, ⟨es, clock, hb.trans h1, F, hs, hD⟩, hh⟩
/-- 'v, ok := m[x]'. -/
theorem Memo.look (h : Memo P k e key G f w b) (K : Keyed P k) (ht : P.underlying t = some (.map k e)) (he : P.underlying e = some .bool) (hz : (zeroValue e).run P w = .ok (.bool false) w) {x : α} {kl : Lit} (hkey : keyOf P k (key x) = some kl) (hinj : ∀ y ∈ G, key y = key x → f y = f x) :
  ∃ v ok, (Instr.lookup t (.map (some b)) (key x) true).run P w = .ok (.tuple #[.bool v, .bool ok]) w ∧ (ok = true → v = f x) := by
 obtain ⟨D, h, hh⟩ := h
 obtain ⟨v, ps, hrun, hv⟩ := h.look_ok K ht hz (plainElem_bool he false) hkey
 have hvb : ∃ c, v = .bool c ∧ D.atKey kl (.lit (.bool false)) = .lit (.bool c) := by
  unfold plainElem at hv
  rw [he] at hv
  cases v <;> simp at hv
  exact ⟨_, rfl, hv.1.symm⟩
 obtain ⟨c, rfl, hc⟩ := hvb
 refine ⟨c, _, hrun, fun hok => ?_⟩
 obtain ⟨y, hy, hky, hat⟩ := hh kl hok
 have e1 : key y = key x := K.inj hky hkey
 rw [hat] at hc
 injection hc with hc
 injection hc with hc
 rw [← hc, hinj y hy e1]
theorem Memo.size (K : Keyed P k) {D : DataW Unit} (h : w.ownsMap P k (plainElem P e) b (Maps.size D) D) (hh : ∀ l, Maps.has D l = true → ∃ x ∈ G, keyOf P k (key x) = some l) : Maps.size D ≤ G.length := by
 obtain ⟨es, rfl, hp, hk⟩ := h.entries K
 have h1 : (es.map (·.1)).Pairwise (· ≠ ·) := by rw [List.pairwise_map]; exact hp
 have h2 : ∀ l ∈ es.map (·.1), l ∈ G.filterMap fun x => keyOf P k (key x) := fun l hl => by
  obtain ⟨p, hp', rfl⟩ := List.mem_map.1 hl
  have hs : p.1.sameKey p.1 = true := by
   have := hk p hp'
   cases h : p.1 <;> simp [h, WideAt.IsKeyLit, Lit.sameKey] at this ⊢
  obtain ⟨x, hx, hkx⟩ := hh p.1 (by rw [has_eq]; exact List.any_eq_true.2 ⟨p, hp', hs⟩)
  exact List.mem_filterMap.2 ⟨x, hx, hkx⟩
 have h3 := nodup_le h1 h2
 rw [List.length_map] at h3
 have h4 := List.length_filterMap_le (fun x => keyOf P k (key x)) G
 rw [size_eq]
 omega
end
open Go.RowKit Go.Maps
open Go.RowKit Go.Maps
theorem Sl.grown {α : Type} {E : Enc α} {w w' : World} {b : Nat} {a : Option Addr} {l : List α} (h : Sl E w (fun x => x < w.heap.size ∧ x ≠ b) a l) (hg : w.grownBy w' (some b)) : Sl E w' (fun x => x < w'.heap.size ∧ x ≠ b) a l :=
 (h.frame fun x hx => hg.block x hx.1 (fun e => hx.2 (Option.some.inj e))).mono fun x hx => ⟨Nat.lt_of_lt_of_le hx.1 hg.size, hx.2⟩
section
variable {p : List Atm} {l : List UInt32} {gp gl gk gf b : Nat} {ap al : Option Addr} {cp cl : Nat} {w w' : World}
end
open Go.RowKit Go.Maps
open Go.RowKit Go.Maps
theorem allA_succ (l : List Atm) (k : Nat) (hk : k < l.length) : (l.take (k + 1)).all atmOk = ((l.take k).all atmOk && atmOk l[k]) := by
 rw [List.take_succ_eq_append_getElem hk, List.all_append, List.all_cons, List.all_nil, Bool.and_true]
theorem allA_bad {l : List Atm} {k : Nat} (hk : k < l.length) (h : atmOk l[k] = false) : atmsOk l = false := by
 unfold atmsOk
 rw [Bool.and_eq_false_iff]
 refine .inl ?_
 rw [List.all_eq_false]
 exact ⟨l[k], List.getElem_mem hk, by rw [h]; decide⟩
theorem atm_cases (a : Atm) : (a.1 < 1 ∧ atmOk a = false) ∨ (1 ≤ a.1 ∧ 3 < a.1 ∧ atmOk a = false) ∨ (1 ≤ a.1 ∧ a.1 ≤ 3 ∧ ∃ b3 b4 : Bool, (a.1 == 1) = b3 ∧ decide (0 < a.2.toNat) = b4 ∧ (b3 != b4) = !atmOk a) := by
 unfold atmOk
 by_cases h1 : a.1 < 1
 ·exact .inl ⟨h1, by rw [decide_eq_false (by omega)]; rfl⟩
 ·by_cases h3 : 3 < a.1
  ·exact .inr (.inl ⟨by omega, h3, by rw [decide_eq_false (p := a.1 ≤ 3) (by omega)]; simp⟩)
  ·refine .inr (.inr ⟨by omega, by omega, _, _, rfl, rfl, ?_⟩)
   rw [decide_eq_true (p := 1 ≤ a.1) (by omega), decide_eq_true (p := a.1 ≤ 3) (by omega)]
   have e1 : (a.1 == 1) = decide (a.1 = 1) := rfl
   rw [e1]
   simp [bne]
set_option maxHeartbeats 1000000 in
theorem Atoms_any (a : Option Addr) (c : Nat) (l : List Atm) (w : World) (hl : l.length ≤ 16777216) (hs : Sl EAtm w (· < w.heap.size) a l) :
    Calls Tryz.prog 120 #[.slice a l.length c] w fun e w' => e = .returned (.bool (atmsOk l)) ∧ Ext w w' := by
  replace hs := hide hs
  go_enter Tryz.func120, Tryz.ntmps120
  go_wp2
  go_loopw [7] (fun i wr => ∃ k : Nat, k ≤ l.length ∧ i = .int .i64 k ∧ Ext w wr ∧ (l.take k).all atmOk = true) (fun i _ => l.length - (intOf i).toNat)
  case atStart => exact ⟨0, Nat.zero_le _, rfl, Ext.refl _, rfl⟩
  case round =>
    obtain ⟨k, hk, rfl, he, ha⟩ := hrel
    replace ha := hide ha
    replace he := hide he
    by_cases hlt : k < l.length
    · obtain ⟨b, off, rfl, _, hkd, x0, x1⟩ := EAtm.at (hs.out.ext he.out) k hlt
      have A := Blk.new wr 75 #[.int .i64 l[k].1, .int .u32 (l[k].2.toNat : Int)]
      have he' := hide (he.out.alloc (Obj.cells #[.int .i64 l[k].1, .int .u32 (l[k].2.toNat : Int)] 75))
      generalize hW : wr.alloc (Obj.cells #[.int .i64 l[k].1, .int .u32 (l[k].2.toNat : Int)] 75) = W at A he'
      generalize hg : wr.heap.size = g at A
      have A_0 : W.cell? ⟨g, 0, none⟩ = some (.int .i64 l[k].1) := A.cell 0
      have A_1 : W.cell? ⟨g, 1, none⟩ = some (.int .u32 (l[k].2.toNat : Int)) := A.cell 1
      replace A := hide A
      have hbad := fun h => allA_bad hlt h
      have hok := fun h : atmOk l[k] = true => (allA_succ l k hlt).trans (by rw [ha.out, h, Bool.true_and])
      have hcs := atm_cases l[k]
      generalize atmOk l[k] = ok at hbad hok hcs
      generalize l[k] = x at *
      obtain ⟨kd, av⟩ := x
      dsimp only at *
      replace hbad := hide hbad
      replace hok := hide hok
      rcases hcs with ⟨h1, rfl⟩ | ⟨h1, h3, rfl⟩ | ⟨h1, h3, b3, b4, e3, e4, e5⟩
      · have e1 : decide (kd < 1) = true := decide_eq_true h1
        clear h1
        go_wp2
        go_ret
        exact ⟨ret_bool (hbad.out (by trivial)).symm, he'.out⟩
      · have e1 : decide (kd < 1) = false := decide_eq_false (by omega)
        have e2 : decide (3 < kd) = true := decide_eq_true h3
        clear h1 h3
        go_wp2
        go_ret
        exact ⟨ret_bool (hbad.out (by trivial)).symm, he'.out⟩
      · have e1 : decide (kd < 1) = false := decide_eq_false (by omega)
        have e2 : decide (3 < kd) = false := decide_eq_false (by omega)
        clear h1 h3
        cases ok with
        | true =>
          rw [Bool.not_true] at e5
          cases b3 <;> cases b4 <;> first | exact absurd e5 (by decide) | (go_wp2; go_roundw; (case rel => exact ⟨k + 1, by omega, by go_num, he'.out, hok.out (by trivial)⟩); (case measure => simp [intOf]; omega))
        | false =>
          rw [Bool.not_false] at e5
          cases b3 <;> cases b4 <;> first | exact absurd e5 (by decide) | (go_wp2; go_ret; exact ⟨ret_bool (hbad.out (by trivial)).symm, he'.out⟩)
    · have hend : atmsOk l = decide (l.length ≤ 64) := by
        obtain rfl : k = l.length := by omega
        have := ha.out
        rw [List.take_length] at this
        unfold atmsOk
        rw [this, Bool.true_and]
      have hle : decide ((l.length : Int) ≤ 64) = decide (l.length ≤ 64) := decide_eq_decide.2 (by omega)
      rw [← hend] at hle
      clear hend
      go_wp2
      go_ret
      exact ⟨ret_bool rfl, he.out⟩
end
section
open Go.RowKit Go.Sort
set_option linter.unusedVariables false
noncomputable instance (a b : Pfx) : Decidable (Cov a b) := Classical.propDecidable _
open Go.RowKit Go.Sort
end
section
open Go.RowKit
set_option linter.unusedVariables false
theorem okU8 : ElemOk Tryz.prog 148 5 1 1 := elemOk (z := .int .u8 0) Tryz.underlying148 (by kernel_rfl) rfl
theorem okU8z : Tryz.prog.info? 5 = none ∨ ∀ i, Tryz.prog.info? 5 = some i → i.zero = some (.int .u8 0) := by
 right; intro i hi
 have h : (Tryz.prog.info? 5).map (fun i => i.zero) = some (some (.int .u8 0)) := by kernel_rfl
 rw [hi] at h; simpa using h
def put (s : ByteArray) (n v : Nat) : ByteArray := ⟨(s.data.toList ++ be n v).toArray⟩
set_option maxRecDepth 20000 in
set_option maxHeartbeats 1000000 in
theorem WPut_any (s : ByteArray) (v n : Nat) (w : World) (h1 : 1 ≤ n) (h8 : n ≤ 8) (hv : v < 18446744073709551616) (hvn : v < 2 ^ (8 * n)) (hs : s.size ≤ 33554432) :
    Calls Tryz.prog 174 #[.string s, .int .u64 v, .int .i64 n] w fun e w' => e = .returned (.tuple #[.string (put s n v), .int .i64 0]) ∧ Ext w w' := by
  have hln : (Lib.bitLen v : Int) ≤ 8 * n := bitLen_le n v hvn hv
  have hml : s.size ≤ maxLen := by unfold maxLen; omega
  have kc := fun (w : World) => Lib.run_convert_string_bytes (P := Tryz.prog) w 9 148 5 s Tryz.underlying9 Tryz.underlying148 Tryz.underlying5
  have e0 : decide ((n : Int) < 1) = false := by simp; omega
  have e8 : decide ((8 : Int) < (n : Int)) = false := by simp; omega
  have e9 : decide (8 * (n : Int) < (Lib.bitLen v : Int)) = false := by simp; omega
  replace hvn := hide hvn
  go_enter Tryz.func174, Tryz.ntmps174
  go_wp2_with (go_at_call 178; refine (Len64_any v hv _).mono ?_; rintro e w' ⟨rfl, rfl⟩)
  have hcv := hide (OwnB.conv (w := w) (e := 5) s hml)
  clear kc
  go_loopw [8, 9] (fun o i wr => ∃ k : Nat, k ≤ n ∧ i = .int .i64 ((n : Int) - 1 - k) ∧ OwnB 5 wr w.heap.size o (s.data.toList ++ (be n v).take k) ∧ Ext w wr) (fun _ i _ => (intOf i + 1).toNat)
  case atStart => exact ⟨0, Nat.zero_le _, by simp, by simpa using hcv.out, ext_bytesWorld w _ s⟩
  case round =>
    obtain ⟨k, hk, rfl, hown, hE⟩ := hrel
    have hsz := hE.size
    replace hE := hide hE
    replace hown := hide hown
    have hle : (s.data.toList ++ (be n v).take k).length ≤ 33554440 := by
      have : s.data.toList.length = s.size := by simp
      simp only [List.length_append, List.length_take, be_length]
      omega
    by_cases hlt : k < n
    · have hb := byt_cast v (n - 1 - k)
      go_wp2_with (at_builtin
                   have hox := hown.out.alloc (Obj.cells #[.int .u8 ((byt v (n - 1 - k)).toNat : Int)] 5)
                   refine wpList_appendB rfl _ _ _ rfl okU8 okU8z rfl hox (by simp; omega) [byt v (n - 1 - k)] rfl (by simp at hle ⊢; omega) (byte_new _ _ _) ?_
                   intro v' w1 hown1 hg hat)
      go_roundw
      case rel => exact ⟨k + 1, by omega, by simp; omega, by rw [be_snoc n v k hlt, ← List.append_assoc]; exact hown1, (hE.out.alloc _).push (fun j hj => (hown.out.lt j hj).1) hg⟩
      case measure => simp [intOf]; omega
    · obtain rfl : k = n := by omega
      have hown1 := hown.out
      rw [be_all] at hown1
      have kd := fun (W : World) (h : OwnB 5 W w.heap.size u8 (s.data.toList ++ be k v)) => run_stringB (P := Tryz.prog) (src := 148) (dst := 9) Tryz.underlying148 Tryz.underlying5 Tryz.underlying9 h
      have kd := kd wr hown1
      replace hown1 := hide hown1
      go_wp2
      go_ret2
      exact ⟨rfl, hE.out⟩
end
section
open Go.RowKit Go.Sort
set_option linter.unusedVariables false
/-- The place of the first element of which a test says yes; -1: there is none. -/
def idxT {α : Type} (pr : α → Bool) (l : List α) : Int := match l.findIdx? pr with | some i => i | none => -1
theorem idxT_at {α : Type} {pr : α → Bool} {l : List α} {k : Nat} (hk : k < l.length) (h : pr l[k] = true) (hn : (l.take k).any pr = false) : idxT pr l = k := by
 unfold idxT
 have : l.findIdx? pr = some k := by
  rw [List.findIdx?_eq_some_iff_getElem]
  refine ⟨hk, h, fun j hj => ?_⟩
  rw [List.any_eq_false] at hn
  have h1 : l[j] ∈ l.take k := by
   rw [List.mem_take_iff_getElem]
   exact ⟨j, by omega, rfl⟩
  simpa using hn _ h1
 rw [this]
theorem idxT_none {α : Type} {pr : α → Bool} {l : List α} (hn : l.any pr = false) : idxT pr l = -1 := by
 unfold idxT
 have : l.findIdx? pr = none := by
  rw [List.findIdx?_eq_none_iff]
  intro x hx
  rw [List.any_eq_false] at hn
  simpa using hn x hx
 rw [this]
theorem idxT_any {α : Type} (pr : α → Bool) (l : List α) : decide (0 ≤ idxT pr l) = l.any pr := by
  unfold idxT
  cases h : l.findIdx? pr with
  | none =>
    rw [List.findIdx?_eq_none_iff] at h
    rw [decide_eq_false (by decide)]
    exact (List.any_eq_false.2 fun x hx => by rw [h x hx]; decide).symm
  | some i =>
    rw [List.findIdx?_eq_some_iff_getElem] at h
    obtain ⟨hi, h, _⟩ := h
    rw [decide_eq_true (by show (0 : Int) ≤ (i : Int); omega)]
    exact (List.any_eq_true.2 ⟨l[i], List.getElem_mem hi, h⟩).symm
theorem any_take {α : Type} {pr : α → Bool} {l : List α} {k : Nat} (hk : k < l.length) (h : pr l[k] = false) (hn : (l.take k).any pr = false) : (l.take (k + 1)).any pr = false := by
 rw [List.take_succ_eq_append_getElem hk, List.any_append, hn, List.any_cons, h]
 rfl
set_option maxHeartbeats 1000000 in
theorem IdxItm_any (g : Nat) (lb : Array Value) (eg : ∀ args w, (callFunc g args).run Tryz.prog w = .ok (.enter g args) w) (pr : Itm → Bool) (a : Option Addr) (c : Nat) (l : List Itm) (w : World) (hl : l.length ≤ 16777216) (hs : Sl EItm w (· < w.heap.size) a l)
  (hq : ∀ x ∈ l, ItmIn x → ∀ W, Ext w W → Calls Tryz.prog g (#[.agg #[.int .i64 x.p.fam, .int .u64 (x.p.rd : Int), .string ⟨x.p.addr.toArray⟩, .int .i64 x.p.len, .int .i64 x.low, .int .i64 x.high]] ++ lb) W fun e w' => e = .returned (.bool (pr x)) ∧ Ext W w') :
  Calls Tryz.prog 143 #[.slice a l.length c, .func (.func g) #[] lb] w fun e w' => e = .returned (.int .i64 (idxT pr l)) ∧ Ext w w' := by
 replace hs := hide hs
 replace hq := hide hq
 go_enter Tryz.func143, Tryz.ntmps143
 go_wp2
 go_loopw [8] (fun i wr => ∃ k : Nat, k ≤ l.length ∧ i = .int .i64 k ∧ Ext w wr ∧ (l.take k).any pr = false) (fun i _ => l.length - (intOf i).toNat)
 case atStart => exact ⟨0, Nat.zero_le _, rfl, Ext.refl _, rfl⟩
 case round =>
  obtain ⟨k, hk, rfl, he, ha⟩ := hrel
  replace ha := hide ha
  replace he := hide he
  by_cases hlt : k < l.length
  ·obtain ⟨b, off, rfl, _, hin, hc⟩ := EItm.at (hs.out.ext he.out) k hlt
   have x0 : wr.cell? ⟨b, off + k * 6, none⟩ = some (.int .i64 l[k].p.fam) := hc 0 _ rfl
   have x1 : wr.cell? ⟨b, off + k * 6 + 1, none⟩ = some (.int .u64 (l[k].p.rd : Int)) := hc 1 _ rfl
   have x2 : wr.cell? ⟨b, off + k * 6 + 2, none⟩ = some (.string ⟨l[k].p.addr.toArray⟩) := hc 2 _ rfl
   have x3 : wr.cell? ⟨b, off + k * 6 + 3, none⟩ = some (.int .i64 l[k].p.len) := hc 3 _ rfl
   have x4 : wr.cell? ⟨b, off + k * 6 + 4, none⟩ = some (.int .i64 l[k].low) := hc 4 _ rfl
   have x5 : wr.cell? ⟨b, off + k * 6 + 5, none⟩ = some (.int .i64 l[k].high) := hc 5 _ rfl
   have q := hq.out l[k] (List.getElem_mem hlt) hin wr he.out
   have hyes := fun h => idxT_at (pr := pr) hlt h ha.out
   have hno := fun h => any_take (pr := pr) hlt h ha.out
   clear hc hin
   generalize pr l[k] = r at q hyes hno
   generalize l[k] = x at *
   obtain ⟨⟨f, rd, ad, ln⟩, lo, hi⟩ := x
   dsimp only at x0 x1 x2 x3 x4 x5 q
   replace q := hide q
   replace hyes := hide hyes
   replace hno := hide hno
   go_wp2_with (go_at_fn g; refine q.out.mono ?_; rintro e W1 ⟨rfl, he1⟩; replace he1 := hide (he.out.trans he1); cases r)
   case roundEnd =>
    go_roundw
    case rel => exact ⟨k + 1, by omega, by go_num, he1.out, hno.out (by trivial)⟩
    case measure => simp [intOf]; omega
   all_goals
    go_ret
    exact ⟨ret_int (hyes.out (by trivial)).symm, he1.out⟩
  ·have hend : idxT pr l = -1 := idxT_none (by
    obtain rfl : k = l.length := by omega
    have := ha.out
    rwa [List.take_length] at this)
   replace hend := hide hend
   go_wp2
   go_ret
   exact ⟨ret_int hend.out.symm, he.out⟩
set_option maxHeartbeats 1000000 in
theorem HasItm_any (g : Nat) (lb : Array Value) (eg : ∀ args w, (callFunc g args).run Tryz.prog w = .ok (.enter g args) w) (pr : Itm → Bool) (a : Option Addr) (c : Nat) (l : List Itm) (w : World) (hl : l.length ≤ 16777216) (hs : Sl EItm w (· < w.heap.size) a l)
  (hq : ∀ x ∈ l, ItmIn x → ∀ W, Ext w W → Calls Tryz.prog g (#[.agg #[.int .i64 x.p.fam, .int .u64 (x.p.rd : Int), .string ⟨x.p.addr.toArray⟩, .int .i64 x.p.len, .int .i64 x.low, .int .i64 x.high]] ++ lb) W fun e w' => e = .returned (.bool (pr x)) ∧ Ext W w') :
  Calls Tryz.prog 114 #[.slice a l.length c, .func (.func g) #[] lb] w fun e w' => e = .returned (.bool (l.any pr)) ∧ Ext w w' := by
 have q := IdxItm_any g lb eg pr a c l w hl hs hq
 have hd := idxT_any pr l
 generalize idxT pr l = r at q hd
 generalize l.any pr = y at hd ⊢
 clear hs hq
 replace q := hide q
 go_enter Tryz.func114, Tryz.ntmps114
 go_wp2_with fail
 refine q.out.mono ?_
 rintro e W1 ⟨rfl, he⟩
 replace he := hide he
 go_wp2
 go_ret
 exact ⟨rfl, he.out⟩
open Go.RowKit Go.Sort
set_option maxRecDepth 20000 in
set_option maxHeartbeats 1000000 in
theorem Item_any (x : Itm) (hx : x.p.addr.length ≤ 1048576) (w : World) :
  Calls Tryz.prog 116 #[.agg #[.int .i64 x.p.fam, .int .u64 (x.p.rd : Int), .string ⟨x.p.addr.toArray⟩, .int .i64 x.p.len, .int .i64 x.low, .int .i64 x.high]] w fun e w' => e = .returned (.bool (decide (itmOk x))) ∧ Ext w w' := by
 have mixed : Tryz.prog.follows Departure.mixedOrders = true := by kernel_rfl
 have qck := fun W => ACheck_any x.p W hx
 have qsz := fun W => ASize_any x.p.fam W
 have hcs : (errP (MayP x.p) = 2 ∧ decide (itmOk x) = false) ∨ (errP (MayP x.p) = 0 ∧ decide (x.p.len ≤ x.low) = false ∧ decide (itmOk x) = false) ∨ (errP (MayP x.p) = 0 ∧ decide (x.p.len ≤ x.low) = true ∧ decide (x.low ≤ x.high) = false ∧ decide (itmOk x) = false) ∨
   (errP (MayP x.p) = 0 ∧ decide (x.p.len ≤ x.low) = true ∧ decide (x.low ≤ x.high) = true ∧ decide (x.high ≤ 8 * sizeS x.p.fam) = decide (itmOk x)) := by
  rcases errP_cases x.p with ⟨h, he⟩ | ⟨h, he⟩
  ·by_cases h1 : x.p.len ≤ x.low
   ·by_cases h2 : x.low ≤ x.high
    ·exact .inr (.inr (.inr ⟨he, decide_eq_true h1, decide_eq_true h2, decide_eq_decide.2 ⟨fun h3 => ⟨h, h1, h2, h3⟩, fun h3 => h3.2.2.2⟩⟩))
    ·exact .inr (.inr (.inl ⟨he, decide_eq_true h1, decide_eq_false h2, decide_eq_false fun h3 => h2 h3.2.2.1⟩))
   ·exact .inr (.inl ⟨he, decide_eq_false h1, decide_eq_false fun h3 => h1 h3.2.1⟩)
  ·exact .inl ⟨he, decide_eq_false fun h3 => h h3.1⟩
 have hz : 0 ≤ sizeS x.p.fam ∧ sizeS x.p.fam ≤ 16 := by rcases sizeS_cases x.p.fam with h | h | h <;> omega
 obtain ⟨⟨f, rd, ad, ln⟩, lo, hi⟩ := x
 simp only [valP] at qck
 dsimp only at *
 generalize decide (itmOk ⟨⟨f, rd, ad, ln⟩, lo, hi⟩) = r at hcs ⊢
 generalize errP (MayP ⟨f, rd, ad, ln⟩) = ec at qck hcs
 generalize sizeS f = sz at qsz hcs hz
 obtain ⟨hz1, hz2⟩ := hz
 replace qck := hide qck
 replace qsz := hide qsz
 go_enter Tryz.func116, Tryz.ntmps116
 have S := Blk.new w 72 #[.int .i64 f, .int .u64 (rd : Int), .string ⟨ad.toArray⟩, .int .i64 ln, .int .i64 lo, .int .i64 hi]
 have E := (Ext.refl w).alloc (Obj.cells #[.int .i64 f, .int .u64 (rd : Int), .string ⟨ad.toArray⟩, .int .i64 ln, .int .i64 lo, .int .i64 hi] 72)
 generalize hW0 : w.alloc (Obj.cells #[.int .i64 f, .int .u64 (rd : Int), .string ⟨ad.toArray⟩, .int .i64 ln, .int .i64 lo, .int .i64 hi] 72) = W0 at S E
 generalize hg0 : w.heap.size = g0 at S
 replace S := hide S
 replace E := hide E
 go_upto_region 1 with fail
 clear hW0 hg0
 rcases hcs with ⟨rfl, rfl⟩ | ⟨rfl, e2, rfl⟩ | ⟨rfl, e2, e3, rfl⟩ | ⟨rfl, e2, e3, e4⟩
 ·
  have S_0 : ∀ d os, (grow (redrawn W0 d) os).cell? ⟨g0, 0, none⟩ = some (.int .i64 f) := cell_regrown (S.out.cell 0)
  have S_1 : ∀ d os, (grow (redrawn W0 d) os).cell? ⟨g0, 1, none⟩ = some (.int .u64 (rd : Int)) := cell_regrown (S.out.cell 1)
  have S_2 : ∀ d os, (grow (redrawn W0 d) os).cell? ⟨g0, 2, none⟩ = some (.string ⟨ad.toArray⟩) := cell_regrown (S.out.cell 2)
  have S_3 : ∀ d os, (grow (redrawn W0 d) os).cell? ⟨g0, 3, none⟩ = some (.int .i64 ln) := cell_regrown (S.out.cell 3)
  have S_4 : ∀ d os, (grow (redrawn W0 d) os).cell? ⟨g0, 4, none⟩ = some (.int .i64 lo) := cell_regrown (S.out.cell 4)
  have S_5 : ∀ d os, (grow (redrawn W0 d) os).cell? ⟨g0, 5, none⟩ = some (.int .i64 hi) := cell_regrown (S.out.cell 5)
  have cq0 := Calls.regr qck.out W0
  have cq1 := Calls.regrS qsz.out W0
  refine wp_region_quiet_below (by assumption) (by kernel_rfl) ?_
  repeat (go_big_quiet_step (first | (with_reducible exact cq0 _ _) | (with_reducible exact cq1 _ _)))
  refine wpQuiet_nil ?_
  intro _ hw_
  obtain ⟨⟨dq_, osq_⟩, hw_'⟩ := hw_
  subst hw_'
  replace E := hide (E.out.trans (below_regrown _ dq_ osq_))
  replace S := hide (S.out.ext (below_regrown _ dq_ osq_))
  clear S_0 S_1 S_2 S_3 S_4 S_5
  clear cq0 cq1
  generalize grow (redrawn W0 dq_) osq_ = W1 at E S ⊢
  have S_0 : W1.cell? ⟨g0, 0, none⟩ = some (.int .i64 f) := S.out.cell 0
  have S_1 : W1.cell? ⟨g0, 1, none⟩ = some (.int .u64 (rd : Int)) := S.out.cell 1
  have S_2 : W1.cell? ⟨g0, 2, none⟩ = some (.string ⟨ad.toArray⟩) := S.out.cell 2
  have S_3 : W1.cell? ⟨g0, 3, none⟩ = some (.int .i64 ln) := S.out.cell 3
  have S_4 : W1.cell? ⟨g0, 4, none⟩ = some (.int .i64 lo) := S.out.cell 4
  have S_5 : W1.cell? ⟨g0, 5, none⟩ = some (.int .i64 hi) := S.out.cell 5
  go_wp2
  go_ret
  exact ⟨rfl, E.out⟩
 ·
  have S_0 : ∀ d os, (grow (redrawn W0 d) os).cell? ⟨g0, 0, none⟩ = some (.int .i64 f) := cell_regrown (S.out.cell 0)
  have S_1 : ∀ d os, (grow (redrawn W0 d) os).cell? ⟨g0, 1, none⟩ = some (.int .u64 (rd : Int)) := cell_regrown (S.out.cell 1)
  have S_2 : ∀ d os, (grow (redrawn W0 d) os).cell? ⟨g0, 2, none⟩ = some (.string ⟨ad.toArray⟩) := cell_regrown (S.out.cell 2)
  have S_3 : ∀ d os, (grow (redrawn W0 d) os).cell? ⟨g0, 3, none⟩ = some (.int .i64 ln) := cell_regrown (S.out.cell 3)
  have S_4 : ∀ d os, (grow (redrawn W0 d) os).cell? ⟨g0, 4, none⟩ = some (.int .i64 lo) := cell_regrown (S.out.cell 4)
  have S_5 : ∀ d os, (grow (redrawn W0 d) os).cell? ⟨g0, 5, none⟩ = some (.int .i64 hi) := cell_regrown (S.out.cell 5)
  have cq0 := Calls.regr qck.out W0
  have cq1 := Calls.regrS qsz.out W0
  refine wp_region_quiet_below (by assumption) (by kernel_rfl) ?_
  repeat (go_big_quiet_step (first | (with_reducible exact cq0 _ _) | (with_reducible exact cq1 _ _)))
  refine wpQuiet_nil ?_
  intro _ hw_
  obtain ⟨⟨dq_, osq_⟩, hw_'⟩ := hw_
  subst hw_'
  replace E := hide (E.out.trans (below_regrown _ dq_ osq_))
  replace S := hide (S.out.ext (below_regrown _ dq_ osq_))
  clear S_0 S_1 S_2 S_3 S_4 S_5
  clear cq0 cq1
  generalize grow (redrawn W0 dq_) osq_ = W1 at E S ⊢
  have S_0 : W1.cell? ⟨g0, 0, none⟩ = some (.int .i64 f) := S.out.cell 0
  have S_1 : W1.cell? ⟨g0, 1, none⟩ = some (.int .u64 (rd : Int)) := S.out.cell 1
  have S_2 : W1.cell? ⟨g0, 2, none⟩ = some (.string ⟨ad.toArray⟩) := S.out.cell 2
  have S_3 : W1.cell? ⟨g0, 3, none⟩ = some (.int .i64 ln) := S.out.cell 3
  have S_4 : W1.cell? ⟨g0, 4, none⟩ = some (.int .i64 lo) := S.out.cell 4
  have S_5 : W1.cell? ⟨g0, 5, none⟩ = some (.int .i64 hi) := S.out.cell 5
  go_wp2
  go_ret
  exact ⟨rfl, E.out⟩
 ·
  have S_0 : ∀ d os, (grow (redrawn W0 d) os).cell? ⟨g0, 0, none⟩ = some (.int .i64 f) := cell_regrown (S.out.cell 0)
  have S_1 : ∀ d os, (grow (redrawn W0 d) os).cell? ⟨g0, 1, none⟩ = some (.int .u64 (rd : Int)) := cell_regrown (S.out.cell 1)
  have S_2 : ∀ d os, (grow (redrawn W0 d) os).cell? ⟨g0, 2, none⟩ = some (.string ⟨ad.toArray⟩) := cell_regrown (S.out.cell 2)
  have S_3 : ∀ d os, (grow (redrawn W0 d) os).cell? ⟨g0, 3, none⟩ = some (.int .i64 ln) := cell_regrown (S.out.cell 3)
  have S_4 : ∀ d os, (grow (redrawn W0 d) os).cell? ⟨g0, 4, none⟩ = some (.int .i64 lo) := cell_regrown (S.out.cell 4)
  have S_5 : ∀ d os, (grow (redrawn W0 d) os).cell? ⟨g0, 5, none⟩ = some (.int .i64 hi) := cell_regrown (S.out.cell 5)
  have cq0 := Calls.regr qck.out W0
  have cq1 := Calls.regrS qsz.out W0
  refine wp_region_quiet_below (by assumption) (by kernel_rfl) ?_
  repeat (go_big_quiet_step (first | (with_reducible exact cq0 _ _) | (with_reducible exact cq1 _ _)))
  refine wpQuiet_nil ?_
  intro _ hw_
  obtain ⟨⟨dq_, osq_⟩, hw_'⟩ := hw_
  subst hw_'
  replace E := hide (E.out.trans (below_regrown _ dq_ osq_))
  replace S := hide (S.out.ext (below_regrown _ dq_ osq_))
  clear S_0 S_1 S_2 S_3 S_4 S_5
  clear cq0 cq1
  generalize grow (redrawn W0 dq_) osq_ = W1 at E S ⊢
  have S_0 : W1.cell? ⟨g0, 0, none⟩ = some (.int .i64 f) := S.out.cell 0
  have S_1 : W1.cell? ⟨g0, 1, none⟩ = some (.int .u64 (rd : Int)) := S.out.cell 1
  have S_2 : W1.cell? ⟨g0, 2, none⟩ = some (.string ⟨ad.toArray⟩) := S.out.cell 2
  have S_3 : W1.cell? ⟨g0, 3, none⟩ = some (.int .i64 ln) := S.out.cell 3
  have S_4 : W1.cell? ⟨g0, 4, none⟩ = some (.int .i64 lo) := S.out.cell 4
  have S_5 : W1.cell? ⟨g0, 5, none⟩ = some (.int .i64 hi) := S.out.cell 5
  go_wp2
  go_ret
  exact ⟨rfl, E.out⟩
 ·
  have e5 : decide (hi ≤ 8 * sz) = r := e4
  have S_0 : ∀ d os, (grow (redrawn W0 d) os).cell? ⟨g0, 0, none⟩ = some (.int .i64 f) := cell_regrown (S.out.cell 0)
  have S_1 : ∀ d os, (grow (redrawn W0 d) os).cell? ⟨g0, 1, none⟩ = some (.int .u64 (rd : Int)) := cell_regrown (S.out.cell 1)
  have S_2 : ∀ d os, (grow (redrawn W0 d) os).cell? ⟨g0, 2, none⟩ = some (.string ⟨ad.toArray⟩) := cell_regrown (S.out.cell 2)
  have S_3 : ∀ d os, (grow (redrawn W0 d) os).cell? ⟨g0, 3, none⟩ = some (.int .i64 ln) := cell_regrown (S.out.cell 3)
  have S_4 : ∀ d os, (grow (redrawn W0 d) os).cell? ⟨g0, 4, none⟩ = some (.int .i64 lo) := cell_regrown (S.out.cell 4)
  have S_5 : ∀ d os, (grow (redrawn W0 d) os).cell? ⟨g0, 5, none⟩ = some (.int .i64 hi) := cell_regrown (S.out.cell 5)
  have cq0 := Calls.regr qck.out W0
  have cq1 := Calls.regrS qsz.out W0
  refine wp_region_quiet_below (by assumption) (by kernel_rfl) ?_
  repeat (go_big_quiet_step (first | (with_reducible exact cq0 _ _) | (with_reducible exact cq1 _ _)))
  refine wpQuiet_nil ?_
  intro _ hw_
  obtain ⟨⟨dq_, osq_⟩, hw_'⟩ := hw_
  subst hw_'
  replace E := hide (E.out.trans (below_regrown _ dq_ osq_))
  replace S := hide (S.out.ext (below_regrown _ dq_ osq_))
  clear S_0 S_1 S_2 S_3 S_4 S_5
  clear cq0 cq1
  generalize grow (redrawn W0 dq_) osq_ = W1 at E S ⊢
  have S_0 : W1.cell? ⟨g0, 0, none⟩ = some (.int .i64 f) := S.out.cell 0
  have S_1 : W1.cell? ⟨g0, 1, none⟩ = some (.int .u64 (rd : Int)) := S.out.cell 1
  have S_2 : W1.cell? ⟨g0, 2, none⟩ = some (.string ⟨ad.toArray⟩) := S.out.cell 2
  have S_3 : W1.cell? ⟨g0, 3, none⟩ = some (.int .i64 ln) := S.out.cell 3
  have S_4 : W1.cell? ⟨g0, 4, none⟩ = some (.int .i64 lo) := S.out.cell 4
  have S_5 : W1.cell? ⟨g0, 5, none⟩ = some (.int .i64 hi) := S.out.cell 5
  go_wp2
  go_ret
  exact ⟨rfl, E.out⟩
open Go.RowKit Go.Sort
def runeZ (z : Int) : Bool := (decide (97 ≤ z) && decide (z ≤ 122)) || ((decide (48 ≤ z) && decide (z ≤ 57)) || decide (z = 45))
theorem runeZ_nat (x : Nat) : runeZ (x : Int) = runeOk x := by
 unfold runeZ runeOk
 rw [show decide ((97 : Int) ≤ (x : Int)) = decide (97 ≤ x) from decide_eq_decide.2 (by omega), show decide ((x : Int) ≤ 122) = decide (x ≤ 122) from decide_eq_decide.2 (by omega), show decide ((48 : Int) ≤ (x : Int)) = decide (48 ≤ x) from decide_eq_decide.2 (by omega), show decide ((x : Int) ≤ 57) = decide (x ≤ 57) from decide_eq_decide.2 (by omega), show decide ((x : Int) = 45) = decide (x = 45) from decide_eq_decide.2 (by omega)]
theorem rune_cases (z : Int) : ∃ b1 b2 b3 b4 b5 r : Bool, decide (z < 97) = b1 ∧ decide (122 < z) = b2 ∧ decide (z < 48) = b3 ∧ decide (57 < z) = b4 ∧ (z != 45) = b5 ∧ (!runeZ z) = r ∧ (((b1 || b2) && ((b3 || b4) && b5)) = r) := by
 refine ⟨_, _, _, _, _, _, rfl, rfl, rfl, rfl, rfl, rfl, ?_⟩
 unfold runeZ
 rw [show decide (97 ≤ z) = !decide (z < 97) by rw [Bool.eq_iff_iff]; simp, show decide (z ≤ 122) = !decide (122 < z) by rw [Bool.eq_iff_iff]; simp, show decide (48 ≤ z) = !decide (z < 48) by rw [Bool.eq_iff_iff]; simp, show decide (z ≤ 57) = !decide (57 < z) by rw [Bool.eq_iff_iff]; simp, show (z != 45) = !decide (z = 45) from rfl]
 generalize decide (z < 97) = a
 generalize decide (122 < z) = b
 generalize decide (z < 48) = c
 generalize decide (57 < z) = d
 generalize decide (z = 45) = e
 revert a b c d e
 decide
set_option maxHeartbeats 1000000 in
theorem Named1_any (z : Int) (w : World) : Calls Tryz.prog 142 #[.int .i32 z] w fun e w' => e = .returned (.bool (!runeZ z)) ∧ w' = w := by
 obtain ⟨b1, b2, b3, b4, b5, r, e1, e2, e3, e4, e5, e6, e7⟩ := rune_cases z
 rw [e6]
 clear e6
 go_enter Tryz.func142, Tryz.ntmps142
 cases b1 <;> cases b2 <;> cases b3 <;> cases b4 <;> subst e7 <;> (go_wp2; go_ret; exact ⟨rfl, rfl⟩)
theorem ba_index0 (s : List UInt8) (x : UInt8) (t : List UInt8) (hs : s = x :: t) (W : World) : (Instr.index 9 (.string ⟨s.toArray⟩) (.int .i64 0)).run Tryz.prog W = .ok (.int .u8 (x.toNat : Int)) W := by
 subst hs
 have h2 : 0 < (ByteArray.mk (x :: t).toArray).size := by simp [ByteArray.size]
 go_simp
 rfl
theorem name_cases (s : List UInt8) : (s = [] ∧ nameOk s = false) ∨ ∃ x t, s = x :: t ∧ ((16 < s.length ∧ nameOk s = false) ∨ (s.length ≤ 16 ∧ s.all nameCh = false ∧ nameOk s = false) ∨ (s.length ≤ 16 ∧ s.all nameCh = true ∧ decide (97 ≤ x.toNat) = nameOk s)) := by
  cases s with
  | nil => exact .inl ⟨rfl, by decide⟩
  | cons x t =>
    refine .inr ⟨x, t, rfl, ?_⟩
    unfold nameOk
    rw [decide_eq_true (p := 1 ≤ (x :: t).length) (by simp), Bool.true_and]
    by_cases h : 16 < (x :: t).length
    · exact .inl ⟨h, by rw [decide_eq_false (by omega), Bool.false_and]⟩
    · rw [decide_eq_true (p := (x :: t).length ≤ 16) (by omega), Bool.true_and]
      cases ha : (x :: t).all nameCh with
      | false => exact .inr (.inl ⟨by omega, rfl, by rw [Bool.and_false]⟩)
      | true => exact .inr (.inr ⟨by omega, rfl, by rw [Bool.and_true]; rfl⟩)
set_option maxRecDepth 20000 in
set_option maxHeartbeats 1000000 in
theorem Named_any (s : List UInt8) (w : World) : Calls Tryz.prog 113 #[.string ⟨s.toArray⟩] w fun e w' => e = .returned (.bool (nameOk s)) ∧ Ext w w' := by
 have mixed : Tryz.prog.follows Departure.mixedOrders = true := by kernel_rfl
 have q : ∀ W, Calls Tryz.prog 141 #[.string ⟨s.toArray⟩, .func (.func 142) #[] #[]] W fun e w' => e = .returned (.int .i64 (Lib.idxFunc (fun x => !runeOk x) true ⟨s.toArray⟩)) ∧ Ext W w' := fun W =>
  Tryz.strings_IndexFunc_runes 142 #[] (fun _ _ => rfl) (fun x => !runeOk x) ⟨s.toArray⟩ W fun W' x hx hb => by
   refine (Named1_any (x : Int) W').mono ?_
   rintro e w' ⟨rfl, rfl⟩
   exact ⟨by rw [runeZ_nat], 0, rfl⟩
 have hi := name_idx s
 have hcs := name_cases s
 generalize Lib.idxFunc (fun x => !runeOk x) true ⟨s.toArray⟩ = z at q hi
 generalize nameOk s = r at hcs ⊢
 replace q := hide q
 go_enter Tryz.func113, Tryz.ntmps113
 go_wp2_with fail
 refine (q.out _).mono ?_
 rintro e W1 ⟨rfl, he⟩
 replace he := hide he
 rcases hcs with ⟨rfl, rfl⟩ | ⟨x, t, hs, hcs⟩
 ·go_wp2
  go_ret
  exact ⟨rfl, he.out⟩
 ·have e0 : ¬ s = [] := by rw [hs]; simp
  have hie := hide (show s.isEmpty = false by rw [hs]; rfl)
  have hix := ba_index0 s x t hs
  have hsz : (ByteArray.mk s.toArray).size = s.length := by simp [ByteArray.size]
  clear hs
  rcases hcs with ⟨h1, rfl⟩ | ⟨h1, h2, rfl⟩ | ⟨h1, h2, h3⟩
  ·clear hi
   have e1 : decide ((s.length : Int) ≤ 16) = false := decide_eq_false (by omega)
   clear h1
   go_wp2
   go_ret
   exact ⟨rfl, he.out⟩
  ·have e2 : decide (z < 0) = false := decide_eq_false (fun h => by rw [hi.1 h] at h2; cases h2)
   clear hi h2
   have e1 : decide ((s.length : Int) ≤ 16) = true := decide_eq_true (by omega)
   clear h1
   go_wp2
   go_ret
   exact ⟨rfl, he.out⟩
  ·have e2 : decide (z < 0) = true := decide_eq_true (hi.2 h2)
   clear hi h2
   have e1 : decide ((s.length : Int) ≤ 16) = true := decide_eq_true (by omega)
   have e3 : decide ((97 : Int) ≤ (x.toNat : Int)) = r := by rw [← h3]; exact decide_eq_decide.2 (by omega)
   clear h3 h1
   go_wp2
   go_ret
   exact ⟨ret_bool (by rw [hie.out]; rfl), he.out⟩
open Go.RowKit Go.Sort
set_option maxHeartbeats 1000000 in
theorem IsNaNU32_any (x : Int) (w : World) : Calls Tryz.prog 173 #[.int .u32 x] w fun e w' => e = .returned (.bool false) ∧ w' = w := by
 go_enter Tryz.func173, Tryz.ntmps173
 go_wp2
 go_ret
 exact ⟨rfl, rfl⟩
set_option maxHeartbeats 1000000 in
theorem CmpU32_any (x y : Int) (w : World) : Calls Tryz.prog 147 #[.int .u32 x, .int .u32 y] w fun e w' => e = .returned (.int .i64 (Lib.compareInt x y)) ∧ w' = w := by
 have q := IsNaNU32_any
 rcases ci_cases x y with ⟨h, hxy⟩ | ⟨h, hxy⟩ | ⟨h, hxy⟩
 ·have e1 : decide (x < y) = true := decide_eq_true hxy
  rw [h]
  clear h hxy
  replace q := hide q
  go_enter Tryz.func147, Tryz.ntmps147
  go_wp2_with (go_at_call 173; refine (q.out _ _).mono ?_; rintro e w' ⟨rfl, rfl⟩)
  go_ret
  exact ⟨rfl, rfl⟩
 ·have e1 : decide (x < y) = false := decide_eq_false (by omega)
  have e2 : decide (y < x) = false := decide_eq_false (by omega)
  rw [h]
  clear h hxy
  replace q := hide q
  go_enter Tryz.func147, Tryz.ntmps147
  go_wp2_with (go_at_call 173; refine (q.out _ _).mono ?_; rintro e w' ⟨rfl, rfl⟩)
  go_ret
  exact ⟨rfl, rfl⟩
 ·have e1 : decide (x < y) = false := decide_eq_false (by omega)
  have e2 : decide (y < x) = true := decide_eq_true hxy
  rw [h]
  clear h hxy
  replace q := hide q
  go_enter Tryz.func147, Tryz.ntmps147
  go_wp2_with (go_at_call 173; refine (q.out _ _).mono ?_; rintro e w' ⟨rfl, rfl⟩)
  go_ret
  exact ⟨rfl, rfl⟩
theorem put_size (s : ByteArray) (n v : Nat) : (put s n v).size = s.size + n := by
 show ((s.data.toList ++ be n v).toArray).size = s.data.size + n
 rw [List.size_toArray, List.length_append, be_length, Array.length_toList]
set_option maxRecDepth 20000 in
set_option maxHeartbeats 1000000 in
theorem CPut_any (a : Option Addr) (c : Nat) (l : List UInt32) (s : ByteArray) (w : World) (hl : l.length ≤ 64) (hs : s.size ≤ 1048576) (hsl : Sl EU32 w (· < w.heap.size) a l) :
  Calls Tryz.prog 149 #[.string s, .slice a l.length c] w fun e w' => (∃ t : ByteArray, e = .returned (.string t) ∧ t.size = s.size + 4 * l.length) ∧ Ext w w' := by
 replace hsl := hide hsl
 go_enter Tryz.func149, Tryz.ntmps149
 go_wp2
 go_loopw [0, 9] (fun u i wr => ∃ (k : Nat) (t : ByteArray), k ≤ l.length ∧ i = .int .i64 k ∧ u = .string t ∧ t.size = s.size + 4 * k ∧ Ext w wr) (fun _ i _ => l.length - (intOf i).toNat)
 case atStart => exact ⟨0, s, Nat.zero_le _, rfl, rfl, by omega, Ext.refl _⟩
 case round =>
  obtain ⟨k, t, hk, rfl, rfl, ht, he⟩ := hrel
  replace he := hide he
  by_cases hlt : k < l.length
  ·obtain ⟨b, off, rfl, _, x0⟩ := EU32.at (hsl.out.ext he.out) k hlt
   have hx := l[k].toNat_lt
   have hw : IntKind.u64.wrap (l[k].toNat : Int) = (l[k].toNat : Int) := by rw [IntKind.wrap_u64]; omega
   have q := fun W => WPut_any t l[k].toNat 4 W (by omega) (by omega) (by omega) (by omega) (by omega)
   rw [← hw] at q
   clear hx hw
   generalize l[k].toNat = v at x0 q
   have hps := put_size t 4 v
   generalize put t 4 v = t2 at q hps
   replace q := hide q
   replace hps := hide hps
   replace ht := hide ht
   go_wp2_with fail
   refine (q.out _).mono ?_
   rintro e W1 ⟨rfl, he1⟩
   replace he1 := hide (he.out.trans he1)
   go_wp2
   go_roundw
   case rel => exact ⟨k + 1, t2, by omega, by go_num, rfl, by have := hps.out; have := ht.out; omega, he1.out⟩
   case measure => simp [intOf]; omega
  ·obtain rfl : k = l.length := by omega
   replace ht := hide ht
   go_wp2
   go_ret
   exact ⟨⟨t, rfl, ht.out⟩, he.out⟩
open Go.RowKit Go.Sort
theorem risU_iff : ∀ l : List UInt32, risU l = true ↔ ∀ i (h : i + 1 < l.length), l[i].toNat < l[i + 1].toNat
  | [] => by
    constructor
    · intro _ i h; simp at h
    · intro _; rfl
  | [x] => by
    constructor
    · intro _ i h; simp at h
    · intro _; rfl
  | x :: y :: r => by
    show (decide (x.toNat < y.toNat) && risU (y :: r)) = true ↔ _
    rw [Bool.and_eq_true, decide_eq_true_eq, risU_iff (y :: r)]
    constructor
    · rintro ⟨h1, h2⟩ i h
      cases i with
      | zero => exact h1
      | succ i => exact h2 i (by simpa using h)
    · intro h
      exact ⟨h 0 (by simp), fun i hi => h (i + 1) (by simpa using hi)⟩
theorem risU_bad {l : List UInt32} {k : Nat} (hk : k + 1 < l.length) (h : ¬ l[k].toNat < l[k + 1].toNat) : commsOk l = false := by
 unfold commsOk
 rw [Bool.and_eq_false_iff]
 refine .inl ?_
 rw [Bool.eq_false_iff]
 intro hr
 exact h ((risU_iff l).1 hr k hk)
set_option maxRecDepth 20000 in
set_option maxHeartbeats 1000000 in
theorem Enc1_any (s : ByteArray) (x : UInt32) (w : World) (hs : s.size ≤ 1048576) :
    Calls Tryz.prog 148 #[.string s, .int .u32 (x.toNat : Int)] w fun e w' => (∃ t : ByteArray, e = .returned (.string t) ∧ t.size = s.size + 4) ∧ Ext w w' := by
  have q := CPut_any (some ⟨w.heap.size, 0, none⟩) 1 [x] s (w.alloc (Obj.cells #[.int .u32 (x.toNat : Int)] 49)) (by simp) hs (by
    refine .inr ⟨w.heap.size, 0, rfl, by simp, fun k y hy => ?_⟩
    match k, hy with
    | 0, hy =>
      cases hy
      refine ⟨[.int .u32 (x.toNat : Int)], ⟨rfl, trivial⟩, fun j u hu => ?_⟩
      match j, hu with
      | 0, hu => cases hu; exact (Blk.new w 49 #[.int .u32 (x.toNat : Int)]).cell 0)
  have hE := (Ext.refl w).alloc (Obj.cells #[.int .u32 (x.toNat : Int)] 49)
  replace q := hide q
  replace hE := hide hE
  go_enter Tryz.func148, Tryz.ntmps148
  go_wp2_with fail
  refine q.out.mono ?_
  rintro e W1 ⟨⟨t, rfl, ht⟩, he⟩
  replace ht := hide ht
  replace he := hide (hE.out.trans he)
  go_wp2
  go_ret
  exact ⟨⟨t, rfl, ht.out⟩, he.out⟩
set_option maxRecDepth 20000 in
set_option maxHeartbeats 2000000 in
theorem Lay_any (a : Option Addr) (c : Nat) (l : List UInt32) (w : World) (hl : l.length ≤ 16777216) (hsl : Sl EU32 w (· < w.heap.size) a l) :
  Calls Tryz.prog 146 #[.slice a l.length c, .func (.func 147) #[] #[], .func (.func 148) #[] #[]] w fun e w' => (∃ t : ByteArray, e = .returned (.tuple #[.string t, .int .i64 (errOf (commsOk l))])) ∧ Ext w w' := by
 replace hsl := hide hsl
 by_cases h64 : 64 < l.length
 ·have hc : errOf (commsOk l) = 2 := by
   have : commsOk l = false := by unfold commsOk; rw [decide_eq_false (by omega), Bool.and_false]
   rw [this]; rfl
  replace hc := hide hc
  go_enter Tryz.func146, Tryz.ntmps146
  go_wp2
  go_ret2
  exact ⟨⟨⟨#[]⟩, by rw [hc.out]; rfl⟩, Ext.refl _⟩
 ·go_enter Tryz.func146, Tryz.ntmps146
  go_wp2
  go_loopw [8, 16] (fun u i wr => ∃ (k : Nat) (t : ByteArray), k ≤ l.length ∧ i = .int .i64 k ∧ u = .string t ∧ t.size = 4 * k ∧ Ext w wr ∧ (∀ i (h : i + 1 < k) (hk : k ≤ l.length), l[i].toNat < l[i + 1].toNat)) (fun _ i _ => l.length - (intOf i).toNat)
  case atStart => exact ⟨0, ⟨#[]⟩, Nat.zero_le _, rfl, rfl, rfl, Ext.refl _, fun i h _ => by omega⟩
  case round =>
   obtain ⟨k, t, hk, rfl, rfl, ht, he, hris⟩ := hrel
   replace he := hide he
   replace hris := hide hris
   by_cases hlt : k < l.length
   ·have hx := EU32.at (hsl.out.ext he.out) k hlt
    have q2 := fun W => Enc1_any t l[k] W (by omega)
    rcases Nat.eq_zero_or_pos k with rfl | hpos
    ·obtain ⟨b, off, rfl, _, x0⟩ := hx
     rw [Nat.add_zero] at x0
     replace q2 := hide q2
     replace ht := hide ht
     go_wp2_with fail
     refine (q2.out _).mono ?_
     rintro e W1 ⟨⟨t2, rfl, ht2⟩, he1⟩
     replace ht2 := hide ht2
     replace he1 := hide (he.out.trans he1)
     go_wp2
     go_roundw
     case rel => exact ⟨1, t2, by omega, by go_num, rfl, by have := ht2.out; have := ht.out; omega, he1.out, fun i h _ => by omega⟩
     case measure => simp [intOf]; omega
    ·have hy := EU32.at (hsl.out.ext he.out) (k - 1) (by omega)
     obtain ⟨b, off, rfl, _, x0⟩ := hx
     obtain ⟨b', off', hbb, _, y0⟩ := hy
     injection hbb with hbb
     injection hbb with hb1 hb2 _
     subst hb1 hb2
     have hsub : ((k - 1 : Nat) : Int) = (k : Int) - 1 := by omega
     have q1 := fun W => CmpU32_any (l[k - 1].toNat : Int) (l[k].toNat : Int) W
     have hci := ci_cases (l[k - 1].toNat : Int) (l[k].toNat : Int)
     have hbad := risU_bad (l := l) (k := k - 1) (by omega)
     have hk1 : k - 1 + 1 = k := by omega
     simp only [hk1] at hbad
     generalize Lib.compareInt (l[k - 1].toNat : Int) (l[k].toNat : Int) = cz at q1 hci
     by_cases hlt2 : l[k - 1].toNat < l[k].toNat
     ·have e1 : decide (0 ≤ cz) = false := decide_eq_false (by omega)
      have hris2 : ∀ i (h : i + 1 < k + 1) (hk : k + 1 ≤ l.length), l[i].toNat < l[i + 1].toNat := fun i h hkl => by
       by_cases hi : i + 1 < k
       ·exact hris.out i hi (by omega)
       ·obtain rfl : i = k - 1 := by omega
        simp only [hk1]
        exact hlt2
      clear hci hbad
      replace q1 := hide q1
      replace q2 := hide q2
      replace ht := hide ht
      replace hris2 := hide hris2
      clear hlt2
      go_wp2_with fail
      refine (q1.out _).mono ?_
      rintro e W0 ⟨rfl, rfl⟩
      go_wp2_with fail
      refine (q2.out _).mono ?_
      rintro e W1 ⟨⟨t2, rfl, ht2⟩, he1⟩
      replace ht2 := hide ht2
      replace he1 := hide (he.out.trans he1)
      go_wp2
      go_roundw
      case rel => exact ⟨k + 1, t2, by omega, by go_num, rfl, by have := ht2.out; have := ht.out; omega, he1.out, hris2.out⟩
      case measure => simp [intOf]; omega
     ·have e1 : decide (0 ≤ cz) = true := decide_eq_true (by omega)
      have hc : errOf (commsOk l) = 2 := by rw [hbad hlt2]; rfl
      clear hci hbad hlt2
      replace q1 := hide q1
      replace q2 := hide q2
      replace ht := hide ht
      replace hc := hide hc
      go_wp2_with fail
      refine (q1.out _).mono ?_
      rintro e W0 ⟨rfl, rfl⟩
      go_wp2
      go_ret2
      exact ⟨⟨⟨#[]⟩, by rw [hc.out]; rfl⟩, he.out⟩
   ·have hc : errOf (commsOk l) = 0 := by
     obtain rfl : k = l.length := by omega
     have : commsOk l = true := by
      unfold commsOk
      rw [Bool.and_eq_true, decide_eq_true_eq, risU_iff]
      exact ⟨fun i h => hris.out i h (Nat.le_refl _), by omega⟩
     rw [this]; rfl
    replace hc := hide hc
    go_wp2
    go_ret2
    exact ⟨⟨t, by rw [hc.out]; rfl⟩, he.out⟩
open Go.RowKit Go.Sort
set_option maxHeartbeats 1000000 in
theorem Encode_any (a : Option Addr) (c : Nat) (l : List UInt32) (w : World) (hl : l.length ≤ 16777216) (hsl : Sl EU32 w (· < w.heap.size) a l) :
  Calls Tryz.prog 117 #[.slice a l.length c] w fun e w' => (∃ t : ByteArray, e = .returned (.tuple #[.string t, .int .i64 (errOf (commsOk l))])) ∧ Ext w w' := by
 have q := Lay_any a c l w hl hsl
 generalize errOf (commsOk l) = r at q ⊢
 replace q := hide q
 go_enter Tryz.func117, Tryz.ntmps117
 go_wp2_with fail
 refine q.out.mono ?_
 rintro e W1 ⟨⟨t, rfl⟩, he⟩
 replace he := hide he
 go_wp2
 go_ret2
 exact ⟨⟨t, rfl⟩, he.out⟩
set_option maxHeartbeats 1000000 in
theorem Check1_any (x : Itm) (hx : x.p.addr.length ≤ 1048576) (w : World) :
  Calls Tryz.prog 115 #[.agg #[.int .i64 x.p.fam, .int .u64 (x.p.rd : Int), .string ⟨x.p.addr.toArray⟩, .int .i64 x.p.len, .int .i64 x.low, .int .i64 x.high]] w fun e w' => e = .returned (.bool (!decide (itmOk x))) ∧ Ext w w' := by
 have q := fun W => Item_any x hx W
 obtain ⟨⟨f, rd, ad, ln⟩, lo, hi⟩ := x
 dsimp only at *
 generalize decide (itmOk ⟨⟨f, rd, ad, ln⟩, lo, hi⟩) = r at q ⊢
 replace q := hide q
 go_enter Tryz.func115, Tryz.ntmps115
 have S := Blk.new w 72 #[.int .i64 f, .int .u64 (rd : Int), .string ⟨ad.toArray⟩, .int .i64 ln, .int .i64 lo, .int .i64 hi]
 have E := (Ext.refl w).alloc (Obj.cells #[.int .i64 f, .int .u64 (rd : Int), .string ⟨ad.toArray⟩, .int .i64 ln, .int .i64 lo, .int .i64 hi] 72)
 generalize hW0 : w.alloc (Obj.cells #[.int .i64 f, .int .u64 (rd : Int), .string ⟨ad.toArray⟩, .int .i64 ln, .int .i64 lo, .int .i64 hi] 72) = W0 at S E
 generalize hg0 : w.heap.size = g0 at S
 replace S := hide S
 replace E := hide E
 have S_0 : W0.cell? ⟨g0, 0, none⟩ = some (.int .i64 f) := S.out.cell 0
 have S_1 : W0.cell? ⟨g0, 1, none⟩ = some (.int .u64 (rd : Int)) := S.out.cell 1
 have S_2 : W0.cell? ⟨g0, 2, none⟩ = some (.string ⟨ad.toArray⟩) := S.out.cell 2
 have S_3 : W0.cell? ⟨g0, 3, none⟩ = some (.int .i64 ln) := S.out.cell 3
 have S_4 : W0.cell? ⟨g0, 4, none⟩ = some (.int .i64 lo) := S.out.cell 4
 have S_5 : W0.cell? ⟨g0, 5, none⟩ = some (.int .i64 hi) := S.out.cell 5
 go_wp2_with fail
 refine (q.out _).mono ?_
 rintro e W1 ⟨rfl, he_⟩
 clear S_0 S_1 S_2 S_3 S_4 S_5
 replace E := hide (E.out.trans he_)
 clear he_
 go_wp2
 go_ret
 exact ⟨rfl, E.out⟩
set_option maxHeartbeats 1000000 in
theorem Check2_any (a : Option Addr) (c : Nat) (l : List Atm) (w : World) (hl : l.length ≤ 16777216) (hs : Sl EAtm w (· < w.heap.size) a l) :
  Calls Tryz.prog 119 #[.slice a l.length c] w fun e w' => e = .returned (.bool (!atmsOk l)) ∧ Ext w w' := by
 have q := Atoms_any a c l w hl hs
 generalize atmsOk l = r at q ⊢
 replace q := hide q
 go_enter Tryz.func119, Tryz.ntmps119
 go_wp2_with fail
 refine q.out.mono ?_
 rintro e W1 ⟨rfl, he⟩
 replace he := hide he
 go_wp2
 go_ret
 exact ⟨rfl, he.out⟩
set_option maxHeartbeats 1000000 in
theorem IdxPat_any (g : Nat) (lb : Array Value) (eg : ∀ args w, (callFunc g args).run Tryz.prog w = .ok (.enter g args) w) (pr : List Atm → Bool) (a : Option Addr) (c : Nat) (l : List (List Atm)) (w : World) (hl : l.length ≤ 16777216) (hs : Sl EAtm.slice w (· < w.heap.size) a l)
  (hq : ∀ x ∈ l, ∀ W b d, Ext w W → x.length ≤ 16777216 → Sl EAtm W (· < W.heap.size) b x → Calls Tryz.prog g (#[.slice b x.length d] ++ lb) W fun e w' => e = .returned (.bool (pr x)) ∧ Ext W w') :
  Calls Tryz.prog 150 #[.slice a l.length c, .func (.func g) #[] lb] w fun e w' => e = .returned (.int .i64 (idxT pr l)) ∧ Ext w w' := by
 replace hs := hide hs
 replace hq := hide hq
 go_enter Tryz.func150, Tryz.ntmps150
 go_wp2
 go_loopw [8] (fun i wr => ∃ k : Nat, k ≤ l.length ∧ i = .int .i64 k ∧ Ext w wr ∧ (l.take k).any pr = false) (fun i _ => l.length - (intOf i).toNat)
 case atStart => exact ⟨0, Nat.zero_le _, rfl, Ext.refl _, rfl⟩
 case round =>
  obtain ⟨k, hk, rfl, he, ha⟩ := hrel
  replace ha := hide ha
  replace he := hide he
  by_cases hlt : k < l.length
  ·obtain ⟨b, off, ak, ck, rfl, _, x0, hm, hsk⟩ := EPat.at (hs.out.ext he.out) k hlt
   have q := hq.out l[k] (List.getElem_mem hlt) wr ak ck he.out hm hsk
   have hyes := fun h => idxT_at (pr := pr) hlt h ha.out
   have hno := fun h => any_take (pr := pr) hlt h ha.out
   clear hsk hm
   generalize pr l[k] = r at q hyes hno
   generalize l[k].length = n at *
   replace q := hide q
   replace hyes := hide hyes
   replace hno := hide hno
   go_wp2_with (go_at_fn g; refine q.out.mono ?_; rintro e W1 ⟨rfl, he1⟩; replace he1 := hide (he.out.trans he1); cases r)
   case roundEnd =>
    go_roundw
    case rel => exact ⟨k + 1, by omega, by go_num, he1.out, hno.out (by trivial)⟩
    case measure => simp [intOf]; omega
   all_goals
    go_ret
    exact ⟨ret_int (hyes.out (by trivial)).symm, he1.out⟩
  ·have hend : idxT pr l = -1 := idxT_none (by
    obtain rfl : k = l.length := by omega
    have := ha.out
    rwa [List.take_length] at this)
   replace hend := hide hend
   go_wp2
   go_ret
   exact ⟨ret_int hend.out.symm, he.out⟩
set_option maxHeartbeats 1000000 in
theorem HasPat_any (g : Nat) (lb : Array Value) (eg : ∀ args w, (callFunc g args).run Tryz.prog w = .ok (.enter g args) w) (pr : List Atm → Bool) (a : Option Addr) (c : Nat) (l : List (List Atm)) (w : World) (hl : l.length ≤ 16777216) (hs : Sl EAtm.slice w (· < w.heap.size) a l)
  (hq : ∀ x ∈ l, ∀ W b d, Ext w W → x.length ≤ 16777216 → Sl EAtm W (· < W.heap.size) b x → Calls Tryz.prog g (#[.slice b x.length d] ++ lb) W fun e w' => e = .returned (.bool (pr x)) ∧ Ext W w') :
  Calls Tryz.prog 118 #[.slice a l.length c, .func (.func g) #[] lb] w fun e w' => e = .returned (.bool (l.any pr)) ∧ Ext w w' := by
 have q := IdxPat_any g lb eg pr a c l w hl hs hq
 have hd := idxT_any pr l
 generalize idxT pr l = r at q hd
 generalize l.any pr = y at hd ⊢
 clear hs hq
 replace q := hide q
 go_enter Tryz.func118, Tryz.ntmps118
 go_wp2_with fail
 refine q.out.mono ?_
 rintro e W1 ⟨rfl, he⟩
 replace he := hide he
 go_wp2
 go_ret
 exact ⟨rfl, he.out⟩
end
end Go.Proofs.YtljibkfbldjgdaaGreatDoor
