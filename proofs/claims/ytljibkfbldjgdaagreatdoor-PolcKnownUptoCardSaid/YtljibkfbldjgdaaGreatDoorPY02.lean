/- Chapter 16, plain: conditions, actions, terms, policies; which may be; how they lie in memory. Chapter 16, plain: a term's text by its words. Chapter 16, plain: a term read of its words. Chapter 16, plain: which sets a policy names; may it be, by sets. What is asked of Go's library: a number as digits. The table of powers of ten is a premise on the world. The library's reading of texts: cut, split, numerals that are read. Walks: how long a family's addresses are; a bit of an address. Walks: an address with its first bits alone. Two prefixes compared; a Go function's call as a step of a region. Helpers of walks: strings put together; contracts as a region of reads and calls takes them. Helpers of walks: rows of texts, sizes of texts, strings.Join. Walks: a number's digits to the base 16, by the library. Walks: numerals to a base: the document's. Walks: an address of four numbers. Numerals -/
import Derived.Lib.SplitLaws
import Derived.Lib.ParseIntB
import Derived.Lib.ParseIntBCases
import Derived.Lib.ItoaNum
import Derived.Lib.Join
import Derived.WalkKit
import Derived.Below
import Derived.Outline
import Derived.LoopTactic
import Derived.Laws.OwnMore
import Derived.Deep.AppendLies
import Derived.Deep.Draws
import Derived.Lib.Hide
import Derived.BigQuiet
import Derived.Deep.QuietTactic
import Derived.WalkSpells
import Derived.WalkLawsBesides
import Derived.Deep.RegionHeld3
import Derived.Deep.DrawnRows
import Derived.Deep.RegionLaw
import Derived.Lib.ConvBytes
import Derived.Lib.Bytealg
import Derived.Lib.Small
import Derived.Test.YtljibkfbldjgdaaGreatDoorRows
import Derived.ProofKit
import Derived.Deep.Slices
import Derived.Shelf.GgClosure.StringsRunes
import Derived.Test.YtljibkfbldjgdaaGreatDoorProg
import Derived.Test.YtljibkfbldjgdaaGreatDoorShelf
import Derived.Test.YtljibkfbldjgdaaGreatDoorShelf2
import Derived.Lib.UnsafeStr
import Derived.Shelf.RegionOpenPlain
import Derived.Laws.StructEq
import Derived.Lib.QuietBelow
import Derived.Test.YtljibkfbldjgdaaGreatDoorPY01
namespace Go.Proofs.YtljibkfbldjgdaaGreatDoor
section
section
open Go.RowKit
set_option linter.unusedVariables false
/-- A condition. -/
structure CondS where
  kind : Int
  neg : Bool
  name : List UInt8
  n : Int
/-- An action. -/
structure ActS where
  kind : Int
  name : List UInt8
  n : UInt32
  addr : List UInt8
structure TermS where
  conds : List CondS
  acts : List ActS
structure PolS where
  name : List UInt8
  terms : List TermS
  els : Bool
def condCs (c : CondS) : List Value := [.int .i64 c.kind, .bool c.neg, .string ⟨c.name.toArray⟩, .int .i64 c.n]
structure CondIn (c : CondS) : Prop where
  kind : i64 c.kind
  name : c.name.length ≤ 1048576
  n : i64 c.n
def actCs (a : ActS) : List Value := [.int .i64 a.kind, .string ⟨a.name.toArray⟩, .int .u32 (a.n.toNat : Int), .string ⟨a.addr.toArray⟩]
structure ActIn (a : ActS) : Prop where
  kind : i64 a.kind
  name : a.name.length ≤ 1048576
  addr : a.addr.length ≤ 1048576
def ECond : Enc CondS := Enc.cells condCs CondIn 4 (fun _ => rfl) (fun x u hu => by simp only [condCs, List.mem_cons, List.not_mem_nil, or_false] at hu; rcases hu with rfl | rfl | rfl | rfl <;> rfl)
def EAct : Enc ActS := Enc.cells actCs ActIn 4 (fun _ => rfl) (fun x u hu => by simp only [actCs, List.mem_cons, List.not_mem_nil, or_false] at hu; rcases hu with rfl | rfl | rfl | rfl <;> rfl)
def ETerm : Enc TermS := (ECond.slice.pair EAct.slice).map fun t => (t.conds, t.acts)
theorem ECond.of {w : World} {S : Nat → Prop} {x : CondS} {cs : List Value} (h : ((EI64.pair (EBool.pair (EByt.pair EI64))).map fun c : CondS => (c.kind, c.neg, c.name, c.n)).R w S x cs) : ECond.R w S x cs := by
 obtain ⟨c, d, rfl, ⟨rfl, h1⟩, c, d, rfl, ⟨rfl, _⟩, c, d, rfl, ⟨rfl, h2⟩, ⟨rfl, h3⟩⟩ := h
 exact ⟨rfl, h1, h2, h3⟩
theorem EAct.of {w : World} {S : Nat → Prop} {x : ActS} {cs : List Value} (h : ((EI64.pair (EByt.pair (EU32.pair EByt))).map fun a : ActS => (a.kind, a.name, a.n, a.addr)).R w S x cs) : EAct.R w S x cs := by
 obtain ⟨c, d, rfl, ⟨rfl, h1⟩, c, d, rfl, ⟨rfl, h2⟩, c, d, rfl, ⟨rfl, _⟩, ⟨rfl, h3⟩⟩ := h
 exact ⟨rfl, h1, h2, h3⟩
theorem ECond.at {w : World} {S : Nat → Prop} {a : Option Addr} {l : List CondS} (h : Sl ECond w S a l) (k : Nat) (hk : k < l.length) :
  ∃ b off, a = some ⟨b, off, none⟩ ∧ S b ∧ CondIn l[k] ∧ ∀ j u, (condCs l[k])[j]? = some u → w.cell? ⟨b, off + k * 4 + j, none⟩ = some u := by
 obtain ⟨b, off, cs, rfl, hb, ⟨rfl, hi⟩, hc⟩ := h.at k hk
 exact ⟨b, off, rfl, hb, hi, hc⟩
theorem EAct.at {w : World} {S : Nat → Prop} {a : Option Addr} {l : List ActS} (h : Sl EAct w S a l) (k : Nat) (hk : k < l.length) :
  ∃ b off, a = some ⟨b, off, none⟩ ∧ S b ∧ ActIn l[k] ∧ ∀ j u, (actCs l[k])[j]? = some u → w.cell? ⟨b, off + k * 4 + j, none⟩ = some u := by
 obtain ⟨b, off, cs, rfl, hb, ⟨rfl, hi⟩, hc⟩ := h.at k hk
 exact ⟨b, off, rfl, hb, hi, hc⟩
theorem ETerm.at {w : World} {S : Nat → Prop} {a : Option Addr} {l : List TermS} (h : Sl ETerm w S a l) (k : Nat) (hk : k < l.length) :
    ∃ b off a1 c1 a2 c2, a = some ⟨b, off, none⟩ ∧ S b ∧ w.cell? ⟨b, off + k * 2, none⟩ = some (.slice a1 l[k].conds.length c1) ∧ w.cell? ⟨b, off + k * 2 + 1, none⟩ = some (.slice a2 l[k].acts.length c2) ∧
      l[k].conds.length ≤ 16777216 ∧ Sl ECond w S a1 l[k].conds ∧ l[k].acts.length ≤ 16777216 ∧ Sl EAct w S a2 l[k].acts := by
  obtain ⟨b, off, cs, rfl, hb, ⟨c, d, rfl, ⟨a1, c1, rfl, n1, s1⟩, ⟨a2, c2, rfl, n2, s2⟩⟩, hc⟩ := h.at k hk
  exact ⟨b, off, a1, c1, a2, c2, rfl, hb, hc 0 _ rfl, hc 1 _ rfl, n1, s1, n2, s2⟩
/-- May a condition be? -/
def condOk (c : CondS) : Bool :=
 if c.kind = 1 ∨ c.kind = 2 ∨ c.kind = 3 ∨ c.kind = 4 then nameOk c.name && decide (c.n = 0)
 else if c.kind = 5 then decide (0 ≤ c.n ∧ c.n ≤ 2) && decide (c.name = [])
 else if c.kind = 6 then decide (0 ≤ c.n ∧ c.n ≤ 65535) && decide (c.name = [])
 else if c.kind = 7 then decide (1 ≤ c.n ∧ c.n ≤ 5) && decide (c.name = [])
 else false
/-- May an action be? -/
def actOk (a : ActS) : Bool :=
 if a.kind = 1 ∨ a.kind = 2 ∨ a.kind = 5 then decide (a.name = []) && (decide (a.n = 0) && decide (a.addr = []))
 else if a.kind = 3 ∨ a.kind = 4 ∨ a.kind = 6 then decide (a.name = []) && decide (a.addr = [])
 else if a.kind = 7 then nameOk a.name && (decide (a.n = 0) && decide (a.addr = []))
 else if a.kind = 8 then decide (1 ≤ a.n.toNat ∧ a.n.toNat ≤ 8) && (decide (a.name = []) && decide (a.addr = []))
 else if a.kind = 9 then decide (a.addr.length = 4 ∨ a.addr.length = 16) && (decide (a.name = []) && decide (a.n = 0))
 else if a.kind = 10 then decide (a.n.toNat ≤ 2) && (decide (a.name = []) && decide (a.addr = []))
 else false
def endsA (a : ActS) : Bool := decide (a.kind = 1) || decide (a.kind = 2)
def termOk (t : TermS) : Bool := decide (t.conds.length ≤ 64) && (decide (1 ≤ t.acts.length ∧ t.acts.length ≤ 64) && (t.conds.all condOk && (t.acts.all actOk && t.acts.dropLast.all (fun a => !endsA a))))
def polOk (p : PolS) : Bool := nameOk p.name && (decide (p.terms.length ≤ 64) && p.terms.all termOk)
/-- Texts. -/
def originT (n : Int) : List UInt8 := if n = 0 then [105, 103, 112] else if n = 1 then [101, 103, 112] else [105, 110, 99, 111, 109, 112, 108, 101, 116, 101]
def condW (c : CondS) : List UInt8 :=
 if c.kind = 1 then [112, 114, 101, 102, 105, 120, 32] ++ c.name
 else if c.kind = 2 then [99, 111, 109, 109, 32] ++ c.name
 else if c.kind = 3 then [112, 97, 116, 104, 32] ++ c.name
 else if c.kind = 4 then [112, 101, 101, 114, 32] ++ c.name
 else if c.kind = 5 then [111, 114, 105, 103, 105, 110, 32] ++ originT c.n
 else if c.kind = 6 then [108, 101, 110, 103, 116, 104, 32] ++ digS 10 c.n.toNat
 else if c.kind = 7 then [102, 97, 109, 32] ++ nameS c.n
 else []
def condT (c : CondS) : List UInt8 := (if c.neg = true then [110, 111, 116, 32] else []) ++ condW c
/-- A community's text. -/
def commT (c : UInt32) : List UInt8 :=
 if c.toNat = 4294967041 then [110, 111, 45, 101, 120, 112, 111, 114, 116]
 else if c.toNat = 4294967042 then [110, 111, 45, 97, 100, 118, 101, 114, 116, 105, 115, 101]
 else if c.toNat = 4294967043 then [110, 111, 45, 101, 120, 112, 111, 114, 116, 45, 115, 117, 98, 99, 111, 110, 102, 101, 100]
 else digS 10 (c.toNat / 65536) ++ (58 :: digS 10 (c.toNat % 65536))
def actT (a : ActS) : List UInt8 :=
 if a.kind = 1 then [97, 99, 99, 101, 112, 116]
 else if a.kind = 2 then [114, 101, 106, 101, 99, 116]
 else if a.kind = 5 then [110, 111, 45, 109, 101, 100]
 else if a.kind = 3 then [112, 114, 101, 102, 32] ++ digS 10 a.n.toNat
 else if a.kind = 4 then [109, 101, 100, 32] ++ digS 10 a.n.toNat
 else if a.kind = 6 then [97, 100, 100, 32] ++ commT a.n
 else if a.kind = 7 then [100, 101, 108, 32] ++ a.name
 else if a.kind = 8 then [112, 114, 101, 112, 101, 110, 100, 32] ++ digS 10 a.n.toNat
 else if a.kind = 9 then [110, 101, 120, 116, 32] ++ (addrT a.addr).1
 else [111, 114, 105, 103, 105, 110, 32] ++ originT a.n.toNat
def termW (t : TermS) : List UInt8 :=
 (if t.conds = [] then [] else [105, 102, 32] ++ (Lib.join (t.conds.map condT) [32, 97, 110, 100, 32] ++ [32])) ++ ([116, 104, 101, 110, 32] ++ Lib.join (t.acts.map actT) [32, 97, 110, 100, 32])
/-- A term's text, and what is wrong. -/
def termT (t : TermS) : List UInt8 × Int := if termOk t = true then (termW t, 0) else ([], 2)
/-- The law's small term. -/
def smallTerm : TermS := ⟨[⟨1, false, [97], 0⟩, ⟨5, true, [], 0⟩], [⟨3, [], 200, []⟩, ⟨1, [], 0, []⟩]⟩
def smallText : List UInt8 := [105, 102, 32, 112, 114, 101, 102, 105, 120, 32, 97, 32, 97, 110, 100, 32, 110, 111, 116, 32, 111, 114, 105, 103, 105, 110, 32, 105, 103, 112, 32, 116, 104, 101, 110, 32, 112, 114, 101, 102, 32, 50, 48, 48, 32, 97, 110, 100, 32, 97, 99, 99, 101, 112, 116]
theorem small_ok : termOk smallTerm = true := by decide +kernel
theorem small_t : termT smallTerm = (smallText, 0) := by decide +kernel
end
section
open Go.RowKit
set_option linter.unusedVariables false
theorem join_app (xs ys : List (List UInt8)) (sep : List UInt8) (hx : xs ≠ []) (hy : ys ≠ []) : Lib.join (xs ++ ys) sep = Lib.join xs sep ++ sep ++ Lib.join ys sep := by
  induction xs with
  | nil => exact absurd rfl hx
  | cons x r ih =>
    cases r with
    | nil =>
      obtain ⟨y, s, rfl⟩ := List.exists_cons_of_ne_nil hy
      rw [List.singleton_append, join_two, Lib.join_one]
    | cons z q =>
      rw [List.cons_append, List.cons_append, join_two, join_two, ← List.cons_append, ih (by simp)]
      simp
/-- Words with 'and' between. -/
def sepW : List (List (List UInt8)) → List (List UInt8)
 | [] => []
 | [x] => x
 | x :: y :: r => x ++ ([97, 110, 100] :: sepW (y :: r))
theorem sepW_ne : ∀ (l : List (List (List UInt8))), l ≠ [] → (∀ x ∈ l, x ≠ []) → sepW l ≠ []
  | [], h, _ => absurd rfl h
  | [x], _, h => h x (by simp)
  | x :: y :: r, _, h => by
    unfold sepW
    simp
theorem join_sep : ∀ (l : List (List (List UInt8))), (∀ x ∈ l, x ≠ []) → Lib.join (l.map fun x => Lib.join x [32]) [32, 97, 110, 100, 32] = Lib.join (sepW l) [32]
  | [], _ => rfl
  | [x], _ => by simp [sepW, Lib.join_one]
  | x :: y :: r, h => by
    have ih := join_sep (y :: r) (fun z hz => h z (by simp [hz]))
    have hn := sepW_ne (y :: r) (by simp) (fun z hz => h z (by simp [hz]))
    have ih' : Lib.join (Lib.join y [32] :: r.map fun x => Lib.join x [32]) [32, 97, 110, 100, 32] = Lib.join (sepW (y :: r)) [32] := ih
    rw [List.map_cons, List.map_cons, join_two, ih']
    show _ = Lib.join (x ++ ([97, 110, 100] :: sepW (y :: r))) [32]
    obtain ⟨w, q, hw⟩ := List.exists_cons_of_ne_nil hn
    rw [join_app _ _ _ (h x (by simp)) (by simp), hw, join_two, ← hw]
    simp
def kindW (k : Int) : List UInt8 :=
 if k = 1 then [112, 114, 101, 102, 105, 120] else if k = 2 then [99, 111, 109, 109] else if k = 3 then [112, 97, 116, 104] else if k = 4 then [112, 101, 101, 114] else if k = 5 then [111, 114, 105, 103, 105, 110] else if k = 6 then [108, 101, 110, 103, 116, 104] else [102, 97, 109]
def condA (c : CondS) : List UInt8 := if c.kind = 5 then originT c.n else if c.kind = 6 then digS 10 c.n.toNat else if c.kind = 7 then nameS c.n else c.name
def condWs (c : CondS) : List (List UInt8) := (if c.neg = true then [[110, 111, 116]] else []) ++ [kindW c.kind, condA c]
theorem condWs_ne (c : CondS) : condWs c ≠ [] := by unfold condWs; simp
theorem condT_ws (c : CondS) (h : condOk c = true) : condT c = Lib.join (condWs c) [32] := by
 have hk : c.kind = 1 ∨ c.kind = 2 ∨ c.kind = 3 ∨ c.kind = 4 ∨ c.kind = 5 ∨ c.kind = 6 ∨ c.kind = 7 := by
  unfold condOk at h
  by_cases h1 : c.kind = 1 ∨ c.kind = 2 ∨ c.kind = 3 ∨ c.kind = 4
  ·omega
  ·rw [if_neg h1] at h
   by_cases h5 : c.kind = 5
   ·omega
   ·rw [if_neg h5] at h
    by_cases h6 : c.kind = 6
    ·omega
    ·rw [if_neg h6] at h
     by_cases h7 : c.kind = 7
     ·omega
     ·rw [if_neg h7] at h; cases h
 unfold condT condWs condW kindW condA
 rcases hk with h | h | h | h | h | h | h <;> rw [h] <;> cases c.neg <;> simp [join_two, Lib.join_one]
def actWs (a : ActS) : List (List UInt8) :=
 if a.kind = 1 then [[97, 99, 99, 101, 112, 116]]
 else if a.kind = 2 then [[114, 101, 106, 101, 99, 116]]
 else if a.kind = 5 then [[110, 111, 45, 109, 101, 100]]
 else if a.kind = 3 then [[112, 114, 101, 102], digS 10 a.n.toNat]
 else if a.kind = 4 then [[109, 101, 100], digS 10 a.n.toNat]
 else if a.kind = 6 then [[97, 100, 100], commT a.n]
 else if a.kind = 7 then [[100, 101, 108], a.name]
 else if a.kind = 8 then [[112, 114, 101, 112, 101, 110, 100], digS 10 a.n.toNat]
 else if a.kind = 9 then [[110, 101, 120, 116], (addrT a.addr).1]
 else [[111, 114, 105, 103, 105, 110], originT a.n.toNat]
theorem actWs_ne (a : ActS) : actWs a ≠ [] := by
 unfold actWs
 repeat (split; exact List.cons_ne_nil _ _)
 exact List.cons_ne_nil _ _
theorem actT_ws (a : ActS) : actT a = Lib.join (actWs a) [32] := by
 unfold actT actWs
 repeat (split; simp [join_two, Lib.join_one])
 simp [join_two, Lib.join_one]
def termWs (t : TermS) : List (List UInt8) := (if t.conds = [] then [] else [105, 102] :: sepW (t.conds.map condWs)) ++ ([116, 104, 101, 110] :: sepW (t.acts.map actWs))
theorem termW_ws (t : TermS) (h : termOk t = true) : termW t = Lib.join (termWs t) [32] := by
 unfold termOk at h
 simp only [Bool.and_eq_true, decide_eq_true_eq] at h
 obtain ⟨_, ⟨h1, _⟩, hc, _, _⟩ := h
 have hcs : t.conds.map condT = (t.conds.map condWs).map fun x => Lib.join x [32] := by
  rw [List.map_map]
  exact List.map_congr_left fun c hm => condT_ws c (List.all_eq_true.1 hc c hm)
 have has : t.acts.map actT = (t.acts.map actWs).map fun x => Lib.join x [32] := by
  rw [List.map_map]
  exact List.map_congr_left fun a _ => actT_ws a
 have ha : sepW (t.acts.map actWs) ≠ [] := sepW_ne _ (by intro e; rw [List.map_eq_nil_iff] at e; rw [e] at h1; simp at h1) (fun x hx => by obtain ⟨a, _, rfl⟩ := List.mem_map.1 hx; exact actWs_ne a)
 have hthen : [116, 104, 101, 110, 32] ++ Lib.join (t.acts.map actT) [32, 97, 110, 100, 32] = Lib.join ([116, 104, 101, 110] :: sepW (t.acts.map actWs)) [32] := by
  rw [has, join_sep _ (fun x hx => by obtain ⟨a, _, rfl⟩ := List.mem_map.1 hx; exact actWs_ne a)]
  obtain ⟨w, q, hw⟩ := List.exists_cons_of_ne_nil ha
  rw [hw, join_two]
  simp
 unfold termW termWs
 rw [hthen]
 by_cases hn : t.conds = []
 ·rw [if_pos hn, if_pos hn, List.nil_append, List.nil_append]
 ·rw [if_neg hn, if_neg hn, hcs, join_sep _ (fun x hx => by obtain ⟨c, _, rfl⟩ := List.mem_map.1 hx; exact condWs_ne c)]
  have hs : sepW (t.conds.map condWs) ≠ [] := sepW_ne _ (by intro e; rw [List.map_eq_nil_iff] at e; exact hn e) (fun x hx => by obtain ⟨c, _, rfl⟩ := List.mem_map.1 hx; exact condWs_ne c)
  obtain ⟨w, q, hw⟩ := List.exists_cons_of_ne_nil hs
  rw [join_app _ _ _ (by simp) (by simp), hw, join_two, ← hw]
  simp
theorem name_no {s : List UInt8} (h : nameOk s = true) : (32 : UInt8) ∉ s := fun hm => by
 unfold nameOk at h
 simp only [Bool.and_eq_true] at h
 have := List.all_eq_true.1 h.2.2.2 32 hm
 revert this
 decide
theorem dig_no (n : Nat) : (32 : UInt8) ∉ digS 10 n := digS_no (by decide) (by decide) n 32 (by decide)
theorem origin_no (n : Int) : (32 : UInt8) ∉ originT n := by
 unfold originT
 split
 ·decide
 ·split <;> decide
theorem comm_no (c : UInt32) : (32 : UInt8) ∉ commT c := by
 unfold commT
 split
 ·decide
 ·split
  ·decide
  ·split
   ·decide
   ·intro h
    rcases List.mem_append.1 h with h | h
    ·exact dig_no _ h
    ·rcases List.mem_cons.1 h with h | h
     ·revert h; decide
     ·exact dig_no _ h
theorem fam_no (n : Int) : (32 : UInt8) ∉ nameS n := by
 unfold nameS
 repeat (split; decide)
 decide
theorem kind_no (k : Int) : (32 : UInt8) ∉ kindW k := by
 unfold kindW
 repeat (split; decide)
 decide
theorem condWs_no {c : CondS} (h : condOk c = true) : ∀ w ∈ condWs c, (32 : UInt8) ∉ w := by
  intro w hw
  unfold condWs at hw
  rcases List.mem_append.1 hw with hw | hw
  · cases hn : c.neg with
    | false => rw [hn] at hw; simp at hw
    | true =>
      rw [hn] at hw
      simp at hw
      subst hw
      decide
  · rcases List.mem_cons.1 hw with rfl | hw
    · exact kind_no _
    · rw [List.mem_singleton] at hw
      subst hw
      unfold condA
      by_cases h5 : c.kind = 5
      · rw [if_pos h5]; exact origin_no _
      · rw [if_neg h5]
        by_cases h6 : c.kind = 6
        · rw [if_pos h6]; exact dig_no _
        · rw [if_neg h6]
          by_cases h7 : c.kind = 7
          · rw [if_pos h7]; exact fam_no _
          · rw [if_neg h7]
            unfold condOk at h
            by_cases h1 : c.kind = 1 ∨ c.kind = 2 ∨ c.kind = 3 ∨ c.kind = 4
            · rw [if_pos h1, Bool.and_eq_true] at h
              exact name_no h.1
            · rw [if_neg h1, if_neg h5, if_neg h6, if_neg h7] at h
              cases h
theorem actWs_no {a : ActS} (h : actOk a = true) : ∀ w ∈ actWs a, (32 : UInt8) ∉ w := by
 intro w hw
 unfold actWs at hw
 have two : ∀ {u v : List UInt8}, (32 : UInt8) ∉ u → (32 : UInt8) ∉ v → w ∈ [u, v] → (32 : UInt8) ∉ w := fun hu hv hm => by
  rcases List.mem_cons.1 hm with rfl | hm
  ·exact hu
  ·rw [List.mem_singleton] at hm
   subst hm
   exact hv
 by_cases h1 : a.kind = 1
 ·rw [if_pos h1, List.mem_singleton] at hw; subst hw; decide
 rw [if_neg h1] at hw
 by_cases h2 : a.kind = 2
 ·rw [if_pos h2, List.mem_singleton] at hw; subst hw; decide
 rw [if_neg h2] at hw
 by_cases h5 : a.kind = 5
 ·rw [if_pos h5, List.mem_singleton] at hw; subst hw; decide
 rw [if_neg h5] at hw
 by_cases h3 : a.kind = 3
 ·rw [if_pos h3] at hw; exact two (by decide) (dig_no _) hw
 rw [if_neg h3] at hw
 by_cases h4 : a.kind = 4
 ·rw [if_pos h4] at hw; exact two (by decide) (dig_no _) hw
 rw [if_neg h4] at hw
 by_cases h6 : a.kind = 6
 ·rw [if_pos h6] at hw; exact two (by decide) (comm_no _) hw
 rw [if_neg h6] at hw
 by_cases h7 : a.kind = 7
 ·rw [if_pos h7] at hw
  unfold actOk at h
  rw [if_neg (by omega), if_neg (by omega), if_pos h7, Bool.and_eq_true] at h
  exact two (by decide) (name_no h.1) hw
 rw [if_neg h7] at hw
 by_cases h8 : a.kind = 8
 ·rw [if_pos h8] at hw; exact two (by decide) (dig_no _) hw
 rw [if_neg h8] at hw
 by_cases h9 : a.kind = 9
 ·rw [if_pos h9] at hw; exact two (by decide) (addrT_no 32 (by decide)) hw
 rw [if_neg h9] at hw
 exact two (by decide) (origin_no _) hw
theorem sepW_mem : ∀ (l : List (List (List UInt8))) (w : List UInt8), w ∈ sepW l → w = [97, 110, 100] ∨ ∃ x ∈ l, w ∈ x
  | [], w, h => by cases h
  | [x], w, h => .inr ⟨x, by simp, h⟩
  | x :: y :: r, w, h => by
    have h : w ∈ x ++ ([97, 110, 100] :: sepW (y :: r)) := h
    rcases List.mem_append.1 h with h | h
    · exact .inr ⟨x, by simp, h⟩
    · rcases List.mem_cons.1 h with h | h
      · exact .inl h
      · rcases sepW_mem (y :: r) w h with h | ⟨z, hz, h⟩
        · exact .inl h
        · exact .inr ⟨z, by simp [hz], h⟩
theorem termWs_no {t : TermS} (h : termOk t = true) : ∀ w ∈ termWs t, (32 : UInt8) ∉ w := by
 unfold termOk at h
 simp only [Bool.and_eq_true] at h
 obtain ⟨_, _, hc, ha, _⟩ := h
 intro w hw
 unfold termWs at hw
 rcases List.mem_append.1 hw with hw | hw
 ·by_cases hn : t.conds = []
  ·rw [if_pos hn] at hw; cases hw
  ·rw [if_neg hn] at hw
   rcases List.mem_cons.1 hw with rfl | hw
   ·decide
   ·rcases sepW_mem _ _ hw with rfl | ⟨x, hx, hw⟩
    ·decide
    ·obtain ⟨c, hm, rfl⟩ := List.mem_map.1 hx
     exact condWs_no (List.all_eq_true.1 hc c hm) w hw
 ·rcases List.mem_cons.1 hw with rfl | hw
  ·decide
  ·rcases sepW_mem _ _ hw with rfl | ⟨x, hx, hw⟩
   ·decide
   ·obtain ⟨a, hm, rfl⟩ := List.mem_map.1 hx
    exact actWs_no (List.all_eq_true.1 ha a hm) w hw
/-- A term's text, cut at its spaces. -/
theorem spl_term {t : TermS} (h : termOk t = true) : spl 32 (termW t) = termWs t := by
 rw [termW_ws t h]
 have hn : termWs t ≠ [] := by unfold termWs; simp
 have hw := termWs_no h
 obtain ⟨x, r, hx⟩ := List.exists_cons_of_ne_nil hn
 rw [hx] at hw ⊢
 exact join_spl 32 x r hw
end
section
open Go.RowKit
set_option linter.unusedVariables false
/-- The number of a text of digits, below m. -/
noncomputable def numO (s : List UInt8) (m : Nat) : Option Nat := open Classical in if h : ∃ n, n < m ∧ digS 10 n = s then some h.choose else none
theorem numO_dig {n m : Nat} (h : n < m) : numO (digS 10 n) m = some n := by
 unfold numO
 have he : ∃ k, k < m ∧ digS 10 k = digS 10 n := ⟨n, h, rfl⟩
 rw [dif_pos he]
 exact congrArg some (digS_inj (by decide) (by decide) he.choose_spec.2)
theorem numO_some {s : List UInt8} {n m : Nat} (h : numO s m = some n) : n < m ∧ digS 10 n = s := by
 unfold numO at h
 split at h
 ·rename_i he
  injection h with h
  subst h
  exact he.choose_spec
 ·cases h
def originN (s : List UInt8) : Option Int := if s = originT 0 then some 0 else if s = originT 1 then some 1 else if s = originT 2 then some 2 else none
theorem originN_t {n : Int} (h0 : 0 ≤ n) (h2 : n ≤ 2) : originN (originT n) = some n := by
 rcases (show n = 0 ∨ n = 1 ∨ n = 2 by omega) with rfl | rfl | rfl <;> decide
/-- What stands behind 'not'. -/
noncomputable def readV (neg : Bool) : List (List UInt8) → Option (CondS × List (List UInt8))
  | k :: x :: r =>
    if k = [112, 114, 101, 102, 105, 120] then some (⟨1, neg, x, 0⟩, r)
    else if k = [99, 111, 109, 109] then some (⟨2, neg, x, 0⟩, r)
    else if k = [112, 97, 116, 104] then some (⟨3, neg, x, 0⟩, r)
    else if k = [112, 101, 101, 114] then some (⟨4, neg, x, 0⟩, r)
    else if k = [111, 114, 105, 103, 105, 110] then (originN x).map fun n => (⟨5, neg, [], n⟩, r)
    else if k = [108, 101, 110, 103, 116, 104] then (numO x 4294967296).map fun n => (⟨6, neg, [], (n : Int)⟩, r)
    else if k = [102, 97, 109] then (if famN x = 0 then none else some (⟨7, neg, [], famN x⟩, r))
    else none
  | _ => none
noncomputable def readC : List (List UInt8) → Option (CondS × List (List UInt8))
 | w :: r => if w = [110, 111, 116] then readV true r else readV false (w :: r)
 | [] => none
theorem readV_ws (c : CondS) (h : condOk c = true) (r : List (List UInt8)) : readV c.neg (kindW c.kind :: condA c :: r) = some (c, r) := by
 obtain ⟨k, neg, name, n⟩ := c
 unfold condOk at h
 dsimp only at h ⊢
 by_cases h1 : k = 1 ∨ k = 2 ∨ k = 3 ∨ k = 4
 ·rw [if_pos h1, Bool.and_eq_true, decide_eq_true_eq] at h
  obtain ⟨_, rfl⟩ := h
  rcases h1 with rfl | rfl | rfl | rfl <;> simp [readV, kindW, condA]
 rw [if_neg h1] at h
 by_cases h5 : k = 5
 ·rw [if_pos h5, Bool.and_eq_true, decide_eq_true_eq, decide_eq_true_eq] at h
  obtain ⟨⟨h2, h3⟩, rfl⟩ := h
  subst h5
  have := originN_t h2 h3
  simp [readV, kindW, condA, this]
 rw [if_neg h5] at h
 by_cases h6 : k = 6
 ·rw [if_pos h6, Bool.and_eq_true, decide_eq_true_eq, decide_eq_true_eq] at h
  obtain ⟨⟨h2, h3⟩, rfl⟩ := h
  subst h6
  have := numO_dig (n := n.toNat) (m := 4294967296) (by omega)
  simp only [readV, kindW, condA]
  simp [this]
  omega
 rw [if_neg h6] at h
 by_cases h7 : k = 7
 ·rw [if_pos h7, Bool.and_eq_true, decide_eq_true_eq, decide_eq_true_eq] at h
  obtain ⟨⟨h2, h3⟩, rfl⟩ := h
  subst h7
  have hf := famN_name h2 h3
  have hz : ¬ n = 0 := by omega
  simp [readV, kindW, condA, hf, hz]
 rw [if_neg h7] at h
 cases h
theorem readC_not (q : List (List UInt8)) : readC ([110, 111, 116] :: q) = readV true q := by simp [readC]
theorem readC_ws (c : CondS) (h : condOk c = true) (r : List (List UInt8)) : readC (condWs c ++ r) = some (c, r) := by
  have hv := readV_ws c h r
  unfold condWs
  cases hn : c.neg with
  | true =>
    rw [hn] at hv
    rw [if_pos rfl]
    show readC ([110, 111, 116] :: kindW c.kind :: condA c :: r) = _
    rw [readC_not]
    exact hv
  | false =>
    rw [hn] at hv
    rw [if_neg (by decide)]
    show readC (kindW c.kind :: condA c :: r) = _
    show (if kindW c.kind = [110, 111, 116] then _ else readV false (kindW c.kind :: condA c :: r)) = _
    rw [if_neg ?_]
    · exact hv
    · unfold kindW
      repeat (split; decide)
      decide
theorem app_cons_inj {c : UInt8} : ∀ {a b x y : List UInt8}, c ∉ a → c ∉ b → a ++ c :: x = b ++ c :: y → a = b ∧ x = y
  | [], [], x, y, _, _, h => by injection h with _ h; exact ⟨rfl, h⟩
  | [], d :: b, x, y, _, hb, h => by injection h with h _; exact absurd (by rw [h]; simp) hb
  | d :: a, [], x, y, ha, _, h => by injection h with h _; exact absurd (by rw [h]; simp) ha
  | d :: a, e :: b, x, y, ha, hb, h => by
    injection h with h1 h2
    obtain ⟨h3, h4⟩ := app_cons_inj (fun hm => ha (by simp [hm])) (fun hm => hb (by simp [hm])) h2
    exact ⟨by rw [h1, h3], h4⟩
theorem comm_num_no (c : UInt32) : (110 : UInt8) ∉ digS 10 (c.toNat / 65536) ++ (58 :: digS 10 (c.toNat % 65536)) := by
 have hd : ∀ n, (110 : UInt8) ∉ digS 10 n := fun n => digS_no (by decide) (by decide) n 110 (by decide)
 intro h
 rcases List.mem_append.1 h with h | h
 ·exact hd _ h
 ·rcases List.mem_cons.1 h with h | h
  ·revert h; decide
  ·exact hd _ h
theorem comm_cases (c : UInt32) : (c.toNat = 4294967041 ∧ commT c = [110, 111, 45, 101, 120, 112, 111, 114, 116]) ∨ (c.toNat = 4294967042 ∧ commT c = [110, 111, 45, 97, 100, 118, 101, 114, 116, 105, 115, 101]) ∨ (c.toNat = 4294967043 ∧ commT c = [110, 111, 45, 101, 120, 112, 111, 114, 116, 45, 115, 117, 98, 99, 111, 110, 102, 101, 100]) ∨ commT c = digS 10 (c.toNat / 65536) ++ (58 :: digS 10 (c.toNat % 65536)) := by
 unfold commT
 by_cases h1 : c.toNat = 4294967041
 ·exact .inl ⟨h1, if_pos h1⟩
 ·rw [if_neg h1]
  by_cases h2 : c.toNat = 4294967042
  ·exact .inr (.inl ⟨h2, if_pos h2⟩)
  ·rw [if_neg h2]
   by_cases h3 : c.toNat = 4294967043
   ·exact .inr (.inr (.inl ⟨h3, if_pos h3⟩))
   ·exact .inr (.inr (.inr (if_neg h3)))
theorem comm_inj {c d : UInt32} (h : commT c = commT d) : c = d := by
 have key : c.toNat = d.toNat := by
  have h58 : ∀ n, (58 : UInt8) ∉ digS 10 n := fun n => digS_no (by decide) (by decide) n 58 (by decide)
  have nc := comm_num_no c
  have nd := comm_num_no d
  rcases comm_cases c with ⟨e1, e2⟩ | ⟨e1, e2⟩ | ⟨e1, e2⟩ | e2 <;> rcases comm_cases d with ⟨f1, f2⟩ | ⟨f1, f2⟩ | ⟨f1, f2⟩ | f2 <;> rw [e2, f2] at h
  ·rw [e1, f1]
  ·cases h
  ·cases h
  ·rw [← h] at nd; exact absurd (by decide) nd
  ·cases h
  ·rw [e1, f1]
  ·cases h
  ·rw [← h] at nd; exact absurd (by decide) nd
  ·cases h
  ·cases h
  ·rw [e1, f1]
  ·rw [← h] at nd; exact absurd (by decide) nd
  ·rw [h] at nc; exact absurd (by decide) nc
  ·rw [h] at nc; exact absurd (by decide) nc
  ·rw [h] at nc; exact absurd (by decide) nc
  ·obtain ⟨h1, h2⟩ := app_cons_inj (h58 _) (h58 _) h
   have h3 := digS_inj (by decide) (by decide) h1
   have h4 := digS_inj (by decide) (by decide) h2
   omega
 exact UInt32.toNat_inj.1 key
noncomputable def commO (s : List UInt8) : Option UInt32 := open Classical in if h : ∃ c, commT c = s then some h.choose else none
theorem commO_t (c : UInt32) : commO (commT c) = some c := by
 unfold commO
 have he : ∃ d, commT d = commT c := ⟨c, rfl⟩
 rw [dif_pos he]
 exact congrArg some (comm_inj he.choose_spec)
/-- An action's value, by its kind. -/
noncomputable def readX (k : Int) (x : List UInt8) : Option ActS :=
 if k = 3 ∨ k = 4 ∨ k = 8 then (numO x 4294967296).map fun n => ⟨k, [], UInt32.ofNat n, []⟩
 else if k = 6 then (commO x).map fun n => ⟨6, [], n, []⟩
 else if k = 7 then some ⟨7, x, 0, []⟩
 else if k = 9 then (if (addrC x).2 = 0 then some ⟨9, [], 0, (addrC x).1⟩ else none)
 else (originN x).map fun n => ⟨10, [], UInt32.ofNat n.toNat, []⟩
def actK (w : List UInt8) : Int :=
 if w = [97, 99, 99, 101, 112, 116] then 1 else if w = [114, 101, 106, 101, 99, 116] then 2 else if w = [112, 114, 101, 102] then 3 else if w = [109, 101, 100] then 4 else if w = [110, 111, 45, 109, 101, 100] then 5
 else if w = [97, 100, 100] then 6 else if w = [100, 101, 108] then 7 else if w = [112, 114, 101, 112, 101, 110, 100] then 8 else if w = [110, 101, 120, 116] then 9 else if w = [111, 114, 105, 103, 105, 110] then 10 else 0
noncomputable def readA : List (List UInt8) → Option (ActS × List (List UInt8))
  | [] => none
  | w :: r =>
    if actK w = 0 then none
    else if actK w = 1 ∨ actK w = 2 ∨ actK w = 5 then some (⟨actK w, [], 0, []⟩, r)
    else match r with
      | [] => none
      | x :: q => (readX (actK w) x).map fun a => (a, q)
theorem readA_one (w : List UInt8) (r : List (List UInt8)) (h : actK w = 1 ∨ actK w = 2 ∨ actK w = 5) : readA (w :: r) = some (⟨actK w, [], 0, []⟩, r) := by
 simp only [readA]
 rw [if_neg (by omega), if_pos h]
theorem readA_two (w x : List UInt8) (r : List (List UInt8)) (h0 : actK w ≠ 0) (h : ¬ (actK w = 1 ∨ actK w = 2 ∨ actK w = 5)) : readA (w :: x :: r) = (readX (actK w) x).map fun a => (a, r) := by
 simp only [readA]
 rw [if_neg h0, if_neg h]
theorem readA_ws (a : ActS) (h : actOk a = true) (r : List (List UInt8)) : readA (actWs a ++ r) = some (a, r) := by
 obtain ⟨k, name, n, addr⟩ := a
 unfold actOk at h
 dsimp only at h
 have hn32 : n.toNat < 4294967296 := n.toNat_lt
 by_cases h1 : k = 1 ∨ k = 2 ∨ k = 5
 ·rw [if_pos h1, Bool.and_eq_true, Bool.and_eq_true, decide_eq_true_eq, decide_eq_true_eq, decide_eq_true_eq] at h
  obtain ⟨rfl, rfl, rfl⟩ := h
  rcases h1 with rfl | rfl | rfl
  ·exact readA_one [97, 99, 99, 101, 112, 116] r (by decide)
  ·exact readA_one [114, 101, 106, 101, 99, 116] r (by decide)
  ·exact readA_one [110, 111, 45, 109, 101, 100] r (by decide)
 rw [if_neg h1] at h
 by_cases h3 : k = 3 ∨ k = 4 ∨ k = 6
 ·rw [if_pos h3, Bool.and_eq_true, decide_eq_true_eq, decide_eq_true_eq] at h
  obtain ⟨rfl, rfl⟩ := h
  rcases h3 with rfl | rfl | rfl
  ·refine (readA_two [112, 114, 101, 102] (digS 10 n.toNat) r (by decide) (by decide)).trans ?_
   rw [show actK [112, 114, 101, 102] = 3 by decide]
   unfold readX
   rw [if_pos (by decide), numO_dig hn32]
   simp
  ·refine (readA_two [109, 101, 100] (digS 10 n.toNat) r (by decide) (by decide)).trans ?_
   rw [show actK [109, 101, 100] = 4 by decide]
   unfold readX
   rw [if_pos (by decide), numO_dig hn32]
   simp
  ·refine (readA_two [97, 100, 100] (commT n) r (by decide) (by decide)).trans ?_
   rw [show actK [97, 100, 100] = 6 by decide]
   unfold readX
   rw [if_neg (by decide), if_pos rfl, commO_t]
   simp
 rw [if_neg h3] at h
 by_cases h7 : k = 7
 ·rw [if_pos h7, Bool.and_eq_true, Bool.and_eq_true, decide_eq_true_eq, decide_eq_true_eq] at h
  obtain ⟨_, rfl, rfl⟩ := h
  subst h7
  refine (readA_two [100, 101, 108] name r (by decide) (by decide)).trans ?_
  rw [show actK [100, 101, 108] = 7 by decide]
  unfold readX
  rw [if_neg (by decide), if_neg (by decide), if_pos rfl]
  simp
 rw [if_neg h7] at h
 by_cases h8 : k = 8
 ·rw [if_pos h8, Bool.and_eq_true, Bool.and_eq_true, decide_eq_true_eq, decide_eq_true_eq, decide_eq_true_eq] at h
  obtain ⟨_, rfl, rfl⟩ := h
  subst h8
  refine (readA_two [112, 114, 101, 112, 101, 110, 100] (digS 10 n.toNat) r (by decide) (by decide)).trans ?_
  rw [show actK [112, 114, 101, 112, 101, 110, 100] = 8 by decide]
  unfold readX
  rw [if_pos (by decide), numO_dig hn32]
  simp
 rw [if_neg h8] at h
 by_cases h9 : k = 9
 ·rw [if_pos h9, Bool.and_eq_true, Bool.and_eq_true, decide_eq_true_eq, decide_eq_true_eq, decide_eq_true_eq] at h
  obtain ⟨ha, rfl, rfl⟩ := h
  subst h9
  have hta := text_addr ha
  refine (readA_two [110, 101, 120, 116] (addrT addr).1 r (by decide) (by decide)).trans ?_
  rw [show actK [110, 101, 120, 116] = 9 by decide]
  unfold readX
  rw [if_neg (by decide), if_neg (by decide), if_neg (by decide), if_pos rfl, hta]
  simp
 rw [if_neg h9] at h
 by_cases h10 : k = 10
 ·rw [if_pos h10, Bool.and_eq_true, Bool.and_eq_true, decide_eq_true_eq, decide_eq_true_eq, decide_eq_true_eq] at h
  obtain ⟨ha, rfl, rfl⟩ := h
  subst h10
  have := originN_t (n := (n.toNat : Int)) (by omega) (by omega)
  refine (readA_two [111, 114, 105, 103, 105, 110] (originT n.toNat) r (by decide) (by decide)).trans ?_
  rw [show actK [111, 114, 105, 103, 105, 110] = 10 by decide]
  unfold readX
  rw [if_neg (by decide), if_neg (by decide), if_neg (by decide), if_neg (by decide), this]
  simp
 rw [if_neg h10] at h
 cases h
/-- Conditions, up to 'then'. -/
noncomputable def readCs : Nat → List UInt8 → List (List UInt8) → Option (List CondS × List (List UInt8))
  | 0, _, _ => none
  | n + 1, w, r =>
    if w = [116, 104, 101, 110] then some ([], r)
    else if w = [105, 102] ∨ w = [97, 110, 100] then
      (match readC r with
        | some (c, v :: q) => (readCs n v q).map fun p => (c :: p.1, p.2)
        | _ => none)
    else none
/-- Actions, to the end. -/
noncomputable def readAs : Nat → List (List UInt8) → Option (List ActS)
  | 0, _ => none
  | n + 1, r =>
    match readA r with
    | none => none
    | some (a, []) => some [a]
    | some (a, w :: q) => if w = [97, 110, 100] then (readAs n q).map fun l => a :: l else none
noncomputable def readT : List (List UInt8) → Option TermS
  | [] => none
  | w :: r =>
    if w = [105, 102] then (readCs (r.length + 1) w r).bind fun p => (readAs (r.length + 1) p.2).map fun l => ⟨p.1, l⟩
    else if w = [116, 104, 101, 110] then (readAs (r.length + 1) r).map fun l => ⟨[], l⟩
    else none
theorem readAs_ws : ∀ (l : List ActS) (n : Nat), l ≠ [] → l.length ≤ n → (∀ a ∈ l, actOk a = true) → readAs n (sepW (l.map actWs)) = some l
  | [], _, h, _, _ => absurd rfl h
  | _ :: _, 0, _, h, _ => absurd h (by simp)
  | [a], n + 1, _, _, h => by
    have ha := readA_ws a (h a (by simp)) []
    rw [List.append_nil] at ha
    show readAs (n + 1) (actWs a) = _
    simp only [readAs, ha]
  | a :: b :: r, n + 1, _, hn, h => by
    have ha := readA_ws a (h a (by simp)) ([97, 110, 100] :: sepW ((b :: r).map actWs))
    have ih := readAs_ws (b :: r) n (by simp) (by simp at hn ⊢; omega) (fun z hz => h z (by simp [hz]))
    show readAs (n + 1) (actWs a ++ ([97, 110, 100] :: sepW ((b :: r).map actWs))) = _
    simp only [readAs, ha, ih, if_true]
    rfl
theorem readCs_ws : ∀ (l : List CondS) (n : Nat) (w : List UInt8) (R : List (List UInt8)), l ≠ [] → l.length < n → (w = [105, 102] ∨ w = [97, 110, 100]) → (∀ c ∈ l, condOk c = true) → readCs n w (sepW (l.map condWs) ++ ([116, 104, 101, 110] :: R)) = some (l, R)
  | [], _, _, _, h, _, _, _ => absurd rfl h
  | _ :: _, 0, _, _, _, h, _, _ => absurd h (by simp)
  | _ :: _, 1, _, _, _, h, _, _ => absurd h (by simp)
  | [c], n + 2, w, R, _, _, hw, h => by
    have hc := readC_ws c (h c (by simp)) ([116, 104, 101, 110] :: R)
    have hne : ¬ w = [116, 104, 101, 110] := by rcases hw with rfl | rfl <;> decide
    show readCs (n + 2) w (condWs c ++ ([116, 104, 101, 110] :: R)) = _
    simp only [readCs, hc, if_neg hne, if_pos hw]
    simp
  | c :: d :: r, n + 2, w, R, _, hn, hw, h => by
    have hc := readC_ws c (h c (by simp)) ([97, 110, 100] :: (sepW ((d :: r).map condWs) ++ ([116, 104, 101, 110] :: R)))
    have ih := readCs_ws (d :: r) (n + 1) [97, 110, 100] R (by simp) (by simp at hn ⊢; omega) (.inr rfl) (fun z hz => h z (by simp [hz]))
    have hne : ¬ w = [116, 104, 101, 110] := by rcases hw with rfl | rfl <;> decide
    show readCs (n + 1 + 1) w ((condWs c ++ ([97, 110, 100] :: sepW ((d :: r).map condWs))) ++ ([116, 104, 101, 110] :: R)) = _
    rw [List.append_assoc, List.cons_append]
    rw [readCs, if_neg hne, if_pos hw, hc]
    show Option.map _ (readCs (n + 1) [97, 110, 100] _) = _
    rw [ih]
    rfl
theorem sepW_len : ∀ (l : List (List (List UInt8))), (∀ x ∈ l, x ≠ []) → l.length ≤ (sepW l).length
  | [], _ => Nat.le_refl _
  | [x], h => by
    have := List.length_pos_iff.2 (h x (by simp))
    show 1 ≤ x.length
    omega
  | x :: y :: r, h => by
    have := sepW_len (y :: r) (fun z hz => h z (by simp [hz]))
    have h1 : (sepW (x :: y :: r)).length = x.length + (1 + (sepW (y :: r)).length) := by
      show (x ++ ([97, 110, 100] :: sepW (y :: r))).length = _
      rw [List.length_append, List.length_cons]
      omega
    rw [h1]
    simp at this ⊢
    omega
/-- A term is read of its words. -/
theorem readT_ws (t : TermS) (h : termOk t = true) : readT (termWs t) = some t := by
 unfold termOk at h
 simp only [Bool.and_eq_true, decide_eq_true_eq] at h
 obtain ⟨_, ⟨h1, _⟩, hc, ha, _⟩ := h
 obtain ⟨cs, al⟩ := t
 dsimp only at h1 hc ha
 have hne : al ≠ [] := by rintro rfl; simp at h1
 have hla := sepW_len (al.map actWs) (fun x hx => by obtain ⟨a, _, rfl⟩ := List.mem_map.1 hx; exact actWs_ne a)
 rw [List.length_map] at hla
 have hra := fun n hn => readAs_ws al n hne hn (fun a hm => List.all_eq_true.1 ha a hm)
 unfold termWs
 dsimp only
 by_cases hn : cs = []
 ·subst hn
  rw [if_pos rfl, List.nil_append]
  simp only [readT]
  rw [if_neg (by decide), if_pos trivial, hra _ (by omega)]
  rfl
 ·rw [if_neg hn, List.cons_append]
  have hlc := sepW_len (cs.map condWs) (fun x hx => by obtain ⟨c, _, rfl⟩ := List.mem_map.1 hx; exact condWs_ne c)
  rw [List.length_map] at hlc
  have hl : (sepW (cs.map condWs) ++ ([116, 104, 101, 110] :: sepW (al.map actWs))).length = (sepW (cs.map condWs)).length + ((sepW (al.map actWs)).length + 1) := by rw [List.length_append, List.length_cons]
  simp only [readT]
  rw [if_pos trivial, readCs_ws cs _ [105, 102] _ hn (by rw [hl]; omega) (.inl rfl) (fun c hm => List.all_eq_true.1 hc c hm)]
  show Option.map _ (readAs _ (sepW (al.map actWs))) = _
  rw [hra _ (by rw [hl]; omega)]
  rfl
/-- The term of a text. -/
noncomputable def termO (s : List UInt8) : Option TermS := (readT (spl 32 s)).bind fun t => if termT t = (s, 0) then some t else none
theorem termO_text {t : TermS} (h : termOk t = true) : termO (termW t) = some t := by
 unfold termO
 rw [spl_term h, readT_ws t h]
 show (if termT t = (termW t, 0) then some t else none) = some t
 exact if_pos (if_pos h)
theorem termO_some {s : List UInt8} {t : TermS} (h : termO s = some t) : termT t = (s, 0) := by
  unfold termO at h
  cases hr : readT (spl 32 s) with
  | none => rw [hr] at h; cases h
  | some u =>
    rw [hr] at h
    have h : (if termT u = (s, 0) then some u else none) = some t := h
    split at h
    · rename_i he
      injection h with h
      rw [← h]
      exact he
    · cases h
end
section
open Go.RowKit
set_option linter.unusedVariables false
/-- The set that a condition names, and of which kind. -/
def needC (c : CondS) : Option (List UInt8 × Int) := if c.kind = 1 ∨ c.kind = 2 ∨ c.kind = 3 then some (c.name, c.kind) else none
def needA (a : ActS) : Option (List UInt8 × Int) := if a.kind = 7 then some (a.name, 2) else none
def needsT (t : TermS) : List (List UInt8 × Int) := t.conds.filterMap needC ++ t.acts.filterMap needA
def needsP (p : PolS) : List (List UInt8 × Int) := p.terms.flatMap needsT
def thereS (l : List StS) (n : List UInt8 × Int) : Bool := l.any fun s => s.name == n.1 && decide (s.kind = n.2)
/-- Sets that may be, no two of one name. -/
noncomputable def setsOk : List StS → List (List UInt8) → Bool
 | [], _ => true
 | s :: r, seen => setOk s && (!seen.contains s.name && setsOk r (s.name :: seen))
noncomputable def checkP (p : PolS) (l : List StS) : Int :=
 if polOk p = false then 2 else if setsOk l [] = false then 2 else if (needsP p).all (thereS l) = false then 8 else 0
/-- An instruction. -/
structure InsS where
  kind : Int
  cond : CondS
  act : ActS
  «to» : Int
  n : Int
def zeroCo : CondS := ⟨0, false, [], 0⟩
def zeroAc : ActS := ⟨0, [], 0, []⟩
def insT (off : Nat) (t : TermS) : List InsS := (t.conds.map fun c => ⟨1, c, zeroAc, ((off + t.conds.length + t.acts.length : Nat) : Int), 0⟩) ++ t.acts.map fun a => ⟨2, zeroCo, a, 0, 0⟩
def insL : Nat → List TermS → List InsS
 | _, [] => []
 | off, t :: r => insT off t ++ insL (off + t.conds.length + t.acts.length) r
def insP (p : PolS) : List InsS := insL 0 p.terms ++ [⟨3, zeroCo, zeroAc, 0, if p.els = true then 1 else 0⟩]
/-- The sets that a policy names, in their order. -/
def setsP (p : PolS) (l : List StS) : List StS := l.filter fun s => (needsP p).any fun n => n.1 == s.name
theorem insT_len (off : Nat) (t : TermS) : (insT off t).length = t.conds.length + t.acts.length := by unfold insT; simp
theorem insL_snoc : ∀ (l : List TermS) (off : Nat) (t : TermS), insL off (l ++ [t]) = insL off l ++ insT (off + (insL off l).length) t
  | [], off, t => by simp [insL]
  | x :: r, off, t => by
    have ih := insL_snoc r (off + x.conds.length + x.acts.length) t
    show insT off x ++ insL (off + x.conds.length + x.acts.length) (r ++ [t]) = _
    rw [ih]
    show _ = (insT off x ++ insL (off + x.conds.length + x.acts.length) r) ++ insT (off + (insT off x ++ insL (off + x.conds.length + x.acts.length) r).length) t
    rw [List.append_assoc, List.length_append, insT_len]
    congr 3
    omega
end
end
section
open Go.RowKit Go.Sort Go.Lib
set_option linter.unusedVariables false
theorem ret_int {k : IntKind} {a b : Int} (h : a = b) : Ending.returned (.int k a) = .returned (.int k b) := by rw [h]
theorem ret_bool {a b : Bool} (h : a = b) : Ending.returned (.bool a) = .returned (.bool b) := by rw [h]
/-- The table of powers of ten is laid. -/
def Tab (w : World) : Prop := Lib.TabIs Tryz.prog w "internal/strconv.uint64pow10" .u64 Lib.pow10Tab
theorem var_lt {P : Program} {w : World} {n : String} {cs : Array Value} {g : Nat} (hg : P.globalNamed n = some g) (h : w.var? P n = some cs) : g < w.heap.size := by
 unfold World.var? at h
 simp only [hg, Option.bind_some] at h
 rcases Nat.lt_or_ge g w.heap.size with hlt | hge
 ·exact hlt
 ·rw [Array.getElem?_eq_none hge] at h; cases h
theorem Tab.ext {w w' : World} (h : Tab w) (he : Ext w w') : Tab w' := by
 have hg : Tryz.prog.globalNamed "internal/strconv.uint64pow10" = some 1 := by kernel_rfl
 exact var?_below he hg (var_lt hg h) h
/-- Digits of a number, as a text. -/
def dec (u : Nat) : ByteArray := ⟨(Lib.decDigits u).toArray⟩
theorem ext_putRow {w : World} (o : Obj) (dk : Array UInt8) (k off : Nat) : Ext w ((putRow (fun (b : UInt8) => Value.int .u8 (b.toNat : Int)) (w.alloc o) w.heap.size off dk).drewN k) := by
 refine Ext.drewN ?_ k
 obtain ⟨os', _, e⟩ := putRow_grow_new (fun (b : UInt8) => Value.int .u8 (b.toNat : Int)) w #[o] w.heap.size off dk (Nat.le_refl _)
 rw [alloc_eq_grow, e]
 refine ⟨rfl, rfl, rfl, by simp [grow], fun j hj => ?_⟩
 simp only [grow]
 rw [Array.getElem?_append_left hj]
theorem holds_zero0 (w : World) (T : TypeId) (nd : Nat) (hs : nd ≤ 24) : Holds (fun (b : UInt8) => Value.int .u8 (b.toNat : Int)) (w.alloc (.cells zeros24 T)) w.heap.size 0 (Array.replicate nd (0 : UInt8)) := fun j hj => by
 have hj' : j < nd := by simpa using hj
 refine ⟨?_, World.frozen?_alloc_new _ _ _ _⟩
 rw [World.cell?_alloc_new, zeros24_at _ (by omega), getElem!_pos _ j hj]
 simp
set_option maxHeartbeats 6400000 in
set_option maxRecDepth 100000 in
theorem IFormatUint_any (u : Nat) (hu64 : u < 18446744073709551616) (w : World) (htab : Tab w) :
  Calls Tryz.prog 128 #[.int .u64 u, .int .i64 10] w fun e w' => e = .returned (.string (dec u)) ∧ Ext w w' := by
 by_cases hs : u < 100
 ·go_enter Tryz.func128, Tryz.ntmps128
  go_wp2_with (go_at_call 157; refine (Tryz.internal_strconv_small u hs _).mono ?_; rintro e w' ⟨rfl, rfl⟩)
  go_ret
  exact ⟨rfl, Ext.refl _⟩
 ·have hu1 : 1 ≤ u := by omega
  have hnd20 : Lib.nDigits u ≤ 20 := by have := Lib.numDigits_eq u hu1 hu64; split at this <;> omega
  have hal : Tryz.prog.arrayLen 213 = 24 := by simp [Program.arrayLen, Tryz.underlying213]
  have hsl1 : ∀ W, (Instr.sliceAt 213 (.pointer (some ⟨w.heap.size, 0, none⟩)) none (some (.int .i64 (Lib.nDigits u : Int))) none).run Tryz.prog W = .ok (.slice (some ⟨w.heap.size, 0, none⟩) (Lib.nDigits u) 24) W := fun W => by
   rw [run_sliceAt_array_h W 213 ⟨w.heap.size, 0, none⟩ (by simp [Program.arrayLen, Program.elem, Tryz.underlying213]) .i64 (Lib.nDigits u : Int) (by omega) (by rw [hal]; omega)]
   go_simp
  have hH0 := holds_zero0 w 213 (Lib.nDigits u) (by omega)
  have hfmt := Tryz.internal_strconv_formatBase10 w.heap.size 0 24 u (Array.replicate (Lib.nDigits u) 0) (w.alloc (.cells Lib.zeros24 213)) hH0 (by rw [Array.size_replicate]; exact Lib.lt_pow_nDigits u) hu64 (by rw [Array.size_replicate]; omega)
  rw [Array.size_replicate] at hfmt
  have HH0 := Lib.hid hH0
  clear hH0 hal
  go_enter Tryz.func128, Tryz.ntmps128
  go_wp2_with (first
   | (go_at_call 158; refine (Tryz.internal_strconv_numDigits u hu1 hu64 _ (htab.ext ((Ext.refl _).alloc _))).mono ?_; rintro e w' ⟨rfl, rfl⟩))
  go_at_call 159
  refine hfmt.mono ?_
  rintro e w' ⟨rfl, k, v', dk, rfl, hF⟩
  have hcv : (convert 148 9 (.slice (some ⟨w.heap.size, 0, none⟩) (Lib.nDigits u) 24)).run Tryz.prog ((putRow (fun (b : UInt8) => Value.int .u8 (b.toNat : Int)) (w.alloc (.cells Lib.zeros24 213)) w.heap.size 0 dk).drewN k) = .ok (.string ⟨(Lib.decDigits u).toArray⟩) ((putRow (fun (b : UInt8) => Value.int .u8 (b.toNat : Int)) (w.alloc (.cells Lib.zeros24 213)) w.heap.size 0 dk).drewN k) := by
   have h := run_convert_bytes_back (P := Tryz.prog) ((putRow (fun (b : UInt8) => Value.int .u8 (b.toNat : Int)) (w.alloc (.cells Lib.zeros24 213)) w.heap.size 0 dk).drewN k) 148 9 5 ⟨w.heap.size, 0, none⟩ 24 (Lib.decDigits u) Tryz.underlying148 Tryz.underlying5 Tryz.underlying9 (fun j hj => by
    rw [Lib.row_is_numeral hF j hj, Lib.add_plain, World.cell?_drewN]
    exact cell?_putRow (fun (b : UInt8) => Value.int .u8 (b.toNat : Int)) _ w.heap.size 0 _ dk HH0.out (by rw [hF.size, Array.size_replicate]) j (by rw [hF.size]; rw [Lib.decDigits_length] at hj; exact hj))
   rw [Lib.decDigits_length] at h
   exact h
  go_wp2
  go_ret
  exact ⟨rfl, ext_putRow _ _ _ _⟩
theorem FormatUint_any (u : Nat) (hu64 : u < 18446744073709551616) (w : World) (htab : Tab w) :
  Calls Tryz.prog 87 #[.int .u64 u, .int .i64 10] w fun e w' => e = .returned (.string (dec u)) ∧ Ext w w' := by
 go_enter Tryz.func87, Tryz.ntmps87
 go_wp2_with (go_at_call 128; refine (IFormatUint_any u hu64 _ htab).mono ?_; rintro e w' ⟨rfl, he⟩; replace he := hide he)
 go_ret
 exact ⟨rfl, he.out⟩
theorem Len64_any (x : Nat) (h1 : x < 18446744073709551616) (w : World) :
  Calls Tryz.prog 178 #[.int .u64 x] w fun e w' => e = .returned (.int .i64 (Lib.bitLen x)) ∧ w = w' :=
 (Tryz.bits_Len64 x w (by omega) (by omega)).mono fun e w' ⟨h, h'⟩ => ⟨by simpa using h, h'.symm⟩
end
section
open Go.RowKit
set_option linter.unusedVariables false
/-- The library's variables that are read: a bound on lengths, the two errors of a numeral. -/
structure Vars (w : World) : Prop where
  max : ∃ m : Int, w.cell? ⟨2, 0, none⟩ = some (.int .i64 m)
  es : ∃ t p, w.cell? ⟨5, 0, none⟩ = some (.iface t p)
  er : ∃ t p, w.cell? ⟨6, 0, none⟩ = some (.iface t p)
theorem Vars.ext {w w' : World} (h : Vars w) (he : Ext w w') : Vars w' :=
 ⟨let ⟨m, hm⟩ := h.max; ⟨m, he.cell hm⟩, let ⟨t, p, hm⟩ := h.es; ⟨t, p, he.cell hm⟩, let ⟨t, p, hm⟩ := h.er; ⟨t, p, he.cell hm⟩⟩
theorem ba_list (s : ByteArray) : (⟨s.data.toList.toArray⟩ : ByteArray) = s := by cases s; simp
theorem Cut_any (s : List UInt8) (c : UInt8) (w : World) (hV : Vars w) (hs : s.length ≤ 1048576) :
  Calls Tryz.prog 138 #[.string ⟨s.toArray⟩, .string ⟨#[c]⟩] w fun e w' => e = .returned (.tuple #[.string ⟨(Lib.cut s [c]).1.toArray⟩, .string ⟨(Lib.cut s [c]).2.1.toArray⟩, .bool (Lib.cut s [c]).2.2]) ∧ Drew w w' := by
 obtain ⟨m, hm⟩ := hV.max
 refine (Tryz.strings_Cut ⟨s.toArray⟩ ⟨#[c]⟩ m w (by simp [ByteArray.size]; omega) hm).mono ?_
 rintro e w' ⟨rfl, n, rfl⟩
 exact ⟨rfl, (Drew.refl _).more n⟩
theorem Split_any (s : List UInt8) (c : UInt8) (w : World) (hV : Vars w) (hs : s.length ≤ 1048576) :
  Calls Tryz.prog 45 #[.string ⟨s.toArray⟩, .string ⟨#[c]⟩] w fun e w' => ∃ d, (spl c s).length ≤ d ∧ e = .returned (.slice (some ⟨w.heap.size, 0, none⟩) (spl c s).length d) ∧ Ext w w' ∧ ∀ k, (h : k < (spl c s).length) → w'.cell? ⟨w.heap.size, k, none⟩ = some (.string ⟨(spl c s)[k].toArray⟩) := by
 obtain ⟨m, hm⟩ := hV.max
 have hm2 : (Lib.splitB ⟨#[c]⟩ 0 (Lib.countB ⟨s.toArray⟩ ⟨#[c]⟩) ⟨s.toArray⟩).map (·.data.toList) = spl c s := Lib.splitB_data _ _ _ _
 have hlen : Lib.countB ⟨s.toArray⟩ ⟨#[c]⟩ + 1 = (spl c s).length := by
  rw [← hm2, List.length_map]
  exact (Lib.splitB_all ⟨#[c]⟩ (Nat.le_refl 1) _ _ _ rfl).symm
 refine (Tryz.strings_Split ⟨s.toArray⟩ ⟨#[c]⟩ m w (by simp [ByteArray.size]; omega) hm (Nat.le_refl 1)).mono ?_
 rintro e w' ⟨rfl, rfl⟩
 refine ⟨_, Nat.le_of_eq hlen.symm, by rw [hlen], (Ext.refl _).alloc _, fun k h => ?_⟩
 rw [(Blk.new w 9 _).cell k]
 have hk : k < (Lib.splitB ⟨#[c]⟩ 0 (Lib.countB ⟨s.toArray⟩ ⟨#[c]⟩) ⟨s.toArray⟩).length := by
  have := congrArg List.length hm2
  rw [List.length_map] at this
  omega
 have he := congrArg (fun l => l[k]?) hm2
 simp only [List.getElem?_map, List.getElem?_eq_getElem hk, List.getElem?_eq_getElem h, Option.map_some, Option.some.injEq] at he
 rw [List.getElem?_toArray, List.getElem?_map, List.getElem?_eq_getElem hk, ← he]
 rw [ba_list]
 rfl
theorem ext_bytes (w : World) (t : TypeId) (s : ByteArray) : Ext w (Lib.bytesWorld w t s) := ext_bytesWorld w t s
theorem PU8_ok (s : List UInt8) (u : Nat) (w : World) (hs : s.length ≤ 1048576) (hp : Lib.parseUintB 8 s = .ok u) :
  Calls Tryz.prog 137 #[.string ⟨s.toArray⟩, .int .i64 10, .int .i64 8] w fun e w' => e = .returned (.tuple #[.int .u64 u, .nilIface]) ∧ Ext w w' := by
 refine (Any.strconv_ParseUint_10_at8_ok Tryz.laysPu14 ⟨s.toArray⟩ (by simp [ByteArray.size]; omega) u hp w).mono ?_
 rintro e w' ⟨rfl, hw⟩
 refine ⟨rfl, ?_⟩
 rcases hw with rfl | rfl
 ·exact Ext.refl _
 ·exact ext_bytes _ _ _
end
section
open Go.RowKit
set_option linter.unusedVariables false
theorem fam_cases (f : Int) : f = 1 ∨ f = 2 ∨ f = 3 ∨ f = 4 ∨ f = 5 ∨ (f ≠ 1 ∧ f ≠ 2 ∧ f ≠ 3 ∧ f ≠ 4 ∧ f ≠ 5) := by omega
theorem ASize_any (f : Int) (w : World) : Calls Tryz.prog 145 #[.int .i64 f] w fun e w' => e = .returned (.int .i64 (sizeS f)) ∧ w = w' := by
 rcases fam_cases f with rfl | rfl | rfl | rfl | rfl | ⟨h1, h2, h3, h4, h5⟩
 all_goals
  go_enter Tryz.func145, Tryz.ntmps145
  go_wp2
  go_ret
  exact ⟨by simp [sizeS, *], rfl⟩
theorem Aapart_any (f : Int) (w : World) : Calls Tryz.prog 171 #[.int .i64 f] w fun e w' => e = .returned (.bool (apartS f)) ∧ w = w' := by
 rcases fam_cases f with rfl | rfl | rfl | rfl | rfl | ⟨h1, h2, h3, h4, h5⟩
 all_goals
  go_enter Tryz.func171, Tryz.ntmps171
  go_wp2
  go_ret
  exact ⟨by simp [apartS, *], rfl⟩
theorem wrap64_id (x : Int) (h1 : 0 ≤ x) (h2 : x < 9223372036854775808) : wrap64 x = x := by
 unfold wrap64
 omega
theorem shl255 (l : Nat) (h1 : 1 ≤ l) (h7 : l ≤ 7) (x : UInt8) (X : Int) (hX : X = ((256 - 2 ^ (8 - l) : Nat) : Int)) : bits .and .u8 (x.toNat : Int) X = ((maskB (l : Int) x).toNat : Int) := by
 have hp : 2 ^ (8 - l) ≤ 2 ^ 7 := Nat.pow_le_pow_right (by omega) (by omega)
 have hp0 : 0 < 2 ^ (8 - l) := Nat.two_pow_pos _
 rw [hX, u8_and_nat _ _ x.toNat_lt (by omega), mask_and l h1 h7 x]
set_option maxRecDepth 20000 in
set_option maxHeartbeats 1000000 in
theorem masked_any (a : List UInt8) (n : Int) (w : World) (ha : a.length ≤ 16) (ha0 : 0 < a.length) (h1 : 0 ≤ n) (h2 : n ≤ 128) :
  Calls Tryz.prog 172 #[.string ⟨a.toArray⟩, .int .i64 n] w fun e w' => e = .returned (.string ⟨(maskS a n).toArray⟩) ∧ Ext w w' := by
 have mixed : Tryz.prog.follows Departure.mixedOrders = true := by kernel_rfl
 have hz : (ByteArray.mk a.toArray).size = a.length := by simp [ByteArray.size]
 have kc := fun (w : World) => Lib.run_convert_string_bytes (P := Tryz.prog) w 9 148 5 ⟨a.toArray⟩ Tryz.underlying9 Tryz.underlying148 Tryz.underlying5
 go_enter Tryz.func172, Tryz.ntmps172
 go_wp2
 have hcv := OwnB.conv (w := w) (e := 5) ⟨a.toArray⟩ (by unfold maxLen; omega)
 have hEc := ext_bytesWorld w 5 ⟨a.toArray⟩
 rw [hz] at hcv
 generalize hc : grownCap w a.length 0 5 = cp at hcv ⊢
 generalize hW : Lib.bytesWorld w 5 ⟨a.toArray⟩ = W1 at hcv hEc
 replace hc := hide hc
 replace hW := hide hW
 clear kc
 go_loopw [12] (fun q wr => ∃ k : Nat, k ≤ a.length ∧ q = .int .i64 k ∧ OwnB 5 wr w.heap.size (.slice (some ⟨w.heap.size, 0, none⟩) a.length cp) (maskK a n k) ∧ Ext w wr) (fun q _ => a.length - (intOf q).toNat)
 case atStart => exact ⟨0, Nat.zero_le _, rfl, by rw [maskK_zero]; simpa [hz] using hcv, hEc⟩
 case round =>
  clear hcv hEc hW hc W1
  obtain ⟨k, hk, rfl, hown, hE⟩ := hrel
  rename World => W0
  by_cases hlt : k < a.length
  ·obtain ⟨x1, f1⟩ := hown.cell rfl k (by rw [maskK_len _ _ _ hk]; exact hlt)
   have hx : (maskK a n k)[k]'(by rw [maskK_len _ _ _ hk]; exact hlt) = a[k] := by
    have := maskK_at a n k hlt
    rw [List.getElem?_eq_getElem (by rw [maskK_len _ _ _ hk]; exact hlt)] at this
    exact Option.some.inj this
   rw [hx] at x1
   have hset := hown.set k (maskB (n - 8 * (k : Int)) a[k])
   rw [maskK_set a n k hlt] at hset
   have hEs := hE.setCell (p := ⟨w.heap.size, k, none⟩) (Nat.le_refl _) (.int .u8 ((maskB (n - 8 * (k : Int)) a[k]).toNat : Int))
   clear hx
   rcases (show n - 8 * (k : Int) ≤ 0 ∨ 8 ≤ n - 8 * (k : Int) ∨ ∃ l : Nat, 1 ≤ l ∧ l ≤ 7 ∧ n = 8 * (k : Int) + l from by
    by_cases h : n - 8 * (k : Int) ≤ 0
    ·exact .inl h
    ·by_cases h' : 8 ≤ n - 8 * (k : Int)
     ·exact .inr (.inl h')
     ·exact .inr (.inr ⟨(n - 8 * (k : Int)).toNat, by omega, by omega, by omega⟩)) with hl | hl | ⟨l, hl1, hl7, hnl⟩
   ·have hb : (maskB (n - 8 * (k : Int)) a[k]).toNat = 0 := by unfold maskB; rw [if_pos hl]; rfl
    rw [hb] at hset hEs
    replace hset := hide hset
    replace hEs := hide hEs
    replace hown := hide hown
    replace hE := hide hE
    replace hb := hide hb
    go_wp2
    go_roundw
    case rel => exact ⟨k + 1, by omega, by go_num, hset.out, hEs.out⟩
    case measure => simp [intOf]; omega
   ·have hsk := maskK_skip a n k hlt hl
    rw [hsk] at hown
    replace hset := hide hset
    replace hEs := hide hEs
    replace hown := hide hown
    replace hE := hide hE
    replace hsk := hide hsk
    go_wp2
    go_roundw
    case rel => exact ⟨k + 1, by omega, by go_num, hown.out, hE.out⟩
    case measure => simp [intOf]; omega
   ·have hbm := fun X hX => shl255 l hl1 hl7 a[k] X hX
    rw [show n - 8 * (k : Int) = (l : Int) by omega] at hset hEs
    generalize maskB (l : Int) a[k] = y at hbm hset hEs
    replace hset := hide hset
    replace hEs := hide hEs
    replace hown := hide hown
    replace hE := hide hE
    rcases (show (l = 1 ∧ n - 8 * (k : Int) = 1) ∨ (l = 2 ∧ n - 8 * (k : Int) = 2) ∨ (l = 3 ∧ n - 8 * (k : Int) = 3) ∨ (l = 4 ∧ n - 8 * (k : Int) = 4) ∨ (l = 5 ∧ n - 8 * (k : Int) = 5) ∨ (l = 6 ∧ n - 8 * (k : Int) = 6) ∨ (l = 7 ∧ n - 8 * (k : Int) = 7) by omega) with ⟨rfl, hnl2⟩ | ⟨rfl, hnl2⟩ | ⟨rfl, hnl2⟩ | ⟨rfl, hnl2⟩ | ⟨rfl, hnl2⟩ | ⟨rfl, hnl2⟩ | ⟨rfl, hnl2⟩
    all_goals
     replace hbm := hide hbm
     have gw1 : IntKind.i64.wrap 1 = 1 := by decide
     have gw2 : IntKind.i64.wrap 2 = 2 := by decide
     have gw3 : IntKind.i64.wrap 3 = 3 := by decide
     have gw4 : IntKind.i64.wrap 4 = 4 := by decide
     have gw5 : IntKind.i64.wrap 5 = 5 := by decide
     have gw6 : IntKind.i64.wrap 6 = 6 := by decide
     have gw7 : IntKind.i64.wrap 7 = 7 := by decide
     replace hnl := hide hnl
     go_wp2
     go_region_law_o (fail)
     go_wp2
     go_roundw
     case rel => exact ⟨k + 1, by omega, by go_num, by rw [hbm.out _ (by decide)]; exact hset.out.kept (fun _ _ => rfl), by rw [hbm.out _ (by decide)]; exact hEs.out.drew⟩
     case measure => simp [intOf]; omega
  ·obtain rfl : k = a.length := by omega
   rw [maskK_all] at hown
   have kd := run_stringB (P := Tryz.prog) (src := 148) (dst := 9) Tryz.underlying148 Tryz.underlying5 Tryz.underlying9 hown
   replace hown := hide hown
   go_wp2
   go_ret
   exact ⟨rfl, hE⟩
open Go.RowKit Go.Sort
theorem run_eqP (W : World) (f g : Int) (r s : Int) (x y : List UInt8) (l m : Int) :
  (binOp .eql 70 (.agg #[.int .i64 f, .int .u64 r, .string ⟨x.toArray⟩, .int .i64 l]) (.agg #[.int .i64 g, .int .u64 s, .string ⟨y.toArray⟩, .int .i64 m])).run Tryz.prog W = .ok (.bool (decide (f = g ∧ r = s ∧ x = y ∧ l = m))) W := by
 have hS : Tryz.prog.underlying 70 = some (.struct (Tryz.prog.fieldsOf 70)) := by kernel_rfl
 rw [run_eql_struct, run_equalIn_agg W 9999 _ _ _ hS Tryz.stoodInHeld70]
 simp only [Program.fieldsOf, Tryz.underlying70]
 have e1 : ∀ (a b : Int) (w : World), (Op.equalIn 9999 3 (.int .i64 a) (.int .i64 b)).run Tryz.prog w = .ok (a == b) w := fun a b w => run_equalIn_int w 9998 _ .i64 .i64 a b Tryz.underlying3
 have e2 : ∀ (a b : Int) (w : World), (Op.equalIn 9999 68 (.int .u64 a) (.int .u64 b)).run Tryz.prog w = .ok (a == b) w := fun a b w => run_equalIn_int w 9998 _ .u64 .u64 a b Tryz.underlying68
 have e3 : ∀ (a b : List UInt8) (w : World), (Op.equalIn 9999 9 (.string ⟨a.toArray⟩) (.string ⟨b.toArray⟩)).run Tryz.prog w = .ok (a == b) w := fun a b w => by
  rw [run_equalIn_string w 9998 _ _ _ Tryz.underlying9, ByteArray.toList_eq, ByteArray.toList_eq]
 by_cases h1 : f = g <;> by_cases h2 : r = s <;> by_cases h3 : x = y <;> by_cases h4 : l = m <;> simp [Op.eqFields, part, e1, e2, e3, h1, h2, h3, h4]
theorem step_callN {P : Program} {ops : Array Oper} {o : Oper} {a : Act} {w : World} {K : Act → World → Prop} {Q : Exit → Act → World → Prop} {X : Prop} (hw : Region.wanted o (yielded ops a.tmps) = true) (f : FuncId) {fn : Func} (xs : Array Operand) (ts : Array TypeId)
  (hop : o.op = Op.call { callee := Callee.value (Operand.func f), args := xs, argTypes := ts }) (hf : P.funcs[f]? = some fn) (hname : (fn.name == "runtime.NumGoroutine") = false) (hb : fn.body.isNone = false) (vs : Array Value) (hx : xs.map a.eval = vs)
  {R : Ending → World → Prop} (hc : Calls P f vs w R) (hk : ∀ e w', R e w' → ∃ u, e = .returned u ∧ K (a.put o.dst u) w') : if Region.wanted o (yielded ops a.tmps) = true then Oper.wp P o a w K Q else X := by
 rw [if_pos hw]
 unfold Oper.wp
 have h1 : fn.name ≠ "runtime.NumGoroutine" := by simpa using hname
 have hev : a.eval (Operand.func f) = .func (.func f) #[] #[] := rfl
 have h2 : ¬ (fn.body = none) := by intro h; simp [h] at hb
 have hrun : (execOp a.eval o).run P w = .ok (.enter f vs) w := by
  simp [execOp, hop, resolve, hev, Deferred.ofValue, invoke, hx, callFunc, hf, h1, h2]
 rw [hrun, Oper.upon_enter]
 exact hc.mono fun e w' h => by obtain ⟨u, rfl, hK⟩ := hk e w' h; exact hK
theorem quiet_apart (f : Int) (w : World) (n : Nat) : Calls Tryz.prog 171 #[.int .i64 f] (w.drewN n) fun e w'' => e = .returned (.bool (apartS f)) ∧ ∃ m, w'' = w.drewN m :=
 Calls.quiet_of_same ((Aapart_any f _).mono fun e w' h => ⟨h.1, h.2.symm⟩)
/-- A callee that turns nothing, met in a region of reads and of calls that make memory. -/
theorem regrown_same {P : Program} {f : FuncId} {args : Array Value} {w : World} {d : Nat} {os : Array Obj} {v : Value} (h : Calls P f args (grow (redrawn w d) os) fun e w' => e = .returned v ∧ grow (redrawn w d) os = w') :
  Calls P f args (grow (redrawn w d) os) fun e w'' => e = .returned v ∧ ∃ p : Regrown, w'' = grow (redrawn w p.d) p.os :=
 Calls.regrown_of (h.mono fun e w' h => ⟨h.1, h.2 ▸ Below.refl _ _⟩)
/-- A prefix in a block of its own, as such a region reads it. -/
theorem regrown_cells (w : World) (f R : Int) (s : ByteArray) (l : Int) (T : TypeId) :
  (∀ d os, (grow (redrawn (w.alloc (.cells #[.int .i64 f, .int .u64 R, .string s, .int .i64 l] T)) d) os).cell? ⟨w.heap.size, 0, none⟩ = some (.int .i64 f)) ∧
  (∀ d os, (grow (redrawn (w.alloc (.cells #[.int .i64 f, .int .u64 R, .string s, .int .i64 l] T)) d) os).cell? ⟨w.heap.size, 1, none⟩ = some (.int .u64 R)) ∧
  (∀ d os, (grow (redrawn (w.alloc (.cells #[.int .i64 f, .int .u64 R, .string s, .int .i64 l] T)) d) os).cell? ⟨w.heap.size, 2, none⟩ = some (.string s)) ∧
  (∀ d os, (grow (redrawn (w.alloc (.cells #[.int .i64 f, .int .u64 R, .string s, .int .i64 l] T)) d) os).cell? ⟨w.heap.size, 3, none⟩ = some (.int .i64 l)) :=
 ⟨cell_regrown ((Blk.new w T _).cell 0), cell_regrown ((Blk.new w T _).cell 1), cell_regrown ((Blk.new w T _).cell 2), cell_regrown ((Blk.new w T _).cell 3)⟩
end
section
open Go.RowKit Go.Sort
set_option linter.unusedVariables false
theorem ba_app (a b : List UInt8) : (⟨a.toArray⟩ : ByteArray) ++ ⟨b.toArray⟩ = ⟨(a ++ b).toArray⟩ := by
 apply ByteArray.ext
 rw [ByteArray.data_append]
 simp
theorem ba_app1 (a : List UInt8) (x : UInt8) : (⟨a.toArray⟩ : ByteArray) ++ ⟨#[x]⟩ = ⟨(a ++ [x]).toArray⟩ := ba_app a [x]
theorem ba_size (a : List UInt8) : (ByteArray.mk a.toArray).size = a.length := by simp [ByteArray.size]
theorem Calls.regr {P : Program} {f : FuncId} {args : Array Value} {v : Value} (h : ∀ W, Calls P f args W fun e w' => e = .returned v ∧ Ext W w') (w : World) (d : Nat) (os : Array Obj) :
  Calls P f args (grow (redrawn w d) os) fun e w'' => e = .returned v ∧ ∃ p : Regrown, w'' = grow (redrawn w p.d) p.os := Calls.regrown_of (h _)
theorem Calls.regrS {P : Program} {f : FuncId} {args : Array Value} {v : Value} (h : ∀ W, Calls P f args W fun e w' => e = .returned v ∧ W = w') (w : World) (d : Nat) (os : Array Obj) :
  Calls P f args (grow (redrawn w d) os) fun e w'' => e = .returned v ∧ ∃ p : Regrown, w'' = grow (redrawn w p.d) p.os := regrown_same (h _)
open Go.RowKit Go.Sort
theorem okStr : ElemOk Tryz.prog 79 9 EStr.sz 16 := elemOk (z := .string ⟨#[]⟩) Tryz.underlying79 (by kernel_rfl) rfl
theorem str_new' (w : World) (s : ByteArray) (T : TypeId) : ∀ j u, [Value.string s][j]? = some u → (w.alloc (.cells #[.string s] T)).cell? ((⟨w.heap.size, 0, none⟩ : Addr).add j) = some u := cell_one_new _ _ _
theorem Join_any (a : Option Addr) (c : Nat) (xs : List ByteArray) (sep : UInt8) (w : World) (S : Nat → Prop) (hS : ∀ b, S b → b < w.heap.size) (hs : Sl EStr w S a xs) (hne : xs ≠ []) (hc : xs.length ≤ c) (hl : xs.length ≤ 16777216) (hlen : (Lib.join (xs.map (·.data.toList)) [sep]).length ≤ 140737488355328) :
  Calls Tryz.prog 36 #[.slice a xs.length c, .string ⟨#[sep]⟩] w fun e w' => e = .returned (.string ⟨(Lib.join (xs.map (·.data.toList)) [sep]).toArray⟩) ∧ Ext w w' := by
 rcases hs with hs | ⟨b, off, rfl, hb, hs⟩
 ·exact absurd hs hne
 ·refine Tryz.strings_Join b off c xs ⟨#[sep]⟩ w (fun j x hx => ?_) (hS b hb) (by omega) hc hlen
  obtain ⟨cs, ⟨rfl, _⟩, hcell⟩ := hs j x hx
  have := hcell 0 _ rfl
  simpa [EStr, Enc.flat] using this
theorem ba_sz_app (a b : ByteArray) : (a ++ b).size = a.size + b.size := ByteArray.size_append
end
section
open Go.RowKit Go.Sort
set_option linter.unusedVariables false
/-- The library's table of zeros' counts, at the place that 16 asks. -/
def Deb (w : World) : Prop := w.cell? ⟨8, 15, none⟩ = some (.int .u8 4)
theorem Deb.ext {w w' : World} (h : Deb w) (he : Ext w w') : Deb w' := he.cell h
set_option maxRecDepth 20000 in
theorem TZ64_16 (w : World) (hD : Deb w) : Calls Tryz.prog 194 #[.int .u64 16] w fun e w' => e = .returned (.int .i64 4) ∧ w = w' := by
 unfold Deb at hD
 have e1 : IntKind.u64.wrap (bits BinOp.and IntKind.u64 16 (IntKind.u64.wrap (-16)) * 285870213051353865) / 288230376151711744 = 15 := by decide +kernel
 go_enter Tryz.func194, Tryz.ntmps194
 go_wp2
 go_ret
 exact ⟨rfl, rfl⟩
set_option maxRecDepth 20000 in
theorem TZ_16 (w : World) (hD : Deb w) : Calls Tryz.prog 181 #[.int .u64 16] w fun e w' => e = .returned (.int .i64 4) ∧ w = w' := by
 have q := TZ64_16 w hD
 replace q := hide q
 go_enter Tryz.func181, Tryz.ntmps181
 go_wp2_with fail
 refine q.out.mono ?_
 rintro e w1 ⟨rfl, rfl⟩
 go_wp2
 go_ret
 exact ⟨rfl, rfl⟩
set_option maxRecDepth 20000 in
theorem Pow2_16 (w : World) : Calls Tryz.prog 180 #[.int .i64 16] w fun e w' => e = .returned (.bool true) ∧ w = w' := by
 go_enter Tryz.func180, Tryz.ntmps180
 go_wp2
 go_ret
 exact ⟨rfl, rfl⟩
def cB (L : List UInt8) : Array Value := (L.map fun b => Value.int .u8 (b.toNat : Int)).toArray
theorem cB_set (L : List UInt8) (i : Nat) (b : UInt8) : (cB L).setIfInBounds i (.int .u8 (b.toNat : Int)) = cB (L.set i b) := by
 unfold cB
 simp [List.map_set]
theorem cB_at (L : List UInt8) (i : Nat) (h : i < L.length) : (cB L)[i]? = some (.int .u8 (L[i].toNat : Int)) := by
 unfold cB
 simp [h]
def digS36 : ByteArray := ⟨#[48, 49, 50, 51, 52, 53, 54, 55, 56, 57, 97, 98, 99, 100, 101, 102, 103, 104, 105, 106, 107, 108, 109, 110, 111, 112, 113, 114, 115, 116, 117, 118, 119, 120, 121, 122]⟩
theorem dig_at : ∀ d : Fin 16, (digS36.data[d.val]'(by have := d.isLt; show _ < 36; omega)) = dgt d.val := by decide +kernel
theorem dig_index (d : Nat) (h : d < 16) (W : World) : (Instr.index 9 (.string digS36) (.int .u64 (d : Int))).run Tryz.prog W = .ok (.int .u8 ((dgt d).toNat : Int)) W := by
 have h1 := dig_at ⟨d, h⟩
 have h2 : d < digS36.size := by show d < 36; omega
 simp only [] at h1
 go_simp
 exact congrArg (fun b : UInt8 => (b.toNat : Int)) h1
theorem and_15 (u : Nat) (h : u < 65536) : bits .and .u64 (u : Int) 15 = ((u % 16 : Nat) : Int) := by
 have := (bits_nat .u64 16 (by decide) (fun n h1 h2 => by rw [IntKind.wrap_u64]; have : n < 65536 := h2; omega) u 15 h (by decide)).1
 rw [show (15 : Nat) = 2 ^ 4 - 1 by decide, Nat.and_two_pow_sub_one_eq_mod] at this
 exact this
set_option maxRecDepth 20000 in
theorem FB16 (u0 : Nat) (h0 : u0 < 65536) (w : World) (hD : Deb w) :
  Calls Tryz.prog 160 #[.slice none 0 0, .int .u64 (u0 : Int), .int .i64 16, .bool false, .bool false] w fun e w' => e = .returned (.tuple #[.slice none 0 0, .string ⟨(digS 16 u0).toArray⟩]) ∧ Ext w w' := by
 have q1 := fun W => Pow2_16 W
 have q2 := fun W hD => TZ_16 W hD
 replace q1 := hide q1
 replace q2 := hide q2
 replace hD := hide hD
 replace h0 := hide h0
 go_enter Tryz.func160, Tryz.ntmps160
 have hA : Blk (w.alloc (Obj.cells Tryz.zeroCells232 232)) w.heap.size 232 (cB (List.replicate 65 0)) := by
  rw [show cB (List.replicate 65 0) = Tryz.zeroCells232 by kernel_rfl]
  exact Blk.new _ _ _
 have hE : Ext w (w.alloc (Obj.cells Tryz.zeroCells232 232)) := (Ext.refl w).alloc _
 generalize hg : w.heap.size = g at hA
 have hgw : w.heap.size ≤ g := Nat.le_of_eq hg
 generalize hW : w.alloc (Obj.cells Tryz.zeroCells232 232) = W at hA hE
 replace hA := hide hA
 replace hE := hide hE
 replace hgw := hide hgw
 go_wp2_with fail
 refine (q1.out _).mono ?_
 rintro e w1 ⟨rfl, rfl⟩
 clear hW hg
 go_wp2_with fail
 refine (q2.out _ (hD.out.ext hE.out)).mono ?_
 rintro e w1 ⟨rfl, rfl⟩
 go_wp2
 go_loopw [1, 13] (fun v i wr => ∃ (u k : Nat) (L : List UInt8), v = .int .u64 (u : Int) ∧ i = .int .i64 (k : Int) ∧ 62 ≤ k ∧ k ≤ 65 ∧ u < 16 ^ (k - 61) ∧ L.length = 65 ∧ digS 16 u0 = digS 16 u ++ L.drop k ∧ Blk wr g 232 (cB L) ∧ Ext w wr) (fun v _ _ => (intOf v).toNat)
 case atStart => exact ⟨u0, 65, List.replicate 65 0, rfl, rfl, by decide, by decide, h0.out, rfl, by simp, hA.out, hE.out⟩
 case round =>
  clear hA hE
  obtain ⟨u, k, L, rfl, rfl, hk1, hk2, hu, hL, hdig, hA, hE⟩ := hrel
  obtain ⟨k, rfl⟩ : ∃ j, k = j + 1 := ⟨k - 1, by omega⟩
  have hd16 : u % 16 < 16 := Nat.mod_lt _ (by decide)
  have hx := fun W => dig_index (u % 16) hd16 W
  unfold digS36 at hx
  have hand := and_15 u (Nat.lt_of_lt_of_le hu (Nat.pow_le_pow_right (by decide) (show k + 1 - 61 ≤ 4 by omega)))
  have e0 : ((k + 1 : Nat) : Int) - 1 = (k : Int) := by omega
  have hkL : k < L.length := by omega
  have c1 : wr.cell? ⟨g, k, none⟩ = some (.int .u8 (L[k].toNat : Int)) := (hA.cell k).trans (cB_at L k hkL)
  have f1 := fun i => hA.frozen i
  have hA2 := hA.set_ k (.int .u8 ((dgt (u % 16)).toNat : Int))
  rw [cB_set] at hA2
  have hE2 := hE.setCell (p := ⟨g, k, none⟩) hgw.out (.int .u8 ((dgt (u % 16)).toNat : Int))
  have hbk : (k : Int) < 65 := by omega
  have hbk2 : k < 65 := by omega
  have w1 : IntKind.i64.wrap (k : Int) = (k : Int) := by rw [IntKind.wrap_i64]; omega
  by_cases hlt : 16 ≤ u
  ·have b1 : decide ((16 : Int) ≤ (u : Int)) = true := decide_eq_true (by omega)
   have hdig2 : digS 16 u0 = digS 16 (u / 16) ++ (L.set k (dgt (u % 16))).drop k := by
    rw [hdig, digS_big (by decide) hlt, List.append_assoc]
    congr 1
    rw [List.drop_eq_getElem_cons (show k < (L.set k (dgt (u % 16))).length by simp; exact hkL), List.getElem_set_self, List.drop_set_of_lt (by omega)]
    rfl
   have hu2 : u / 16 < 16 ^ (k - 61) := by
    rw [show k + 1 - 61 = (k - 61) + 1 by omega, Nat.pow_succ] at hu
    omega
   have hk62 : 62 ≤ k := by
    rcases Nat.lt_or_ge k 62 with h | h
    ·obtain rfl : k = 61 := by omega
     simp at hu; omega
    ·exact h
   have hsh : (u : Int) / 16 = ((u / 16 : Nat) : Int) := rfl
   generalize hvv : u / 16 = v at hsh hdig2 hu2
   have hvlt : v < u := by omega
   replace hvlt := hide hvlt
   replace hvv := hide hvv
   generalize u % 16 = d at hx hand hd16 hA2 hE2 hdig2
   generalize hdg : dgt d = c at hx hA2 hE2 hdig2
   replace hu := hide hu
   replace hdig := hide hdig
   replace hA := hide hA
   replace hE := hide hE
   replace hA2 := hide hA2
   replace hE2 := hide hE2
   replace hdig2 := hide hdig2
   replace hu2 := hide hu2
   replace hdg := hide hdg
   go_wp2
   exact ⟨⟨v, k, L.set k c, rfl, rfl, hk62, by omega, hu2.out, by simp [hL], hdig2.out, hA2.out, hE2.out⟩, by simp [intOf]; exact hvlt.out⟩
  ·have b1 : decide ((16 : Int) ≤ (u : Int)) = false := decide_eq_false (by omega)
   have hue : u % 16 = u := Nat.mod_eq_of_lt (by omega)
   rw [hue] at hx hA2 hE2
   clear hand hue
   have hdig2 : digS 16 u0 = (L.set k (dgt u)).drop k := by
    rw [hdig, digS_small (by omega), List.drop_eq_getElem_cons (show k < (L.set k (dgt u)).length by simp; exact hkL), List.getElem_set_self, List.drop_set_of_lt (by omega)]
    rfl
   have hal : Tryz.prog.arrayLen 232 = 65 := by simp [Program.arrayLen, Tryz.underlying232]
   have hlen : ((L.set k (dgt u)).drop k).length = 65 - k := by simp [hL]
   have hsl : ∀ W, (Instr.sliceAt 232 (.pointer (some ⟨g, 0, none⟩)) (some (.int .i64 (k : Int))) none none).run Tryz.prog W = .ok (.slice (some ⟨g, k, none⟩) (65 - k) (65 - k)) W := fun W => by
    rw [run_sliceAt_array_l W 232 ⟨g, 0, none⟩ (by simp [Program.arrayLen, Program.elem, Tryz.underlying232]) .i64 (k : Int) (by omega) (by rw [hal]; omega)]
    go_simp
    omega
   generalize hV : wr.setCell ⟨g, k, none⟩ (.int .u8 ((dgt u).toNat : Int)) = V at hA2 hE2
   have hcv : (convert 148 9 (.slice (some ⟨g, k, none⟩) (65 - k) (65 - k))).run Tryz.prog V = .ok (.string ⟨(digS 16 u0).toArray⟩) V := by
    have h := run_convert_bytes_back (P := Tryz.prog) V 148 9 5 ⟨g, k, none⟩ (65 - k) ((L.set k (dgt u)).drop k) Tryz.underlying148 Tryz.underlying5 Tryz.underlying9 (fun j hj => by
     rw [add_lit, hA2.cell, cB_at _ _ (by rw [hlen] at hj; simp [hL]; omega)]
     congr 4
     rw [List.getElem_drop])
    rw [hlen, ← hdig2] at h
    exact h
   generalize 65 - k = N at hsl hcv
   replace hdig := hide hdig
   replace hA := hide hA
   replace hE := hide hE
   replace hA2 := hide hA2
   replace hE2 := hide hE2
   replace hdig2 := hide hdig2
   replace hlen := hide hlen
   replace hu := hide hu
   clear hal
   go_wp2
   go_ret2
   exact ⟨rfl, hE2.out⟩
set_option maxRecDepth 20000 in
theorem IFormat16 (u : Nat) (h : u < 65536) (w : World) (hD : Deb w) :
  Calls Tryz.prog 128 #[.int .u64 (u : Int), .int .i64 16] w fun e w' => e = .returned (.string ⟨(digS 16 u).toArray⟩) ∧ Ext w w' := by
 have q := FB16 u h w hD
 generalize digS 16 u = r at q ⊢
 replace q := hide q
 replace h := hide h
 replace hD := hide hD
 go_enter Tryz.func128, Tryz.ntmps128
 go_wp2_with fail
 refine q.out.mono ?_
 rintro e w1 ⟨rfl, he⟩
 replace he := hide he
 go_wp2
 go_ret
 exact ⟨rfl, he.out⟩
set_option maxRecDepth 20000 in
theorem Format16 (u : Nat) (h : u < 65536) (w : World) (hD : Deb w) :
  Calls Tryz.prog 87 #[.int .u64 (u : Int), .int .i64 16] w fun e w' => e = .returned (.string ⟨(digS 16 u).toArray⟩) ∧ Ext w w' := by
 have q := IFormat16 u h w hD
 generalize digS 16 u = r at q ⊢
 replace q := hide q
 replace h := hide h
 replace hD := hide hD
 go_enter Tryz.func87, Tryz.ntmps87
 go_wp2_with fail
 refine q.out.mono ?_
 rintro e w1 ⟨rfl, he⟩
 replace he := hide he
 go_wp2
 go_ret
 exact ⟨rfl, he.out⟩
end
section
open Go.RowKit Go.Sort
set_option linter.unusedVariables false
theorem rdN_over {b M : Nat} (h2 : 2 ≤ b) (h16 : b ≤ 16) {s : List UInt8} {k : Nat} (hk : k < s.length) (h : M < vf b (s.take k) * b + dval s[k]) : rdN b M s = none := by
 refine (rdN_none h2 h16).2 fun u hu he => ?_
 have h1 := vf_take (b := b) (by omega) s (k + 1)
 rw [vf_next b s k hk] at h1
 have h3 : vf b s = u := by rw [← he, vf_dig h2 h16]
 omega
theorem rdN_nil {b M : Nat} (h2 : 2 ≤ b) (h16 : b ≤ 16) : rdN b M [] = none := (rdN_none h2 h16).2 fun u _ he => digS_ne b u he
end
section
open Go.RowKit
set_option linter.unusedVariables false
theorem okB8 : ElemOk Tryz.prog 148 5 1 1 := elemOk (z := .int .u8 0) Tryz.underlying148 (by kernel_rfl) rfl
theorem okB8z : Tryz.prog.info? 5 = none ∨ ∀ i, Tryz.prog.info? 5 = some i → i.zero = some (.int .u8 0) := by
 right; intro i hi
 have h : (Tryz.prog.info? 5).map (fun i => i.zero) = some (some (.int .u8 0)) := by kernel_rfl
 rw [hi] at h; simpa using h
end
section
open Go.RowKit Go.Sort
set_option linter.unusedVariables false
/-- What reading a numeral answers: a number, and whether it is one in its own form. -/
def NumP (b M : Nat) (s : List UInt8) (w : World) (e : Ending) (w' : World) : Prop :=
 (∃ z : Int, e = .returned (.tuple #[.int .u64 z, .bool (rdN b M s).isSome]) ∧ ∀ n, rdN b M s = some n → z = (n : Int)) ∧ Ext w w'
/-- What ParseUint answers, as far as that goes: no numeral in its own form is refused. -/
def PuP (b M : Nat) (s : List UInt8) (w : World) (e : Ending) (w' : World) : Prop :=
 Ext w w' ∧ ((∃ u : Nat, u ≤ M ∧ e = .returned (.tuple #[.int .u64 (u : Int), .nilIface]) ∧ ∀ n, rdN b M s = some n → n = u) ∨ (rdN b M s = none ∧ ∃ z T p, e = .returned (.tuple #[.int .u64 z, .iface T p])))
theorem rd_dec {B : Nat} (hB : B ≤ 64) {s : List UInt8} {n : Nat} (h : rdN 10 (2 ^ B - 1) s = some n) : Lib.parseUintB B s = .ok n := by
 obtain ⟨h1, h2⟩ := (rdN_iff (by decide) (by decide)).1 h
 rw [← h2, digS_dec]
 have : 0 < 2 ^ B := Nat.pow_pos (by decide)
 exact pub_dec B hB n (by omega)
theorem PU8_any (s : List UInt8) (w : World) (hV : Vars w) (hs : s.length ≤ 1048576) :
  Calls Tryz.prog 137 #[.string ⟨s.toArray⟩, .int .i64 10, .int .i64 8] w (PuP 10 255 s w) := by
 obtain ⟨t1, p1, h1⟩ := hV.es
 obtain ⟨t2, p2, h2⟩ := hV.er
 have hz : (ByteArray.mk s.toArray).size = s.length := ba_size s
 have hrd := fun n => rd_dec (B := 8) (s := s) (n := n) (by decide)
 rcases hp : Lib.parseUintB 8 s with u | _ | _
 ·rw [hp] at hrd
  refine (PU8_ok s u w hs hp).mono ?_
  rintro e w' ⟨rfl, hw⟩
  exact ⟨hw, .inl ⟨u, Lib.parseUintB_le hp, rfl, fun n hn => by have := hrd n hn; injection this with this; exact this.symm⟩⟩
 ·rw [hp] at hrd
  refine (Any.strconv_ParseUint_10_at8_syntax Tryz.laysPu14 ⟨s.toArray⟩ (by omega) hp _ w h1 (.inr ⟨_, _, rfl⟩)).mono ?_
  rintro e w' ⟨N, rfl, _, _, hb⟩
  refine ⟨hb, .inr ⟨?_, _, _, _, rfl⟩⟩
  cases hr : rdN 10 255 s with
  | none => rfl
  | some n => cases hrd n hr
 ·rw [hp] at hrd
  refine (Any.strconv_ParseUint_10_at8_range Tryz.laysPu14 ⟨s.toArray⟩ (by omega) hp _ w h2 (.inr ⟨_, _, rfl⟩)).mono ?_
  rintro e w' ⟨N, rfl, _, _, hb⟩
  refine ⟨hb, .inr ⟨?_, _, _, _, rfl⟩⟩
  cases hr : rdN 10 255 s with
  | none => rfl
  | some n => cases hrd n hr
/- prim.number: ParseUint, and told again. -/
set_option maxRecDepth 20000 in
theorem number_of (b M : Nat) (bits : Int) (h2 : 2 ≤ b) (h16 : b ≤ 16) (s : List UInt8) (w : World)
    (hpu : ∀ W, Ext w W → Calls Tryz.prog 137 #[.string ⟨s.toArray⟩, .int .i64 (b : Int), .int .i64 bits] W (PuP b M s W))
    (hf : ∀ u : Nat, u ≤ M → ∀ W, Ext w W → Calls Tryz.prog 87 #[.int .u64 (u : Int), .int .i64 (b : Int)] W fun e w' => e = .returned (.string ⟨(digS b u).toArray⟩) ∧ Ext W w') :
    Calls Tryz.prog 139 #[.string ⟨s.toArray⟩, .int .i64 (b : Int), .int .i64 bits] w (NumP b M s w) := by
  have hok : ∀ (u : Nat) (W : World), u ≤ M → (∀ n, rdN b M s = some n → n = u) → Ext w W → NumP b M s w (.returned (.tuple #[.int .u64 (u : Int), .bool (digS b u == s)])) W := by
    intro u W hu hn hE
    refine ⟨⟨(u : Int), ?_, fun n h => by rw [hn n h]⟩, hE⟩
    by_cases he : digS b u = s
    · rw [beq_iff_eq.2 he, (rdN_iff h2 h16).2 ⟨hu, he⟩]; rfl
    · rw [beq_eq_false_iff_ne.2 he]
      cases hr : rdN b M s with
      | none => rfl
      | some n =>
        have h1 := hn n hr
        subst h1
        exact absurd ((rdN_iff h2 h16).1 hr).2 he
  have hbad : ∀ (z : Int) (W : World), rdN b M s = none → Ext w W → NumP b M s w (.returned (.tuple #[.int .u64 z, .bool false])) W := by
    intro z W hn hE
    exact ⟨⟨z, by rw [hn]; rfl, fun n h => by rw [hn] at h; cases h⟩, hE⟩
  replace hok := hide hok
  replace hbad := hide hbad
  replace hpu := hide hpu
  replace hf := hide hf
  go_enter Tryz.func139, Tryz.ntmps139
  go_wp2_with fail
  refine (hpu.out _ (Ext.refl _)).mono ?_
  rintro e w1 ⟨he, ⟨u, hu, rfl, hn⟩ | ⟨hn, z, T, p, rfl⟩⟩
  · have hq := fun W h => hf.out u hu W h
    have hr := fun W h => hok.out u W hu hn h
    generalize digS b u = d at hq hr
    replace hq := hide hq
    replace hr := hide hr
    replace hn := hide hn
    replace hu := hide hu
    replace he := hide he
    go_wp2_with fail
    refine (hq.out _ he.out).mono ?_
    rintro e w2 ⟨rfl, he2⟩
    replace he2 := hide (he.out.trans he2)
    go_wp2
    go_ret2
    exact hr.out _ he2.out
  · have hr := fun W h => hbad.out z W hn h
    replace hr := hide hr
    replace hn := hide hn
    replace he := hide he
    go_wp2
    go_ret2
    exact hr.out _ he.out
theorem number10_8 (s : List UInt8) (w : World) (hT : Tab w) (hV : Vars w) (hs : s.length ≤ 1048576) :
  Calls Tryz.prog 139 #[.string ⟨s.toArray⟩, .int .i64 10, .int .i64 8] w (NumP 10 255 s w) :=
 number_of 10 255 8 (by decide) (by decide) s w (fun W h => PU8_any s W (hV.ext h) hs) fun u hu W h => (FormatUint_any u (by omega) W (hT.ext h)).mono fun e w' q => ⟨by rw [q.1]; unfold dec; rw [digS_dec], q.2⟩
open Go.RowKit Go.Sort
theorem low_hex : ∀ c : Fin 256, 97 ≤ c.val → c.val ≤ 102 → c.val ||| 32 = c.val := by decide +kernel
theorem low_small : ∀ c : Fin 256, c.val < 48 → c.val ||| 32 < 97 := by decide +kernel
theorem low_lt : ∀ c : Fin 256, c.val ||| 32 < 256 := by decide +kernel
set_option maxRecDepth 20000 in
theorem Lower_any (c : UInt8) (w : World) : Calls Tryz.prog 187 #[.int .u8 (c.toNat : Int)] w fun e w' => e = .returned (.int .u8 ((c.toNat ||| 32 : Nat) : Int)) ∧ w = w' := by
 have hor : bits .or .u8 (c.toNat : Int) 32 = ((c.toNat ||| 32 : Nat) : Int) := u8_or_nat _ 32 c.toNat_lt (by decide)
 generalize c.toNat ||| 32 = L at hor ⊢
 go_enter Tryz.func187, Tryz.ntmps187
 go_wp2
 go_ret
 exact ⟨rfl, rfl⟩
/-- What the walk needs of one byte: where it goes on, and that a numeral in its own form goes on with its own digit. -/
theorem hex_char {M m : Nat} {s : List UInt8} (h : rdN 16 M s = some m) {k : Nat} (hk : k < s.length) : (48 ≤ s[k].toNat ∧ s[k].toNat ≤ 57 ∧ dval s[k] = s[k].toNat - 48) ∨ (97 ≤ s[k].toNat ∧ s[k].toNat ≤ 102 ∧ s[k].toNat ||| 32 = s[k].toNat ∧ dval s[k] = s[k].toNat - 87) := by
 obtain ⟨_, he⟩ := (rdN_iff (by decide) (by decide)).1 h
 obtain ⟨d, hd, hc⟩ := digS_mem (b := 16) (by decide) (by decide) m s[k] (by rw [he]; exact List.getElem_mem hk)
 have h1 := dgt_toNat (show d < 16 from hd)
 have h2 := dval_dgt (show d < 16 from hd)
 rw [← hc] at h1 h2
 by_cases h10 : d < 10
 ·rw [if_pos h10] at h1
  exact .inl ⟨by omega, by omega, by omega⟩
 ·rw [if_neg h10] at h1
  refine .inr ⟨by omega, by omega, ?_, by omega⟩
  exact low_hex ⟨s[k].toNat, s[k].toNat_lt⟩ (by show 97 ≤ s[k].toNat; omega) (by show s[k].toNat ≤ 102; omega)
/-- What the inner ParseUint answers. -/
def IpP (M : Nat) (s : List UInt8) (w : World) (e : Ending) (w' : World) : Prop :=
 Ext w w' ∧ ((∃ u : Nat, u ≤ M ∧ e = .returned (.tuple #[.int .u64 (u : Int), .nilIface]) ∧ ∀ n, rdN 16 M s = some n → n = u) ∨ (rdN 16 M s = none ∧ ∃ z k, (k = 1 ∨ k = 2) ∧ e = .returned (.tuple #[.int .u64 z, .iface 234 (.int .i64 k)])))
set_option maxRecDepth 20000 in
set_option maxHeartbeats 4000000 in
theorem IPu16 (s : List UInt8) (hs : s.length ≤ 1048576) (w : World) :
  Calls Tryz.prog 167 #[.string ⟨s.toArray⟩, .int .i64 16, .int .i64 16] w (IpP 65535 s w) := by
 have hbad : ∀ (z k : Int) (W : World), rdN 16 65535 s = none → (k = 1 ∨ k = 2) → Ext w W → IpP 65535 s w (.returned (.tuple #[.int .u64 z, .iface 234 (.int .i64 k)])) W := fun z k W h1 h2 h3 => ⟨h3, .inr ⟨h1, z, k, h2, rfl⟩⟩
 have hz : (ByteArray.mk s.toArray).size = s.length := ba_size s
 by_cases hl0 : s.length = 0
 ·have hn : rdN 16 65535 s = none := by rw [List.eq_nil_of_length_eq_zero hl0]; exact rdN_nil (by decide) (by decide)
  have e0 : s = [] := List.eq_nil_of_length_eq_zero hl0
  subst e0
  replace hbad := hide hbad
  replace hn := hide hn
  go_enter Tryz.func167, Tryz.ntmps167
  go_wp2
  go_ret2
  exact hbad.out 0 2 _ hn.out (.inr rfl) (Ext.refl _)
 have kc := fun (w : World) => Lib.run_convert_string_bytes (P := Tryz.prog) w 9 148 5 ⟨s.toArray⟩ Tryz.underlying9 Tryz.underlying148 Tryz.underlying5
 have hne : s.isEmpty = false := by cases s with | nil => exact absurd rfl hl0 | cons _ _ => rfl
 replace hbad := hide hbad
 go_enter Tryz.func167, Tryz.ntmps167
 go_wp2
 have hcv := OwnB.conv (w := w) (e := 5) ⟨s.toArray⟩ (by unfold maxLen; omega)
 have hEc := ext_bytesWorld w 5 ⟨s.toArray⟩
 rw [hz] at hcv
 generalize hc : grownCap w s.length 0 5 = cp at hcv ⊢
 generalize hW : Lib.bytesWorld w 5 ⟨s.toArray⟩ = W1 at hcv hEc
 replace hc := hide hc
 clear kc
 replace hcv := hide hcv
 replace hEc := hide hEc
 replace hz := hide hz
 go_loop [12, 13, 101] (fun b n i => ∃ (k v : Nat), b = .bool false ∧ k ≤ s.length ∧ i = .int .i64 (k : Int) ∧ n = .int .u64 (v : Int) ∧ v ≤ 65535 ∧ ∀ m, rdN 16 65535 s = some m → v = vf 16 (s.take k)) (fun _ _ i => s.length - (intOf i).toNat)
 case atStart => exact ⟨0, 0, rfl, Nat.zero_le _, rfl, rfl, by decide, fun m _ => by rw [List.take_zero]; rfl⟩
 case round =>
  obtain ⟨k, v, rfl, hk, rfl, rfl, hv, hvf⟩ := hrel
  by_cases hlt : k < s.length
  ·obtain ⟨x1, f1⟩ := hcv.out.cell rfl k (by simpa using hlt)
   replace x1 : W1.cell? ⟨w.heap.size, k, none⟩ = some (.int .u8 (s[k].toNat : Int)) := by simpa using x1
   clear f1
   have hch := fun m h => hex_char (M := 65535) (m := m) h hlt
   have hov := fun h => rdN_over (b := 16) (M := 65535) (by decide) (by decide) hlt h
   have hnx := vf_next 16 s k hlt
   have hl1 : s[k].toNat < 48 → s[k].toNat ||| 32 < 97 := fun h => low_small ⟨s[k].toNat, s[k].toNat_lt⟩ h
   have hl2 := low_lt ⟨s[k].toNat, s[k].toNat_lt⟩
   have ql := fun W => Lower_any s[k] W
   have h95 : s[k].toNat = 95 → s[k].toNat ||| 32 = 127 := fun h => by rw [h]; rfl
   simp only [] at hl1 hl2
   have hclt := s[k].toNat_lt
   generalize dval s[k] = dv at hch hov hnx
   generalize s[k].toNat ||| 32 = L at hch hl1 hl2 ql h95
   generalize s[k] = c at x1 hch hl1 ql h95 hclt
   have hcls : (c.toNat < 48 ∧ L < 97) ∨ (48 ≤ c.toNat ∧ c.toNat ≤ 57) ∨ (57 < c.toNat ∧ L < 97) ∨ (57 < c.toNat ∧ 122 < L ∧ c.toNat = 95) ∨ (57 < c.toNat ∧ 122 < L ∧ c.toNat ≠ 95) ∨ (57 < c.toNat ∧ 97 ≤ L ∧ L ≤ 122) := by
    by_cases h1 : c.toNat < 48
    ·exact .inl ⟨h1, hl1 h1⟩
    ·omega
   have hbig : True → decide ((1152921504606846976 : Int) ≤ (v : Int)) = false := fun _ => decide_eq_false (by omega)
   have wv : IntKind.u64.wrap ((v : Int) * 16) = ((v * 16 : Nat) : Int) := by rw [IntKind.wrap_u64]; omega
   have hmul : (v : Int) * 16 = ((v * 16 : Nat) : Int) := by omega
   generalize hvv : v * 16 = vb at wv hmul
   replace hl1 := hide hl1
   replace ql := hide ql
   rcases hcls with ⟨h1, h2⟩ | ⟨h1, h2⟩ | ⟨h1, h2⟩ | ⟨h1, h2, h3⟩ | ⟨h1, h2, h3⟩ | ⟨h1, h2, h3⟩
   ·-- below the digits
    have hn : rdN 16 65535 s = none := by
     cases hr : rdN 16 65535 s with
     | none => rfl
     | some m => rcases hch m hr with h | h <;> omega
    have k1 : decide ((48 : Int) ≤ (c.toNat : Int)) = false := decide_eq_false (by omega)
    have k3 : decide ((97 : Int) ≤ (L : Int)) = false := decide_eq_false (by omega)
    have e95 : ((c.toNat : Int) == 95) = false := by rw [beq_eq_false_iff_ne]; omega
    clear hch hov hnx hvf hvv hmul
    replace hn := hide hn
    replace hv := hide hv
    replace h1 := hide h1
    replace h2 := hide h2
    replace hclt := hide hclt
    replace hl2 := hide hl2
    replace hlt := hlt
    go_wp2_with fail
    refine (ql.out _).mono ?_
    rintro e w_ ⟨rfl, rfl⟩
    go_wp2
    go_ret2
    exact hbad.out _ 2 _ hn.out (.inr rfl) hEc.out
   ·-- a digit
    have k1 : decide ((48 : Int) ≤ (c.toNat : Int)) = true := decide_eq_true (by omega)
    have k2 : decide ((c.toNat : Int) ≤ (57 : Int)) = true := decide_eq_true (by omega)
    have e95 : ((c.toNat : Int) == 95) = false := by rw [beq_eq_false_iff_ne]; omega
    obtain ⟨d, hd⟩ : ∃ d : Nat, c.toNat = d + 48 := ⟨c.toNat - 48, by omega⟩
    have v1 : IntKind.u8.wrap ((c.toNat : Int) - 48) = (d : Int) := by rw [IntKind.wrap_u8]; omega
    have hdv : ∀ m, rdN 16 65535 s = some m → dv = d := fun m h => by rcases hch m h with h | h <;> omega
    have d16 : d < 16 := by omega
    have k5 : decide ((16 : Int) ≤ (d : Int)) = false := decide_eq_false (by omega)
    have wd : IntKind.u64.wrap (d : Int) = (d : Int) := by rw [IntKind.wrap_u64]; omega
    have ws : IntKind.u64.wrap ((vb : Int) + (d : Int)) = ((vb + d : Nat) : Int) := by rw [IntKind.wrap_u64]; omega
    have k6 : decide (((vb + d : Nat) : Int) < (vb : Int)) = false := decide_eq_false (by omega)
    have hnx2 : ∀ m, rdN 16 65535 s = some m → vb + d = vf 16 (s.take (k + 1)) := fun m h => by rw [hnx, ← hvf m h, hdv m h]; omega
    by_cases hover : 65535 < vb + d
    ·have hn : rdN 16 65535 s = none := by
      cases hr : rdN 16 65535 s with
      | none => rfl
      | some m => rw [hov (by rw [← hvf m hr, hdv m hr]; omega)] at hr; cases hr
     have k7 : decide ((65535 : Int) < ((vb + d : Nat) : Int)) = true := decide_eq_true (by omega)
     generalize hvs : vb + d = vs at ws k6 k7
     have hvb : vb ≤ vs := by omega
     clear hch hov hnx hnx2 hvf hvv hmul hdv hvs hover
     replace hn := hide hn
     replace hv := hide hv
     replace h1 := hide h1
     replace h2 := hide h2
     replace hclt := hide hclt
     replace hl2 := hide hl2
     replace hd := hide hd
     go_wp2
     go_ret2
     exact hbad.out _ 1 _ hn.out (.inl rfl) hEc.out
    ·have k7 : decide ((65535 : Int) < ((vb + d : Nat) : Int)) = false := decide_eq_false (by omega)
     have hle : vb + d ≤ 65535 := by omega
     generalize hvs : vb + d = vs at ws k6 k7 hle hnx2
     have hvb : vb ≤ vs := by omega
     clear hch hov hnx hvf hvv hmul hdv hvs hover
     replace hnx2 := hide hnx2
     replace hle := hide hle
     replace hv := hide hv
     replace h1 := hide h1
     replace h2 := hide h2
     replace hclt := hide hclt
     replace hl2 := hide hl2
     replace hd := hide hd
     go_wp2
     go_round
     case rel => exact ⟨k + 1, vs, rfl, by omega, by go_num, rfl, hle.out, hnx2.out⟩
     case measure => simp [intOf]; omega
   ·-- between
    have hn : rdN 16 65535 s = none := by
     cases hr : rdN 16 65535 s with
     | none => rfl
     | some m => rcases hch m hr with h | h <;> omega
    have k1 : decide ((48 : Int) ≤ (c.toNat : Int)) = true := decide_eq_true (by omega)
    have k2 : decide ((c.toNat : Int) ≤ (57 : Int)) = false := decide_eq_false (by omega)
    have k3 : decide ((97 : Int) ≤ (L : Int)) = false := decide_eq_false (by omega)
    have e95 : ((c.toNat : Int) == 95) = false := by rw [beq_eq_false_iff_ne]; omega
    clear hch hov hnx hvf hvv hmul
    replace hn := hide hn
    replace hv := hide hv
    replace h1 := hide h1
    replace h2 := hide h2
    replace hclt := hide hclt
    replace hl2 := hide hl2
    replace hlt := hlt
    go_wp2_with fail
    refine (ql.out _).mono ?_
    rintro e w_ ⟨rfl, rfl⟩
    go_wp2
    go_ret2
    exact hbad.out _ 2 _ hn.out (.inr rfl) hEc.out
   ·-- the underscore
    have hn : rdN 16 65535 s = none := by
     cases hr : rdN 16 65535 s with
     | none => rfl
     | some m => rcases hch m hr with h | h <;> omega
    have k1 : decide ((48 : Int) ≤ (c.toNat : Int)) = true := decide_eq_true (by omega)
    have k2 : decide ((c.toNat : Int) ≤ (57 : Int)) = false := decide_eq_false (by omega)
    have k3 : decide ((97 : Int) ≤ (L : Int)) = true := decide_eq_true (by omega)
    have k4 : decide ((L : Int) ≤ (122 : Int)) = false := decide_eq_false (by omega)
    have e95 : ((c.toNat : Int) == 95) = true := by rw [beq_iff_eq]; omega
    have q95 : ∀ W, Calls Tryz.prog 187 #[.int .u8 95] W fun e w' => e = .returned (.int .u8 127) ∧ W = w' := fun W => by
     have h := ql.out W
     rw [h3, h95 h3] at h
     exact h
    clear k3 k4
    replace q95 := hide q95
    clear hch hov hnx hvf hvv hmul
    replace hn := hide hn
    replace hv := hide hv
    replace h1 := hide h1
    replace h2 := hide h2
    replace hclt := hide hclt
    replace hl2 := hide hl2
    replace hlt := hlt
    go_wp2_with fail
    refine (q95.out _).mono ?_
    rintro e w_ ⟨rfl, rfl⟩
    go_wp2_with fail
    refine (q95.out _).mono ?_
    rintro e w_ ⟨rfl, rfl⟩
    go_wp2
    go_ret2
    exact hbad.out _ 2 _ hn.out (.inr rfl) hEc.out
   ·-- behind
    have hn : rdN 16 65535 s = none := by
     cases hr : rdN 16 65535 s with
     | none => rfl
     | some m => rcases hch m hr with h | h <;> omega
    have k1 : decide ((48 : Int) ≤ (c.toNat : Int)) = true := decide_eq_true (by omega)
    have k2 : decide ((c.toNat : Int) ≤ (57 : Int)) = false := decide_eq_false (by omega)
    have k3 : decide ((97 : Int) ≤ (L : Int)) = true := decide_eq_true (by omega)
    have k4 : decide ((L : Int) ≤ (122 : Int)) = false := decide_eq_false (by omega)
    have e95 : ((c.toNat : Int) == 95) = false := by rw [beq_eq_false_iff_ne]; omega
    clear hch hov hnx hvf hvv hmul
    replace hn := hide hn
    replace hv := hide hv
    replace h1 := hide h1
    replace h2 := hide h2
    replace hclt := hide hclt
    replace hl2 := hide hl2
    replace hlt := hlt
    go_wp2_with fail
    refine (ql.out _).mono ?_
    rintro e w_ ⟨rfl, rfl⟩
    go_wp2_with fail
    refine (ql.out _).mono ?_
    rintro e w_ ⟨rfl, rfl⟩
    go_wp2
    go_ret2
    exact hbad.out _ 2 _ hn.out (.inr rfl) hEc.out
   ·-- a letter
    have k1 : decide ((48 : Int) ≤ (c.toNat : Int)) = true := decide_eq_true (by omega)
    have k2 : decide ((c.toNat : Int) ≤ (57 : Int)) = false := decide_eq_false (by omega)
    have k3 : decide ((97 : Int) ≤ (L : Int)) = true := decide_eq_true (by omega)
    have k4 : decide ((L : Int) ≤ (122 : Int)) = true := decide_eq_true (by omega)
    have e95 : ((c.toNat : Int) == 95) = false := by rw [beq_eq_false_iff_ne]; omega
    obtain ⟨ee, hee⟩ : ∃ d : Nat, L = d + 97 := ⟨L - 97, by omega⟩
    obtain ⟨d, hd⟩ : ∃ d : Nat, d = ee + 10 := ⟨_, rfl⟩
    have v1 : IntKind.u8.wrap ((L : Int) - 97) = (ee : Int) := by rw [IntKind.wrap_u8]; omega
    have v2 : IntKind.u8.wrap ((ee : Int) + 10) = (d : Int) := by rw [IntKind.wrap_u8]; omega
    have hdv : ∀ m, rdN 16 65535 s = some m → dv = d := fun m h => by rcases hch m h with h | h <;> omega
    by_cases d16 : d < 16
    ·skip
     have k5 : decide ((16 : Int) ≤ (d : Int)) = false := decide_eq_false (by omega)
     have wd : IntKind.u64.wrap (d : Int) = (d : Int) := by rw [IntKind.wrap_u64]; omega
     have ws : IntKind.u64.wrap ((vb : Int) + (d : Int)) = ((vb + d : Nat) : Int) := by rw [IntKind.wrap_u64]; omega
     have k6 : decide (((vb + d : Nat) : Int) < (vb : Int)) = false := decide_eq_false (by omega)
     have hnx2 : ∀ m, rdN 16 65535 s = some m → vb + d = vf 16 (s.take (k + 1)) := fun m h => by rw [hnx, ← hvf m h, hdv m h]; omega
     by_cases hover : 65535 < vb + d
     ·have hn : rdN 16 65535 s = none := by
       cases hr : rdN 16 65535 s with
       | none => rfl
       | some m => rw [hov (by rw [← hvf m hr, hdv m hr]; omega)] at hr; cases hr
      have k7 : decide ((65535 : Int) < ((vb + d : Nat) : Int)) = true := decide_eq_true (by omega)
      generalize hvs : vb + d = vs at ws k6 k7
      have hvb : vb ≤ vs := by omega
      clear hch hov hnx hnx2 hvf hvv hmul hdv hvs hover
      replace hn := hide hn
      replace hv := hide hv
      replace h1 := hide h1
      replace h2 := hide h2
      replace hclt := hide hclt
      replace hl2 := hide hl2
      replace hd := hide hd
      go_wp2_with fail
      refine (ql.out _).mono ?_
      rintro e w_ ⟨rfl, rfl⟩
      go_wp2_with fail
      refine (ql.out _).mono ?_
      rintro e w_ ⟨rfl, rfl⟩
      go_wp2_with fail
      refine (ql.out _).mono ?_
      rintro e w_ ⟨rfl, rfl⟩
      go_wp2
      go_ret2
      exact hbad.out _ 1 _ hn.out (.inl rfl) hEc.out
     ·have k7 : decide ((65535 : Int) < ((vb + d : Nat) : Int)) = false := decide_eq_false (by omega)
      have hle : vb + d ≤ 65535 := by omega
      generalize hvs : vb + d = vs at ws k6 k7 hle hnx2
      have hvb : vb ≤ vs := by omega
      clear hch hov hnx hvf hvv hmul hdv hvs hover
      replace hnx2 := hide hnx2
      replace hle := hide hle
      replace hv := hide hv
      replace h1 := hide h1
      replace h2 := hide h2
      replace hclt := hide hclt
      replace hl2 := hide hl2
      replace hd := hide hd
      go_wp2_with fail
      refine (ql.out _).mono ?_
      rintro e w_ ⟨rfl, rfl⟩
      go_wp2_with fail
      refine (ql.out _).mono ?_
      rintro e w_ ⟨rfl, rfl⟩
      go_wp2_with fail
      refine (ql.out _).mono ?_
      rintro e w_ ⟨rfl, rfl⟩
      go_wp2
      go_round
      case rel => exact ⟨k + 1, vs, rfl, by omega, by go_num, rfl, hle.out, hnx2.out⟩
      case measure => simp [intOf]; omega
    ·have hn : rdN 16 65535 s = none := by
      cases hr : rdN 16 65535 s with
      | none => rfl
      | some m => rcases hch m hr with h | h <;> omega
     have k5 : decide ((16 : Int) ≤ (d : Int)) = true := decide_eq_true (by omega)
     clear hch hov hnx hvf hvv hmul
     replace hn := hide hn
     replace hv := hide hv
     replace h1 := hide h1
     replace h2 := hide h2
     replace hclt := hide hclt
     replace hl2 := hide hl2
     replace hlt := hlt
     go_wp2_with fail
     refine (ql.out _).mono ?_
     rintro e w_ ⟨rfl, rfl⟩
     go_wp2_with fail
     refine (ql.out _).mono ?_
     rintro e w_ ⟨rfl, rfl⟩
     go_wp2_with fail
     refine (ql.out _).mono ?_
     rintro e w_ ⟨rfl, rfl⟩
     go_wp2
     go_ret2
     exact hbad.out _ 2 _ hn.out (.inr rfl) hEc.out
  ·obtain rfl : k = s.length := by omega
   rw [List.take_of_length_le (Nat.le_refl _)] at hvf
   have hfin : IpP 65535 s w (.returned (.tuple #[.int .u64 (v : Int), .nilIface])) W1 := ⟨hEc.out, .inl ⟨v, hv, rfl, fun n hn => by
    have h1 := hvf n hn
    obtain ⟨_, he⟩ := (rdN_iff (by decide) (by decide)).1 hn
    rw [h1, ← he, vf_dig (by decide) (by decide)]⟩⟩
   replace hfin := hide hfin
   replace hvf := hide hvf
   replace hW := hide hW
   go_wp2
   go_ret2
   exact hfin.out
open Go.RowKit Go.Sort
theorem toErr_syn (s : List UInt8) (hs : s.length ≤ 1048576) (w : World) (hV : Vars w) :
  Calls Tryz.prog 168 #[.string ⟨#[80, 97, 114, 115, 101, 85, 105, 110, 116]⟩, .string ⟨s.toArray⟩, .int .i64 16, .int .i64 16, .iface 234 (.int .i64 2)] w fun e w' => (∃ T p, e = .returned (.iface T p)) ∧ Ext w w' := by
 obtain ⟨t1, p1, h1⟩ := hV.es
 refine (AnyPu.strconv_toError_syntax { Tryz.laysPu14 with } ⟨#[80, 97, 114, 115, 101, 85, 105, 110, 116]⟩ ⟨s.toArray⟩ 16 16 _ w (by rw [ba_size]; omega) h1 (.inr ⟨_, _, rfl⟩)).mono ?_
 rintro e w' ⟨N, rfl, _, _, hb⟩
 exact ⟨⟨_, _, rfl⟩, hb⟩
theorem toErr_rng (s : List UInt8) (hs : s.length ≤ 1048576) (w : World) (hV : Vars w) :
  Calls Tryz.prog 168 #[.string ⟨#[80, 97, 114, 115, 101, 85, 105, 110, 116]⟩, .string ⟨s.toArray⟩, .int .i64 16, .int .i64 16, .iface 234 (.int .i64 1)] w fun e w' => (∃ T p, e = .returned (.iface T p)) ∧ Ext w w' := by
 obtain ⟨t1, p1, h1⟩ := hV.er
 refine (AnyPu.strconv_toError_range { Tryz.laysPu14 with } ⟨#[80, 97, 114, 115, 101, 85, 105, 110, 116]⟩ ⟨s.toArray⟩ 16 16 _ w (by rw [ba_size]; omega) h1 (.inr ⟨_, _, rfl⟩)).mono ?_
 rintro e w' ⟨N, rfl, _, _, hb⟩
 exact ⟨⟨_, _, rfl⟩, hb⟩
set_option maxRecDepth 20000 in
theorem PU16_any (s : List UInt8) (w : World) (hV : Vars w) (hs : s.length ≤ 1048576) :
  Calls Tryz.prog 137 #[.string ⟨s.toArray⟩, .int .i64 16, .int .i64 16] w (PuP 16 65535 s w) := by
 have hok : ∀ (u : Nat) (W : World), u ≤ 65535 → (∀ n, rdN 16 65535 s = some n → n = u) → Ext w W → PuP 16 65535 s w (.returned (.tuple #[.int .u64 (u : Int), .nilIface])) W := fun u W h1 h2 h3 => ⟨h3, .inl ⟨u, h1, rfl, h2⟩⟩
 have hbad : ∀ (z : Int) T p (W : World), rdN 16 65535 s = none → Ext w W → PuP 16 65535 s w (.returned (.tuple #[.int .u64 z, .iface T p])) W := fun z T p W h1 h2 => ⟨h2, .inr ⟨h1, z, T, p, rfl⟩⟩
 have q := fun W => IPu16 s hs W
 have q1 := fun W h => toErr_syn s hs W h
 have q2 := fun W h => toErr_rng s hs W h
 replace q := hide q
 replace q1 := hide q1
 replace q2 := hide q2
 replace hok := hide hok
 replace hbad := hide hbad
 replace hV := hide hV
 replace hs := hide hs
 go_enter Tryz.func137, Tryz.ntmps137
 go_wp2_with fail
 refine (q.out _).mono ?_
 rintro e w1 ⟨he, ⟨u, hu, rfl, hn⟩ | ⟨hn, z, k, hk, rfl⟩⟩
 ·have hr := hok.out u w1 hu hn he
  replace hr := hide hr
  replace hn := hide hn
  replace hu := hide hu
  replace he := hide he
  go_wp2
  go_ret2
  exact hr.out
 ·replace hn := hide hn
  replace he := hide he
  rcases hk with rfl | rfl
  ·go_wp2_with fail
   refine (q2.out _ (hV.out.ext he.out)).mono ?_
   rintro e w2 ⟨⟨T, p, rfl⟩, he2⟩
   have hr := hbad.out z T p w2 hn.out (he.out.trans he2)
   replace hr := hide hr
   clear he2
   go_wp2
   go_ret2
   exact hr.out
  ·go_wp2_with fail
   refine (q1.out _ (hV.out.ext he.out)).mono ?_
   rintro e w2 ⟨⟨T, p, rfl⟩, he2⟩
   have hr := hbad.out z T p w2 hn.out (he.out.trans he2)
   replace hr := hide hr
   clear he2
   go_wp2
   go_ret2
   exact hr.out
theorem number16 (s : List UInt8) (w : World) (hD : Deb w) (hV : Vars w) (hs : s.length ≤ 1048576) :
  Calls Tryz.prog 139 #[.string ⟨s.toArray⟩, .int .i64 16, .int .i64 16] w (NumP 16 65535 s w) :=
 number_of 16 65535 16 (by decide) (by decide) s w (fun W h => PU16_any s W (hV.ext h) hs) fun u hu W h => Format16 u (by omega) W (hD.ext h)
open Go.RowKit Go.Sort
theorem spl_len (c : UInt8) (s : List UInt8) : ∀ x ∈ spl c s, x.length ≤ s.length := by
 refine spl_ind (P := fun s => ∀ x ∈ spl c s, x.length ≤ s.length) c (fun s h x hx => ?_) (fun a b h ih x hx => ?_) s.length s (Nat.le_refl _)
 ·rw [spl_no h] at hx
  rw [List.mem_singleton.1 hx]
  exact Nat.le_refl _
 ·rw [spl_at h] at hx
  rcases List.mem_cons.1 hx with rfl | hx
  ·simp
  ·have := ih x hx
   simp
   omega
theorem unpair_len : ∀ l : List Nat, (l.flatMap unpair).length = 2 * l.length
 | [] => rfl
 | n :: l => by rw [List.flatMap_cons, List.length_append, unpair_len l]; simp [unpair]; omega
theorem byte_new2 (w : World) (b1 b2 : UInt8) (t : TypeId) : ∀ j (hj : j < [b1, b2].length), (w.alloc (.cells #[.int .u8 (b1.toNat : Int), .int .u8 (b2.toNat : Int)] t)).cell? ((⟨w.heap.size, 0, none⟩ : Addr).add j) = some (.int .u8 ([b1, b2][j].toNat : Int)) := by
 intro j hj
 have hj2 : j < 2 := hj
 refine cells_new w #[.int .u8 (b1.toNat : Int), .int .u8 (b2.toNat : Int)] t j _ ?_
 match j, hj2 with
 | 0, _ => rfl
 | 1, _ => rfl
/-- What reading an address answers. -/
def AdP (s : List UInt8) (w : World) (e : Ending) (w' : World) : Prop := e = .returned (.tuple #[.string ⟨(addrC s).1.toArray⟩, .int .i64 (addrC s).2]) ∧ Ext w w'
theorem AdP.of {s a : List UInt8} {c : Int} {w W : World} (h : addrC s = (a, c)) (hE : Ext w W) : AdP s w (.returned (.tuple #[.string ⟨a.toArray⟩, .int .i64 c])) W := ⟨by rw [h], hE⟩
set_option maxRecDepth 20000 in
set_option maxHeartbeats 2000000 in
theorem AAddr4_any (s : List UInt8) (hs : s.length ≤ 1048576) (h4 : (spl 46 s).length = 4) (w : World) (hT : Tab w) (hV : Vars w) :
    Calls Tryz.prog 103 #[.string ⟨s.toArray⟩] w (AdP s w) := by
  have hS := Split_any s 46 w hV hs
  have hnum := fun (x : List UInt8) (hx : x ∈ spl 46 s) W (h : Ext w W) => number10_8 x W (hT.ext h) (hV.ext h) (Nat.le_trans (spl_len 46 s x hx) hs)
  have hC : addrC s = (match rdAll 10 255 (spl 46 s) with | some l => (l.map UInt8.ofNat, 0) | none => ([], 4)) := if_pos h4
  generalize spl 46 s = P at hS hnum hC h4
  replace hS := hide hS
  replace hnum := hide hnum
  replace hC := hide hC
  clear hT hV
  go_enter Tryz.func103, Tryz.ntmps103
  go_wp2_with fail
  refine hS.out.mono ?_
  rintro e w1 ⟨d, hd4, rfl, hEw, hc1⟩
  rw [h4] at hd4
  rw [h4]
  clear hS
  replace hc1 := hide hc1
  replace hEw := hide hEw
  replace hd4 := hd4
  generalize hg1 : w.heap.size = g1 at hc1
  go_wp2_with fail
  clear hg1
  go_loopw [4, 22] (fun v q wr => ∃ (k : Nat) (ns : List Nat), k ≤ 4 ∧ q = .int .i64 (k : Int) ∧ rdAll 10 255 (P.take k) = some ns ∧ ns.length = k ∧ OwnB 5 wr w1.heap.size v (ns.map UInt8.ofNat) ∧ Ext w1 wr) (fun _ q _ => 4 - (intOf q).toNat)
  case atStart => exact ⟨0, [], by omega, rfl, by rw [List.take_zero]; rfl, rfl, OwnB.nil, Ext.refl _⟩
  case round =>
    obtain ⟨k, ns, hk, rfl, hrd, hnl, hown, hE⟩ := hrel
    rename World => W0
    have hz0 := hE.size
    obtain ⟨vo, dd, rfl⟩ := hown.form
    have hlk : (ns.map UInt8.ofNat).length = k := by rw [List.length_map, hnl]
    rw [hlk] at hown ⊢
    replace hlk := hide hlk
    replace hE := hide hE
    replace hown := hide hown
    by_cases hlt : k < 4
    · have hkP : k < P.length := by omega
      have x0 : W0.cell? ⟨g1, k, none⟩ = some (.string ⟨(P[k]'hkP).toArray⟩) := hE.out.cell (hc1.out k hkP)
      have hn := hnum.out (P[k]'hkP) (List.getElem_mem hkP) W0 (hEw.out.trans hE.out)
      have hbad : rdN 10 255 (P[k]'hkP) = none → addrC s = ([], 4) := fun h => by rw [hC.out, rdAll_bad (List.getElem_mem hkP) h]
      have hnx := fun n (h : rdN 10 255 (P[k]'hkP) = some n) => rdAll_next hkP hrd h
      have hmost := fun n (h : rdN 10 255 (P[k]'hkP) = some n) => ((rdN_iff (b := 10) (by decide) (by decide)).1 h).1
      generalize (P[k]'hkP) = wd at x0 hn hbad hnx hmost
      replace hrd := hide hrd
      replace hnl := hide hnl
      cases hr : rdN 10 255 wd with
      | none =>
        have hb := hbad hr
        clear hbad hmost hnx
        replace hb := hide hb
        unfold NumP at hn
        rw [hr] at hn
        replace hn := hide hn
        replace hr := hide hr
        go_wp2_with fail
        refine hn.out.mono ?_
        rintro e w3 ⟨⟨z, rfl, _⟩, he3⟩
        have hE3 := hide (hEw.out.trans (hE.out.trans he3))
        clear he3
        go_wp2
        go_ret2
        exact AdP.of hb.out hE3.out
      | some n =>
        have hm := hmost n hr
        have hnx2 := hnx n hr
        clear hbad hmost hnx
        unfold NumP at hn
        rw [hr] at hn
        replace hn := hide hn
        replace hr := hide hr
        have hw8 : IntKind.u8.wrap (n : Int) = ((UInt8.ofNat n).toNat : Int) := by rw [IntKind.wrap_u8, UInt8.toNat_ofNat']; omega
        have hap : ns.map UInt8.ofNat ++ [UInt8.ofNat n] = (ns ++ [n]).map UInt8.ofNat := by simp
        generalize hu : UInt8.ofNat n = u at hw8 hap
        replace hu := hide hu
        replace hap := hide hap
        replace hnx2 := hide hnx2
        replace hm := hide hm
        go_wp2_with fail
        refine hn.out.mono ?_
        rintro e w3 ⟨⟨z, rfl, hz⟩, he3⟩
        obtain rfl := hz n rfl
        have hown3 := hide (hown.out.ext he3)
        have hE3 := hide (hE.out.trans he3)
        have hz3 := he3.size
        clear he3 hz
        go_wp2_with (at_builtin
                     have hox := hown3.out.alloc (Obj.cells #[.int .u8 (u.toNat : Int)] 5)
                     refine wpList_appendB rfl _ _ _ rfl okB8 okB8z rfl hox (by simp; omega) [u] rfl (by rw [hlk.out]; simp; omega) (byte_new _ _ _) ?_
                     intro v' w5 hown1 hg hat)
        go_roundw
        case rel => exact ⟨k + 1, ns ++ [n], by omega, by go_num, hnx2.out, by simp [hnl.out], by rw [← hap.out]; exact hown1, (hE3.out.alloc _).push (fun j hj => (hown3.out.lt j hj).1) hg⟩
        case measure => simp [intOf]; omega
    · obtain rfl : k = 4 := by omega
      rw [List.take_of_length_le (by omega)] at hrd
      have hfin : addrC s = (ns.map UInt8.ofNat, 0) := by rw [hC.out, hrd]
      have kd := run_stringB (P := Tryz.prog) (src := 148) (dst := 9) Tryz.underlying148 Tryz.underlying5 Tryz.underlying9 hown.out
      replace hfin := hide hfin
      replace hrd := hide hrd
      replace hnl := hide hnl
      go_wp2
      go_ret2
      exact AdP.of hfin.out (hEw.out.trans hE.out)
set_option maxRecDepth 20000 in
set_option maxHeartbeats 2000000 in
theorem AAddr16_any (s : List UInt8) (hs : s.length ≤ 1048576) (h4 : (spl 46 s).length ≠ 4) (w : World) (hD : Deb w) (hV : Vars w) :
    Calls Tryz.prog 103 #[.string ⟨s.toArray⟩] w (AdP s w) := by
  have hS := Split_any s 46 w hV hs
  have b4 : ((((spl 46 s).length : Nat) : Int) == 4) = false := by rw [beq_eq_false_iff_ne]; omega
  have hS2 := fun W (h : Ext w W) => Split_any s 58 W (hV.ext h) hs
  have hnum := fun (x : List UInt8) (hx : x ∈ spl 58 s) W (h : Ext w W) => number16 x W (hD.ext h) (hV.ext h) (Nat.le_trans (spl_len 58 s x hx) hs)
  by_cases h8 : (spl 58 s).length = 8
  · have hC : addrC s = (match rdAll 16 65535 (spl 58 s) with | some l => (l.flatMap unpair, 0) | none => ([], 4)) := by unfold addrC; rw [if_neg h4, if_pos h8]; cases rdAll 16 65535 (spl 58 s) <;> rfl
    generalize spl 46 s = P4 at b4 hS h4
    generalize spl 58 s = P at hS2 hnum hC h8
    replace hS := hide hS
    replace hS2 := hide hS2
    replace hnum := hide hnum
    replace hC := hide hC
    clear hD hV
    have h4' : ¬ P4.length = 4 := h4
    go_enter Tryz.func103, Tryz.ntmps103
    go_wp2_with fail
    refine hS.out.mono ?_
    rintro e w1 ⟨d, hd4, rfl, hEw1, _⟩
    replace hEw1 := hide hEw1
    go_wp2_with fail
    refine (hS2.out _ hEw1.out).mono ?_
    rintro e w2 ⟨d2, hd8, rfl, hEw2, hc1⟩
    have hEw := hide (hEw1.out.trans hEw2)
    clear hEw2 hEw1
    rw [h8] at hd8
    rw [h8]
    clear hS hS2
    replace hc1 := hide hc1
    generalize hg2 : w1.heap.size = g2 at hc1
    go_wp2_with fail
    clear hg2
    go_loopw [4, 48] (fun v q wr => ∃ (k : Nat) (ns : List Nat), k ≤ 8 ∧ q = .int .i64 (k : Int) ∧ rdAll 16 65535 (P.take k) = some ns ∧ ns.length = k ∧ OwnB 5 wr w2.heap.size v (ns.flatMap unpair) ∧ Ext w2 wr) (fun _ q _ => 8 - (intOf q).toNat)
    case atStart => exact ⟨0, [], by omega, rfl, by rw [List.take_zero]; rfl, rfl, OwnB.nil, Ext.refl _⟩
    case round =>
      obtain ⟨k, ns, hk, rfl, hrd, hnl, hown, hE⟩ := hrel
      rename World => W0
      have hz0 := hE.size
      obtain ⟨vo, dd, rfl⟩ := hown.form
      have hlk : (ns.flatMap unpair).length = 2 * k := by rw [unpair_len, hnl]
      rw [hlk] at hown ⊢
      replace hlk := hide hlk
      replace hE := hide hE
      replace hown := hide hown
      by_cases hlt : k < 8
      · have hkP : k < P.length := by omega
        have x0 : W0.cell? ⟨g2, k, none⟩ = some (.string ⟨(P[k]'hkP).toArray⟩) := hE.out.cell (hc1.out k hkP)
        have hn := hnum.out (P[k]'hkP) (List.getElem_mem hkP) W0 (hEw.out.trans hE.out)
        have hbad : rdN 16 65535 (P[k]'hkP) = none → addrC s = ([], 4) := fun h => by rw [hC.out, rdAll_bad (List.getElem_mem hkP) h]
        have hnx := fun n (h : rdN 16 65535 (P[k]'hkP) = some n) => rdAll_next hkP hrd h
        have hmost := fun n (h : rdN 16 65535 (P[k]'hkP) = some n) => ((rdN_iff (b := 16) (by decide) (by decide)).1 h).1
        generalize (P[k]'hkP) = wd at x0 hn hbad hnx hmost
        replace hrd := hide hrd
        replace hnl := hide hnl
        cases hr : rdN 16 65535 wd with
        | none =>
          have hb := hbad hr
          clear hbad hmost hnx
          replace hb := hide hb
          unfold NumP at hn
          rw [hr] at hn
          replace hn := hide hn
          replace hr := hide hr
          go_wp2_with fail
          refine hn.out.mono ?_
          rintro e w3 ⟨⟨z, rfl, _⟩, he3⟩
          have hE3 := hide (hEw.out.trans (hE.out.trans he3))
          clear he3
          go_wp2
          go_ret2
          exact AdP.of hb.out hE3.out
        | some n =>
          have hm := hmost n hr
          have hnx2 := hnx n hr
          clear hbad hmost hnx
          unfold NumP at hn
          rw [hr] at hn
          replace hn := hide hn
          replace hr := hide hr
          have hw8 : IntKind.u8.wrap (n : Int) = ((UInt8.ofNat n).toNat : Int) := by rw [IntKind.wrap_u8, UInt8.toNat_ofNat']; omega
          have hw9 : IntKind.u8.wrap ((n : Int) / 256) = ((UInt8.ofNat (n / 256)).toNat : Int) := by rw [IntKind.wrap_u8, UInt8.toNat_ofNat']; omega
          have hap : ns.flatMap unpair ++ [UInt8.ofNat (n / 256), UInt8.ofNat n] = (ns ++ [n]).flatMap unpair := by simp [unpair]
          generalize hu : UInt8.ofNat n = u at hw8 hap
          generalize hu2 : UInt8.ofNat (n / 256) = u2 at hw9 hap
          replace hu := hide hu
          replace hu2 := hide hu2
          replace hap := hide hap
          replace hnx2 := hide hnx2
          replace hm := hide hm
          go_wp2_with fail
          refine hn.out.mono ?_
          rintro e w3 ⟨⟨z, rfl, hz⟩, he3⟩
          obtain rfl := hz n rfl
          have hown3 := hide (hown.out.ext he3)
          have hE3 := hide (hE.out.trans he3)
          have hz3 := he3.size
          clear he3 hz
          go_wp2_with (at_builtin
                       have hox := hown3.out.alloc (Obj.cells #[.int .u8 (u2.toNat : Int), .int .u8 (u.toNat : Int)] 5)
                       refine wpList_appendB rfl _ _ _ rfl okB8 okB8z rfl hox (by simp; omega) [u2, u] rfl (by rw [hlk.out]; simp; omega) (byte_new2 _ _ _ _) ?_
                       intro v' w5 hown1 hg hat)
          go_roundw
          case rel => exact ⟨k + 1, ns ++ [n], by omega, by go_num, hnx2.out, by simp [hnl.out], by rw [← hap.out]; exact hown1, (hE3.out.alloc _).push (fun j hj => (hown3.out.lt j hj).1) hg⟩
          case measure => simp [intOf]; omega
      · obtain rfl : k = 8 := by omega
        rw [List.take_of_length_le (by omega)] at hrd
        have hfin : addrC s = (ns.flatMap unpair, 0) := by rw [hC.out, hrd]
        have kd := run_stringB (P := Tryz.prog) (src := 148) (dst := 9) Tryz.underlying148 Tryz.underlying5 Tryz.underlying9 hown.out
        replace hfin := hide hfin
        replace hrd := hide hrd
        replace hnl := hide hnl
        go_wp2
        go_ret2
        exact AdP.of hfin.out (hEw.out.trans hE.out)
  · have hC : addrC s = ([], 4) := by unfold addrC; rw [if_neg h4, if_neg h8]
    have b8 : ((((spl 58 s).length : Nat) : Int) != 8) = true := by rw [bne_iff_ne]; omega
    have h8' : ¬ (((spl 58 s).length : Nat) : Int) = 8 := by omega
    clear hnum
    generalize spl 46 s = P4 at b4 hS h4
    generalize spl 58 s = P8 at b8 hS2 h8 h8'
    replace hS := hide hS
    replace hS2 := hide hS2
    replace hC := hide hC
    clear hD hV
    go_enter Tryz.func103, Tryz.ntmps103
    go_wp2_with fail
    refine hS.out.mono ?_
    rintro e w1 ⟨d, hd4, rfl, hEw1, _⟩
    replace hEw1 := hide hEw1
    go_wp2_with fail
    refine (hS2.out _ hEw1.out).mono ?_
    rintro e w2 ⟨d2, hd8, rfl, hEw2, _⟩
    have hEw := hide (hEw1.out.trans hEw2)
    clear hEw2 hEw1
    go_wp2
    go_ret2
    exact AdP.of hC.out hEw.out
theorem AAddr_any (s : List UInt8) (hs : s.length ≤ 1048576) (w : World) (hT : Tab w) (hD : Deb w) (hV : Vars w) :
  Calls Tryz.prog 103 #[.string ⟨s.toArray⟩] w (AdP s w) := by
 by_cases h4 : (spl 46 s).length = 4
 ·exact AAddr4_any s hs h4 w hT hV
 ·exact AAddr16_any s hs h4 w hD hV
end
section
open Go.RowKit Go.Sort
set_option linter.unusedVariables false
set_option maxRecDepth 20000 in
set_option maxHeartbeats 4000000 in
theorem ACheck_4 (f R : Int) (rd : Nat) (hR : R = (rd : Int)) (a : List UInt8) (l : Int) (w : World) (hal : a.length ≤ 1048576) (hS : sizeS f = 4) :
  Calls Tryz.prog 144 #[.agg #[.int .i64 f, .int .u64 R, .string ⟨a.toArray⟩, .int .i64 l]] w fun e w' => e = .returned (.int .i64 (errP (MayP ⟨f, rd, a, l⟩))) ∧ Ext w w' := by
 have mixed : Tryz.prog.follows Departure.mixedOrders = true := by kernel_rfl
 have hbld : ∀ W, (Instr.build 70 #[]).run Tryz.prog W = .ok (.agg #[.int .i64 0, .int .u64 0, .string ⟨#[]⟩, .int .i64 0]) W := fun W => run_build W 70 _ _ (by kernel_rfl)
 have heg : ∀ x y xs ys W, (eqGuard .eql 70 x y (.agg xs) (.agg ys)).run Tryz.prog W = .ok () W := fun x y xs ys W => run_eqGuard_agg W .eql _ x y xs ys Tryz.eqGuardType70
 have hz : (ByteArray.mk a.toArray).size = a.length := by simp [ByteArray.size]
 have hf0 : f ≠ 0 := fun h => by rw [h] at hS; exact absurd hS (by decide)
 have heq : ∀ W, (binOp .eql 70 (.agg #[.int .i64 f, .int .u64 R, .string ⟨a.toArray⟩, .int .i64 l]) (.agg #[.int .i64 0, .int .u64 0, .string ⟨#[]⟩, .int .i64 0])).run Tryz.prog W = .ok (.bool false) W := fun W => by
  have := run_eqP W f 0 R 0 a [] l 0
  rw [decide_eq_false (fun h => hf0 h.1)] at this
  exact this
 have gw : IntKind.i64.wrap 32 = 32 := by decide
 replace hS := hide hS
 replace hR := hide hR
 by_cases h1 : (a.length : Int) ≠ 4
 ·have he : errP (MayP ⟨f, rd, a, l⟩) = 2 := if_neg (fun h => h1 (h.1.2.1.trans hS.out))
  rw [he]
  have b1 : ((a.length : Int) != 4) = true := by simpa using h1
  replace he := hide he
  replace h1 := hide h1
  go_enter Tryz.func144, Tryz.ntmps144
  go_wp2_with fail
  refine (ASize_any _ _).mono ?_
  rw [hS.out]
  rintro e w1 ⟨rfl, rfl⟩
  go_wp2
  go_quiet (fail)
  go_wp2
  go_ret
  exact ⟨rfl, ((Ext.refl _).alloc _).drewN _⟩
 have b1 : ((a.length : Int) != 4) = false := by simpa using h1
 by_cases h2 : l < 0
 ·have he : errP (MayP ⟨f, rd, a, l⟩) = 2 := if_neg (fun h => by have : 0 ≤ l := h.1.2.2.1; omega)
  rw [he]
  replace he := hide he
  replace h1 := hide h1
  go_enter Tryz.func144, Tryz.ntmps144
  go_wp2_with fail
  refine (ASize_any _ _).mono ?_
  rw [hS.out]
  rintro e w1 ⟨rfl, rfl⟩
  go_wp2
  go_quiet (fail)
  go_wp2
  go_ret
  exact ⟨rfl, ((Ext.refl _).alloc _).drewN _⟩
 have b2 : decide (l < 0) = false := by simpa using h2
 by_cases h3 : (32 : Int) < l
 ·have he : errP (MayP ⟨f, rd, a, l⟩) = 2 := if_neg (fun h => by have h4 : l ≤ 8 * sizeS f := h.1.2.2.2.1; rw [hS.out] at h4; omega)
  rw [he]
  have b3 : decide ((32 : Int) < l) = true := by simpa using h3
  replace he := hide he
  replace h1 := hide h1
  go_enter Tryz.func144, Tryz.ntmps144
  go_wp2_with fail
  refine (ASize_any _ _).mono ?_
  rw [hS.out]
  rintro e w1 ⟨rfl, rfl⟩
  go_wp2
  go_quiet (fail)
  go_wp2
  go_ret
  exact ⟨rfl, ((Ext.refl _).alloc _).drewN _⟩
 have b3 : decide ((32 : Int) < l) = false := by simpa using h3
 by_cases h4 : rd ≠ 0 ∧ apartS f = false
 ·have he : errP (MayP ⟨f, rd, a, l⟩) = 2 := if_neg (fun h => by rcases (h.1.2.2.2.2 : rd = 0 ∨ apartS f = true) with h5 | h5; exact h4.1 h5; rw [h4.2] at h5; cases h5)
  rw [he]
  have b4 : (R != 0) = true := by have := hR.out; have := h4.1; simp; omega
  have hap := h4.2
  replace he := hide he
  replace h1 := hide h1
  replace h4 := hide h4
  go_enter Tryz.func144, Tryz.ntmps144
  go_wp2_with fail
  refine (ASize_any _ _).mono ?_
  rw [hS.out]
  rintro e w1 ⟨rfl, rfl⟩
  go_wp2
  go_quiet ((go_at_call 171; exact quiet_apart _ _ _))
  go_wp2
  go_ret
  exact ⟨rfl, ((Ext.refl _).alloc _).drewN _⟩
 have h9 : rd = 0 ∨ apartS f = true := by
  by_cases h5 : rd = 0
  ·exact .inl h5
  ·exact .inr (by cases hh : apartS f with | true => rfl | false => exact absurd ⟨h5, hh⟩ h4)
 have hform : formP ⟨f, rd, a, l⟩ := ⟨by rw [hS.out]; decide, by rw [hS.out]; simpa using h1, by show 0 ≤ l; omega, by rw [hS.out]; show l ≤ _; omega, h9⟩
 have hmk := fun W => masked_any a l W (by omega) (by omega) (by omega) (by omega)
 have he : (a = maskS a l ∧ errP (MayP ⟨f, rd, a, l⟩) = 0) ∨ (maskS a l ≠ a ∧ errP (MayP ⟨f, rd, a, l⟩) = 2) := by
  by_cases hm : maskS a l = a
  ·exact .inl ⟨hm.symm, if_pos ⟨hform, hm⟩⟩
  ·exact .inr ⟨hm, if_neg fun h => hm h.2⟩
 generalize errP (MayP ⟨f, rd, a, l⟩) = E at he
 generalize maskS a l = t at he hmk
 replace h1 := hide h1
 replace h4 := hide h4
 replace hform := hide hform
 obtain ⟨k0, k1, k2, k3⟩ := regrown_cells w f R ⟨a.toArray⟩ l 70
 have cM : ∀ d os, Calls Tryz.prog 172 #[.string ⟨a.toArray⟩, .int .i64 l] (grow (redrawn (w.alloc (.cells #[.int .i64 f, .int .u64 R, .string ⟨a.toArray⟩, .int .i64 l] 70)) d) os) fun e w'' => e = .returned (.string ⟨t.toArray⟩) ∧ ∃ p : Regrown, w'' = grow (redrawn (w.alloc (.cells #[.int .i64 f, .int .u64 R, .string ⟨a.toArray⟩, .int .i64 l] 70)) p.d) p.os := fun d os => Calls.regrown_of (hmk _)
 have cP : ∀ d os, Calls Tryz.prog 171 #[.int .i64 f] (grow (redrawn (w.alloc (.cells #[.int .i64 f, .int .u64 R, .string ⟨a.toArray⟩, .int .i64 l] 70)) d) os) fun e w'' => e = .returned (.bool (apartS f)) ∧ ∃ p : Regrown, w'' = grow (redrawn (w.alloc (.cells #[.int .i64 f, .int .u64 R, .string ⟨a.toArray⟩, .int .i64 l] 70)) p.d) p.os := fun d os => regrown_same (Aapart_any _ _)
 clear hmk
 by_cases h5 : rd = 0
 ·obtain rfl : R = 0 := by rw [hR.out, h5]; rfl
  replace h5 := hide h5
  replace h9 := hide h9
  rcases he with ⟨rfl, rfl⟩ | ⟨hne, rfl⟩
  ·go_enter Tryz.func144, Tryz.ntmps144
   go_wp2_with fail
   refine (ASize_any _ _).mono ?_
   rw [hS.out]
   rintro e w1 ⟨rfl, rfl⟩
   go_wp2
   refine wp_region_quiet_below (by assumption) (by kernel_rfl) ?_
   repeat (quiet_step (first | exact cP _ _ | exact cM _ _))
   refine wpQuiet_nil ?_
   intro _ hw'
   obtain ⟨⟨dq, osq⟩, hw''⟩ := hw'
   subst hw''
   go_wp2
   go_ret
   exact ⟨rfl, ((Ext.refl _).alloc _).trans (below_regrown _ dq osq)⟩
  ·have b5 : (t == a) = false := beq_eq_false_iff_ne.2 hne
   have b6 : (t != a) = true := bne_iff_ne.2 hne
   replace hne := hide hne
   go_enter Tryz.func144, Tryz.ntmps144
   go_wp2_with fail
   refine (ASize_any _ _).mono ?_
   rw [hS.out]
   rintro e w1 ⟨rfl, rfl⟩
   go_wp2
   refine wp_region_quiet_below (by assumption) (by kernel_rfl) ?_
   repeat (quiet_step (first | exact cP _ _ | exact cM _ _))
   refine wpQuiet_nil ?_
   intro _ hw'
   obtain ⟨⟨dq, osq⟩, hw''⟩ := hw'
   subst hw''
   go_wp2
   go_ret
   exact ⟨rfl, ((Ext.refl _).alloc _).trans (below_regrown _ dq osq)⟩
 ·have b4 : (R != 0) = true := by have := hR.out; simp; omega
  have hap : apartS f = true := by rcases h9 with h | h; exact absurd h h5; exact h
  rw [hap] at cP
  replace h5 := hide h5
  replace h9 := hide h9
  rcases he with ⟨rfl, rfl⟩ | ⟨hne, rfl⟩
  ·go_enter Tryz.func144, Tryz.ntmps144
   go_wp2_with fail
   refine (ASize_any _ _).mono ?_
   rw [hS.out]
   rintro e w1 ⟨rfl, rfl⟩
   go_wp2
   refine wp_region_quiet_below (by assumption) (by kernel_rfl) ?_
   repeat (quiet_step (first | exact cP _ _ | exact cM _ _))
   refine wpQuiet_nil ?_
   intro _ hw'
   obtain ⟨⟨dq, osq⟩, hw''⟩ := hw'
   subst hw''
   go_wp2
   go_ret
   exact ⟨rfl, ((Ext.refl _).alloc _).trans (below_regrown _ dq osq)⟩
  ·have b5 : (t == a) = false := beq_eq_false_iff_ne.2 hne
   have b6 : (t != a) = true := bne_iff_ne.2 hne
   replace hne := hide hne
   go_enter Tryz.func144, Tryz.ntmps144
   go_wp2_with fail
   refine (ASize_any _ _).mono ?_
   rw [hS.out]
   rintro e w1 ⟨rfl, rfl⟩
   go_wp2
   refine wp_region_quiet_below (by assumption) (by kernel_rfl) ?_
   repeat (quiet_step (first | exact cP _ _ | exact cM _ _))
   refine wpQuiet_nil ?_
   intro _ hw'
   obtain ⟨⟨dq, osq⟩, hw''⟩ := hw'
   subst hw''
   go_wp2
   go_ret
   exact ⟨rfl, ((Ext.refl _).alloc _).trans (below_regrown _ dq osq)⟩
end
section
open Go.RowKit Go.Sort
set_option linter.unusedVariables false
set_option maxRecDepth 20000 in
set_option maxHeartbeats 4000000 in
theorem ACheck_16 (f R : Int) (rd : Nat) (hR : R = (rd : Int)) (a : List UInt8) (l : Int) (w : World) (hal : a.length ≤ 1048576) (hS : sizeS f = 16) :
  Calls Tryz.prog 144 #[.agg #[.int .i64 f, .int .u64 R, .string ⟨a.toArray⟩, .int .i64 l]] w fun e w' => e = .returned (.int .i64 (errP (MayP ⟨f, rd, a, l⟩))) ∧ Ext w w' := by
 have mixed : Tryz.prog.follows Departure.mixedOrders = true := by kernel_rfl
 have hbld : ∀ W, (Instr.build 70 #[]).run Tryz.prog W = .ok (.agg #[.int .i64 0, .int .u64 0, .string ⟨#[]⟩, .int .i64 0]) W := fun W => run_build W 70 _ _ (by kernel_rfl)
 have heg : ∀ x y xs ys W, (eqGuard .eql 70 x y (.agg xs) (.agg ys)).run Tryz.prog W = .ok () W := fun x y xs ys W => run_eqGuard_agg W .eql _ x y xs ys Tryz.eqGuardType70
 have hz : (ByteArray.mk a.toArray).size = a.length := by simp [ByteArray.size]
 have hf0 : f ≠ 0 := fun h => by rw [h] at hS; exact absurd hS (by decide)
 have heq : ∀ W, (binOp .eql 70 (.agg #[.int .i64 f, .int .u64 R, .string ⟨a.toArray⟩, .int .i64 l]) (.agg #[.int .i64 0, .int .u64 0, .string ⟨#[]⟩, .int .i64 0])).run Tryz.prog W = .ok (.bool false) W := fun W => by
  have := run_eqP W f 0 R 0 a [] l 0
  rw [decide_eq_false (fun h => hf0 h.1)] at this
  exact this
 have gw : IntKind.i64.wrap 128 = 128 := by decide
 replace hS := hide hS
 replace hR := hide hR
 by_cases h1 : (a.length : Int) ≠ 16
 ·have he : errP (MayP ⟨f, rd, a, l⟩) = 2 := if_neg (fun h => h1 (h.1.2.1.trans hS.out))
  rw [he]
  have b1 : ((a.length : Int) != 16) = true := by simpa using h1
  replace he := hide he
  replace h1 := hide h1
  go_enter Tryz.func144, Tryz.ntmps144
  go_wp2_with fail
  refine (ASize_any _ _).mono ?_
  rw [hS.out]
  rintro e w1 ⟨rfl, rfl⟩
  go_wp2
  go_quiet (fail)
  go_wp2
  go_ret
  exact ⟨rfl, ((Ext.refl _).alloc _).drewN _⟩
 have b1 : ((a.length : Int) != 16) = false := by simpa using h1
 by_cases h2 : l < 0
 ·have he : errP (MayP ⟨f, rd, a, l⟩) = 2 := if_neg (fun h => by have : 0 ≤ l := h.1.2.2.1; omega)
  rw [he]
  replace he := hide he
  replace h1 := hide h1
  go_enter Tryz.func144, Tryz.ntmps144
  go_wp2_with fail
  refine (ASize_any _ _).mono ?_
  rw [hS.out]
  rintro e w1 ⟨rfl, rfl⟩
  go_wp2
  go_quiet (fail)
  go_wp2
  go_ret
  exact ⟨rfl, ((Ext.refl _).alloc _).drewN _⟩
 have b2 : decide (l < 0) = false := by simpa using h2
 by_cases h3 : (128 : Int) < l
 ·have he : errP (MayP ⟨f, rd, a, l⟩) = 2 := if_neg (fun h => by have h4 : l ≤ 8 * sizeS f := h.1.2.2.2.1; rw [hS.out] at h4; omega)
  rw [he]
  have b3 : decide ((128 : Int) < l) = true := by simpa using h3
  replace he := hide he
  replace h1 := hide h1
  go_enter Tryz.func144, Tryz.ntmps144
  go_wp2_with fail
  refine (ASize_any _ _).mono ?_
  rw [hS.out]
  rintro e w1 ⟨rfl, rfl⟩
  go_wp2
  go_quiet (fail)
  go_wp2
  go_ret
  exact ⟨rfl, ((Ext.refl _).alloc _).drewN _⟩
 have b3 : decide ((128 : Int) < l) = false := by simpa using h3
 by_cases h4 : rd ≠ 0 ∧ apartS f = false
 ·have he : errP (MayP ⟨f, rd, a, l⟩) = 2 := if_neg (fun h => by rcases (h.1.2.2.2.2 : rd = 0 ∨ apartS f = true) with h5 | h5; exact h4.1 h5; rw [h4.2] at h5; cases h5)
  rw [he]
  have b4 : (R != 0) = true := by have := hR.out; have := h4.1; simp; omega
  have hap := h4.2
  replace he := hide he
  replace h1 := hide h1
  replace h4 := hide h4
  go_enter Tryz.func144, Tryz.ntmps144
  go_wp2_with fail
  refine (ASize_any _ _).mono ?_
  rw [hS.out]
  rintro e w1 ⟨rfl, rfl⟩
  go_wp2
  go_quiet ((go_at_call 171; exact quiet_apart _ _ _))
  go_wp2
  go_ret
  exact ⟨rfl, ((Ext.refl _).alloc _).drewN _⟩
 have h9 : rd = 0 ∨ apartS f = true := by
  by_cases h5 : rd = 0
  ·exact .inl h5
  ·exact .inr (by cases hh : apartS f with | true => rfl | false => exact absurd ⟨h5, hh⟩ h4)
 have hform : formP ⟨f, rd, a, l⟩ := ⟨by rw [hS.out]; decide, by rw [hS.out]; simpa using h1, by show 0 ≤ l; omega, by rw [hS.out]; show l ≤ _; omega, h9⟩
 have hmk := fun W => masked_any a l W (by omega) (by omega) (by omega) (by omega)
 have he : (a = maskS a l ∧ errP (MayP ⟨f, rd, a, l⟩) = 0) ∨ (maskS a l ≠ a ∧ errP (MayP ⟨f, rd, a, l⟩) = 2) := by
  by_cases hm : maskS a l = a
  ·exact .inl ⟨hm.symm, if_pos ⟨hform, hm⟩⟩
  ·exact .inr ⟨hm, if_neg fun h => hm h.2⟩
 generalize errP (MayP ⟨f, rd, a, l⟩) = E at he
 generalize maskS a l = t at he hmk
 replace h1 := hide h1
 replace h4 := hide h4
 replace hform := hide hform
 obtain ⟨k0, k1, k2, k3⟩ := regrown_cells w f R ⟨a.toArray⟩ l 70
 have cM : ∀ d os, Calls Tryz.prog 172 #[.string ⟨a.toArray⟩, .int .i64 l] (grow (redrawn (w.alloc (.cells #[.int .i64 f, .int .u64 R, .string ⟨a.toArray⟩, .int .i64 l] 70)) d) os) fun e w'' => e = .returned (.string ⟨t.toArray⟩) ∧ ∃ p : Regrown, w'' = grow (redrawn (w.alloc (.cells #[.int .i64 f, .int .u64 R, .string ⟨a.toArray⟩, .int .i64 l] 70)) p.d) p.os := fun d os => Calls.regrown_of (hmk _)
 have cP : ∀ d os, Calls Tryz.prog 171 #[.int .i64 f] (grow (redrawn (w.alloc (.cells #[.int .i64 f, .int .u64 R, .string ⟨a.toArray⟩, .int .i64 l] 70)) d) os) fun e w'' => e = .returned (.bool (apartS f)) ∧ ∃ p : Regrown, w'' = grow (redrawn (w.alloc (.cells #[.int .i64 f, .int .u64 R, .string ⟨a.toArray⟩, .int .i64 l] 70)) p.d) p.os := fun d os => regrown_same (Aapart_any _ _)
 clear hmk
 by_cases h5 : rd = 0
 ·obtain rfl : R = 0 := by rw [hR.out, h5]; rfl
  replace h5 := hide h5
  replace h9 := hide h9
  rcases he with ⟨rfl, rfl⟩ | ⟨hne, rfl⟩
  ·go_enter Tryz.func144, Tryz.ntmps144
   go_wp2_with fail
   refine (ASize_any _ _).mono ?_
   rw [hS.out]
   rintro e w1 ⟨rfl, rfl⟩
   go_wp2
   refine wp_region_quiet_below (by assumption) (by kernel_rfl) ?_
   repeat (quiet_step (first | exact cP _ _ | exact cM _ _))
   refine wpQuiet_nil ?_
   intro _ hw'
   obtain ⟨⟨dq, osq⟩, hw''⟩ := hw'
   subst hw''
   go_wp2
   go_ret
   exact ⟨rfl, ((Ext.refl _).alloc _).trans (below_regrown _ dq osq)⟩
  ·have b5 : (t == a) = false := beq_eq_false_iff_ne.2 hne
   have b6 : (t != a) = true := bne_iff_ne.2 hne
   replace hne := hide hne
   go_enter Tryz.func144, Tryz.ntmps144
   go_wp2_with fail
   refine (ASize_any _ _).mono ?_
   rw [hS.out]
   rintro e w1 ⟨rfl, rfl⟩
   go_wp2
   refine wp_region_quiet_below (by assumption) (by kernel_rfl) ?_
   repeat (quiet_step (first | exact cP _ _ | exact cM _ _))
   refine wpQuiet_nil ?_
   intro _ hw'
   obtain ⟨⟨dq, osq⟩, hw''⟩ := hw'
   subst hw''
   go_wp2
   go_ret
   exact ⟨rfl, ((Ext.refl _).alloc _).trans (below_regrown _ dq osq)⟩
 ·have b4 : (R != 0) = true := by have := hR.out; simp; omega
  have hap : apartS f = true := by rcases h9 with h | h; exact absurd h h5; exact h
  rw [hap] at cP
  replace h5 := hide h5
  replace h9 := hide h9
  rcases he with ⟨rfl, rfl⟩ | ⟨hne, rfl⟩
  ·go_enter Tryz.func144, Tryz.ntmps144
   go_wp2_with fail
   refine (ASize_any _ _).mono ?_
   rw [hS.out]
   rintro e w1 ⟨rfl, rfl⟩
   go_wp2
   refine wp_region_quiet_below (by assumption) (by kernel_rfl) ?_
   repeat (quiet_step (first | exact cP _ _ | exact cM _ _))
   refine wpQuiet_nil ?_
   intro _ hw'
   obtain ⟨⟨dq, osq⟩, hw''⟩ := hw'
   subst hw''
   go_wp2
   go_ret
   exact ⟨rfl, ((Ext.refl _).alloc _).trans (below_regrown _ dq osq)⟩
  ·have b5 : (t == a) = false := beq_eq_false_iff_ne.2 hne
   have b6 : (t != a) = true := bne_iff_ne.2 hne
   replace hne := hide hne
   go_enter Tryz.func144, Tryz.ntmps144
   go_wp2_with fail
   refine (ASize_any _ _).mono ?_
   rw [hS.out]
   rintro e w1 ⟨rfl, rfl⟩
   go_wp2
   refine wp_region_quiet_below (by assumption) (by kernel_rfl) ?_
   repeat (quiet_step (first | exact cP _ _ | exact cM _ _))
   refine wpQuiet_nil ?_
   intro _ hw'
   obtain ⟨⟨dq, osq⟩, hw''⟩ := hw'
   subst hw''
   go_wp2
   go_ret
   exact ⟨rfl, ((Ext.refl _).alloc _).trans (below_regrown _ dq osq)⟩
end
end Go.Proofs.YtljibkfbldjgdaaGreatDoor
