/- Chapter 16, plain: conditions, actions, terms, policies; which may be; how they lie in memory. Chapter 16, plain: a term's text by its words. Chapter 16, plain: a term read of its words. Chapter 16, plain: which sets a policy names; may it be, by sets. What is asked of Go's library: a number as digits. The table of powers of ten is a premise on the world. Walks: slices.Index, slices.Contains at uint32; aspath.Check and its answer by the document; lengths. Walks: aspath.Check, lengths. Walks: are two the same? slices.Equal, slices.EqualFunc, aspath.Same; the document's Same. Walks: paths in memory of one's own. A law of regions that draw their order: a fact that every operation keeps holds at the end; the frame is the one of the text's order. A region that draws its order and makes memory, met by one word for each of its operations. A region that draws its order and makes memory, met by o -/
import Derived.Lib.SplitLaws
import Derived.Lib.ParseIntB
import Derived.Lib.ParseIntBCases
import Derived.Lib.ItoaNum
import Derived.Lib.Join
import Derived.WalkKit
import Derived.Below
import Derived.Outline
import Derived.LoopTactic
import Derived.Laws.OwnMore
import Derived.Deep.AppendLies
import Derived.Deep.Draws
import Derived.Lib.Hide
import Derived.BigQuiet
import Derived.Deep.QuietTactic
import Derived.WalkSpells
import Derived.WalkLawsBesides
import Derived.Deep.RegionHeld3
import Derived.Deep.DrawnRows
import Derived.Deep.RegionLaw
import Derived.Lib.ConvBytes
import Derived.Lib.Bytealg
import Derived.Lib.Small
import Derived.Test.YtljibkfbldjgdaaGreatDoorRows
import Derived.ProofKit
import Derived.Deep.Slices
import Derived.Shelf.GgClosure.StringsRunes
import Derived.Test.YtljibkfbldjgdaaGreatDoorProg
import Derived.Test.YtljibkfbldjgdaaGreatDoorShelf
import Derived.Orders
import Derived.StillTail
import Derived.Test.YtljibkfbldjgdaaGreatDoorShelf2
import Derived.Lib.UnsafeStr
import Derived.Test.YtljibkfbldjgdaaGreatDoorPZ01
namespace Go.Proofs.YtljibkfbldjgdaaGreatDoor
section
section
open Go.RowKit
set_option linter.unusedVariables false
/-- A condition. -/
structure CondS where
  kind : Int
  neg : Bool
  name : List UInt8
  n : Int
/-- An action. -/
structure ActS where
  kind : Int
  name : List UInt8
  n : UInt32
  addr : List UInt8
structure TermS where
  conds : List CondS
  acts : List ActS
structure PolS where
  name : List UInt8
  terms : List TermS
  els : Bool
def condCs (c : CondS) : List Value := [.int .i64 c.kind, .bool c.neg, .string ⟨c.name.toArray⟩, .int .i64 c.n]
structure CondIn (c : CondS) : Prop where
  kind : i64 c.kind
  name : c.name.length ≤ 1048576
  n : i64 c.n
def actCs (a : ActS) : List Value := [.int .i64 a.kind, .string ⟨a.name.toArray⟩, .int .u32 (a.n.toNat : Int), .string ⟨a.addr.toArray⟩]
structure ActIn (a : ActS) : Prop where
  kind : i64 a.kind
  name : a.name.length ≤ 1048576
  addr : a.addr.length ≤ 1048576
def ECond : Enc CondS := Enc.cells condCs CondIn 4 (fun _ => rfl) (fun x u hu => by simp only [condCs, List.mem_cons, List.not_mem_nil, or_false] at hu; rcases hu with rfl | rfl | rfl | rfl <;> rfl)
def EAct : Enc ActS := Enc.cells actCs ActIn 4 (fun _ => rfl) (fun x u hu => by simp only [actCs, List.mem_cons, List.not_mem_nil, or_false] at hu; rcases hu with rfl | rfl | rfl | rfl <;> rfl)
def ETerm : Enc TermS := (ECond.slice.pair EAct.slice).map fun t => (t.conds, t.acts)
theorem ECond.of {w : World} {S : Nat → Prop} {x : CondS} {cs : List Value} (h : ((EI64.pair (EBool.pair (EByt.pair EI64))).map fun c : CondS => (c.kind, c.neg, c.name, c.n)).R w S x cs) : ECond.R w S x cs := by
 obtain ⟨c, d, rfl, ⟨rfl, h1⟩, c, d, rfl, ⟨rfl, _⟩, c, d, rfl, ⟨rfl, h2⟩, ⟨rfl, h3⟩⟩ := h
 exact ⟨rfl, h1, h2, h3⟩
theorem EAct.of {w : World} {S : Nat → Prop} {x : ActS} {cs : List Value} (h : ((EI64.pair (EByt.pair (EU32.pair EByt))).map fun a : ActS => (a.kind, a.name, a.n, a.addr)).R w S x cs) : EAct.R w S x cs := by
 obtain ⟨c, d, rfl, ⟨rfl, h1⟩, c, d, rfl, ⟨rfl, h2⟩, c, d, rfl, ⟨rfl, _⟩, ⟨rfl, h3⟩⟩ := h
 exact ⟨rfl, h1, h2, h3⟩
theorem ECond.at {w : World} {S : Nat → Prop} {a : Option Addr} {l : List CondS} (h : Sl ECond w S a l) (k : Nat) (hk : k < l.length) :
  ∃ b off, a = some ⟨b, off, none⟩ ∧ S b ∧ CondIn l[k] ∧ ∀ j u, (condCs l[k])[j]? = some u → w.cell? ⟨b, off + k * 4 + j, none⟩ = some u := by
 obtain ⟨b, off, cs, rfl, hb, ⟨rfl, hi⟩, hc⟩ := h.at k hk
 exact ⟨b, off, rfl, hb, hi, hc⟩
theorem EAct.at {w : World} {S : Nat → Prop} {a : Option Addr} {l : List ActS} (h : Sl EAct w S a l) (k : Nat) (hk : k < l.length) :
  ∃ b off, a = some ⟨b, off, none⟩ ∧ S b ∧ ActIn l[k] ∧ ∀ j u, (actCs l[k])[j]? = some u → w.cell? ⟨b, off + k * 4 + j, none⟩ = some u := by
 obtain ⟨b, off, cs, rfl, hb, ⟨rfl, hi⟩, hc⟩ := h.at k hk
 exact ⟨b, off, rfl, hb, hi, hc⟩
theorem ETerm.at {w : World} {S : Nat → Prop} {a : Option Addr} {l : List TermS} (h : Sl ETerm w S a l) (k : Nat) (hk : k < l.length) :
    ∃ b off a1 c1 a2 c2, a = some ⟨b, off, none⟩ ∧ S b ∧ w.cell? ⟨b, off + k * 2, none⟩ = some (.slice a1 l[k].conds.length c1) ∧ w.cell? ⟨b, off + k * 2 + 1, none⟩ = some (.slice a2 l[k].acts.length c2) ∧
      l[k].conds.length ≤ 16777216 ∧ Sl ECond w S a1 l[k].conds ∧ l[k].acts.length ≤ 16777216 ∧ Sl EAct w S a2 l[k].acts := by
  obtain ⟨b, off, cs, rfl, hb, ⟨c, d, rfl, ⟨a1, c1, rfl, n1, s1⟩, ⟨a2, c2, rfl, n2, s2⟩⟩, hc⟩ := h.at k hk
  exact ⟨b, off, a1, c1, a2, c2, rfl, hb, hc 0 _ rfl, hc 1 _ rfl, n1, s1, n2, s2⟩
/-- May a condition be? -/
def condOk (c : CondS) : Bool :=
 if c.kind = 1 ∨ c.kind = 2 ∨ c.kind = 3 ∨ c.kind = 4 then nameOk c.name && decide (c.n = 0)
 else if c.kind = 5 then decide (0 ≤ c.n ∧ c.n ≤ 2) && decide (c.name = [])
 else if c.kind = 6 then decide (0 ≤ c.n ∧ c.n ≤ 65535) && decide (c.name = [])
 else if c.kind = 7 then decide (1 ≤ c.n ∧ c.n ≤ 5) && decide (c.name = [])
 else false
/-- May an action be? -/
def actOk (a : ActS) : Bool :=
 if a.kind = 1 ∨ a.kind = 2 ∨ a.kind = 5 then decide (a.name = []) && (decide (a.n = 0) && decide (a.addr = []))
 else if a.kind = 3 ∨ a.kind = 4 ∨ a.kind = 6 then decide (a.name = []) && decide (a.addr = [])
 else if a.kind = 7 then nameOk a.name && (decide (a.n = 0) && decide (a.addr = []))
 else if a.kind = 8 then decide (1 ≤ a.n.toNat ∧ a.n.toNat ≤ 8) && (decide (a.name = []) && decide (a.addr = []))
 else if a.kind = 9 then decide (a.addr.length = 4 ∨ a.addr.length = 16) && (decide (a.name = []) && decide (a.n = 0))
 else if a.kind = 10 then decide (a.n.toNat ≤ 2) && (decide (a.name = []) && decide (a.addr = []))
 else false
def endsA (a : ActS) : Bool := decide (a.kind = 1) || decide (a.kind = 2)
def termOk (t : TermS) : Bool := decide (t.conds.length ≤ 64) && (decide (1 ≤ t.acts.length ∧ t.acts.length ≤ 64) && (t.conds.all condOk && (t.acts.all actOk && t.acts.dropLast.all (fun a => !endsA a))))
def polOk (p : PolS) : Bool := nameOk p.name && (decide (p.terms.length ≤ 64) && p.terms.all termOk)
/-- Texts. -/
def originT (n : Int) : List UInt8 := if n = 0 then [105, 103, 112] else if n = 1 then [101, 103, 112] else [105, 110, 99, 111, 109, 112, 108, 101, 116, 101]
def condW (c : CondS) : List UInt8 :=
 if c.kind = 1 then [112, 114, 101, 102, 105, 120, 32] ++ c.name
 else if c.kind = 2 then [99, 111, 109, 109, 32] ++ c.name
 else if c.kind = 3 then [112, 97, 116, 104, 32] ++ c.name
 else if c.kind = 4 then [112, 101, 101, 114, 32] ++ c.name
 else if c.kind = 5 then [111, 114, 105, 103, 105, 110, 32] ++ originT c.n
 else if c.kind = 6 then [108, 101, 110, 103, 116, 104, 32] ++ digS 10 c.n.toNat
 else if c.kind = 7 then [102, 97, 109, 32] ++ nameS c.n
 else []
def condT (c : CondS) : List UInt8 := (if c.neg = true then [110, 111, 116, 32] else []) ++ condW c
/-- A community's text. -/
def commT (c : UInt32) : List UInt8 :=
 if c.toNat = 4294967041 then [110, 111, 45, 101, 120, 112, 111, 114, 116]
 else if c.toNat = 4294967042 then [110, 111, 45, 97, 100, 118, 101, 114, 116, 105, 115, 101]
 else if c.toNat = 4294967043 then [110, 111, 45, 101, 120, 112, 111, 114, 116, 45, 115, 117, 98, 99, 111, 110, 102, 101, 100]
 else digS 10 (c.toNat / 65536) ++ (58 :: digS 10 (c.toNat % 65536))
def actT (a : ActS) : List UInt8 :=
 if a.kind = 1 then [97, 99, 99, 101, 112, 116]
 else if a.kind = 2 then [114, 101, 106, 101, 99, 116]
 else if a.kind = 5 then [110, 111, 45, 109, 101, 100]
 else if a.kind = 3 then [112, 114, 101, 102, 32] ++ digS 10 a.n.toNat
 else if a.kind = 4 then [109, 101, 100, 32] ++ digS 10 a.n.toNat
 else if a.kind = 6 then [97, 100, 100, 32] ++ commT a.n
 else if a.kind = 7 then [100, 101, 108, 32] ++ a.name
 else if a.kind = 8 then [112, 114, 101, 112, 101, 110, 100, 32] ++ digS 10 a.n.toNat
 else if a.kind = 9 then [110, 101, 120, 116, 32] ++ (addrT a.addr).1
 else [111, 114, 105, 103, 105, 110, 32] ++ originT a.n.toNat
def termW (t : TermS) : List UInt8 :=
 (if t.conds = [] then [] else [105, 102, 32] ++ (Lib.join (t.conds.map condT) [32, 97, 110, 100, 32] ++ [32])) ++ ([116, 104, 101, 110, 32] ++ Lib.join (t.acts.map actT) [32, 97, 110, 100, 32])
/-- A term's text, and what is wrong. -/
def termT (t : TermS) : List UInt8 × Int := if termOk t = true then (termW t, 0) else ([], 2)
/-- The law's small term. -/
def smallTerm : TermS := ⟨[⟨1, false, [97], 0⟩, ⟨5, true, [], 0⟩], [⟨3, [], 200, []⟩, ⟨1, [], 0, []⟩]⟩
def smallText : List UInt8 := [105, 102, 32, 112, 114, 101, 102, 105, 120, 32, 97, 32, 97, 110, 100, 32, 110, 111, 116, 32, 111, 114, 105, 103, 105, 110, 32, 105, 103, 112, 32, 116, 104, 101, 110, 32, 112, 114, 101, 102, 32, 50, 48, 48, 32, 97, 110, 100, 32, 97, 99, 99, 101, 112, 116]
theorem small_ok : termOk smallTerm = true := by decide +kernel
theorem small_t : termT smallTerm = (smallText, 0) := by decide +kernel
end
section
open Go.RowKit
set_option linter.unusedVariables false
theorem join_app (xs ys : List (List UInt8)) (sep : List UInt8) (hx : xs ≠ []) (hy : ys ≠ []) : Lib.join (xs ++ ys) sep = Lib.join xs sep ++ sep ++ Lib.join ys sep := by
  induction xs with
  | nil => exact absurd rfl hx
  | cons x r ih =>
    cases r with
    | nil =>
      obtain ⟨y, s, rfl⟩ := List.exists_cons_of_ne_nil hy
      rw [List.singleton_append, join_two, Lib.join_one]
    | cons z q =>
      rw [List.cons_append, List.cons_append, join_two, join_two, ← List.cons_append, ih (by simp)]
      simp
/-- Words with 'and' between. -/
def sepW : List (List (List UInt8)) → List (List UInt8)
 | [] => []
 | [x] => x
 | x :: y :: r => x ++ ([97, 110, 100] :: sepW (y :: r))
theorem sepW_ne : ∀ (l : List (List (List UInt8))), l ≠ [] → (∀ x ∈ l, x ≠ []) → sepW l ≠ []
  | [], h, _ => absurd rfl h
  | [x], _, h => h x (by simp)
  | x :: y :: r, _, h => by
    unfold sepW
    simp
theorem join_sep : ∀ (l : List (List (List UInt8))), (∀ x ∈ l, x ≠ []) → Lib.join (l.map fun x => Lib.join x [32]) [32, 97, 110, 100, 32] = Lib.join (sepW l) [32]
  | [], _ => rfl
  | [x], _ => by simp [sepW, Lib.join_one]
  | x :: y :: r, h => by
    have ih := join_sep (y :: r) (fun z hz => h z (by simp [hz]))
    have hn := sepW_ne (y :: r) (by simp) (fun z hz => h z (by simp [hz]))
    have ih' : Lib.join (Lib.join y [32] :: r.map fun x => Lib.join x [32]) [32, 97, 110, 100, 32] = Lib.join (sepW (y :: r)) [32] := ih
    rw [List.map_cons, List.map_cons, join_two, ih']
    show _ = Lib.join (x ++ ([97, 110, 100] :: sepW (y :: r))) [32]
    obtain ⟨w, q, hw⟩ := List.exists_cons_of_ne_nil hn
    rw [join_app _ _ _ (h x (by simp)) (by simp), hw, join_two, ← hw]
    simp
def kindW (k : Int) : List UInt8 :=
 if k = 1 then [112, 114, 101, 102, 105, 120] else if k = 2 then [99, 111, 109, 109] else if k = 3 then [112, 97, 116, 104] else if k = 4 then [112, 101, 101, 114] else if k = 5 then [111, 114, 105, 103, 105, 110] else if k = 6 then [108, 101, 110, 103, 116, 104] else [102, 97, 109]
def condA (c : CondS) : List UInt8 := if c.kind = 5 then originT c.n else if c.kind = 6 then digS 10 c.n.toNat else if c.kind = 7 then nameS c.n else c.name
def condWs (c : CondS) : List (List UInt8) := (if c.neg = true then [[110, 111, 116]] else []) ++ [kindW c.kind, condA c]
theorem condWs_ne (c : CondS) : condWs c ≠ [] := by unfold condWs; simp
theorem condT_ws (c : CondS) (h : condOk c = true) : condT c = Lib.join (condWs c) [32] := by
 have hk : c.kind = 1 ∨ c.kind = 2 ∨ c.kind = 3 ∨ c.kind = 4 ∨ c.kind = 5 ∨ c.kind = 6 ∨ c.kind = 7 := by
  unfold condOk at h
  by_cases h1 : c.kind = 1 ∨ c.kind = 2 ∨ c.kind = 3 ∨ c.kind = 4
  ·omega
  ·rw [if_neg h1] at h
   by_cases h5 : c.kind = 5
   ·omega
   ·rw [if_neg h5] at h
    by_cases h6 : c.kind = 6
    ·omega
    ·rw [if_neg h6] at h
     by_cases h7 : c.kind = 7
     ·omega
     ·rw [if_neg h7] at h; cases h
 unfold condT condWs condW kindW condA
 rcases hk with h | h | h | h | h | h | h <;> rw [h] <;> cases c.neg <;> simp [join_two, Lib.join_one]
def actWs (a : ActS) : List (List UInt8) :=
 if a.kind = 1 then [[97, 99, 99, 101, 112, 116]]
 else if a.kind = 2 then [[114, 101, 106, 101, 99, 116]]
 else if a.kind = 5 then [[110, 111, 45, 109, 101, 100]]
 else if a.kind = 3 then [[112, 114, 101, 102], digS 10 a.n.toNat]
 else if a.kind = 4 then [[109, 101, 100], digS 10 a.n.toNat]
 else if a.kind = 6 then [[97, 100, 100], commT a.n]
 else if a.kind = 7 then [[100, 101, 108], a.name]
 else if a.kind = 8 then [[112, 114, 101, 112, 101, 110, 100], digS 10 a.n.toNat]
 else if a.kind = 9 then [[110, 101, 120, 116], (addrT a.addr).1]
 else [[111, 114, 105, 103, 105, 110], originT a.n.toNat]
theorem actWs_ne (a : ActS) : actWs a ≠ [] := by
 unfold actWs
 repeat (split; exact List.cons_ne_nil _ _)
 exact List.cons_ne_nil _ _
theorem actT_ws (a : ActS) : actT a = Lib.join (actWs a) [32] := by
 unfold actT actWs
 repeat (split; simp [join_two, Lib.join_one])
 simp [join_two, Lib.join_one]
def termWs (t : TermS) : List (List UInt8) := (if t.conds = [] then [] else [105, 102] :: sepW (t.conds.map condWs)) ++ ([116, 104, 101, 110] :: sepW (t.acts.map actWs))
theorem termW_ws (t : TermS) (h : termOk t = true) : termW t = Lib.join (termWs t) [32] := by
 unfold termOk at h
 simp only [Bool.and_eq_true, decide_eq_true_eq] at h
 obtain ⟨_, ⟨h1, _⟩, hc, _, _⟩ := h
 have hcs : t.conds.map condT = (t.conds.map condWs).map fun x => Lib.join x [32] := by
  rw [List.map_map]
  exact List.map_congr_left fun c hm => condT_ws c (List.all_eq_true.1 hc c hm)
 have has : t.acts.map actT = (t.acts.map actWs).map fun x => Lib.join x [32] := by
  rw [List.map_map]
  exact List.map_congr_left fun a _ => actT_ws a
 have ha : sepW (t.acts.map actWs) ≠ [] := sepW_ne _ (by intro e; rw [List.map_eq_nil_iff] at e; rw [e] at h1; simp at h1) (fun x hx => by obtain ⟨a, _, rfl⟩ := List.mem_map.1 hx; exact actWs_ne a)
 have hthen : [116, 104, 101, 110, 32] ++ Lib.join (t.acts.map actT) [32, 97, 110, 100, 32] = Lib.join ([116, 104, 101, 110] :: sepW (t.acts.map actWs)) [32] := by
  rw [has, join_sep _ (fun x hx => by obtain ⟨a, _, rfl⟩ := List.mem_map.1 hx; exact actWs_ne a)]
  obtain ⟨w, q, hw⟩ := List.exists_cons_of_ne_nil ha
  rw [hw, join_two]
  simp
 unfold termW termWs
 rw [hthen]
 by_cases hn : t.conds = []
 ·rw [if_pos hn, if_pos hn, List.nil_append, List.nil_append]
 ·rw [if_neg hn, if_neg hn, hcs, join_sep _ (fun x hx => by obtain ⟨c, _, rfl⟩ := List.mem_map.1 hx; exact condWs_ne c)]
  have hs : sepW (t.conds.map condWs) ≠ [] := sepW_ne _ (by intro e; rw [List.map_eq_nil_iff] at e; exact hn e) (fun x hx => by obtain ⟨c, _, rfl⟩ := List.mem_map.1 hx; exact condWs_ne c)
  obtain ⟨w, q, hw⟩ := List.exists_cons_of_ne_nil hs
  rw [join_app _ _ _ (by simp) (by simp), hw, join_two, ← hw]
  simp
theorem name_no {s : List UInt8} (h : nameOk s = true) : (32 : UInt8) ∉ s := fun hm => by
 unfold nameOk at h
 simp only [Bool.and_eq_true] at h
 have := List.all_eq_true.1 h.2.2.2 32 hm
 revert this
 decide
theorem dig_no (n : Nat) : (32 : UInt8) ∉ digS 10 n := digS_no (by decide) (by decide) n 32 (by decide)
theorem origin_no (n : Int) : (32 : UInt8) ∉ originT n := by
 unfold originT
 split
 ·decide
 ·split <;> decide
theorem comm_no (c : UInt32) : (32 : UInt8) ∉ commT c := by
 unfold commT
 split
 ·decide
 ·split
  ·decide
  ·split
   ·decide
   ·intro h
    rcases List.mem_append.1 h with h | h
    ·exact dig_no _ h
    ·rcases List.mem_cons.1 h with h | h
     ·revert h; decide
     ·exact dig_no _ h
theorem fam_no (n : Int) : (32 : UInt8) ∉ nameS n := by
 unfold nameS
 repeat (split; decide)
 decide
theorem kind_no (k : Int) : (32 : UInt8) ∉ kindW k := by
 unfold kindW
 repeat (split; decide)
 decide
theorem condWs_no {c : CondS} (h : condOk c = true) : ∀ w ∈ condWs c, (32 : UInt8) ∉ w := by
  intro w hw
  unfold condWs at hw
  rcases List.mem_append.1 hw with hw | hw
  · cases hn : c.neg with
    | false => rw [hn] at hw; simp at hw
    | true =>
      rw [hn] at hw
      simp at hw
      subst hw
      decide
  · rcases List.mem_cons.1 hw with rfl | hw
    · exact kind_no _
    · rw [List.mem_singleton] at hw
      subst hw
      unfold condA
      by_cases h5 : c.kind = 5
      · rw [if_pos h5]; exact origin_no _
      · rw [if_neg h5]
        by_cases h6 : c.kind = 6
        · rw [if_pos h6]; exact dig_no _
        · rw [if_neg h6]
          by_cases h7 : c.kind = 7
          · rw [if_pos h7]; exact fam_no _
          · rw [if_neg h7]
            unfold condOk at h
            by_cases h1 : c.kind = 1 ∨ c.kind = 2 ∨ c.kind = 3 ∨ c.kind = 4
            · rw [if_pos h1, Bool.and_eq_true] at h
              exact name_no h.1
            · rw [if_neg h1, if_neg h5, if_neg h6, if_neg h7] at h
              cases h
theorem actWs_no {a : ActS} (h : actOk a = true) : ∀ w ∈ actWs a, (32 : UInt8) ∉ w := by
 intro w hw
 unfold actWs at hw
 have two : ∀ {u v : List UInt8}, (32 : UInt8) ∉ u → (32 : UInt8) ∉ v → w ∈ [u, v] → (32 : UInt8) ∉ w := fun hu hv hm => by
  rcases List.mem_cons.1 hm with rfl | hm
  ·exact hu
  ·rw [List.mem_singleton] at hm
   subst hm
   exact hv
 by_cases h1 : a.kind = 1
 ·rw [if_pos h1, List.mem_singleton] at hw; subst hw; decide
 rw [if_neg h1] at hw
 by_cases h2 : a.kind = 2
 ·rw [if_pos h2, List.mem_singleton] at hw; subst hw; decide
 rw [if_neg h2] at hw
 by_cases h5 : a.kind = 5
 ·rw [if_pos h5, List.mem_singleton] at hw; subst hw; decide
 rw [if_neg h5] at hw
 by_cases h3 : a.kind = 3
 ·rw [if_pos h3] at hw; exact two (by decide) (dig_no _) hw
 rw [if_neg h3] at hw
 by_cases h4 : a.kind = 4
 ·rw [if_pos h4] at hw; exact two (by decide) (dig_no _) hw
 rw [if_neg h4] at hw
 by_cases h6 : a.kind = 6
 ·rw [if_pos h6] at hw; exact two (by decide) (comm_no _) hw
 rw [if_neg h6] at hw
 by_cases h7 : a.kind = 7
 ·rw [if_pos h7] at hw
  unfold actOk at h
  rw [if_neg (by omega), if_neg (by omega), if_pos h7, Bool.and_eq_true] at h
  exact two (by decide) (name_no h.1) hw
 rw [if_neg h7] at hw
 by_cases h8 : a.kind = 8
 ·rw [if_pos h8] at hw; exact two (by decide) (dig_no _) hw
 rw [if_neg h8] at hw
 by_cases h9 : a.kind = 9
 ·rw [if_pos h9] at hw; exact two (by decide) (addrT_no 32 (by decide)) hw
 rw [if_neg h9] at hw
 exact two (by decide) (origin_no _) hw
theorem sepW_mem : ∀ (l : List (List (List UInt8))) (w : List UInt8), w ∈ sepW l → w = [97, 110, 100] ∨ ∃ x ∈ l, w ∈ x
  | [], w, h => by cases h
  | [x], w, h => .inr ⟨x, by simp, h⟩
  | x :: y :: r, w, h => by
    have h : w ∈ x ++ ([97, 110, 100] :: sepW (y :: r)) := h
    rcases List.mem_append.1 h with h | h
    · exact .inr ⟨x, by simp, h⟩
    · rcases List.mem_cons.1 h with h | h
      · exact .inl h
      · rcases sepW_mem (y :: r) w h with h | ⟨z, hz, h⟩
        · exact .inl h
        · exact .inr ⟨z, by simp [hz], h⟩
theorem termWs_no {t : TermS} (h : termOk t = true) : ∀ w ∈ termWs t, (32 : UInt8) ∉ w := by
 unfold termOk at h
 simp only [Bool.and_eq_true] at h
 obtain ⟨_, _, hc, ha, _⟩ := h
 intro w hw
 unfold termWs at hw
 rcases List.mem_append.1 hw with hw | hw
 ·by_cases hn : t.conds = []
  ·rw [if_pos hn] at hw; cases hw
  ·rw [if_neg hn] at hw
   rcases List.mem_cons.1 hw with rfl | hw
   ·decide
   ·rcases sepW_mem _ _ hw with rfl | ⟨x, hx, hw⟩
    ·decide
    ·obtain ⟨c, hm, rfl⟩ := List.mem_map.1 hx
     exact condWs_no (List.all_eq_true.1 hc c hm) w hw
 ·rcases List.mem_cons.1 hw with rfl | hw
  ·decide
  ·rcases sepW_mem _ _ hw with rfl | ⟨x, hx, hw⟩
   ·decide
   ·obtain ⟨a, hm, rfl⟩ := List.mem_map.1 hx
    exact actWs_no (List.all_eq_true.1 ha a hm) w hw
/-- A term's text, cut at its spaces. -/
theorem spl_term {t : TermS} (h : termOk t = true) : spl 32 (termW t) = termWs t := by
 rw [termW_ws t h]
 have hn : termWs t ≠ [] := by unfold termWs; simp
 have hw := termWs_no h
 obtain ⟨x, r, hx⟩ := List.exists_cons_of_ne_nil hn
 rw [hx] at hw ⊢
 exact join_spl 32 x r hw
end
section
open Go.RowKit
set_option linter.unusedVariables false
/-- The number of a text of digits, below m. -/
noncomputable def numO (s : List UInt8) (m : Nat) : Option Nat := open Classical in if h : ∃ n, n < m ∧ digS 10 n = s then some h.choose else none
theorem numO_dig {n m : Nat} (h : n < m) : numO (digS 10 n) m = some n := by
 unfold numO
 have he : ∃ k, k < m ∧ digS 10 k = digS 10 n := ⟨n, h, rfl⟩
 rw [dif_pos he]
 exact congrArg some (digS_inj (by decide) (by decide) he.choose_spec.2)
theorem numO_some {s : List UInt8} {n m : Nat} (h : numO s m = some n) : n < m ∧ digS 10 n = s := by
 unfold numO at h
 split at h
 ·rename_i he
  injection h with h
  subst h
  exact he.choose_spec
 ·cases h
def originN (s : List UInt8) : Option Int := if s = originT 0 then some 0 else if s = originT 1 then some 1 else if s = originT 2 then some 2 else none
theorem originN_t {n : Int} (h0 : 0 ≤ n) (h2 : n ≤ 2) : originN (originT n) = some n := by
 rcases (show n = 0 ∨ n = 1 ∨ n = 2 by omega) with rfl | rfl | rfl <;> decide
/-- What stands behind 'not'. -/
noncomputable def readV (neg : Bool) : List (List UInt8) → Option (CondS × List (List UInt8))
  | k :: x :: r =>
    if k = [112, 114, 101, 102, 105, 120] then some (⟨1, neg, x, 0⟩, r)
    else if k = [99, 111, 109, 109] then some (⟨2, neg, x, 0⟩, r)
    else if k = [112, 97, 116, 104] then some (⟨3, neg, x, 0⟩, r)
    else if k = [112, 101, 101, 114] then some (⟨4, neg, x, 0⟩, r)
    else if k = [111, 114, 105, 103, 105, 110] then (originN x).map fun n => (⟨5, neg, [], n⟩, r)
    else if k = [108, 101, 110, 103, 116, 104] then (numO x 4294967296).map fun n => (⟨6, neg, [], (n : Int)⟩, r)
    else if k = [102, 97, 109] then (if famN x = 0 then none else some (⟨7, neg, [], famN x⟩, r))
    else none
  | _ => none
noncomputable def readC : List (List UInt8) → Option (CondS × List (List UInt8))
 | w :: r => if w = [110, 111, 116] then readV true r else readV false (w :: r)
 | [] => none
theorem readV_ws (c : CondS) (h : condOk c = true) (r : List (List UInt8)) : readV c.neg (kindW c.kind :: condA c :: r) = some (c, r) := by
 obtain ⟨k, neg, name, n⟩ := c
 unfold condOk at h
 dsimp only at h ⊢
 by_cases h1 : k = 1 ∨ k = 2 ∨ k = 3 ∨ k = 4
 ·rw [if_pos h1, Bool.and_eq_true, decide_eq_true_eq] at h
  obtain ⟨_, rfl⟩ := h
  rcases h1 with rfl | rfl | rfl | rfl <;> simp [readV, kindW, condA]
 rw [if_neg h1] at h
 by_cases h5 : k = 5
 ·rw [if_pos h5, Bool.and_eq_true, decide_eq_true_eq, decide_eq_true_eq] at h
  obtain ⟨⟨h2, h3⟩, rfl⟩ := h
  subst h5
  have := originN_t h2 h3
  simp [readV, kindW, condA, this]
 rw [if_neg h5] at h
 by_cases h6 : k = 6
 ·rw [if_pos h6, Bool.and_eq_true, decide_eq_true_eq, decide_eq_true_eq] at h
  obtain ⟨⟨h2, h3⟩, rfl⟩ := h
  subst h6
  have := numO_dig (n := n.toNat) (m := 4294967296) (by omega)
  simp only [readV, kindW, condA]
  simp [this]
  omega
 rw [if_neg h6] at h
 by_cases h7 : k = 7
 ·rw [if_pos h7, Bool.and_eq_true, decide_eq_true_eq, decide_eq_true_eq] at h
  obtain ⟨⟨h2, h3⟩, rfl⟩ := h
  subst h7
  have hf := famN_name h2 h3
  have hz : ¬ n = 0 := by omega
  simp [readV, kindW, condA, hf, hz]
 rw [if_neg h7] at h
 cases h
theorem readC_not (q : List (List UInt8)) : readC ([110, 111, 116] :: q) = readV true q := by simp [readC]
theorem readC_ws (c : CondS) (h : condOk c = true) (r : List (List UInt8)) : readC (condWs c ++ r) = some (c, r) := by
  have hv := readV_ws c h r
  unfold condWs
  cases hn : c.neg with
  | true =>
    rw [hn] at hv
    rw [if_pos rfl]
    show readC ([110, 111, 116] :: kindW c.kind :: condA c :: r) = _
    rw [readC_not]
    exact hv
  | false =>
    rw [hn] at hv
    rw [if_neg (by decide)]
    show readC (kindW c.kind :: condA c :: r) = _
    show (if kindW c.kind = [110, 111, 116] then _ else readV false (kindW c.kind :: condA c :: r)) = _
    rw [if_neg ?_]
    · exact hv
    · unfold kindW
      repeat (split; decide)
      decide
theorem app_cons_inj {c : UInt8} : ∀ {a b x y : List UInt8}, c ∉ a → c ∉ b → a ++ c :: x = b ++ c :: y → a = b ∧ x = y
  | [], [], x, y, _, _, h => by injection h with _ h; exact ⟨rfl, h⟩
  | [], d :: b, x, y, _, hb, h => by injection h with h _; exact absurd (by rw [h]; simp) hb
  | d :: a, [], x, y, ha, _, h => by injection h with h _; exact absurd (by rw [h]; simp) ha
  | d :: a, e :: b, x, y, ha, hb, h => by
    injection h with h1 h2
    obtain ⟨h3, h4⟩ := app_cons_inj (fun hm => ha (by simp [hm])) (fun hm => hb (by simp [hm])) h2
    exact ⟨by rw [h1, h3], h4⟩
theorem comm_num_no (c : UInt32) : (110 : UInt8) ∉ digS 10 (c.toNat / 65536) ++ (58 :: digS 10 (c.toNat % 65536)) := by
 have hd : ∀ n, (110 : UInt8) ∉ digS 10 n := fun n => digS_no (by decide) (by decide) n 110 (by decide)
 intro h
 rcases List.mem_append.1 h with h | h
 ·exact hd _ h
 ·rcases List.mem_cons.1 h with h | h
  ·revert h; decide
  ·exact hd _ h
theorem comm_cases (c : UInt32) : (c.toNat = 4294967041 ∧ commT c = [110, 111, 45, 101, 120, 112, 111, 114, 116]) ∨ (c.toNat = 4294967042 ∧ commT c = [110, 111, 45, 97, 100, 118, 101, 114, 116, 105, 115, 101]) ∨ (c.toNat = 4294967043 ∧ commT c = [110, 111, 45, 101, 120, 112, 111, 114, 116, 45, 115, 117, 98, 99, 111, 110, 102, 101, 100]) ∨ commT c = digS 10 (c.toNat / 65536) ++ (58 :: digS 10 (c.toNat % 65536)) := by
 unfold commT
 by_cases h1 : c.toNat = 4294967041
 ·exact .inl ⟨h1, if_pos h1⟩
 ·rw [if_neg h1]
  by_cases h2 : c.toNat = 4294967042
  ·exact .inr (.inl ⟨h2, if_pos h2⟩)
  ·rw [if_neg h2]
   by_cases h3 : c.toNat = 4294967043
   ·exact .inr (.inr (.inl ⟨h3, if_pos h3⟩))
   ·exact .inr (.inr (.inr (if_neg h3)))
theorem comm_inj {c d : UInt32} (h : commT c = commT d) : c = d := by
 have key : c.toNat = d.toNat := by
  have h58 : ∀ n, (58 : UInt8) ∉ digS 10 n := fun n => digS_no (by decide) (by decide) n 58 (by decide)
  have nc := comm_num_no c
  have nd := comm_num_no d
  rcases comm_cases c with ⟨e1, e2⟩ | ⟨e1, e2⟩ | ⟨e1, e2⟩ | e2 <;> rcases comm_cases d with ⟨f1, f2⟩ | ⟨f1, f2⟩ | ⟨f1, f2⟩ | f2 <;> rw [e2, f2] at h
  ·rw [e1, f1]
  ·cases h
  ·cases h
  ·rw [← h] at nd; exact absurd (by decide) nd
  ·cases h
  ·rw [e1, f1]
  ·cases h
  ·rw [← h] at nd; exact absurd (by decide) nd
  ·cases h
  ·cases h
  ·rw [e1, f1]
  ·rw [← h] at nd; exact absurd (by decide) nd
  ·rw [h] at nc; exact absurd (by decide) nc
  ·rw [h] at nc; exact absurd (by decide) nc
  ·rw [h] at nc; exact absurd (by decide) nc
  ·obtain ⟨h1, h2⟩ := app_cons_inj (h58 _) (h58 _) h
   have h3 := digS_inj (by decide) (by decide) h1
   have h4 := digS_inj (by decide) (by decide) h2
   omega
 exact UInt32.toNat_inj.1 key
noncomputable def commO (s : List UInt8) : Option UInt32 := open Classical in if h : ∃ c, commT c = s then some h.choose else none
theorem commO_t (c : UInt32) : commO (commT c) = some c := by
 unfold commO
 have he : ∃ d, commT d = commT c := ⟨c, rfl⟩
 rw [dif_pos he]
 exact congrArg some (comm_inj he.choose_spec)
/-- An action's value, by its kind. -/
noncomputable def readX (k : Int) (x : List UInt8) : Option ActS :=
 if k = 3 ∨ k = 4 ∨ k = 8 then (numO x 4294967296).map fun n => ⟨k, [], UInt32.ofNat n, []⟩
 else if k = 6 then (commO x).map fun n => ⟨6, [], n, []⟩
 else if k = 7 then some ⟨7, x, 0, []⟩
 else if k = 9 then (if (addrC x).2 = 0 then some ⟨9, [], 0, (addrC x).1⟩ else none)
 else (originN x).map fun n => ⟨10, [], UInt32.ofNat n.toNat, []⟩
def actK (w : List UInt8) : Int :=
 if w = [97, 99, 99, 101, 112, 116] then 1 else if w = [114, 101, 106, 101, 99, 116] then 2 else if w = [112, 114, 101, 102] then 3 else if w = [109, 101, 100] then 4 else if w = [110, 111, 45, 109, 101, 100] then 5
 else if w = [97, 100, 100] then 6 else if w = [100, 101, 108] then 7 else if w = [112, 114, 101, 112, 101, 110, 100] then 8 else if w = [110, 101, 120, 116] then 9 else if w = [111, 114, 105, 103, 105, 110] then 10 else 0
noncomputable def readA : List (List UInt8) → Option (ActS × List (List UInt8))
  | [] => none
  | w :: r =>
    if actK w = 0 then none
    else if actK w = 1 ∨ actK w = 2 ∨ actK w = 5 then some (⟨actK w, [], 0, []⟩, r)
    else match r with
      | [] => none
      | x :: q => (readX (actK w) x).map fun a => (a, q)
theorem readA_one (w : List UInt8) (r : List (List UInt8)) (h : actK w = 1 ∨ actK w = 2 ∨ actK w = 5) : readA (w :: r) = some (⟨actK w, [], 0, []⟩, r) := by
 simp only [readA]
 rw [if_neg (by omega), if_pos h]
theorem readA_two (w x : List UInt8) (r : List (List UInt8)) (h0 : actK w ≠ 0) (h : ¬ (actK w = 1 ∨ actK w = 2 ∨ actK w = 5)) : readA (w :: x :: r) = (readX (actK w) x).map fun a => (a, r) := by
 simp only [readA]
 rw [if_neg h0, if_neg h]
theorem readA_ws (a : ActS) (h : actOk a = true) (r : List (List UInt8)) : readA (actWs a ++ r) = some (a, r) := by
 obtain ⟨k, name, n, addr⟩ := a
 unfold actOk at h
 dsimp only at h
 have hn32 : n.toNat < 4294967296 := n.toNat_lt
 by_cases h1 : k = 1 ∨ k = 2 ∨ k = 5
 ·rw [if_pos h1, Bool.and_eq_true, Bool.and_eq_true, decide_eq_true_eq, decide_eq_true_eq, decide_eq_true_eq] at h
  obtain ⟨rfl, rfl, rfl⟩ := h
  rcases h1 with rfl | rfl | rfl
  ·exact readA_one [97, 99, 99, 101, 112, 116] r (by decide)
  ·exact readA_one [114, 101, 106, 101, 99, 116] r (by decide)
  ·exact readA_one [110, 111, 45, 109, 101, 100] r (by decide)
 rw [if_neg h1] at h
 by_cases h3 : k = 3 ∨ k = 4 ∨ k = 6
 ·rw [if_pos h3, Bool.and_eq_true, decide_eq_true_eq, decide_eq_true_eq] at h
  obtain ⟨rfl, rfl⟩ := h
  rcases h3 with rfl | rfl | rfl
  ·refine (readA_two [112, 114, 101, 102] (digS 10 n.toNat) r (by decide) (by decide)).trans ?_
   rw [show actK [112, 114, 101, 102] = 3 by decide]
   unfold readX
   rw [if_pos (by decide), numO_dig hn32]
   simp
  ·refine (readA_two [109, 101, 100] (digS 10 n.toNat) r (by decide) (by decide)).trans ?_
   rw [show actK [109, 101, 100] = 4 by decide]
   unfold readX
   rw [if_pos (by decide), numO_dig hn32]
   simp
  ·refine (readA_two [97, 100, 100] (commT n) r (by decide) (by decide)).trans ?_
   rw [show actK [97, 100, 100] = 6 by decide]
   unfold readX
   rw [if_neg (by decide), if_pos rfl, commO_t]
   simp
 rw [if_neg h3] at h
 by_cases h7 : k = 7
 ·rw [if_pos h7, Bool.and_eq_true, Bool.and_eq_true, decide_eq_true_eq, decide_eq_true_eq] at h
  obtain ⟨_, rfl, rfl⟩ := h
  subst h7
  refine (readA_two [100, 101, 108] name r (by decide) (by decide)).trans ?_
  rw [show actK [100, 101, 108] = 7 by decide]
  unfold readX
  rw [if_neg (by decide), if_neg (by decide), if_pos rfl]
  simp
 rw [if_neg h7] at h
 by_cases h8 : k = 8
 ·rw [if_pos h8, Bool.and_eq_true, Bool.and_eq_true, decide_eq_true_eq, decide_eq_true_eq, decide_eq_true_eq] at h
  obtain ⟨_, rfl, rfl⟩ := h
  subst h8
  refine (readA_two [112, 114, 101, 112, 101, 110, 100] (digS 10 n.toNat) r (by decide) (by decide)).trans ?_
  rw [show actK [112, 114, 101, 112, 101, 110, 100] = 8 by decide]
  unfold readX
  rw [if_pos (by decide), numO_dig hn32]
  simp
 rw [if_neg h8] at h
 by_cases h9 : k = 9
 ·rw [if_pos h9, Bool.and_eq_true, Bool.and_eq_true, decide_eq_true_eq, decide_eq_true_eq, decide_eq_true_eq] at h
  obtain ⟨ha, rfl, rfl⟩ := h
  subst h9
  have hta := text_addr ha
  refine (readA_two [110, 101, 120, 116] (addrT addr).1 r (by decide) (by decide)).trans ?_
  rw [show actK [110, 101, 120, 116] = 9 by decide]
  unfold readX
  rw [if_neg (by decide), if_neg (by decide), if_neg (by decide), if_pos rfl, hta]
  simp
 rw [if_neg h9] at h
 by_cases h10 : k = 10
 ·rw [if_pos h10, Bool.and_eq_true, Bool.and_eq_true, decide_eq_true_eq, decide_eq_true_eq, decide_eq_true_eq] at h
  obtain ⟨ha, rfl, rfl⟩ := h
  subst h10
  have := originN_t (n := (n.toNat : Int)) (by omega) (by omega)
  refine (readA_two [111, 114, 105, 103, 105, 110] (originT n.toNat) r (by decide) (by decide)).trans ?_
  rw [show actK [111, 114, 105, 103, 105, 110] = 10 by decide]
  unfold readX
  rw [if_neg (by decide), if_neg (by decide), if_neg (by decide), if_neg (by decide), this]
  simp
 rw [if_neg h10] at h
 cases h
/-- Conditions, up to 'then'. -/
noncomputable def readCs : Nat → List UInt8 → List (List UInt8) → Option (List CondS × List (List UInt8))
  | 0, _, _ => none
  | n + 1, w, r =>
    if w = [116, 104, 101, 110] then some ([], r)
    else if w = [105, 102] ∨ w = [97, 110, 100] then
      (match readC r with
        | some (c, v :: q) => (readCs n v q).map fun p => (c :: p.1, p.2)
        | _ => none)
    else none
/-- Actions, to the end. -/
noncomputable def readAs : Nat → List (List UInt8) → Option (List ActS)
  | 0, _ => none
  | n + 1, r =>
    match readA r with
    | none => none
    | some (a, []) => some [a]
    | some (a, w :: q) => if w = [97, 110, 100] then (readAs n q).map fun l => a :: l else none
noncomputable def readT : List (List UInt8) → Option TermS
  | [] => none
  | w :: r =>
    if w = [105, 102] then (readCs (r.length + 1) w r).bind fun p => (readAs (r.length + 1) p.2).map fun l => ⟨p.1, l⟩
    else if w = [116, 104, 101, 110] then (readAs (r.length + 1) r).map fun l => ⟨[], l⟩
    else none
theorem readAs_ws : ∀ (l : List ActS) (n : Nat), l ≠ [] → l.length ≤ n → (∀ a ∈ l, actOk a = true) → readAs n (sepW (l.map actWs)) = some l
  | [], _, h, _, _ => absurd rfl h
  | _ :: _, 0, _, h, _ => absurd h (by simp)
  | [a], n + 1, _, _, h => by
    have ha := readA_ws a (h a (by simp)) []
    rw [List.append_nil] at ha
    show readAs (n + 1) (actWs a) = _
    simp only [readAs, ha]
  | a :: b :: r, n + 1, _, hn, h => by
    have ha := readA_ws a (h a (by simp)) ([97, 110, 100] :: sepW ((b :: r).map actWs))
    have ih := readAs_ws (b :: r) n (by simp) (by simp at hn ⊢; omega) (fun z hz => h z (by simp [hz]))
    show readAs (n + 1) (actWs a ++ ([97, 110, 100] :: sepW ((b :: r).map actWs))) = _
    simp only [readAs, ha, ih, if_true]
    rfl
theorem readCs_ws : ∀ (l : List CondS) (n : Nat) (w : List UInt8) (R : List (List UInt8)), l ≠ [] → l.length < n → (w = [105, 102] ∨ w = [97, 110, 100]) → (∀ c ∈ l, condOk c = true) → readCs n w (sepW (l.map condWs) ++ ([116, 104, 101, 110] :: R)) = some (l, R)
  | [], _, _, _, h, _, _, _ => absurd rfl h
  | _ :: _, 0, _, _, _, h, _, _ => absurd h (by simp)
  | _ :: _, 1, _, _, _, h, _, _ => absurd h (by simp)
  | [c], n + 2, w, R, _, _, hw, h => by
    have hc := readC_ws c (h c (by simp)) ([116, 104, 101, 110] :: R)
    have hne : ¬ w = [116, 104, 101, 110] := by rcases hw with rfl | rfl <;> decide
    show readCs (n + 2) w (condWs c ++ ([116, 104, 101, 110] :: R)) = _
    simp only [readCs, hc, if_neg hne, if_pos hw]
    simp
  | c :: d :: r, n + 2, w, R, _, hn, hw, h => by
    have hc := readC_ws c (h c (by simp)) ([97, 110, 100] :: (sepW ((d :: r).map condWs) ++ ([116, 104, 101, 110] :: R)))
    have ih := readCs_ws (d :: r) (n + 1) [97, 110, 100] R (by simp) (by simp at hn ⊢; omega) (.inr rfl) (fun z hz => h z (by simp [hz]))
    have hne : ¬ w = [116, 104, 101, 110] := by rcases hw with rfl | rfl <;> decide
    show readCs (n + 1 + 1) w ((condWs c ++ ([97, 110, 100] :: sepW ((d :: r).map condWs))) ++ ([116, 104, 101, 110] :: R)) = _
    rw [List.append_assoc, List.cons_append]
    rw [readCs, if_neg hne, if_pos hw, hc]
    show Option.map _ (readCs (n + 1) [97, 110, 100] _) = _
    rw [ih]
    rfl
theorem sepW_len : ∀ (l : List (List (List UInt8))), (∀ x ∈ l, x ≠ []) → l.length ≤ (sepW l).length
  | [], _ => Nat.le_refl _
  | [x], h => by
    have := List.length_pos_iff.2 (h x (by simp))
    show 1 ≤ x.length
    omega
  | x :: y :: r, h => by
    have := sepW_len (y :: r) (fun z hz => h z (by simp [hz]))
    have h1 : (sepW (x :: y :: r)).length = x.length + (1 + (sepW (y :: r)).length) := by
      show (x ++ ([97, 110, 100] :: sepW (y :: r))).length = _
      rw [List.length_append, List.length_cons]
      omega
    rw [h1]
    simp at this ⊢
    omega
/-- A term is read of its words. -/
theorem readT_ws (t : TermS) (h : termOk t = true) : readT (termWs t) = some t := by
 unfold termOk at h
 simp only [Bool.and_eq_true, decide_eq_true_eq] at h
 obtain ⟨_, ⟨h1, _⟩, hc, ha, _⟩ := h
 obtain ⟨cs, al⟩ := t
 dsimp only at h1 hc ha
 have hne : al ≠ [] := by rintro rfl; simp at h1
 have hla := sepW_len (al.map actWs) (fun x hx => by obtain ⟨a, _, rfl⟩ := List.mem_map.1 hx; exact actWs_ne a)
 rw [List.length_map] at hla
 have hra := fun n hn => readAs_ws al n hne hn (fun a hm => List.all_eq_true.1 ha a hm)
 unfold termWs
 dsimp only
 by_cases hn : cs = []
 ·subst hn
  rw [if_pos rfl, List.nil_append]
  simp only [readT]
  rw [if_neg (by decide), if_pos trivial, hra _ (by omega)]
  rfl
 ·rw [if_neg hn, List.cons_append]
  have hlc := sepW_len (cs.map condWs) (fun x hx => by obtain ⟨c, _, rfl⟩ := List.mem_map.1 hx; exact condWs_ne c)
  rw [List.length_map] at hlc
  have hl : (sepW (cs.map condWs) ++ ([116, 104, 101, 110] :: sepW (al.map actWs))).length = (sepW (cs.map condWs)).length + ((sepW (al.map actWs)).length + 1) := by rw [List.length_append, List.length_cons]
  simp only [readT]
  rw [if_pos trivial, readCs_ws cs _ [105, 102] _ hn (by rw [hl]; omega) (.inl rfl) (fun c hm => List.all_eq_true.1 hc c hm)]
  show Option.map _ (readAs _ (sepW (al.map actWs))) = _
  rw [hra _ (by rw [hl]; omega)]
  rfl
/-- The term of a text. -/
noncomputable def termO (s : List UInt8) : Option TermS := (readT (spl 32 s)).bind fun t => if termT t = (s, 0) then some t else none
theorem termO_text {t : TermS} (h : termOk t = true) : termO (termW t) = some t := by
 unfold termO
 rw [spl_term h, readT_ws t h]
 show (if termT t = (termW t, 0) then some t else none) = some t
 exact if_pos (if_pos h)
end
section
open Go.RowKit
set_option linter.unusedVariables false
/-- The set that a condition names, and of which kind. -/
def needC (c : CondS) : Option (List UInt8 × Int) := if c.kind = 1 ∨ c.kind = 2 ∨ c.kind = 3 then some (c.name, c.kind) else none
def needA (a : ActS) : Option (List UInt8 × Int) := if a.kind = 7 then some (a.name, 2) else none
def needsT (t : TermS) : List (List UInt8 × Int) := t.conds.filterMap needC ++ t.acts.filterMap needA
def needsP (p : PolS) : List (List UInt8 × Int) := p.terms.flatMap needsT
def thereS (l : List StS) (n : List UInt8 × Int) : Bool := l.any fun s => s.name == n.1 && decide (s.kind = n.2)
/-- Sets that may be, no two of one name. -/
noncomputable def setsOk : List StS → List (List UInt8) → Bool
 | [], _ => true
 | s :: r, seen => setOk s && (!seen.contains s.name && setsOk r (s.name :: seen))
noncomputable def checkP (p : PolS) (l : List StS) : Int :=
 if polOk p = false then 2 else if setsOk l [] = false then 2 else if (needsP p).all (thereS l) = false then 8 else 0
/-- An instruction. -/
structure InsS where
  kind : Int
  cond : CondS
  act : ActS
  «to» : Int
  n : Int
def zeroCo : CondS := ⟨0, false, [], 0⟩
def zeroAc : ActS := ⟨0, [], 0, []⟩
def insT (off : Nat) (t : TermS) : List InsS := (t.conds.map fun c => ⟨1, c, zeroAc, ((off + t.conds.length + t.acts.length : Nat) : Int), 0⟩) ++ t.acts.map fun a => ⟨2, zeroCo, a, 0, 0⟩
def insL : Nat → List TermS → List InsS
 | _, [] => []
 | off, t :: r => insT off t ++ insL (off + t.conds.length + t.acts.length) r
def insP (p : PolS) : List InsS := insL 0 p.terms ++ [⟨3, zeroCo, zeroAc, 0, if p.els = true then 1 else 0⟩]
/-- The sets that a policy names, in their order. -/
def setsP (p : PolS) (l : List StS) : List StS := l.filter fun s => (needsP p).any fun n => n.1 == s.name
theorem insT_len (off : Nat) (t : TermS) : (insT off t).length = t.conds.length + t.acts.length := by unfold insT; simp
theorem insL_snoc : ∀ (l : List TermS) (off : Nat) (t : TermS), insL off (l ++ [t]) = insL off l ++ insT (off + (insL off l).length) t
  | [], off, t => by simp [insL]
  | x :: r, off, t => by
    have ih := insL_snoc r (off + x.conds.length + x.acts.length) t
    show insT off x ++ insL (off + x.conds.length + x.acts.length) (r ++ [t]) = _
    rw [ih]
    show _ = (insT off x ++ insL (off + x.conds.length + x.acts.length) r) ++ insT (off + (insT off x ++ insL (off + x.conds.length + x.acts.length) r).length) t
    rw [List.append_assoc, List.length_append, insT_len]
    congr 3
    omega
end
end
section
open Go.RowKit Go.Sort Go.Lib
set_option linter.unusedVariables false
theorem ret_int {k : IntKind} {a b : Int} (h : a = b) : Ending.returned (.int k a) = .returned (.int k b) := by rw [h]
theorem ret_bool {a b : Bool} (h : a = b) : Ending.returned (.bool a) = .returned (.bool b) := by rw [h]
/-- The table of powers of ten is laid. -/
def Tab (w : World) : Prop := Lib.TabIs Tryz.prog w "internal/strconv.uint64pow10" .u64 Lib.pow10Tab
theorem var_lt {P : Program} {w : World} {n : String} {cs : Array Value} {g : Nat} (hg : P.globalNamed n = some g) (h : w.var? P n = some cs) : g < w.heap.size := by
 unfold World.var? at h
 simp only [hg, Option.bind_some] at h
 rcases Nat.lt_or_ge g w.heap.size with hlt | hge
 ·exact hlt
 ·rw [Array.getElem?_eq_none hge] at h; cases h
theorem Tab.ext {w w' : World} (h : Tab w) (he : Ext w w') : Tab w' := by
 have hg : Tryz.prog.globalNamed "internal/strconv.uint64pow10" = some 1 := by kernel_rfl
 exact var?_below he hg (var_lt hg h) h
/-- Digits of a number, as a text. -/
def dec (u : Nat) : ByteArray := ⟨(Lib.decDigits u).toArray⟩
theorem ext_putRow {w : World} (o : Obj) (dk : Array UInt8) (k off : Nat) : Ext w ((putRow (fun (b : UInt8) => Value.int .u8 (b.toNat : Int)) (w.alloc o) w.heap.size off dk).drewN k) := by
 refine Ext.drewN ?_ k
 obtain ⟨os', _, e⟩ := putRow_grow_new (fun (b : UInt8) => Value.int .u8 (b.toNat : Int)) w #[o] w.heap.size off dk (Nat.le_refl _)
 rw [alloc_eq_grow, e]
 refine ⟨rfl, rfl, rfl, by simp [grow], fun j hj => ?_⟩
 simp only [grow]
 rw [Array.getElem?_append_left hj]
theorem holds_zero0 (w : World) (T : TypeId) (nd : Nat) (hs : nd ≤ 24) : Holds (fun (b : UInt8) => Value.int .u8 (b.toNat : Int)) (w.alloc (.cells zeros24 T)) w.heap.size 0 (Array.replicate nd (0 : UInt8)) := fun j hj => by
 have hj' : j < nd := by simpa using hj
 refine ⟨?_, World.frozen?_alloc_new _ _ _ _⟩
 rw [World.cell?_alloc_new, zeros24_at _ (by omega), getElem!_pos _ j hj]
 simp
set_option maxHeartbeats 6400000 in
set_option maxRecDepth 100000 in
theorem IFormatUint_any (u : Nat) (hu64 : u < 18446744073709551616) (w : World) (htab : Tab w) :
  Calls Tryz.prog 128 #[.int .u64 u, .int .i64 10] w fun e w' => e = .returned (.string (dec u)) ∧ Ext w w' := by
 by_cases hs : u < 100
 ·go_enter Tryz.func128, Tryz.ntmps128
  go_wp2_with (go_at_call 157; refine (Tryz.internal_strconv_small u hs _).mono ?_; rintro e w' ⟨rfl, rfl⟩)
  go_ret
  exact ⟨rfl, Ext.refl _⟩
 ·have hu1 : 1 ≤ u := by omega
  have hnd20 : Lib.nDigits u ≤ 20 := by have := Lib.numDigits_eq u hu1 hu64; split at this <;> omega
  have hal : Tryz.prog.arrayLen 213 = 24 := by simp [Program.arrayLen, Tryz.underlying213]
  have hsl1 : ∀ W, (Instr.sliceAt 213 (.pointer (some ⟨w.heap.size, 0, none⟩)) none (some (.int .i64 (Lib.nDigits u : Int))) none).run Tryz.prog W = .ok (.slice (some ⟨w.heap.size, 0, none⟩) (Lib.nDigits u) 24) W := fun W => by
   rw [run_sliceAt_array_h W 213 ⟨w.heap.size, 0, none⟩ (by simp [Program.arrayLen, Program.elem, Tryz.underlying213]) .i64 (Lib.nDigits u : Int) (by omega) (by rw [hal]; omega)]
   go_simp
  have hH0 := holds_zero0 w 213 (Lib.nDigits u) (by omega)
  have hfmt := Tryz.internal_strconv_formatBase10 w.heap.size 0 24 u (Array.replicate (Lib.nDigits u) 0) (w.alloc (.cells Lib.zeros24 213)) hH0 (by rw [Array.size_replicate]; exact Lib.lt_pow_nDigits u) hu64 (by rw [Array.size_replicate]; omega)
  rw [Array.size_replicate] at hfmt
  have HH0 := Lib.hid hH0
  clear hH0 hal
  go_enter Tryz.func128, Tryz.ntmps128
  go_wp2_with (first
   | (go_at_call 158; refine (Tryz.internal_strconv_numDigits u hu1 hu64 _ (htab.ext ((Ext.refl _).alloc _))).mono ?_; rintro e w' ⟨rfl, rfl⟩))
  go_at_call 159
  refine hfmt.mono ?_
  rintro e w' ⟨rfl, k, v', dk, rfl, hF⟩
  have hcv : (convert 148 9 (.slice (some ⟨w.heap.size, 0, none⟩) (Lib.nDigits u) 24)).run Tryz.prog ((putRow (fun (b : UInt8) => Value.int .u8 (b.toNat : Int)) (w.alloc (.cells Lib.zeros24 213)) w.heap.size 0 dk).drewN k) = .ok (.string ⟨(Lib.decDigits u).toArray⟩) ((putRow (fun (b : UInt8) => Value.int .u8 (b.toNat : Int)) (w.alloc (.cells Lib.zeros24 213)) w.heap.size 0 dk).drewN k) := by
   have h := run_convert_bytes_back (P := Tryz.prog) ((putRow (fun (b : UInt8) => Value.int .u8 (b.toNat : Int)) (w.alloc (.cells Lib.zeros24 213)) w.heap.size 0 dk).drewN k) 148 9 5 ⟨w.heap.size, 0, none⟩ 24 (Lib.decDigits u) Tryz.underlying148 Tryz.underlying5 Tryz.underlying9 (fun j hj => by
    rw [Lib.row_is_numeral hF j hj, Lib.add_plain, World.cell?_drewN]
    exact cell?_putRow (fun (b : UInt8) => Value.int .u8 (b.toNat : Int)) _ w.heap.size 0 _ dk HH0.out (by rw [hF.size, Array.size_replicate]) j (by rw [hF.size]; rw [Lib.decDigits_length] at hj; exact hj))
   rw [Lib.decDigits_length] at h
   exact h
  go_wp2
  go_ret
  exact ⟨rfl, ext_putRow _ _ _ _⟩
theorem FormatUint_any (u : Nat) (hu64 : u < 18446744073709551616) (w : World) (htab : Tab w) :
  Calls Tryz.prog 87 #[.int .u64 u, .int .i64 10] w fun e w' => e = .returned (.string (dec u)) ∧ Ext w w' := by
 go_enter Tryz.func87, Tryz.ntmps87
 go_wp2_with (go_at_call 128; refine (IFormatUint_any u hu64 _ htab).mono ?_; rintro e w' ⟨rfl, he⟩; replace he := hide he)
 go_ret
 exact ⟨rfl, he.out⟩
theorem Len64_any (x : Nat) (h1 : x < 18446744073709551616) (w : World) :
  Calls Tryz.prog 178 #[.int .u64 x] w fun e w' => e = .returned (.int .i64 (Lib.bitLen x)) ∧ w = w' :=
 (Tryz.bits_Len64 x w (by omega) (by omega)).mono fun e w' ⟨h, h'⟩ => ⟨by simpa using h, h'.symm⟩
end
section
open Go.RowKit
/-- A path at an address in a world, all below its heap's end. -/
def Path (w : World) (a : Option Addr) (l : List Seg) : Prop := Sl ESeg w (· < w.heap.size) a l
theorem Path.ext {w w' : World} {a : Option Addr} {l : List Seg} (h : Path w a l) (he : Ext w w') : Path w' a l := Sl.ext h he
theorem Path.take {w : World} {a : Option Addr} {l : List Seg} (h : Path w a l) (n : Nat) : Path w a (l.take n) := Sl.take h n
theorem errOf_t : errOf true = 0 := rfl
theorem errOf_f : errOf false = 2 := rfl
set_option linter.unusedVariables false
theorem okU32 : ElemOk Tryz.prog 64 49 1 4 := elemOk (z := .int .u32 0) Tryz.underlying64 (by kernel_rfl) rfl
theorem take_snoc' {α : Type} (l : List α) (k : Nat) (hk : k < l.length) : l.take (k + 1) = l.take k ++ [l[k]] := List.take_succ_eq_append_getElem hk
end
section
set_option linter.unusedVariables false
def updF {α : Type} (f : Nat → α) (i : Nat) (x : α) : Nat → α := fun j => if j = i then x else f j
theorem updF_same {α : Type} (f : Nat → α) (i : Nat) (x : α) : updF f i x i = x := if_pos rfl
theorem updF_ne {α : Type} (f : Nat → α) {i j : Nat} (x : α) (h : j ≠ i) : updF f i x j = f j := if_neg h
def putD (done : Nat → Bool) (val : Nat → Value) : List Oper → Nat → Act → Act
 | [], _, a => a
 | o :: l, k, a => putD done val l (k + 1) (if done k = true then a.put o.dst (val k) else a)
def distB : List Oper → Bool
 | [] => true
 | o :: l => (match o.dst with | none => true | some d => l.all fun p => p.dst != some d) && distB l
theorem putD_put {done : Nat → Bool} {val : Nat → Value} (d : Option Tmp) (v : Value) : ∀ (l : List Oper) (k : Nat) (a : Act), (∀ o ∈ l, ∀ x, d = some x → o.dst ≠ some x) → putD done val l k (a.put d v) = (putD done val l k a).put d v
  | [], _, _, _ => rfl
  | o :: l, k, a, h => by
    simp only [putD]
    rw [← putD_put d v l (k + 1) _ fun p hp => h p (by simp [hp])]
    congr 1
    split
    · exact Act.put_comm a v _ fun x hx => h o (by simp) x hx
    · rfl
theorem putD_congr {done done' : Nat → Bool} {val val' : Nat → Value} : ∀ (l : List Oper) (k : Nat) (a : Act), (∀ j, k ≤ j → done j = done' j ∧ val j = val' j) → putD done val l k a = putD done' val' l k a
  | [], _, _, _ => rfl
  | o :: l, k, a, h => by
    simp only [putD]
    rw [(h k (Nat.le_refl _)).1, (h k (Nat.le_refl _)).2]
    exact putD_congr l (k + 1) _ fun j hj => h j (by omega)
theorem dist_tail {o : Oper} {l : List Oper} (h : distB (o :: l) = true) : distB l = true ∧ ∀ p ∈ l, ∀ x, o.dst = some x → p.dst ≠ some x := by
 simp only [distB, Bool.and_eq_true] at h
 refine ⟨h.2, fun p hp x hx => ?_⟩
 rw [hx] at h
 have := List.all_eq_true.1 h.1 p hp
 simpa using this
theorem putD_upd {done : Nat → Bool} {val : Nat → Value} (v : Value) : ∀ (l : List Oper) (k i : Nat) (a : Act) (o : Oper), distB l = true → l[i]? = some o → done (k + i) = false →
    putD (updF done (k + i) true) (updF val (k + i) v) l k a = (putD done val l k a).put o.dst v
  | [], _, _, _, _, _, h, _ => by simp at h
  | p :: l, k, 0, a, o, hB, ho, hd => by
    obtain rfl : p = o := by simpa using ho
    obtain ⟨_, hne⟩ := dist_tail hB
    simp only [putD, Nat.add_zero, updF_same, if_true]
    simp only [Nat.add_zero] at hd
    rw [hd, if_neg (by decide), putD_congr (done' := done) (val' := val) l (k + 1) _ fun j hj => ⟨updF_ne _ _ (by omega), updF_ne _ _ (by omega)⟩]
    exact putD_put _ _ l _ _ hne
  | p :: l, k, i + 1, a, o, hB, ho, hd => by
    have ho' : l[i]? = some o := by simpa using ho
    simp only [putD]
    rw [updF_ne _ _ (show k ≠ k + (i + 1) by omega), updF_ne _ _ (show k ≠ k + (i + 1) by omega)]
    have := putD_upd (val := val) v l (k + 1) i (if done k = true then a.put p.dst (val k) else a) o (dist_tail hB).1 ho' (by rw [show k + 1 + i = k + (i + 1) by omega]; exact hd)
    rw [show k + 1 + i = k + (i + 1) by omega] at this
    exact this
theorem putD_size {done : Nat → Bool} {val : Nat → Value} : ∀ (l : List Oper) (k : Nat) (a : Act), (putD done val l k a).tmps.size = a.tmps.size
  | [], _, _ => rfl
  | o :: l, k, a => by
    simp only [putD]
    rw [putD_size l]
    split
    · cases o.dst <;> simp [Act.put]
    · rfl
theorem eval_put_same {a : Act} {d : Tmp} {v : Value} (h : d < a.tmps.size) : (a.put (some d) v).eval (.tmp d) = v := by
 simp [Act.put, Act.eval, h]
theorem eval_putD {done : Nat → Bool} {val : Nat → Value} : ∀ (l : List Oper) (k i : Nat) (a : Act) (o : Oper) (d : Tmp), distB l = true → l[i]? = some o → o.dst = some d → done (k + i) = true → d < a.tmps.size → (putD done val l k a).eval (.tmp d) = val (k + i)
  | [], _, _, _, _, _, _, h, _, _, _ => by simp at h
  | p :: l, k, 0, a, o, d, hB, ho, hd, hk, hs => by
    obtain rfl : p = o := by simpa using ho
    simp only [Nat.add_zero] at hk ⊢
    simp only [putD]
    rw [hk, if_pos rfl, hd, putD_put (some d) _ l _ _ fun q hq x hx => (dist_tail hB).2 q hq x (by rw [hd]; exact hx)]
    exact eval_put_same (by rw [putD_size]; exact hs)
  | p :: l, k, i + 1, a, o, d, hB, ho, hd, hk, hs => by
    simp only [putD]
    have := eval_putD (done := done) (val := val) l (k + 1) i (if done k = true then a.put p.dst (val k) else a) o d (dist_tail hB).1 (by simpa using ho) hd (by rw [show k + 1 + i = k + (i + 1) by omega]; exact hk) (by split <;> (try cases p.dst) <;> simpa [Act.put] using hs)
    rw [show k + 1 + i = k + (i + 1) by omega] at this
    exact this
theorem eval_putD_out {done : Nat → Bool} {val : Nat → Value} (t : Tmp) : ∀ (l : List Oper) (k : Nat) (a : Act), (∀ o ∈ l, o.dst ≠ some t) → (putD done val l k a).eval (.tmp t) = a.eval (.tmp t)
  | [], _, _, _ => rfl
  | o :: l, k, a, h => by
    simp only [putD]
    rw [eval_putD_out t l (k + 1) _ fun p hp => h p (by simp [hp])]
    split
    · exact Act.eval_put fun d hd he => h o (by simp) (by rw [hd]; injection he with he; rw [he])
    · rfl
/-- How many are left. -/
def cntF (f : Nat → Bool) : Nat → Nat
 | 0 => 0
 | n + 1 => cntF f n + if f n = true then 0 else 1
theorem cntF_upd (f : Nat → Bool) (i : Nat) (hi : f i = false) : ∀ n, cntF (updF f i true) n + (if i < n then 1 else 0) = cntF f n
  | 0 => by simp [cntF]
  | n + 1 => by
    have ih := cntF_upd f i hi n
    simp only [cntF]
    by_cases h : n = i
    · subst h
      rw [if_neg (Nat.lt_irrefl n)] at ih
      have h1 : (if n < n + 1 then 1 else 0) = 1 := if_pos (Nat.lt_succ_self n)
      rw [updF_same, hi, h1]
      simp only [if_true, Bool.false_eq_true, if_false]
      omega
    · rw [updF_ne _ _ h]
      by_cases h2 : i < n
      · rw [if_pos h2] at ih
        have h1 : (if i < n + 1 then 1 else 0) = 1 := if_pos (by omega)
        rw [h1]
        omega
      · rw [if_neg h2] at ih
        have h1 : (if i < n + 1 then 1 else 0) = 0 := if_neg (by omega)
        rw [h1]
        omega
theorem cntF_zero (f : Nat → Bool) : ∀ n, cntF f n = 0 → ∀ i, i < n → f i = true
  | 0, _, i, hi => by omega
  | n + 1, h, i, hi => by
    simp only [cntF] at h
    by_cases hn : f n = true
    · rw [if_pos hn] at h
      rcases Nat.lt_or_ge i n with h2 | h2
      · exact cntF_zero f n h i h2
      · obtain rfl : i = n := by omega
        exact hn
    · rw [if_neg hn] at h; omega
/-- What is asked of one operation: J is kept. -/
def KeepsJ (P : Program) (md : Region.Mode) (ops : Array Oper) (Q : Exit → Act → World → Prop) (J : (Nat → Bool) → (Nat → Value) → World → Prop) (a0 : Act) : Prop :=
  ∀ (i : Nat) (o : Oper) (done : Nat → Bool) (val : Nat → Value) (w' : World), ops[i]? = some o → done i = false → (∀ e ∈ o.after, Region.binds md e = true → done e.on = true) → J done val w' →
    Region.wanted o (yielded ops (putD done val ops.toList 0 a0).tmps) = true ∧ Oper.wp P o (putD done val ops.toList 0 a0) w' (fun a' w'' => ∃ v, a' = (putD done val ops.toList 0 a0).put o.dst v ∧ J (updF done i true) (updF val i v) w'') Q
theorem cntF_none (n : Nat) : cntF (fun _ => false) n = n := by
 induction n with
 | zero => rfl
 | succ n ih => simp [cntF, ih]
open Go.RowKit
def backM (md : Region.Mode) (ops : Array Oper) : Bool := (List.range ops.size).all fun i => match ops[i]? with | none => true | some o => o.after.all fun e => !Region.binds md e || decide (e.on < i)
theorem ready_nilM {md : Region.Mode} {ops : Array Oper} {listed : Array Bool} (hb : backM md ops = true) (hs : listed.size = ops.size) (h : Region.ready md ops listed = []) (i : Nat) : i < ops.size → listed.getD i false = true := by
  induction i using Nat.strongRecOn with
  | _ i ih =>
    intro hi
    cases hl : listed.getD i false with
    | true => rfl
    | false =>
      have hmem : i ∈ Region.ready md ops listed := mem_ready.2 ⟨by
        have : i < listed.size := by omega
        simp [this] at hl ⊢
        exact hl, ops[i], by simp [hi], fun e he hbd => by
        have hb' := List.all_eq_true.1 hb i (by simpa using hi)
        simp only [Array.getElem?_eq_getElem hi] at hb'
        have hlt : e.on < i := by
          rw [Array.all_eq_true] at hb'
          obtain ⟨k, hk, rfl⟩ := Array.mem_iff_getElem.1 he
          have h3 := hb' k hk
          rw [hbd] at h3
          simpa using h3
        exact ih e.on hlt (by omega)⟩
      rw [h] at hmem
      cases hmem
/-- What an operation yields: a value; a block of its own; a block that is filled later; nothing: it fills what number b made. -/
inductive Spec where
  | val (v : Value)
  | mk (f : Nat → Value) (t : TypeId) (cs : Array Value)
  | box (st : Nat) (t : TypeId) (z cs : Array Value)
  | fill (b : Nat)
def Spec.mem : Spec → Bool
 | .mk _ _ _ => true
 | .box _ _ _ _ => true
 | _ => false
def Spec.Ok (done : Nat → Bool) (v : Value) (w : World) (g : Nat) : Spec → Prop
 | .val u => v = u
 | .mk f t cs => v = f g ∧ Blk w g t cs
 | .box st t z cs => v = .pointer (some ⟨g, 0, none⟩) ∧ Blk w g t (if done st = true then cs else z)
 | .fill _ => True
/-- Nothing but block g has turned. -/
structure OnlyAt (g : Nat) (w w' : World) : Prop where
  os : w'.os = w.os
  tape : w'.tape = w.tape
  output : w'.output = w.output
  size : w'.heap.size = w.heap.size
  block : ∀ b, b ≠ g → w'.heap[b]? = w.heap[b]?
theorem OnlyAt.refl (g : Nat) (w : World) : OnlyAt g w w := ⟨rfl, rfl, rfl, rfl, fun _ _ => rfl⟩
theorem OnlyAt.setCell {g : Nat} {a w : World} (h : OnlyAt g a w) (o : Nat) (u : Value) : OnlyAt g a (w.setCell ⟨g, o, none⟩ u) :=
 ⟨h.os, h.tape, h.output, by simpa [World.setCell] using h.size, fun b hb => (Below.heap_setCell _ _ _ _ (show b ≠ g from hb)).trans (h.block b hb)⟩
theorem OnlyAt.ext {g : Nat} {W w w' : World} (h : OnlyAt g w w') (hE : Ext W w) (hg : W.heap.size ≤ g) : Ext W w' :=
 ⟨h.os.trans hE.os, h.tape.trans hE.tape, h.output.trans hE.output, by rw [h.size]; exact hE.size, fun b hb => (h.block b (by omega)).trans (hE.block b hb)⟩
def JS (W : World) (n : Nat) (sp : Nat → Spec) (done : Nat → Bool) (val : Nat → Value) (w : World) : Prop :=
 Ext W w ∧ ∃ G : Nat → Nat, (∀ i, i < n → done i = true → (sp i).Ok done (val i) w (G i)) ∧ (∀ i, i < n → done i = true → (sp i).mem = true → W.heap.size ≤ G i ∧ G i < w.heap.size) ∧
  (∀ i j, i < n → j < n → done i = true → done j = true → (sp i).mem = true → (sp j).mem = true → G i = G j → i = j) ∧ (∀ i b, i < n → sp i = .fill b → done i = true → done b = true)
theorem JS.start (W : World) (n : Nat) (sp : Nat → Spec) (val : Nat → Value) : JS W n sp (fun _ => false) val W.drew :=
 ⟨(Ext.refl W).drew, fun _ => 0, fun _ _ h => Bool.noConfusion h, fun _ _ h => Bool.noConfusion h, fun _ _ _ _ h => Bool.noConfusion h, fun _ _ _ _ h => Bool.noConfusion h⟩
def StepOk (P : Program) (Q : Exit → Act → World → Prop) (sp : Nat → Spec) (o : Oper) (a : Act) (w : World) (G : Nat → Nat) : Spec → Prop
  | .val u => Oper.wp P o a w (fun a' w'' => a' = a.put o.dst u ∧ Ext w w'') Q
  | .mk f t cs => Oper.wp P o a w (fun a' w'' => ∃ g, a' = a.put o.dst (f g) ∧ w.heap.size ≤ g ∧ Ext w w'' ∧ Blk w'' g t cs) Q
  | .box _ t z _ => Oper.wp P o a w (fun a' w'' => ∃ g, a' = a.put o.dst (.pointer (some ⟨g, 0, none⟩)) ∧ w.heap.size ≤ g ∧ Ext w w'' ∧ Blk w'' g t z) Q
  | .fill b => match sp b with
    | .box _ t _ cs => Oper.wp P o a w (fun a' w'' => ∃ v, a' = a.put o.dst v ∧ OnlyAt (G b) w w'' ∧ Blk w'' (G b) t cs) Q
    | _ => False
def outB' (ops : Array Oper) (t : Tmp) : Bool := ops.toList.all fun o => o.dst != some t
theorem outB'_spec {ops : Array Oper} {t : Tmp} (h : outB' ops t = true) : ∀ o ∈ ops.toList, o.dst ≠ some t := fun o ho => by
 have := List.all_eq_true.1 h o ho
 simpa using this
theorem wanted_none' {o : Oper} {a : Nat → Option Bool} (h : o.guard = none) : Region.wanted o a = true := by
 unfold Region.wanted; rw [h]
theorem Spec.Ok.mono {sp : Spec} {done done' : Nat → Bool} {v : Value} {w w' : World} {g : Nat} (h : sp.Ok done v w g) (hd : ∀ st t z cs, sp = .box st t z cs → done' st = done st) (hw : sp.mem = true → w'.heap[g]? = w.heap[g]?) : sp.Ok done' v w' g := by
  cases sp with
  | val u => exact h
  | mk f t cs => exact ⟨h.1, (hw rfl).trans h.2⟩
  | box st t z cs =>
    refine ⟨h.1, ?_⟩
    rw [hd st t z cs rfl]
    exact (hw rfl).trans h.2
  | fill b => trivial
theorem Spec.Ok.lt {sp : Spec} {done : Nat → Bool} {v : Value} {w : World} {g : Nat} (h : sp.Ok done v w g) (hm : sp.mem = true) : g < w.heap.size := by
 cases sp with
 | val u => cases hm
 | mk f t cs => exact h.2.lt
 | box st t z cs => exact h.2.lt
 | fill b => cases hm
theorem JS.keeps {P : Program} {ops : Array Oper} {Q : Exit → Act → World → Prop} {a0 : Act} {W : World} {sp : Nat → Spec} (hB : distB ops.toList = true)
    (hfill : ∀ i b, i < ops.size → sp i = .fill b → b < ops.size ∧ (∃ t z cs, sp b = .box i t z cs) ∧ ∃ o, ops[i]? = some o ∧ ∃ e ∈ o.after, Region.binds .any e = true ∧ e.on = b)
    (hbox : ∀ b st t z cs, b < ops.size → sp b = .box st t z cs → st < ops.size ∧ sp st = .fill b)
    (hst : ∀ i, i < ops.size → ∃ o, ops[i]? = some o ∧ o.guard = none ∧ ∀ (a : Act) (w : World) (done : Nat → Bool) (val : Nat → Value) (G : Nat → Nat), done i = false →
      (∀ e ∈ o.after, Region.binds .any e = true → done e.on = true) → (∀ j oj d, ops[j]? = some oj → oj.dst = some d → d < a0.tmps.size → done j = true → a.eval (.tmp d) = val j) →
      (∀ t, outB' ops t = true → a.eval (.tmp t) = a0.eval (.tmp t)) → Ext W w → (∀ j, j < ops.size → done j = true → (sp j).Ok done (val j) w (G j)) → StepOk P Q sp o a w G (sp i)) :
    KeepsJ P .any ops Q (JS W ops.size sp) a0 := by
  intro i o done val w' ho hdn hdep hJ
  have hi : i < ops.size := by
    rcases Nat.lt_or_ge i ops.size with h | h
    · exact h
    · rw [Array.getElem?_eq_none h] at ho; cases ho
  obtain ⟨hE, G, hok, hge, hinj, hfd⟩ := hJ
  obtain ⟨o', ho', hg, hstep⟩ := hst i hi
  rw [ho] at ho'
  cases ho'
  refine ⟨wanted_none' hg, ?_⟩
  have hs := hstep (putD done val ops.toList 0 a0) w' done val G hdn hdep (fun j oj d h1 h2 h3 h4 => by
    have := eval_putD (done := done) (val := val) ops.toList 0 j a0 oj d hB (by simpa using h1) h2 (by rw [Nat.zero_add]; exact h4) h3
    rw [Nat.zero_add] at this
    exact this) (fun t ht => eval_putD_out _ _ _ _ (outB'_spec ht)) hE hok
  generalize putD done val ops.toList 0 a0 = a at hs ⊢
  have hnst : ∀ j st t z cs, j < ops.size → sp j = .box st t z cs → (∀ b, sp i = .fill b → b ≠ j) → updF done i true st = done st := fun j st t z cs hj hs hb => by
    refine updF_ne _ _ fun e => ?_
    obtain ⟨_, h2⟩ := hbox j st t z cs hj hs
    exact hb j (e ▸ h2) rfl
  have hpast : ∀ j, done j = true → j ≠ i := fun j h e => by subst e; rw [hdn] at h; cases h
  have hfd' : ∀ j b, j < ops.size → sp j = .fill b → updF done i true j = true → (i = j → done b = true) → updF done i true b = true := fun j b hj hs hd hq => by
    by_cases hb : b = i
    · subst hb; exact updF_same _ _ _
    · rw [updF_ne _ _ hb]
      by_cases e : j = i
      · exact hq e.symm
      · rw [updF_ne _ _ e] at hd
        exact hfd j b hj hs hd
  cases hsp : sp i with
  | val u =>
    rw [hsp] at hs
    refine Oper.wp_mono ?_ hs
    rintro a' w'' ⟨ha, he⟩
    refine ⟨u, ha, hE.trans he, G, fun j hj hd => ?_, fun j hj hd hm => ?_, fun j k hj hk hd hd' hm hm' h => ?_, fun j b hj hs hd => hfd' j b hj hs hd fun e => by subst e; rw [hsp] at hs; cases hs⟩
    · by_cases e : j = i
      · subst e
        rw [hsp, updF_same]
        exact rfl
      · rw [updF_ne _ _ e] at hd ⊢
        refine (hok j hj hd).mono (fun st t z cs h => hnst j st t z cs hj h fun b hb => by rw [hsp] at hb; cases hb) fun hm => he.block _ ((hge j hj hd hm).2)
    · have e : j ≠ i := fun e => by subst e; rw [hsp] at hm; cases hm
      rw [updF_ne _ _ e] at hd
      have := hge j hj hd hm
      exact ⟨this.1, Nat.lt_of_lt_of_le this.2 he.size⟩
    · have e : j ≠ i := fun e => by subst e; rw [hsp] at hm; cases hm
      have e' : k ≠ i := fun e => by subst e; rw [hsp] at hm'; cases hm'
      rw [updF_ne _ _ e] at hd
      rw [updF_ne _ _ e'] at hd'
      exact hinj j k hj hk hd hd' hm hm' h
  | mk f t cs =>
    rw [hsp] at hs
    refine Oper.wp_mono ?_ hs
    rintro a' w'' ⟨g, ha, hgs, he, hB⟩
    refine ⟨f g, ha, hE.trans he, updF G i g, fun j hj hd => ?_, fun j hj hd hm => ?_, fun j k hj hk hd hd' hm hm' h => ?_, fun j b hj hs hd => hfd' j b hj hs hd fun e => by subst e; rw [hsp] at hs; cases hs⟩
    · by_cases e : j = i
      · subst e
        rw [hsp, updF_same, updF_same]
        exact ⟨rfl, hB⟩
      · rw [updF_ne _ _ e] at hd ⊢
        rw [updF_ne _ _ e]
        refine (hok j hj hd).mono (fun st t z cs h => hnst j st t z cs hj h fun b hb => by rw [hsp] at hb; cases hb) fun hm => he.block _ ((hge j hj hd hm).2)
    · by_cases e : j = i
      · subst e
        rw [updF_same]
        exact ⟨Nat.le_trans hE.size hgs, hB.lt⟩
      · rw [updF_ne _ _ e] at hd ⊢
        have := hge j hj hd hm
        exact ⟨this.1, Nat.lt_of_lt_of_le this.2 he.size⟩
    · by_cases e : j = i <;> by_cases e' : k = i
      · rw [e, e']
      · exfalso
        subst e
        rw [updF_ne _ _ e'] at hd'
        rw [updF_same, updF_ne _ _ e'] at h
        have := (hge k hk hd' hm').2
        omega
      · exfalso
        subst e'
        rw [updF_ne _ _ e] at hd
        rw [updF_same, updF_ne _ _ e] at h
        have := (hge j hj hd hm).2
        omega
      · rw [updF_ne _ _ e] at hd
        rw [updF_ne _ _ e'] at hd'
        rw [updF_ne _ _ e, updF_ne _ _ e'] at h
        exact hinj j k hj hk hd hd' hm hm' h
  | box st t z cs =>
    rw [hsp] at hs
    refine Oper.wp_mono ?_ hs
    rintro a' w'' ⟨g, ha, hgs, he, hB⟩
    obtain ⟨hst1, hst2⟩ := hbox i st t z cs hi hsp
    refine ⟨_, ha, hE.trans he, updF G i g, fun j hj hd => ?_, fun j hj hd hm => ?_, fun j k hj hk hd hd' hm hm' h => ?_, fun j b hj hs hd => hfd' j b hj hs hd fun e => by subst e; rw [hsp] at hs; cases hs⟩
    · by_cases e : j = i
      · subst e
        rw [hsp, updF_same, updF_same]
        refine ⟨rfl, ?_⟩
        have hne : st ≠ j := fun e => by subst e; rw [hsp] at hst2; cases hst2
        rw [updF_ne _ _ hne]
        have hns : ¬ done st = true := fun h => by
          have := hfd st j hst1 hst2 h
          rw [hdn] at this
          cases this
        rw [if_neg hns]
        exact hB
      · rw [updF_ne _ _ e] at hd ⊢
        rw [updF_ne _ _ e]
        refine (hok j hj hd).mono (fun st t z cs h => hnst j st t z cs hj h fun b hb => by rw [hsp] at hb; cases hb) fun hm => he.block _ ((hge j hj hd hm).2)
    · by_cases e : j = i
      · subst e
        rw [updF_same]
        exact ⟨Nat.le_trans hE.size hgs, hB.lt⟩
      · rw [updF_ne _ _ e] at hd ⊢
        have := hge j hj hd hm
        exact ⟨this.1, Nat.lt_of_lt_of_le this.2 he.size⟩
    · by_cases e : j = i <;> by_cases e' : k = i
      · rw [e, e']
      · exfalso
        subst e
        rw [updF_ne _ _ e'] at hd'
        rw [updF_same, updF_ne _ _ e'] at h
        have := (hge k hk hd' hm').2
        omega
      · exfalso
        subst e'
        rw [updF_ne _ _ e] at hd
        rw [updF_same, updF_ne _ _ e] at h
        have := (hge j hj hd hm).2
        omega
      · rw [updF_ne _ _ e] at hd
        rw [updF_ne _ _ e'] at hd'
        rw [updF_ne _ _ e, updF_ne _ _ e'] at h
        exact hinj j k hj hk hd hd' hm hm' h
  | fill b =>
    obtain ⟨hb, ⟨t, z, cs, hbx⟩, oi, hoi, e, hea, hbi, hon⟩ := hfill i b hi hsp
    rw [ho] at hoi
    cases hoi
    have hdb : done b = true := hon ▸ hdep e hea hbi
    rw [hsp] at hs
    simp only [StepOk, hbx] at hs
    refine Oper.wp_mono ?_ hs
    rintro a' w'' ⟨v, ha, hon', hB⟩
    have hmb : (sp b).mem = true := by rw [hbx]; rfl
    have hgb := hge b hb hdb hmb
    refine ⟨v, ha, hon'.ext hE hgb.1, G, fun j hj hd => ?_, fun j hj hd hm => ?_, fun j k hj hk hd hd' hm hm' h => ?_, fun j b' hj hs hd => hfd' j b' hj hs hd fun e => by
      subst e
      rw [hsp] at hs
      injection hs with hs
      subst hs
      exact hdb⟩
    · by_cases e : j = i
      · subst e
        rw [hsp]
        trivial
      · rw [updF_ne _ _ e] at hd ⊢
        by_cases ejb : j = b
        · subst ejb
          have h1 := hok j hj hd
          rw [hbx] at h1 ⊢
          refine ⟨h1.1, ?_⟩
          rw [updF_same, if_pos rfl]
          exact hB
        · refine (hok j hj hd).mono (fun st t z cs h => hnst j st t z cs hj h fun b' hb' => by rw [hsp] at hb'; injection hb' with hb'; rw [← hb']; exact fun e => ejb e.symm) fun hm => hon'.block _ fun hG => ejb (hinj j b hj hb hd hdb hm hmb hG)
    · have e : j ≠ i := fun e => by subst e; rw [hsp] at hm; cases hm
      rw [updF_ne _ _ e] at hd
      have := hge j hj hd hm
      exact ⟨this.1, by rw [hon'.size]; exact this.2⟩
    · have e : j ≠ i := fun e => by subst e; rw [hsp] at hm; cases hm
      have e' : k ≠ i := fun e => by subst e; rw [hsp] at hm'; cases hm'
      rw [updF_ne _ _ e] at hd
      rw [updF_ne _ _ e'] at hd'
      exact hinj j k hj hk hd hd' hm hm' h
/-- Steps by their runs. -/
theorem step_val {P : Program} {Q : Exit → Act → World → Prop} {o : Oper} {a : Act} {w w'' : World} {u : Value} (h : (execOp a.eval o).run P w = .ok (.value u) w'') (he : Ext w w'') : Oper.wp P o a w (fun a' w'' => a' = a.put o.dst u ∧ Ext w w'') Q := by
 unfold Oper.wp
 rw [h]
 exact ⟨rfl, he⟩
/-- What an operation yields: a value; a block of its own; a block that is filled later; nothing: it fills what number b made; something of which R holds, in blocks of its own from lo up to hi. -/
inductive Wd where
  | val (v : Value)
  | mk (f : Nat → Value) (t : TypeId) (cs : Array Value)
  | box (st : Nat) (t : TypeId) (z : Array Value) (cs : (Nat → Value) → Array Value)
  | fill (b : Nat)
  | any (R : Nat → Nat → Value → World → Prop)
def Wd.mem : Wd → Bool
 | .mk _ _ _ => true
 | .box _ _ _ _ => true
 | .any _ => true
 | _ => false
def Wd.Ok (done : Nat → Bool) (val : Nat → Value) (v : Value) (w : World) (g h : Nat) : Wd → Prop
 | .val u => v = u
 | .mk f t cs => (v = f g ∧ Blk w g t cs) ∧ h = g + 1
 | .box st t z cs => (v = .pointer (some ⟨g, 0, none⟩) ∧ Blk w g t (if done st = true then cs val else z)) ∧ h = g + 1
 | .fill _ => True
 | .any R => R g h v w
/-- What stays while nothing but other blocks turns. -/
def Stays (W : World) (R : Nat → Nat → Value → World → Prop) : Prop :=
 ∀ lo hi v w w', R lo hi v w → (∀ b, b < W.heap.size ∨ (lo ≤ b ∧ b < hi) → w'.heap[b]? = w.heap[b]?) → w.heap.size ≤ w'.heap.size → R lo hi v w'
def JW (W : World) (n : Nat) (sp : Nat → Wd) (done : Nat → Bool) (val : Nat → Value) (w : World) : Prop :=
 Ext W w ∧ ∃ G H : Nat → Nat, (∀ i, i < n → done i = true → (sp i).Ok done val (val i) w (G i) (H i)) ∧ (∀ i, i < n → done i = true → (sp i).mem = true → W.heap.size ≤ G i ∧ G i ≤ H i ∧ H i ≤ w.heap.size) ∧
  (∀ i j, i < n → j < n → i ≠ j → done i = true → done j = true → (sp i).mem = true → (sp j).mem = true → H i ≤ G j ∨ H j ≤ G i) ∧ (∀ i b, i < n → sp i = .fill b → done i = true → done b = true)
theorem JW.start (W : World) (n : Nat) (sp : Nat → Wd) (val : Nat → Value) : JW W n sp (fun _ => false) val W.drew :=
 ⟨(Ext.refl W).drew, fun _ => 0, fun _ => 0, fun _ _ h => Bool.noConfusion h, fun _ _ h => Bool.noConfusion h, fun _ _ _ _ _ h => Bool.noConfusion h, fun _ _ _ _ h => Bool.noConfusion h⟩
def StepW (P : Program) (Q : Exit → Act → World → Prop) (sp : Nat → Wd) (o : Oper) (a : Act) (w : World) (G : Nat → Nat) (val : Nat → Value) : Wd → Prop
  | .val u => Oper.wp P o a w (fun a' w'' => a' = a.put o.dst u ∧ Ext w w'') Q
  | .mk f t cs => Oper.wp P o a w (fun a' w'' => ∃ g, a' = a.put o.dst (f g) ∧ w.heap.size ≤ g ∧ Ext w w'' ∧ Blk w'' g t cs) Q
  | .box _ t z _ => Oper.wp P o a w (fun a' w'' => ∃ g, a' = a.put o.dst (.pointer (some ⟨g, 0, none⟩)) ∧ w.heap.size ≤ g ∧ Ext w w'' ∧ Blk w'' g t z) Q
  | .fill b => match sp b with
    | .box _ t _ cs => Oper.wp P o a w (fun a' w'' => ∃ v, a' = a.put o.dst v ∧ OnlyAt (G b) w w'' ∧ Blk w'' (G b) t (cs val)) Q
    | _ => False
  | .any R => Oper.wp P o a w (fun a' w'' => ∃ v, a' = a.put o.dst v ∧ Ext w w'' ∧ R w.heap.size w''.heap.size v w'') Q
theorem Wd.Ok.mono {W : World} {sp : Wd} (hR : ∀ R, sp = .any R → Stays W R) {done done' : Nat → Bool} {val val' : Nat → Value} {v : Value} {w w' : World} {g h : Nat} (hk : sp.Ok done val v w g h) (hd : ∀ st t z cs, sp = .box st t z cs → done' st = done st ∧ (done st = true → cs val' = cs val))
    (hw : sp.mem = true → ∀ b, b < W.heap.size ∨ (g ≤ b ∧ b < h) → w'.heap[b]? = w.heap[b]?) (hs : w.heap.size ≤ w'.heap.size) : sp.Ok done' val' v w' g h := by
  cases sp with
  | val u => exact hk
  | mk f t cs => exact ⟨⟨hk.1.1, (hw rfl g (.inr ⟨Nat.le_refl _, by have := hk.2; omega⟩)).trans hk.1.2⟩, hk.2⟩
  | box st t z cs =>
    refine ⟨⟨hk.1.1, ?_⟩, hk.2⟩
    obtain ⟨h1, h2⟩ := hd st t z cs rfl
    rw [h1]
    have := hk.1.2
    have hb : Blk w' g t (if done st = true then cs val else z) := (hw rfl g (.inr ⟨Nat.le_refl _, by have := hk.2; omega⟩)).trans this
    by_cases e : done st = true
    · rw [if_pos e] at hb ⊢
      rw [h2 e]
      exact hb
    · rw [if_neg e] at hb ⊢
      exact hb
  | fill b => trivial
  | any R => exact hR R rfl g h v w w' hk (hw rfl) hs
/-- The same, and that what is done has all done that it waits for. -/
def JV (W : World) (ops : Array Oper) (sp : Nat → Wd) (done : Nat → Bool) (val : Nat → Value) (w : World) : Prop :=
 JW W ops.size sp done val w ∧ ∀ i o, ops[i]? = some o → done i = true → ∀ e ∈ o.after, Region.binds .any e = true → done e.on = true
theorem JV.start (W : World) (ops : Array Oper) (sp : Nat → Wd) (val : Nat → Value) : JV W ops sp (fun _ => false) val W.drew := ⟨JW.start _ _ _ _, fun _ _ _ h => Bool.noConfusion h⟩
/-- An operation that is not skipped: it bears no guard, or its guard's word is what it wants. -/
def GuardOk (ops : Array Oper) (sp : Nat → Wd) (n m : Nat) (o : Oper) : Prop :=
 o.guard = none ∨ ∃ j want oj d, o.guard = some (j, want) ∧ ops[j]? = some oj ∧ oj.dst = some d ∧ d < m ∧ j < n ∧ sp j = .val (.bool want) ∧ o.after.any (fun e => Region.binds .any e && e.on == j) = true
theorem GuardOk.wanted {ops : Array Oper} {sp : Nat → Wd} {n : Nat} {a0 : Act} {o : Oper} {done : Nat → Bool} {val : Nat → Value} {w : World} {G H : Nat → Nat} (hB : distB ops.toList = true) (h : GuardOk ops sp n a0.tmps.size o)
  (hdep : ∀ e ∈ o.after, Region.binds .any e = true → done e.on = true) (hok : ∀ j, j < n → done j = true → (sp j).Ok done val (val j) w (G j) (H j)) :
  Region.wanted o (yielded ops (putD done val ops.toList 0 a0).tmps) = true := by
 rcases h with h | ⟨j, want, oj, d, h1, h2, h3, h4, h5, h6, h7⟩
 ·exact wanted_none' h
 ·obtain ⟨e, he, heb⟩ := Array.any_eq_true'.1 h7
  obtain ⟨hb1, hb2⟩ := (Bool.and_eq_true _ _).mp heb
  have hj : done j = true := by
   have := hdep e he hb1
   rwa [show e.on = j by simpa using hb2] at this
  have hv := hok j h5 hj
  rw [h6] at hv
  replace hv : val j = .bool want := hv
  have hev := eval_putD (done := done) (val := val) ops.toList 0 j a0 oj d hB (by simpa using h2) h3 (by rw [Nat.zero_add]; exact hj) h4
  rw [Nat.zero_add, hv] at hev
  have hsz : d < (putD done val ops.toList 0 a0).tmps.size := by rw [putD_size]; exact h4
  have hy : yielded ops (putD done val ops.toList 0 a0).tmps j = some want := by
   generalize putD done val ops.toList 0 a0 = a at hev hsz ⊢
   have hg : a.tmps[d]? = some (.bool want) := by
    simp [Act.eval, hsz] at hev
    rw [Array.getElem?_eq_getElem hsz, hev]
   simp [yielded, h2, h3, hg]
  simp [Region.wanted, h1, hy]
theorem JW.keepsG {P : Program} {ops : Array Oper} {Q : Exit → Act → World → Prop} {a0 : Act} {W : World} {sp : Nat → Wd} (hB : distB ops.toList = true)
    (hany : ∀ i R, i < ops.size → sp i = .any R → Stays W R)
    (hfill : ∀ i b, i < ops.size → sp i = .fill b → b < ops.size ∧ (∃ t z cs, sp b = .box i t z cs) ∧ ∃ o, ops[i]? = some o ∧ ∃ e ∈ o.after, Region.binds .any e = true ∧ e.on = b)
    (hbox : ∀ b st t z cs, b < ops.size → sp b = .box st t z cs → st < ops.size ∧ sp st = .fill b ∧ ∀ (i : Nat) (val : Nat → Value) (v : Value) (done : Nat → Bool), i < ops.size → done i = false → (∀ o, ops[st]? = some o → done st = true → ∀ e ∈ o.after, Region.binds .any e = true → done e.on = true) → done st = true → cs (updF val i v) = cs val)
    (hst : ∀ i, i < ops.size → ∃ o, ops[i]? = some o ∧ GuardOk ops sp ops.size a0.tmps.size o ∧ ∀ (a : Act) (w : World) (done : Nat → Bool) (val : Nat → Value) (G H : Nat → Nat), done i = false →
      (∀ e ∈ o.after, Region.binds .any e = true → done e.on = true) → (∀ j oj d, ops[j]? = some oj → oj.dst = some d → d < a0.tmps.size → done j = true → a.eval (.tmp d) = val j) →
      (∀ t, outB' ops t = true → a.eval (.tmp t) = a0.eval (.tmp t)) → Ext W w → (∀ j, j < ops.size → done j = true → (sp j).Ok done val (val j) w (G j) (H j)) →
      (∀ j, j < ops.size → done j = true → (sp j).mem = true → W.heap.size ≤ G j ∧ G j ≤ H j ∧ H j ≤ w.heap.size) →
      (∀ v b, sp i = .fill b → ∀ t z cs, sp b = .box i t z cs → cs (updF val i v) = cs val) ∧ StepW P Q sp o a w G val (sp i)) :
    KeepsJ P .any ops Q (JV W ops sp) a0 := by
  intro i o done val w' ho hdn hdep ⟨hJ, hdw⟩
  have hi : i < ops.size := by
    rcases Nat.lt_or_ge i ops.size with h | h
    · exact h
    · rw [Array.getElem?_eq_none h] at ho; cases ho
  obtain ⟨hE, G, H, hok, hge, hdis, hfd⟩ := hJ
  obtain ⟨o', ho', hg, hstep⟩ := hst i hi
  rw [ho] at ho'
  cases ho'
  refine ⟨hg.wanted hB hdep hok, ?_⟩
  obtain ⟨hcs, hs⟩ := hstep (putD done val ops.toList 0 a0) w' done val G H hdn hdep (fun j oj d h1 h2 h3 h4 => by
    have := eval_putD (done := done) (val := val) ops.toList 0 j a0 oj d hB (by simpa using h1) h2 (by rw [Nat.zero_add]; exact h4) h3
    rw [Nat.zero_add] at this
    exact this) (fun t ht => eval_putD_out _ _ _ _ (outB'_spec ht)) hE hok hge
  generalize putD done val ops.toList 0 a0 = a at hs ⊢
  have hdw' : ∀ j oj, ops[j]? = some oj → updF done i true j = true → ∀ e ∈ oj.after, Region.binds .any e = true → updF done i true e.on = true := fun j oj hj hd e he hb => by
    by_cases hji : j = i
    · subst hji
      rw [ho] at hj
      cases hj
      have := hdep e he hb
      by_cases h : e.on = j
      · rw [h, updF_same]
      · rw [updF_ne _ _ h]; exact this
    · rw [updF_ne _ _ hji] at hd
      have := hdw j oj hj hd e he hb
      by_cases h : e.on = i
      · rw [h, updF_same]
      · rw [updF_ne _ _ h]; exact this
  have hnst : ∀ (v : Value) j st t z cs, j < ops.size → sp j = .box st t z cs → (∀ b, sp i = .fill b → b ≠ j) → updF done i true st = done st ∧ (done st = true → cs (updF val i v) = cs val) := fun v j st t z cs hj hs hb => by
    obtain ⟨_, h2, h3⟩ := hbox j st t z cs hj hs
    exact ⟨updF_ne _ _ fun e => hb j (e ▸ h2) rfl, fun hd => h3 i val v done hi hdn (fun o ho hd => hdw st o ho hd) hd⟩
  have hpast : ∀ j, done j = true → j ≠ i := fun j h e => by subst e; rw [hdn] at h; cases h
  have hfd' : ∀ j b, j < ops.size → sp j = .fill b → updF done i true j = true → (i = j → done b = true) → updF done i true b = true := fun j b hj hs hd hq => by
    by_cases hb : b = i
    · subst hb; exact updF_same _ _ _
    · rw [updF_ne _ _ hb]
      by_cases e : j = i
      · exact hq e.symm
      · rw [updF_ne _ _ e] at hd
        exact hfd j b hj hs hd
  -- one step that makes the blocks [g, h) and turns nothing old
  have made : ∀ (v : Value) (g h : Nat) (w'' : World), (∀ b, sp i ≠ .fill b) → Ext w' w'' → ((sp i).mem = true → w'.heap.size ≤ g ∧ g ≤ h ∧ h ≤ w''.heap.size) → (sp i).Ok (updF done i true) (updF val i v) v w'' g h → JW W ops.size sp (updF done i true) (updF val i v) w'' := by
    intro v g h w'' hnf he hgh hnew
    refine ⟨hE.trans he, updF G i g, updF H i h, fun j hj hd => ?_, fun j hj hd hm => ?_, fun j k hj hk hne hd hd' hm hm' => ?_, fun j b hj hs hd => hfd' j b hj hs hd fun e => absurd (e ▸ hs) (hnf b)⟩
    · by_cases e : j = i
      · subst e
        rw [updF_same, updF_same, updF_same]
        exact hnew
      · rw [updF_ne _ _ e] at hd
        rw [updF_ne _ _ e, updF_ne _ _ e, updF_ne _ _ e]
        refine (hok j hj hd).mono (hany j · hj) (fun st t z cs h => hnst v j st t z cs hj h fun b hb => absurd hb (hnf b)) (fun hm b hb => ?_) he.size
        have := hge j hj hd hm
        have := hE.size
        exact he.block b (by omega)
    · by_cases e : j = i
      · subst e
        rw [updF_same, updF_same]
        have := hgh hm
        have := hE.size
        omega
      · rw [updF_ne _ _ e] at hd
        rw [updF_ne _ _ e, updF_ne _ _ e]
        have := hge j hj hd hm
        have := he.size
        omega
    · by_cases e : j = i
      · have e' : k ≠ i := fun x => hne (e.trans x.symm)
        rw [updF_ne _ _ e'] at hd'
        rw [e, updF_same, updF_same, updF_ne _ _ e', updF_ne _ _ e']
        have := hgh (e ▸ hm)
        have := hge k hk hd' hm'
        omega
      · rw [updF_ne _ _ e] at hd
        rw [updF_ne _ _ e, updF_ne _ _ e]
        by_cases e' : k = i
        · rw [e', updF_same, updF_same]
          have := hgh (e' ▸ hm')
          have := hge j hj hd hm
          omega
        · rw [updF_ne _ _ e'] at hd'
          rw [updF_ne _ _ e', updF_ne _ _ e']
          exact hdis j k hj hk hne hd hd' hm hm'
  cases hsp : sp i with
  | val u =>
    rw [hsp] at hs
    refine Oper.wp_mono ?_ hs
    rintro a' w'' ⟨ha, he⟩
    exact ⟨u, ha, made u 0 0 w'' (fun b h => by rw [hsp] at h; cases h) he (fun h => by rw [hsp] at h; cases h) (by rw [hsp]; exact rfl), hdw'⟩
  | mk f t cs =>
    rw [hsp] at hs
    refine Oper.wp_mono ?_ hs
    rintro a' w'' ⟨g, ha, hgs, he, hB⟩
    exact ⟨f g, ha, made (f g) g (g + 1) w'' (fun b h => by rw [hsp] at h; cases h) he (fun _ => ⟨hgs, by omega, hB.lt⟩) (by rw [hsp]; exact ⟨⟨rfl, hB⟩, rfl⟩), hdw'⟩
  | box st t z cs =>
    rw [hsp] at hs
    refine Oper.wp_mono ?_ hs
    rintro a' w'' ⟨g, ha, hgs, he, hB⟩
    obtain ⟨hst1, hst2, _⟩ := hbox i st t z cs hi hsp
    refine ⟨_, ha, made _ g (g + 1) w'' (fun b h => by rw [hsp] at h; cases h) he (fun _ => ⟨hgs, by omega, hB.lt⟩) ?_, hdw'⟩
    rw [hsp]
    refine ⟨⟨rfl, ?_⟩, rfl⟩
    have hne : st ≠ i := fun e => by subst e; rw [hsp] at hst2; cases hst2
    rw [updF_ne _ _ hne]
    have hns : ¬ done st = true := fun h => by
      have := hfd st i hst1 hst2 h
      rw [hdn] at this
      cases this
    rw [if_neg hns]
    exact hB
  | any R =>
    rw [hsp] at hs
    refine Oper.wp_mono ?_ hs
    rintro a' w'' ⟨v, ha, he, hR⟩
    exact ⟨v, ha, made v w'.heap.size w''.heap.size w'' (fun b h => by rw [hsp] at h; cases h) he (fun _ => ⟨Nat.le_refl _, he.size, Nat.le_refl _⟩) (by rw [hsp]; exact hR), hdw'⟩
  | fill b =>
    obtain ⟨hb, ⟨t, z, cs, hbx⟩, oi, hoi, e, hea, hbi, hon⟩ := hfill i b hi hsp
    rw [ho] at hoi
    cases hoi
    have hdb : done b = true := hon ▸ hdep e hea hbi
    rw [hsp] at hs
    simp only [StepW, hbx] at hs
    refine Oper.wp_mono ?_ hs
    rintro a' w'' ⟨v, ha, hon', hB⟩
    have hmb : (sp b).mem = true := by rw [hbx]; rfl
    have hgb := hge b hb hdb hmb
    have hgb1 : H b = G b + 1 := by have := hok b hb hdb; rw [hbx] at this; exact this.2
    refine ⟨v, ha, ⟨hon'.ext hE hgb.1, G, H, fun j hj hd => ?_, fun j hj hd hm => ?_, fun j k hj hk hne hd hd' hm hm' => ?_, fun j b' hj hs hd => hfd' j b' hj hs hd fun e => by
      subst e
      rw [hsp] at hs
      injection hs with hs
      subst hs
      exact hdb⟩, hdw'⟩
    · by_cases e : j = i
      · subst e
        rw [hsp]
        trivial
      · rw [updF_ne _ _ e] at hd ⊢
        by_cases ejb : j = b
        · subst ejb
          have h1 := hok j hj hd
          rw [hbx] at h1 ⊢
          refine ⟨⟨h1.1.1, ?_⟩, h1.2⟩
          rw [updF_same, if_pos rfl, hcs v j hsp t z cs hbx]
          exact hB
        · refine (hok j hj hd).mono (hany j · hj) (fun st t z cs h => hnst v j st t z cs hj h fun b' hb' => by rw [hsp] at hb'; injection hb' with hb'; rw [← hb']; exact fun e => ejb e.symm) (fun hm c hc => hon'.block _ ?_) (Nat.le_of_eq hon'.size.symm)
          have h1 := hdis j b hj hb ejb hd hdb hm hmb
          omega
    · have e : j ≠ i := fun e => by subst e; rw [hsp] at hm; cases hm
      rw [updF_ne _ _ e] at hd
      have := hge j hj hd hm
      rw [hon'.size]
      exact this
    · have e : j ≠ i := fun e => by subst e; rw [hsp] at hm; cases hm
      have e' : k ≠ i := fun e => by subst e; rw [hsp] at hm'; cases hm'
      rw [updF_ne _ _ e] at hd
      rw [updF_ne _ _ e'] at hd'
      exact hdis j k hj hk hne hd hd' hm hm'
theorem JW.keeps {P : Program} {ops : Array Oper} {Q : Exit → Act → World → Prop} {a0 : Act} {W : World} {sp : Nat → Wd} (hB : distB ops.toList = true)
  (hany : ∀ i R, i < ops.size → sp i = .any R → Stays W R)
  (hfill : ∀ i b, i < ops.size → sp i = .fill b → b < ops.size ∧ (∃ t z cs, sp b = .box i t z cs) ∧ ∃ o, ops[i]? = some o ∧ ∃ e ∈ o.after, Region.binds .any e = true ∧ e.on = b)
  (hbox : ∀ b st t z cs, b < ops.size → sp b = .box st t z cs → st < ops.size ∧ sp st = .fill b ∧ ∀ (i : Nat) (val : Nat → Value) (v : Value) (done : Nat → Bool), i < ops.size → done i = false → (∀ o, ops[st]? = some o → done st = true → ∀ e ∈ o.after, Region.binds .any e = true → done e.on = true) → done st = true → cs (updF val i v) = cs val)
  (hst : ∀ i, i < ops.size → ∃ o, ops[i]? = some o ∧ o.guard = none ∧ ∀ (a : Act) (w : World) (done : Nat → Bool) (val : Nat → Value) (G H : Nat → Nat), done i = false →
   (∀ e ∈ o.after, Region.binds .any e = true → done e.on = true) → (∀ j oj d, ops[j]? = some oj → oj.dst = some d → d < a0.tmps.size → done j = true → a.eval (.tmp d) = val j) →
   (∀ t, outB' ops t = true → a.eval (.tmp t) = a0.eval (.tmp t)) → Ext W w → (∀ j, j < ops.size → done j = true → (sp j).Ok done val (val j) w (G j) (H j)) →
   (∀ j, j < ops.size → done j = true → (sp j).mem = true → W.heap.size ≤ G j ∧ G j ≤ H j ∧ H j ≤ w.heap.size) →
   (∀ v b, sp i = .fill b → ∀ t z cs, sp b = .box i t z cs → cs (updF val i v) = cs val) ∧ StepW P Q sp o a w G val (sp i)) :
  KeepsJ P .any ops Q (JV W ops sp) a0 :=
 JW.keepsG hB hany hfill hbox fun i hi => let ⟨o, h1, h2, h3⟩ := hst i hi; ⟨o, h1, .inl h2, h3⟩
def KeepsN (P : Program) (md : Region.Mode) (ops : Array Oper) (n : Nat) (Q : Exit → Act → World → Prop) (J : (Nat → Bool) → (Nat → Value) → World → Prop) (a0 : Act) : Prop :=
  ∀ (i : Nat) (o : Oper) (done : Nat → Bool) (val : Nat → Value) (w' : World), i < n → ops[i]? = some o → done i = false → (∀ e ∈ o.after, Region.binds md e = true → done e.on = true) → J done val w' →
    Region.wanted o (yielded ops (putD done val ops.toList 0 a0).tmps) = true ∧ Oper.wp P o (putD done val ops.toList 0 a0) w' (fun a' w'' => ∃ v, a' = (putD done val ops.toList 0 a0).put o.dst v ∧ J (updF done i true) (updF val i v) w'') Q
theorem cntF_all (f : Nat → Bool) : ∀ n, (∀ i, i < n → f i = true) → cntF f n = 0
  | 0, _ => rfl
  | n + 1, h => by
    simp only [cntF]
    rw [cntF_all f n fun i hi => h i (by omega), if_pos (h n (by omega))]
def headA (n m : Nat) : Array Bool := Array.replicate n true ++ Array.replicate m false
theorem headA_eq {md : Region.Mode} {ops : Array Oper} {n : Nat} {listed : Array Bool} (hn : n ≤ ops.size) (inv : HeadInv md ops n listed) (h : ∀ i, i < n → listed.getD i false = true) : listed = headA n (ops.size - n) := by
 apply Array.ext
 ·rw [inv.size]; simp [headA]; omega
 ·intro i h1 h2
  by_cases hi : i < n
  ·have := h i hi
   rw [Array.getD_eq_getD_getElem?, Array.getElem?_eq_getElem h1] at this
   rw [show listed[i] = true from this]
   simp [headA, hi]
  ·have := inv.tail i (by omega) (by rw [inv.size] at h1; exact h1)
   rw [Array.getD_eq_getD_getElem?, Array.getElem?_eq_getElem h1] at this
   rw [show listed[i] = false from this]
   simp [headA, Array.getElem_append, hi]
theorem wpAny_JT {P : Program} {md : Region.Mode} {ops : Array Oper} {n : Nat} {Q : Exit → Act → World → Prop} {J : (Nat → Bool) → (Nat → Value) → World → Prop} {a0 : Act} (hB : distB ops.toList = true) (hb : backM md ops = true)
    (hn : n < ops.size) (hs : Region.sinkB md ops n = true) (hc : Region.chainB md ops n = true) (hseq : Region.seqB md ops (ops.size - n) n (headA n (ops.size - n)) = true)
    (hend : ∀ done val w', (∀ i, i < n → done i = true) → (∀ i, n ≤ i → done i = false) → J done val w' → wpList P ops Q (ops.toList.drop n) (putD done val ops.toList 0 a0) w') (hstep : KeepsN P md ops n Q J a0) :
    ∀ (fuel : Nat) (listed : Array Bool) (val : Nat → Value) (w' : World), HeadInv md ops n listed → cntF (fun i => listed.getD i false) n = fuel → J (fun i => listed.getD i false) val w' →
      wpAny P md ops Q (fuel + (ops.size - n)) listed (putD (fun i => listed.getD i false) val ops.toList 0 a0) w' := by
  intro fuel
  induction fuel with
  | zero =>
    intro listed val w' inv hcn hJ
    have hall := cntF_zero _ _ hcn
    have hdl : (ops.toList.drop n).length = ops.size - n := by simp
    rw [Nat.zero_add, ← hdl]
    refine wpAny_of_seq (ops.toList.drop n) n listed _ w' (fun j => by simp [List.getElem?_drop]) ?_ (hend _ _ _ hall (fun i hi => ?_) hJ)
    · rw [hdl, headA_eq (Nat.le_of_lt hn) inv hall]; exact hseq
    · rcases Nat.lt_or_ge i ops.size with h | h
      · exact getD_both (inv.tail i hi h)
      · show listed.getD i false = false
        rw [Array.getD_eq_getD_getElem?, Array.getElem?_eq_none (by rw [inv.size]; exact h)]
        rfl
  | succ fuel ih =>
    intro listed val w' inv hcn hJ
    obtain ⟨i0, hi0, hun0⟩ : ∃ i0, i0 < n ∧ listed.getD i0 false = false := by
      refine Classical.byContradiction fun hne => ?_
      have := cntF_all (fun i => listed.getD i false) n fun i hi => by
        cases h : listed.getD i false with
        | true => rfl
        | false => exact absurd ⟨i, hi, h⟩ hne
      omega
    rw [show fuel + 1 + (ops.size - n) = (fuel + (ops.size - n)) + 1 by omega]
    refine ⟨fun hr => ?_, fun i hi => ?_⟩
    · have h1 := ready_nilM hb inv.size hr n hn
      rw [getD_both (inv.tail n (Nat.le_refl _) hn)] at h1
      cases h1
    · have hin : i < n := by
        rcases Nat.lt_or_ge i n with h | h
        · exact h
        · exact absurd hi (tail_waits hs hc hn inv _ i0 rfl hi0 (getD_in (by rw [inv.size]; omega) hun0) i h)
      have hi' := hi
      obtain ⟨h1, o, ho, hdep⟩ := mem_ready.1 hi
      have hjl : i < listed.size := by rw [inv.size]; omega
      have hd : listed.getD i false = false := getD_both h1
      obtain ⟨hw, hstp⟩ := hstep i o (fun i => listed.getD i false) val w' hin ho hd hdep hJ
      unfold wpOp
      simp only [ho]
      rw [if_pos hw]
      refine .inl (Oper.wp_mono ?_ hstp)
      rintro a' w'' ⟨v, rfl, hJ'⟩
      have he : (fun j => (listed.setIfInBounds i true).getD j false) = updF (fun j => listed.getD j false) i true := by
        funext j
        unfold updF
        by_cases h : j = i
        · subst h; simp [hjl]
        · rw [if_neg h]
          simp [Ne.symm h]
      have := ih (listed.setIfInBounds i true) (updF val i v) w'' (inv.set hi' hin) (by
        rw [he]
        have := cntF_upd (fun j => listed.getD j false) i hd n
        rw [if_pos hin] at this
        omega) (by rw [he]; exact hJ')
      rw [he] at this
      have hp := putD_upd (done := fun j => listed.getD j false) (val := val) v ops.toList 0 i a0 o hB (by simpa using ho) (by rw [Nat.zero_add]; exact hd)
      rw [Nat.zero_add] at hp
      rw [hp] at this
      exact this
theorem wp_region_JT {P : Program} {id : Nat} {ops : Array Oper} (n : Nat) {Q : Exit → Act → World → Prop} {J : (Nat → Bool) → (Nat → Value) → World → Prop} {a0 : Act} {w : World} (hm : P.follows .mixedOrders = true) (hB : distB ops.toList = true) (hb : backM .any ops = true)
  (ht : (decide (n < ops.size) && Region.sinkB .any ops n && Region.chainB .any ops n && Region.seqB .any ops (ops.size - n) n (headA n (ops.size - n))) = true) (val : Nat → Value)
  (h0 : J (fun _ => false) val w.drew) (hstep : KeepsN P .any ops n Q J a0)
  (hend : ∀ done val w', (∀ i, i < n → done i = true) → (∀ i, n ≤ i → done i = false) → J done val w' → wpList P ops Q (ops.toList.drop n) (putD done val ops.toList 0 a0) w') : (Code.region id ops true).wp P Q a0 w := by
 simp only [Bool.and_eq_true, decide_eq_true_eq] at ht
 obtain ⟨⟨⟨hn, hs⟩, hc⟩, hseq⟩ := ht
 refine wp_region_any hm ?_
 have he : (fun i => (Array.replicate ops.size false).getD i false) = fun _ => false := by
  funext i
  by_cases h : i < ops.size <;> simp [h]
 have hnn : ∀ (l : List Oper) (k : Nat) (a : Act), putD (fun _ => false) val l k a = a := by
  intro l
  induction l with
  | nil => intro k a; rfl
  | cons o l ih => intro k a; simp only [putD]; exact ih _ _
 have inv0 : HeadInv .any ops n (Array.replicate ops.size false) :=
  ⟨by simp, fun j oj _ hl => (by rw [getD_replicate_false] at hl; cases hl), fun t _ ht => getD_in (by simpa using ht) (getD_replicate_false _ _)⟩
 have := wpAny_JT (P := P) (md := .any) (Q := Q) (J := J) (a0 := a0) hB hb hn hs hc hseq hend hstep n (Array.replicate ops.size false) val w.drew inv0 (by rw [he]; exact cntF_none _) (by rw [he]; exact h0)
 rw [he, hnn, show n + (ops.size - n) = ops.size by omega] at this
 exact this
/-- As JV, over the first n. -/
def JN (W : World) (n : Nat) (ops : Array Oper) (sp : Nat → Wd) (done : Nat → Bool) (val : Nat → Value) (w : World) : Prop :=
 JW W n sp done val w ∧ ∀ i o, ops[i]? = some o → done i = true → ∀ e ∈ o.after, Region.binds .any e = true → done e.on = true
theorem JN.start (W : World) (n : Nat) (ops : Array Oper) (sp : Nat → Wd) (val : Nat → Value) : JN W n ops sp (fun _ => false) val W.drew := ⟨JW.start _ _ _ _, fun _ _ _ h => Bool.noConfusion h⟩
theorem JN.keepsG {P : Program} {n : Nat} {ops : Array Oper} {Q : Exit → Act → World → Prop} {a0 : Act} {W : World} {sp : Nat → Wd} (hB : distB ops.toList = true)
    (hany : ∀ i R, i < n → sp i = .any R → Stays W R)
    (hfill : ∀ i b, i < n → sp i = .fill b → b < n ∧ (∃ t z cs, sp b = .box i t z cs) ∧ ∃ o, ops[i]? = some o ∧ ∃ e ∈ o.after, Region.binds .any e = true ∧ e.on = b)
    (hbox : ∀ b st t z cs, b < n → sp b = .box st t z cs → st < n ∧ sp st = .fill b ∧ ∀ (i : Nat) (val : Nat → Value) (v : Value) (done : Nat → Bool), i < n → done i = false → (∀ o, ops[st]? = some o → done st = true → ∀ e ∈ o.after, Region.binds .any e = true → done e.on = true) → done st = true → cs (updF val i v) = cs val)
    (hst : ∀ i, i < n → ∃ o, ops[i]? = some o ∧ GuardOk ops sp n a0.tmps.size o ∧ ∀ (a : Act) (w : World) (done : Nat → Bool) (val : Nat → Value) (G H : Nat → Nat), done i = false →
      (∀ e ∈ o.after, Region.binds .any e = true → done e.on = true) → (∀ j oj d, ops[j]? = some oj → oj.dst = some d → d < a0.tmps.size → done j = true → a.eval (.tmp d) = val j) →
      (∀ t, outB' ops t = true → a.eval (.tmp t) = a0.eval (.tmp t)) → Ext W w → (∀ j, j < n → done j = true → (sp j).Ok done val (val j) w (G j) (H j)) →
      (∀ j, j < n → done j = true → (sp j).mem = true → W.heap.size ≤ G j ∧ G j ≤ H j ∧ H j ≤ w.heap.size) →
      (∀ v b, sp i = .fill b → ∀ t z cs, sp b = .box i t z cs → cs (updF val i v) = cs val) ∧ StepW P Q sp o a w G val (sp i)) :
    KeepsN P .any ops n Q (JN W n ops sp) a0 := by
  intro i o done val w' hi ho hdn hdep ⟨hJ, hdw⟩
  obtain ⟨hE, G, H, hok, hge, hdis, hfd⟩ := hJ
  obtain ⟨o', ho', hg, hstep⟩ := hst i hi
  rw [ho] at ho'
  cases ho'
  refine ⟨hg.wanted hB hdep hok, ?_⟩
  obtain ⟨hcs, hs⟩ := hstep (putD done val ops.toList 0 a0) w' done val G H hdn hdep (fun j oj d h1 h2 h3 h4 => by
    have := eval_putD (done := done) (val := val) ops.toList 0 j a0 oj d hB (by simpa using h1) h2 (by rw [Nat.zero_add]; exact h4) h3
    rw [Nat.zero_add] at this
    exact this) (fun t ht => eval_putD_out _ _ _ _ (outB'_spec ht)) hE hok hge
  generalize putD done val ops.toList 0 a0 = a at hs ⊢
  have hdw' : ∀ j oj, ops[j]? = some oj → updF done i true j = true → ∀ e ∈ oj.after, Region.binds .any e = true → updF done i true e.on = true := fun j oj hj hd e he hb => by
    by_cases hji : j = i
    · subst hji
      rw [ho] at hj
      cases hj
      have := hdep e he hb
      by_cases h : e.on = j
      · rw [h, updF_same]
      · rw [updF_ne _ _ h]; exact this
    · rw [updF_ne _ _ hji] at hd
      have := hdw j oj hj hd e he hb
      by_cases h : e.on = i
      · rw [h, updF_same]
      · rw [updF_ne _ _ h]; exact this
  have hnst : ∀ (v : Value) j st t z cs, j < n → sp j = .box st t z cs → (∀ b, sp i = .fill b → b ≠ j) → updF done i true st = done st ∧ (done st = true → cs (updF val i v) = cs val) := fun v j st t z cs hj hs hb => by
    obtain ⟨_, h2, h3⟩ := hbox j st t z cs hj hs
    exact ⟨updF_ne _ _ fun e => hb j (e ▸ h2) rfl, fun hd => h3 i val v done hi hdn (fun o ho hd => hdw st o ho hd) hd⟩
  have hpast : ∀ j, done j = true → j ≠ i := fun j h e => by subst e; rw [hdn] at h; cases h
  have hfd' : ∀ j b, j < n → sp j = .fill b → updF done i true j = true → (i = j → done b = true) → updF done i true b = true := fun j b hj hs hd hq => by
    by_cases hb : b = i
    · subst hb; exact updF_same _ _ _
    · rw [updF_ne _ _ hb]
      by_cases e : j = i
      · exact hq e.symm
      · rw [updF_ne _ _ e] at hd
        exact hfd j b hj hs hd
  -- one step that makes the blocks [g, h) and turns nothing old
  have made : ∀ (v : Value) (g h : Nat) (w'' : World), (∀ b, sp i ≠ .fill b) → Ext w' w'' → ((sp i).mem = true → w'.heap.size ≤ g ∧ g ≤ h ∧ h ≤ w''.heap.size) → (sp i).Ok (updF done i true) (updF val i v) v w'' g h → JW W n sp (updF done i true) (updF val i v) w'' := by
    intro v g h w'' hnf he hgh hnew
    refine ⟨hE.trans he, updF G i g, updF H i h, fun j hj hd => ?_, fun j hj hd hm => ?_, fun j k hj hk hne hd hd' hm hm' => ?_, fun j b hj hs hd => hfd' j b hj hs hd fun e => absurd (e ▸ hs) (hnf b)⟩
    · by_cases e : j = i
      · subst e
        rw [updF_same, updF_same, updF_same]
        exact hnew
      · rw [updF_ne _ _ e] at hd
        rw [updF_ne _ _ e, updF_ne _ _ e, updF_ne _ _ e]
        refine (hok j hj hd).mono (hany j · hj) (fun st t z cs h => hnst v j st t z cs hj h fun b hb => absurd hb (hnf b)) (fun hm b hb => ?_) he.size
        have := hge j hj hd hm
        have := hE.size
        exact he.block b (by omega)
    · by_cases e : j = i
      · subst e
        rw [updF_same, updF_same]
        have := hgh hm
        have := hE.size
        omega
      · rw [updF_ne _ _ e] at hd
        rw [updF_ne _ _ e, updF_ne _ _ e]
        have := hge j hj hd hm
        have := he.size
        omega
    · by_cases e : j = i
      · have e' : k ≠ i := fun x => hne (e.trans x.symm)
        rw [updF_ne _ _ e'] at hd'
        rw [e, updF_same, updF_same, updF_ne _ _ e', updF_ne _ _ e']
        have := hgh (e ▸ hm)
        have := hge k hk hd' hm'
        omega
      · rw [updF_ne _ _ e] at hd
        rw [updF_ne _ _ e, updF_ne _ _ e]
        by_cases e' : k = i
        · rw [e', updF_same, updF_same]
          have := hgh (e' ▸ hm')
          have := hge j hj hd hm
          omega
        · rw [updF_ne _ _ e'] at hd'
          rw [updF_ne _ _ e', updF_ne _ _ e']
          exact hdis j k hj hk hne hd hd' hm hm'
  cases hsp : sp i with
  | val u =>
    rw [hsp] at hs
    refine Oper.wp_mono ?_ hs
    rintro a' w'' ⟨ha, he⟩
    exact ⟨u, ha, made u 0 0 w'' (fun b h => by rw [hsp] at h; cases h) he (fun h => by rw [hsp] at h; cases h) (by rw [hsp]; exact rfl), hdw'⟩
  | mk f t cs =>
    rw [hsp] at hs
    refine Oper.wp_mono ?_ hs
    rintro a' w'' ⟨g, ha, hgs, he, hB⟩
    exact ⟨f g, ha, made (f g) g (g + 1) w'' (fun b h => by rw [hsp] at h; cases h) he (fun _ => ⟨hgs, by omega, hB.lt⟩) (by rw [hsp]; exact ⟨⟨rfl, hB⟩, rfl⟩), hdw'⟩
  | box st t z cs =>
    rw [hsp] at hs
    refine Oper.wp_mono ?_ hs
    rintro a' w'' ⟨g, ha, hgs, he, hB⟩
    obtain ⟨hst1, hst2, _⟩ := hbox i st t z cs hi hsp
    refine ⟨_, ha, made _ g (g + 1) w'' (fun b h => by rw [hsp] at h; cases h) he (fun _ => ⟨hgs, by omega, hB.lt⟩) ?_, hdw'⟩
    rw [hsp]
    refine ⟨⟨rfl, ?_⟩, rfl⟩
    have hne : st ≠ i := fun e => by subst e; rw [hsp] at hst2; cases hst2
    rw [updF_ne _ _ hne]
    have hns : ¬ done st = true := fun h => by
      have := hfd st i hst1 hst2 h
      rw [hdn] at this
      cases this
    rw [if_neg hns]
    exact hB
  | any R =>
    rw [hsp] at hs
    refine Oper.wp_mono ?_ hs
    rintro a' w'' ⟨v, ha, he, hR⟩
    exact ⟨v, ha, made v w'.heap.size w''.heap.size w'' (fun b h => by rw [hsp] at h; cases h) he (fun _ => ⟨Nat.le_refl _, he.size, Nat.le_refl _⟩) (by rw [hsp]; exact hR), hdw'⟩
  | fill b =>
    obtain ⟨hb, ⟨t, z, cs, hbx⟩, oi, hoi, e, hea, hbi, hon⟩ := hfill i b hi hsp
    rw [ho] at hoi
    cases hoi
    have hdb : done b = true := hon ▸ hdep e hea hbi
    rw [hsp] at hs
    simp only [StepW, hbx] at hs
    refine Oper.wp_mono ?_ hs
    rintro a' w'' ⟨v, ha, hon', hB⟩
    have hmb : (sp b).mem = true := by rw [hbx]; rfl
    have hgb := hge b hb hdb hmb
    have hgb1 : H b = G b + 1 := by have := hok b hb hdb; rw [hbx] at this; exact this.2
    refine ⟨v, ha, ⟨hon'.ext hE hgb.1, G, H, fun j hj hd => ?_, fun j hj hd hm => ?_, fun j k hj hk hne hd hd' hm hm' => ?_, fun j b' hj hs hd => hfd' j b' hj hs hd fun e => by
      subst e
      rw [hsp] at hs
      injection hs with hs
      subst hs
      exact hdb⟩, hdw'⟩
    · by_cases e : j = i
      · subst e
        rw [hsp]
        trivial
      · rw [updF_ne _ _ e] at hd ⊢
        by_cases ejb : j = b
        · subst ejb
          have h1 := hok j hj hd
          rw [hbx] at h1 ⊢
          refine ⟨⟨h1.1.1, ?_⟩, h1.2⟩
          rw [updF_same, if_pos rfl, hcs v j hsp t z cs hbx]
          exact hB
        · refine (hok j hj hd).mono (hany j · hj) (fun st t z cs h => hnst v j st t z cs hj h fun b' hb' => by rw [hsp] at hb'; injection hb' with hb'; rw [← hb']; exact fun e => ejb e.symm) (fun hm c hc => hon'.block _ ?_) (Nat.le_of_eq hon'.size.symm)
          have h1 := hdis j b hj hb ejb hd hdb hm hmb
          omega
    · have e : j ≠ i := fun e => by subst e; rw [hsp] at hm; cases hm
      rw [updF_ne _ _ e] at hd
      have := hge j hj hd hm
      rw [hon'.size]
      exact this
    · have e : j ≠ i := fun e => by subst e; rw [hsp] at hm; cases hm
      have e' : k ≠ i := fun e => by subst e; rw [hsp] at hm'; cases hm'
      rw [updF_ne _ _ e] at hd
      rw [updF_ne _ _ e'] at hd'
      exact hdis j k hj hk hne hd hd' hm hm'
theorem JN.keeps {P : Program} {n : Nat} {ops : Array Oper} {Q : Exit → Act → World → Prop} {a0 : Act} {W : World} {sp : Nat → Wd} (hB : distB ops.toList = true)
  (hany : ∀ i R, i < n → sp i = .any R → Stays W R)
  (hfill : ∀ i b, i < n → sp i = .fill b → b < n ∧ (∃ t z cs, sp b = .box i t z cs) ∧ ∃ o, ops[i]? = some o ∧ ∃ e ∈ o.after, Region.binds .any e = true ∧ e.on = b)
  (hbox : ∀ b st t z cs, b < n → sp b = .box st t z cs → st < n ∧ sp st = .fill b ∧ ∀ (i : Nat) (val : Nat → Value) (v : Value) (done : Nat → Bool), i < n → done i = false → (∀ o, ops[st]? = some o → done st = true → ∀ e ∈ o.after, Region.binds .any e = true → done e.on = true) → done st = true → cs (updF val i v) = cs val)
  (hst : ∀ i, i < n → ∃ o, ops[i]? = some o ∧ o.guard = none ∧ ∀ (a : Act) (w : World) (done : Nat → Bool) (val : Nat → Value) (G H : Nat → Nat), done i = false →
   (∀ e ∈ o.after, Region.binds .any e = true → done e.on = true) → (∀ j oj d, ops[j]? = some oj → oj.dst = some d → d < a0.tmps.size → done j = true → a.eval (.tmp d) = val j) →
   (∀ t, outB' ops t = true → a.eval (.tmp t) = a0.eval (.tmp t)) → Ext W w → (∀ j, j < n → done j = true → (sp j).Ok done val (val j) w (G j) (H j)) →
   (∀ j, j < n → done j = true → (sp j).mem = true → W.heap.size ≤ G j ∧ G j ≤ H j ∧ H j ≤ w.heap.size) →
   (∀ v b, sp i = .fill b → ∀ t z cs, sp b = .box i t z cs → cs (updF val i v) = cs val) ∧ StepW P Q sp o a w G val (sp i)) :
  KeepsN P .any ops n Q (JN W n ops sp) a0 :=
 JN.keepsG hB hany hfill hbox fun i hi => let ⟨o, h1, h2, h3⟩ := hst i hi; ⟨o, h1, .inl h2, h3⟩
end
section
open Go.RowKit
set_option linter.unusedVariables false
def Enc.sliceC {α : Type} (E : Enc α) : Enc (List α) where
 R w S l cs := ∃ a c, cs = [.slice a l.length c] ∧ l.length ≤ 16777216 ∧ l.length ≤ c ∧ c ≤ maxLen ∧ Sl E w S a l
 sz := 1
 size := by rintro w S x cs ⟨a, c, rfl, _⟩; rfl
 one := by rintro w S x cs ⟨a, c, rfl, _⟩ u hu; simp at hu; subst hu; rfl
 frame := by rintro w w' S x cs hw ⟨a, c, rfl, hm, h1, h2, h⟩; exact ⟨a, c, rfl, hm, h1, h2, h.frame hw⟩
 mono := by rintro w S S' x cs hS ⟨a, c, rfl, hm, h1, h2, h⟩; exact ⟨a, c, rfl, hm, h1, h2, h.mono hS⟩
section
variable {α : Type} {E F : Enc α} {w w' : World} {B : Nat} {v : Value} {l : List α} {e : TypeId} {S : Nat → Prop} {a : Option Addr}
theorem sliceC_weak {l : List α} {cs : List Value} (h : E.sliceC.R w S l cs) : E.slice.R w S l cs := by
 obtain ⟨a, c, rfl, hm, _, _, h⟩ := h
 exact ⟨a, c, rfl, hm, h⟩
theorem Sl.of (hsz : E.sz = F.sz) (hEF : ∀ {w : World} {S : Nat → Prop} {x : α} {cs : List Value}, E.R w S x cs → F.R w S x cs) (h : Sl E w S a l) : Sl F w S a l := by
 rcases h with h | ⟨b, off, rfl, hb, h⟩
 ·exact .inl h
 ·refine .inr ⟨b, off, rfl, hb, fun k x hx => ?_⟩
  obtain ⟨cs, hr, hc⟩ := h k x hx
  exact ⟨cs, hEF hr, by rw [← hsz]; exact hc⟩
/-- Own, with what its capacity is at most. -/
theorem Own.slm (h : Own E e w B v l) : ∃ a c, v = .slice a l.length c ∧ l.length ≤ c ∧ c ≤ maxLen ∧ Sl E w (fun b => B ≤ b ∧ b < w.heap.size) a l := by
 obtain ⟨a, c, rfl, hn, hs⟩ := h.slc
 refine ⟨a, c, rfl, hn, ?_, hs⟩
 obtain ⟨xs, h1, _⟩ := h
 rcases h1.2 with ⟨h2, h0⟩ | ⟨g, cap, cur, h2, _, _, _, hm, _⟩
 ·injection h2 with _ _ h2
  subst h2
  exact Nat.zero_le _
 ·injection h2 with _ _ h2
  subst h2
  exact hm
/-- What a row of the call's own is, as an element of another row. -/
theorem Own.asC (h : Own E e w B v l) (hl : l.length ≤ 16777216) : ∃ a c, v = .slice a l.length c ∧ l.length ≤ c ∧ c ≤ maxLen ∧ E.sliceC.R w (fun b => B ≤ b ∧ b < w.heap.size) l [.slice a l.length c] := by
 obtain ⟨a, c, rfl, h1, h2, hs⟩ := h.slm
 exact ⟨a, c, rfl, h1, h2, a, c, rfl, hl, h1, h2, hs⟩
/-- One cell of an element, stored anew. -/
theorem Own.setC {g c n : Nat} (h : Own E e w B (.slice (some ⟨g, 0, none⟩) n c) l) (k j : Nat) (hk : k < l.length) (hj : j < E.sz) {x : α} {u : Value}
  (hx : ∀ cs, E.R w (fun b => B ≤ b ∧ b < w.heap.size ∧ b ≠ g) l[k] cs → E.R w (fun b => B ≤ b ∧ b < w.heap.size ∧ b ≠ g) x (cs.set j u)) : Own E e (w.setCell ⟨g, k * E.sz + j, none⟩ u) B (.slice (some ⟨g, 0, none⟩) n c) (l.set k x) := by
 obtain ⟨xs, ho, hr⟩ := h
 have hn : n = l.length := by
  rcases ho.2 with ⟨h2, _⟩ | ⟨g', cap, cur, h2, _⟩
  ·cases h2
  ·injection h2
 subst hn
 have hst := (ho.stored (k * E.sz + j) u).1
 have hfr : ∀ b, (B ≤ b ∧ b < w.heap.size ∧ b ≠ g) → (w.setCell ⟨g, k * E.sz + j, none⟩ u).heap[b]? = w.heap[b]? := fun b hb => Below.heap_setCell _ _ _ _ (show b ≠ g from hb.2.2)
 have hsz : (w.setCell ⟨g, k * E.sz + j, none⟩ u).heap.size = w.heap.size := by simp [World.setCell]
 have hmo : ∀ b, (B ≤ b ∧ b < w.heap.size ∧ b ≠ g) → (B ≤ b ∧ b < (w.setCell ⟨g, k * E.sz + j, none⟩ u).heap.size ∧ some b ≠ (Value.slice (some ⟨g, 0, none⟩) l.length c).ownBlock) := fun b hb => ⟨hb.1, by rw [hsz]; exact hb.2.1, fun e => hb.2.2 (Option.some.inj e)⟩
 have hmi : ∀ b, (B ≤ b ∧ b < w.heap.size ∧ some b ≠ (Value.slice (some ⟨g, 0, none⟩) l.length c).ownBlock) → (B ≤ b ∧ b < w.heap.size ∧ b ≠ g) := fun b hb => ⟨hb.1, hb.2.1, fun e => hb.2.2 (by rw [e]; rfl)⟩
 refine ⟨xs.set (k * E.sz + j) u, by simpa using hst, fun i y hy => ?_⟩
 by_cases hi : i = k
 ·subst hi
  rw [List.getElem?_set_self hk] at hy
  injection hy with hy
  subst hy
  obtain ⟨cs, hrc, hc⟩ := hr i l[i] (List.getElem?_eq_getElem hk)
  refine ⟨cs.set j u, E.mono hmo (E.frame hfr (hx cs (E.mono hmi hrc))), fun m v hm => ?_⟩
  by_cases hmj : m = j
  ·subst hmj
   have hcj : m < cs.length := by rw [E.size hrc]; exact hj
   rw [List.getElem?_set_self hcj] at hm
   have := hc m _ (List.getElem?_eq_getElem hcj)
   rw [List.getElem?_set_self (List.getElem?_eq_some_iff.1 this).1]
   exact hm
  ·rw [List.getElem?_set_ne (Ne.symm hmj)] at hm
   rw [List.getElem?_set_ne (by omega)]
   exact hc m v hm
 ·rw [List.getElem?_set_ne (Ne.symm hi)] at hy
  obtain ⟨cs, hrc, hc⟩ := hr i y hy
  refine ⟨cs, E.mono hmo (E.frame hfr (E.mono hmi hrc)), fun m v hm => ?_⟩
  have hml : m < E.sz := by rw [← E.size hrc]; exact (List.getElem?_eq_some_iff.1 hm).1
  have hne : k * E.sz + j ≠ i * E.sz + m := by
   intro h
   rcases Nat.lt_or_ge i k with hik | hik
   ·have : (i + 1) * E.sz ≤ k * E.sz := Nat.mul_le_mul_right _ hik
    rw [Nat.add_mul, Nat.one_mul] at this
    omega
   ·have : (k + 1) * E.sz ≤ i * E.sz := Nat.mul_le_mul_right _ (by omega)
    rw [Nat.add_mul, Nat.one_mul] at this
    omega
  rw [List.getElem?_set_ne hne]
  exact hc m v hm
end
def ESegC : Enc Seg := (EI64.pair EU32.sliceC).map fun s => (s.kind, s.as)
theorem ESegC.weak {w : World} {S : Nat → Prop} {x : Seg} {cs : List Value} (h : ESegC.R w S x cs) : ESeg.R w S x cs := by
 obtain ⟨c, d, rfl, h1, h2⟩ := h
 exact ⟨c, _, rfl, h1, sliceC_weak h2⟩
section
variable {α : Type} {f : α → List Value} {P : α → Prop} {n : Nat} {hn : ∀ x, (f x).length = n} {h1 : ∀ x, ∀ u ∈ f x, u.oneCell' = true} {w w' : World} {B : Nat} {v : Value} {l : List α} {e : TypeId} {S : Nat → Prop} {a : Option Addr}
end
section
variable {α : Type} {f : α → Value} {P : α → Prop} {hf : ∀ x, (f x).oneCell' = true} {w w' : World} {B : Nat} {v : Value} {l : List α} {e : TypeId} {S : Nat → Prop} {a : Option Addr}
end
theorem EItm_oneZ : ∀ x : Itm, ∀ u ∈ itmCs x, u.oneCell' = true := fun x u hu => by
 simp only [itmCs, List.mem_cons, List.not_mem_nil, or_false] at hu
 rcases hu with rfl | rfl | rfl | rfl | rfl | rfl <;> rfl
theorem EAtm_oneZ : ∀ x : Atm, ∀ u ∈ atmCs x, u.oneCell' = true := fun x u hu => by
 simp only [atmCs, List.mem_cons, List.not_mem_nil, or_false] at hu
 rcases hu with rfl | rfl <;> rfl
set_option maxRecDepth 20000 in
theorem okItmZ : ElemOk Tryz.prog 63 72 EItm.sz 56 := elemOk (z := .agg #[.int .i64 0, .int .u64 0, .string ⟨#[]⟩, .int .i64 0, .int .i64 0, .int .i64 0]) Tryz.underlying63 (by kernel_rfl) rfl
set_option maxRecDepth 20000 in
theorem okAtmZ : ElemOk Tryz.prog 73 75 EAtm.sz 16 := elemOk (z := .agg #[.int .i64 0, .int .u32 0]) Tryz.underlying73 (by kernel_rfl) rfl
theorem Own.only {α : Type} {E : Enc α} {e : TypeId} {w w' : World} {B : Nat} {v : Value} {l : List α} {g : Nat} (h : Own E e w B v l) (ho : OnlyAt g w w') (hg : g < B) : Own E e w' B v l :=
 h.kept (Nat.le_of_eq ho.size.symm) fun b hb _ => ho.block b (by omega)
theorem Own.formNe {α : Type} {E : Enc α} {e : TypeId} {w : World} {B : Nat} {v : Value} {l : List α} (h : Own E e w B v l) (hl : l ≠ []) : ∃ g c, v = .slice (some ⟨g, 0, none⟩) l.length c ∧ B ≤ g ∧ g < w.heap.size := by
 obtain ⟨xs, h1, _⟩ := h
 rcases h1.2 with ⟨_, h0⟩ | ⟨g, cap, cur, rfl, hb, hh, _⟩
 ·exact absurd (List.eq_nil_of_length_eq_zero h0) hl
 ·exact ⟨g, cap, rfl, hb, (Array.getElem?_eq_some_iff.1 hh).1⟩
theorem grown_cellZ (w : World) (g o : Nat) (u : Value) : w.grownBy (w.setCell ⟨g, o, none⟩ u) (some g) :=
 ⟨rfl, rfl, rfl, by simp [World.setCell], fun k _ hk => Below.heap_setCell _ _ _ _ (show k ≠ g from fun e => hk (by rw [e]))⟩
/-- An element of a row of slices, with its capacity. -/
theorem Own.atC {α : Type} {E : Enc α} {e : TypeId} {w : World} {B g n c : Nat} {l : List (List α)} (h : Own E.sliceC e w B (.slice (some ⟨g, 0, none⟩) n c) l) (k : Nat) (hk : k < l.length) :
  ∃ ak ck, w.cell? ⟨g, k, none⟩ = some (.slice ak l[k].length ck) ∧ w.frozen? ⟨g, k, none⟩ = false ∧ l[k].length ≤ 16777216 ∧ l[k].length ≤ ck ∧ ck ≤ maxLen ∧ Sl E w (fun b => B ≤ b ∧ b < w.heap.size ∧ b ≠ g) ak l[k] := by
 obtain ⟨xs, ho, hr⟩ := h
 obtain ⟨cs, ⟨ak, ck, rfl, hm, h1, h2, hs⟩, hc⟩ := hr k l[k] (List.getElem?_eq_getElem hk)
 have hn : n = l.length := by
  rcases ho.2 with ⟨h2, _⟩ | ⟨g', cap, cur, h2, _⟩
  ·cases h2
  ·injection h2
 subst hn
 have h0 := hc 0 _ rfl
 have hz : E.sliceC.sz = 1 := rfl
 rw [hz, Nat.mul_one, Nat.add_zero] at h0
 have h3 := ho.cells (g := g) rfl k _ h0
 rw [add_lit, Nat.zero_add] at h3
 exact ⟨ak, ck, h3, ho.frozenAt k, hm, h1, h2, hs.mono fun b hb => ⟨hb.1, hb.2.1, fun e => hb.2.2 (by rw [e]; rfl)⟩⟩
theorem maxLen_le {c : Nat} (h : c ≤ maxLen) : c ≤ 9223372036854775807 := by unfold maxLen at h; omega
end
section
open Go.RowKit Go.ChangeShapes Go.WideShapes Go.Deep
set_option linter.unusedVariables false
section
variable {P : Program} {T : TypeId}
theorem opens_sliceC {α : Type} {E : Enc α} {e : TypeId} (h : P.underlying T = some (.slice e)) (hc : P.cellsOf T = 1) (hE : Opens P e E) (hsz : 0 < E.sz) : Opens P T E.sliceC := by
 refine ⟨hc, fun enc W fuel cs x hx hb => ?_⟩
 obtain ⟨l, a, c, hcs, hlc, hl, hs⟩ := slice_opens h hE hsz hx hb
 have hm : c ≤ maxLen := by
  rcases open_slice h hx with ⟨h1, _⟩ | ⟨a', len, cap, m, k, D, Pl, h1, _, _, hm, _⟩
  ·rw [hcs] at h1
   injection h1 with h1 _
   injection h1 with _ _ h2
   rw [h2]
   exact Nat.zero_le _
  ·rw [hcs] at h1
   injection h1 with h1 _
   injection h1 with _ _ h2
   rw [h2]
   exact hm
 exact ⟨l, a, c, hcs, by omega, hlc, hm, hs⟩
/-- A struct by value. -/
theorem open_struct_val {α : Type} {E : Enc α} {fs : Array Field} (hO : Opens P T E) (hs : P.underlying T = some (.struct fs)) {H : Type} {enc : TypeId × Value → H} {W : World} {r : Reach} {b0 : Nat} {v : Value} {d : DataW H} {p : List MemPlace}
  (hv : Value.okWide P W r b0 T v) (h : DataW.Trod enc P W 0 (fun _ => true) true T v d p) (hb : Rows.uptoBulk d ≤ 1048576) : ∃ (x : α) (cs : List Value), v = .agg cs.toArray ∧ E.R W (fun b => b < W.heap.size) x cs := by
 obtain ⟨cs, rfl, hsz⟩ := okWide_struct hs hv
 obtain ⟨fuel, hf⟩ := h
 obtain ⟨x, hx⟩ := hO.2 enc W fuel _ _ hf hb
 exact ⟨x, _, by simp [Value.cells], hx⟩
end
def ESetC : Enc StS := (EByt.pair (EI64.pair (EItm.sliceC.pair (EU32.sliceC.pair EAtm.slice.sliceC)))).map fun s => (s.name, s.kind, s.items, s.comms, s.paths)
structure SetCap (s : StS) (c1 c2 c3 : Nat) : Prop where
  h1 : s.items.length ≤ c1
  m1 : c1 ≤ 9223372036854775807
  h2 : s.comms.length ≤ c2
  m2 : c2 ≤ 9223372036854775807
  h3 : s.paths.length ≤ c3
  m3 : c3 ≤ 9223372036854775807
theorem ESetC.iff {w : World} {S : Nat → Prop} {s : StS} {cs : List Value} (h : ESetC.R w S s cs) : ∃ a1 c1 a2 c2 a3 c3, cs = setCs s a1 c1 a2 c2 a3 c3 ∧ SetIn w S s a1 a2 a3 ∧ SetCap s c1 c2 c3 := by
 obtain ⟨c, d, rfl, ⟨rfl, h1⟩, c, d, rfl, ⟨rfl, h2⟩, c, d, rfl, ⟨a1, c1, rfl, n1, u1, v1, s1⟩, c, d, rfl, ⟨a2, c2, rfl, n2, u2, v2, s2⟩, a3, c3, rfl, n3, u3, v3, s3⟩ := h
 exact ⟨a1, c1, a2, c2, a3, c3, rfl, ⟨h1, h2, n1, s1, n2, s2, n3, s3⟩, u1, maxLen_le v1, u2, maxLen_le v2, u3, maxLen_le v3⟩
theorem ESetC.weak {w : World} {S : Nat → Prop} {s : StS} {cs : List Value} (h : ESetC.R w S s cs) : ESet.R w S s cs := by
 obtain ⟨a1, c1, a2, c2, a3, c3, rfl, hi, _⟩ := ESetC.iff h
 exact ESet.iff.2 ⟨a1, c1, a2, c2, a3, c3, rfl, hi⟩
end
section
section
open Go.RowKit Go.ChangeShapes Go.WideShapes Go.Deep
set_option linter.unusedVariables false
theorem opens_bool16 {P : Program} {T : TypeId} (h : P.underlying T = some .bool) (hc : P.cellsOf T = 1) : Opens P T EBool := by
 refine ⟨hc, fun enc W fuel cs x hx _ => ?_⟩
 obtain ⟨b, rfl, _⟩ := DataW.trod_bool h hx
 exact ⟨b, rfl, trivial⟩
set_option maxRecDepth 100000 in
theorem opens_ECond : Opens Tryz.prog 48 ECond :=
 opens_of (opens_map (opens_struct Tryz.underlying48 (by kernel_rfl) (opensF_cons rfl rfl opens_int (opensF_cons rfl rfl (opens_bool16 Tryz.underlying4 (by kernel_rfl)) (opensF_cons rfl rfl opens_text (opensF_last rfl rfl opens_int rfl))))) (fun c : CondS => (c.kind, c.neg, c.name, c.n)) (fun p => ⟨p.1, p.2.1, p.2.2.1, p.2.2.2⟩) (fun _ => rfl)) rfl id (fun h => ECond.of h)
set_option maxRecDepth 100000 in
theorem opens_EAct : Opens Tryz.prog 51 EAct :=
 opens_of (opens_map (opens_struct Tryz.underlying51 (by kernel_rfl) (opensF_cons rfl rfl opens_int (opensF_cons rfl rfl opens_text (opensF_cons rfl rfl opens_u32_ (opensF_last rfl rfl opens_text rfl))))) (fun a : ActS => (a.kind, a.name, a.n, a.addr)) (fun p => ⟨p.1, p.2.1, p.2.2.1, p.2.2.2⟩) (fun _ => rfl)) rfl id (fun h => EAct.of h)
end
section
open Go.RowKit Go.ChangeShapes Go.WideShapes Go.Deep
set_option linter.unusedVariables false
def ETermC : Enc TermS := (ECond.sliceC.pair EAct.sliceC).map fun t => (t.conds, t.acts)
set_option maxRecDepth 100000 in
theorem opens_ETermC : Opens Tryz.prog 25 ETermC :=
 opens_map (opens_struct Tryz.underlying25 (by kernel_rfl) (opensF_cons rfl rfl (opens_sliceC Tryz.underlying22 (by kernel_rfl) opens_ECond (by decide)) (opensF_last rfl rfl (opens_sliceC Tryz.underlying23 (by kernel_rfl) opens_EAct (by decide)) rfl))) (fun t : TermS => (t.conds, t.acts)) (fun p => ⟨p.1, p.2⟩) (fun _ => rfl)
end
section
open Go.RowKit Go.Sort
set_option linter.unusedVariables false
theorem ETermC.at {w : World} {S : Nat → Prop} {a : Option Addr} {l : List TermS} (h : Sl ETermC w S a l) (k : Nat) (hk : k < l.length) :
    ∃ b off a1 c1 a2 c2, a = some ⟨b, off, none⟩ ∧ S b ∧ w.cell? ⟨b, off + k * 2, none⟩ = some (.slice a1 l[k].conds.length c1) ∧ w.cell? ⟨b, off + k * 2 + 1, none⟩ = some (.slice a2 l[k].acts.length c2) ∧
      l[k].conds.length ≤ 16777216 ∧ Sl ECond w S a1 l[k].conds ∧ l[k].acts.length ≤ 16777216 ∧ Sl EAct w S a2 l[k].acts ∧ l[k].conds.length ≤ c1 ∧ l[k].acts.length ≤ c2 := by
  obtain ⟨b, off, cs, rfl, hb, ⟨c, d, rfl, ⟨a1, c1, rfl, n1, u1, _, s1⟩, ⟨a2, c2, rfl, n2, u2, _, s2⟩⟩, hc⟩ := h.at k hk
  exact ⟨b, off, a1, c1, a2, c2, rfl, hb, hc 0 _ rfl, hc 1 _ rfl, n1, s1, n2, s2, u1, u2⟩
theorem ETermC.weak {w : World} {S : Nat → Prop} {x : TermS} {cs : List Value} (h : ETermC.R w S x cs) : ETerm.R w S x cs := by
 obtain ⟨c, d, rfl, h1, h2⟩ := h
 exact ⟨c, d, rfl, sliceC_weak h1, sliceC_weak h2⟩
theorem Sl.weakT {w : World} {S : Nat → Prop} {a : Option Addr} {l : List TermS} (h : Sl ETermC w S a l) : Sl ETerm w S a l := Sl.of (E := ETermC) (F := ETerm) rfl (fun h => ETermC.weak h) h
theorem okTermC : ElemOk Tryz.prog 33 25 ETermC.sz 48 := elemOk (z := .agg #[.slice none 0 0, .slice none 0 0]) Tryz.underlying33 (by kernel_rfl) rfl
end
section
open Go.RowKit Go.ChangeShapes Go.WideShapes Go.Deep
set_option linter.unusedVariables false
def EPolC : Enc PolS := (EByt.pair (ETermC.sliceC.pair EBool)).map fun p => (p.name, p.terms, p.els)
set_option maxRecDepth 100000 in
theorem opens_EPolC : Opens Tryz.prog 35 EPolC :=
 opens_map (opens_struct Tryz.underlying35 (by kernel_rfl) (opensF_cons rfl rfl opens_text (opensF_cons rfl rfl (opens_sliceC Tryz.underlying33 (by kernel_rfl) opens_ETermC (by decide)) (opensF_last rfl rfl (opens_bool16 Tryz.underlying4 (by kernel_rfl)) rfl)))) (fun p : PolS => (p.name, p.terms, p.els)) (fun p => ⟨p.1, p.2.1, p.2.2⟩) (fun _ => rfl)
structure PolIn (W : World) (p : PolS) (a : Option Addr) (c : Nat) : Prop where
  nm : p.name.length ≤ 1048576
  n : p.terms.length ≤ 16777216
  u : p.terms.length ≤ c
  m : c ≤ maxLen
  s : Sl ETermC W (fun b => b < W.heap.size) a p.terms
set_option maxRecDepth 100000 in
theorem open_polC {H : Type} {enc : TypeId × Value → H} {W : World} {r : Reach} {b0 : Nat} {v : Value} {d : DataW H} {p : List MemPlace} (hv : Value.okWide Tryz.prog W r b0 35 v) (h : DataW.Trod enc Tryz.prog W 0 (fun _ => true) true 35 v d p) (hb : Rows.uptoBulk d ≤ 1048576) :
  ∃ (p : PolS) (a : Option Addr) (c : Nat), v = .agg #[.string ⟨p.name.toArray⟩, .slice a p.terms.length c, .bool p.els] ∧ PolIn W p a c := by
 obtain ⟨t, cs, rfl, hr⟩ := open_struct_val opens_EPolC Tryz.underlying35 hv h hb
 obtain ⟨c, d, rfl, ⟨rfl, h1⟩, c, d, rfl, ⟨a1, c1, rfl, n1, u1, m1, s1⟩, ⟨rfl, _⟩⟩ := hr
 exact ⟨t, a1, c1, rfl, h1, n1, u1, m1, s1⟩
end
end
section
open Go.RowKit
set_option linter.unusedVariables false
/-- The library's variables that are read: a bound on lengths, the two errors of a numeral. -/
structure Vars (w : World) : Prop where
  max : ∃ m : Int, w.cell? ⟨2, 0, none⟩ = some (.int .i64 m)
  es : ∃ t p, w.cell? ⟨5, 0, none⟩ = some (.iface t p)
  er : ∃ t p, w.cell? ⟨6, 0, none⟩ = some (.iface t p)
theorem Vars.ext {w w' : World} (h : Vars w) (he : Ext w w') : Vars w' :=
 ⟨let ⟨m, hm⟩ := h.max; ⟨m, he.cell hm⟩, let ⟨t, p, hm⟩ := h.es; ⟨t, p, he.cell hm⟩, let ⟨t, p, hm⟩ := h.er; ⟨t, p, he.cell hm⟩⟩
theorem ba_list (s : ByteArray) : (⟨s.data.toList.toArray⟩ : ByteArray) = s := by cases s; simp
theorem Cut_any (s : List UInt8) (c : UInt8) (w : World) (hV : Vars w) (hs : s.length ≤ 1048576) :
  Calls Tryz.prog 138 #[.string ⟨s.toArray⟩, .string ⟨#[c]⟩] w fun e w' => e = .returned (.tuple #[.string ⟨(Lib.cut s [c]).1.toArray⟩, .string ⟨(Lib.cut s [c]).2.1.toArray⟩, .bool (Lib.cut s [c]).2.2]) ∧ Drew w w' := by
 obtain ⟨m, hm⟩ := hV.max
 refine (Tryz.strings_Cut ⟨s.toArray⟩ ⟨#[c]⟩ m w (by simp [ByteArray.size]; omega) hm).mono ?_
 rintro e w' ⟨rfl, n, rfl⟩
 exact ⟨rfl, (Drew.refl _).more n⟩
theorem Split_any (s : List UInt8) (c : UInt8) (w : World) (hV : Vars w) (hs : s.length ≤ 1048576) :
  Calls Tryz.prog 45 #[.string ⟨s.toArray⟩, .string ⟨#[c]⟩] w fun e w' => ∃ d, (spl c s).length ≤ d ∧ e = .returned (.slice (some ⟨w.heap.size, 0, none⟩) (spl c s).length d) ∧ Ext w w' ∧ ∀ k, (h : k < (spl c s).length) → w'.cell? ⟨w.heap.size, k, none⟩ = some (.string ⟨(spl c s)[k].toArray⟩) := by
 obtain ⟨m, hm⟩ := hV.max
 have hm2 : (Lib.splitB ⟨#[c]⟩ 0 (Lib.countB ⟨s.toArray⟩ ⟨#[c]⟩) ⟨s.toArray⟩).map (·.data.toList) = spl c s := Lib.splitB_data _ _ _ _
 have hlen : Lib.countB ⟨s.toArray⟩ ⟨#[c]⟩ + 1 = (spl c s).length := by
  rw [← hm2, List.length_map]
  exact (Lib.splitB_all ⟨#[c]⟩ (Nat.le_refl 1) _ _ _ rfl).symm
 refine (Tryz.strings_Split ⟨s.toArray⟩ ⟨#[c]⟩ m w (by simp [ByteArray.size]; omega) hm (Nat.le_refl 1)).mono ?_
 rintro e w' ⟨rfl, rfl⟩
 refine ⟨_, Nat.le_of_eq hlen.symm, by rw [hlen], (Ext.refl _).alloc _, fun k h => ?_⟩
 rw [(Blk.new w 9 _).cell k]
 have hk : k < (Lib.splitB ⟨#[c]⟩ 0 (Lib.countB ⟨s.toArray⟩ ⟨#[c]⟩) ⟨s.toArray⟩).length := by
  have := congrArg List.length hm2
  rw [List.length_map] at this
  omega
 have he := congrArg (fun l => l[k]?) hm2
 simp only [List.getElem?_map, List.getElem?_eq_getElem hk, List.getElem?_eq_getElem h, Option.map_some, Option.some.injEq] at he
 rw [List.getElem?_toArray, List.getElem?_map, List.getElem?_eq_getElem hk, ← he]
 rw [ba_list]
 rfl
theorem ext_bytes (w : World) (t : TypeId) (s : ByteArray) : Ext w (Lib.bytesWorld w t s) := ext_bytesWorld w t s
theorem PU8_ok (s : List UInt8) (u : Nat) (w : World) (hs : s.length ≤ 1048576) (hp : Lib.parseUintB 8 s = .ok u) :
  Calls Tryz.prog 137 #[.string ⟨s.toArray⟩, .int .i64 10, .int .i64 8] w fun e w' => e = .returned (.tuple #[.int .u64 u, .nilIface]) ∧ Ext w w' := by
 refine (Any.strconv_ParseUint_10_at8_ok Tryz.laysPu14 ⟨s.toArray⟩ (by simp [ByteArray.size]; omega) u hp w).mono ?_
 rintro e w' ⟨rfl, hw⟩
 refine ⟨rfl, ?_⟩
 rcases hw with rfl | rfl
 ·exact Ext.refl _
 ·exact ext_bytes _ _ _
end
end Go.Proofs.YtljibkfbldjgdaaGreatDoor
