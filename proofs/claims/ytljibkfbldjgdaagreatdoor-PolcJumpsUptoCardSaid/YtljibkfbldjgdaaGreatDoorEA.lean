/- Chapter 16, plain: conditions, actions, terms, policies; which may be; how they lie in memory. Chapter 16, plain: a term's text by its words. Chapter 16, plain: a term read of its words. Chapter 16, plain: which sets a policy names; may it be, by sets. -/
import Derived.Test.YtljibkfbldjgdaaGreatDoorVA
import Derived.Test.YtljibkfbldjgdaaGreatDoorPX
namespace Go.Proofs.YtljibkfbldjgdaaGreatDoor
section
open Go.RowKit
set_option linter.unusedVariables false

/-- A condition. -/
structure CondS where
  kind : Int
  neg : Bool
  name : List UInt8
  n : Int
/-- An action. -/
structure ActS where
  kind : Int
  name : List UInt8
  n : UInt32
  addr : List UInt8
structure TermS where
  conds : List CondS
  acts : List ActS
structure PolS where
  name : List UInt8
  terms : List TermS
  els : Bool
def condCs (c : CondS) : List Value := [.int .i64 c.kind, .bool c.neg, .string ⟨c.name.toArray⟩, .int .i64 c.n]
structure CondIn (c : CondS) : Prop where
  kind : i64 c.kind
  name : c.name.length ≤ 1048576
  n : i64 c.n
def actCs (a : ActS) : List Value := [.int .i64 a.kind, .string ⟨a.name.toArray⟩, .int .u32 (a.n.toNat : Int), .string ⟨a.addr.toArray⟩]
structure ActIn (a : ActS) : Prop where
  kind : i64 a.kind
  name : a.name.length ≤ 1048576
  addr : a.addr.length ≤ 1048576
def ECond : Enc CondS := Enc.cells condCs CondIn 4 (fun _ => rfl) (fun x u hu => by simp only [condCs, List.mem_cons, List.not_mem_nil, or_false] at hu; rcases hu with rfl | rfl | rfl | rfl <;> rfl)
def EAct : Enc ActS := Enc.cells actCs ActIn 4 (fun _ => rfl) (fun x u hu => by simp only [actCs, List.mem_cons, List.not_mem_nil, or_false] at hu; rcases hu with rfl | rfl | rfl | rfl <;> rfl)
def ETerm : Enc TermS := (ECond.slice.pair EAct.slice).map fun t => (t.conds, t.acts)
def EPol : Enc PolS := (EByt.pair (ETerm.slice.pair EBool)).map fun p => (p.name, p.terms, p.els)
theorem ECond.of {w : World} {S : Nat → Prop} {x : CondS} {cs : List Value} (h : ((EI64.pair (EBool.pair (EByt.pair EI64))).map fun c : CondS => (c.kind, c.neg, c.name, c.n)).R w S x cs) : ECond.R w S x cs := by
  obtain ⟨c, d, rfl, ⟨rfl, h1⟩, c, d, rfl, ⟨rfl, _⟩, c, d, rfl, ⟨rfl, h2⟩, ⟨rfl, h3⟩⟩ := h
  exact ⟨rfl, h1, h2, h3⟩
theorem EAct.of {w : World} {S : Nat → Prop} {x : ActS} {cs : List Value} (h : ((EI64.pair (EByt.pair (EU32.pair EByt))).map fun a : ActS => (a.kind, a.name, a.n, a.addr)).R w S x cs) : EAct.R w S x cs := by
  obtain ⟨c, d, rfl, ⟨rfl, h1⟩, c, d, rfl, ⟨rfl, h2⟩, c, d, rfl, ⟨rfl, _⟩, ⟨rfl, h3⟩⟩ := h
  exact ⟨rfl, h1, h2, h3⟩
theorem ECond.at {w : World} {S : Nat → Prop} {a : Option Addr} {l : List CondS} (h : Sl ECond w S a l) (k : Nat) (hk : k < l.length) :
    ∃ b off, a = some ⟨b, off, none⟩ ∧ S b ∧ CondIn l[k] ∧ ∀ j u, (condCs l[k])[j]? = some u → w.cell? ⟨b, off + k * 4 + j, none⟩ = some u := by
  obtain ⟨b, off, cs, rfl, hb, ⟨rfl, hi⟩, hc⟩ := h.at k hk
  exact ⟨b, off, rfl, hb, hi, hc⟩
theorem EAct.at {w : World} {S : Nat → Prop} {a : Option Addr} {l : List ActS} (h : Sl EAct w S a l) (k : Nat) (hk : k < l.length) :
    ∃ b off, a = some ⟨b, off, none⟩ ∧ S b ∧ ActIn l[k] ∧ ∀ j u, (actCs l[k])[j]? = some u → w.cell? ⟨b, off + k * 4 + j, none⟩ = some u := by
  obtain ⟨b, off, cs, rfl, hb, ⟨rfl, hi⟩, hc⟩ := h.at k hk
  exact ⟨b, off, rfl, hb, hi, hc⟩
theorem ETerm.at {w : World} {S : Nat → Prop} {a : Option Addr} {l : List TermS} (h : Sl ETerm w S a l) (k : Nat) (hk : k < l.length) :
    ∃ b off a1 c1 a2 c2, a = some ⟨b, off, none⟩ ∧ S b ∧ w.cell? ⟨b, off + k * 2, none⟩ = some (.slice a1 l[k].conds.length c1) ∧ w.cell? ⟨b, off + k * 2 + 1, none⟩ = some (.slice a2 l[k].acts.length c2) ∧
      l[k].conds.length ≤ 16777216 ∧ Sl ECond w S a1 l[k].conds ∧ l[k].acts.length ≤ 16777216 ∧ Sl EAct w S a2 l[k].acts := by
  obtain ⟨b, off, cs, rfl, hb, ⟨c, d, rfl, ⟨a1, c1, rfl, n1, s1⟩, ⟨a2, c2, rfl, n2, s2⟩⟩, hc⟩ := h.at k hk
  exact ⟨b, off, a1, c1, a2, c2, rfl, hb, hc 0 _ rfl, hc 1 _ rfl, n1, s1, n2, s2⟩
/-- May a condition be? -/
def condOk (c : CondS) : Bool :=
  if c.kind = 1 ∨ c.kind = 2 ∨ c.kind = 3 ∨ c.kind = 4 then nameOk c.name && decide (c.n = 0)
  else if c.kind = 5 then decide (0 ≤ c.n ∧ c.n ≤ 2) && decide (c.name = [])
  else if c.kind = 6 then decide (0 ≤ c.n ∧ c.n ≤ 65535) && decide (c.name = [])
  else if c.kind = 7 then decide (1 ≤ c.n ∧ c.n ≤ 5) && decide (c.name = [])
  else false
/-- May an action be? -/
def actOk (a : ActS) : Bool :=
  if a.kind = 1 ∨ a.kind = 2 ∨ a.kind = 5 then decide (a.name = []) && (decide (a.n = 0) && decide (a.addr = []))
  else if a.kind = 3 ∨ a.kind = 4 ∨ a.kind = 6 then decide (a.name = []) && decide (a.addr = [])
  else if a.kind = 7 then nameOk a.name && (decide (a.n = 0) && decide (a.addr = []))
  else if a.kind = 8 then decide (1 ≤ a.n.toNat ∧ a.n.toNat ≤ 8) && (decide (a.name = []) && decide (a.addr = []))
  else if a.kind = 9 then decide (a.addr.length = 4 ∨ a.addr.length = 16) && (decide (a.name = []) && decide (a.n = 0))
  else if a.kind = 10 then decide (a.n.toNat ≤ 2) && (decide (a.name = []) && decide (a.addr = []))
  else false
def endsA (a : ActS) : Bool := decide (a.kind = 1) || decide (a.kind = 2)
def termOk (t : TermS) : Bool := decide (t.conds.length ≤ 64) && (decide (1 ≤ t.acts.length ∧ t.acts.length ≤ 64) && (t.conds.all condOk && (t.acts.all actOk && t.acts.dropLast.all (fun a => !endsA a))))
def polOk (p : PolS) : Bool := nameOk p.name && (decide (p.terms.length ≤ 64) && p.terms.all termOk)
/-- Texts. -/
def originT (n : Int) : List UInt8 := if n = 0 then [105, 103, 112] else if n = 1 then [101, 103, 112] else [105, 110, 99, 111, 109, 112, 108, 101, 116, 101]
def condW (c : CondS) : List UInt8 :=
  if c.kind = 1 then [112, 114, 101, 102, 105, 120, 32] ++ c.name
  else if c.kind = 2 then [99, 111, 109, 109, 32] ++ c.name
  else if c.kind = 3 then [112, 97, 116, 104, 32] ++ c.name
  else if c.kind = 4 then [112, 101, 101, 114, 32] ++ c.name
  else if c.kind = 5 then [111, 114, 105, 103, 105, 110, 32] ++ originT c.n
  else if c.kind = 6 then [108, 101, 110, 103, 116, 104, 32] ++ digS 10 c.n.toNat
  else if c.kind = 7 then [102, 97, 109, 32] ++ nameS c.n
  else []
def condT (c : CondS) : List UInt8 := (if c.neg = true then [110, 111, 116, 32] else []) ++ condW c
/-- A community's text. -/
def commT (c : UInt32) : List UInt8 :=
  if c.toNat = 4294967041 then [110, 111, 45, 101, 120, 112, 111, 114, 116]
  else if c.toNat = 4294967042 then [110, 111, 45, 97, 100, 118, 101, 114, 116, 105, 115, 101]
  else if c.toNat = 4294967043 then [110, 111, 45, 101, 120, 112, 111, 114, 116, 45, 115, 117, 98, 99, 111, 110, 102, 101, 100]
  else digS 10 (c.toNat / 65536) ++ (58 :: digS 10 (c.toNat % 65536))
def actT (a : ActS) : List UInt8 :=
  if a.kind = 1 then [97, 99, 99, 101, 112, 116]
  else if a.kind = 2 then [114, 101, 106, 101, 99, 116]
  else if a.kind = 5 then [110, 111, 45, 109, 101, 100]
  else if a.kind = 3 then [112, 114, 101, 102, 32] ++ digS 10 a.n.toNat
  else if a.kind = 4 then [109, 101, 100, 32] ++ digS 10 a.n.toNat
  else if a.kind = 6 then [97, 100, 100, 32] ++ commT a.n
  else if a.kind = 7 then [100, 101, 108, 32] ++ a.name
  else if a.kind = 8 then [112, 114, 101, 112, 101, 110, 100, 32] ++ digS 10 a.n.toNat
  else if a.kind = 9 then [110, 101, 120, 116, 32] ++ (addrT a.addr).1
  else [111, 114, 105, 103, 105, 110, 32] ++ originT a.n.toNat
def termW (t : TermS) : List UInt8 :=
  (if t.conds = [] then [] else [105, 102, 32] ++ (Lib.join (t.conds.map condT) [32, 97, 110, 100, 32] ++ [32])) ++ ([116, 104, 101, 110, 32] ++ Lib.join (t.acts.map actT) [32, 97, 110, 100, 32])
/-- A term's text, and what is wrong. -/
def termT (t : TermS) : List UInt8 × Int := if termOk t = true then (termW t, 0) else ([], 2)
/-- The law's small term. -/
def smallTerm : TermS := ⟨[⟨1, false, [97], 0⟩, ⟨5, true, [], 0⟩], [⟨3, [], 200, []⟩, ⟨1, [], 0, []⟩]⟩
def smallText : List UInt8 := [105, 102, 32, 112, 114, 101, 102, 105, 120, 32, 97, 32, 97, 110, 100, 32, 110, 111, 116, 32, 111, 114, 105, 103, 105, 110, 32, 105, 103, 112, 32, 116, 104, 101, 110, 32, 112, 114, 101, 102, 32, 50, 48, 48, 32, 97, 110, 100, 32, 97, 99, 99, 101, 112, 116]
theorem small_ok : termOk smallTerm = true := by decide +kernel
theorem small_t : termT smallTerm = (smallText, 0) := by decide +kernel
/-- As the document builds a term's text, piece by piece. -/
def condsP (l : List CondS) : List UInt8 := if l = [] then [] else [105, 102, 32] ++ (Lib.join (l.map condT) [32, 97, 110, 100, 32] ++ [32])
def actsP (l : List ActS) : List UInt8 := if l = [] then [] else [116, 104, 101, 110, 32] ++ Lib.join (l.map actT) [32, 97, 110, 100, 32]
theorem condsP_first (c : CondS) : condsP [c] = [105, 102, 32] ++ condT c ++ [32] := by
  unfold condsP
  rw [if_neg (by simp)]
  simp [Lib.join]
theorem condsP_snoc (l : List CondS) (c : CondS) (h : l ≠ []) : condsP (l ++ [c]) = condsP l ++ [97, 110, 100, 32] ++ condT c ++ [32] := by
  unfold condsP
  rw [if_neg (by simp), if_neg h, List.map_append, List.map_cons, List.map_nil, join_snoc, if_neg (by simpa using h)]
  simp
theorem actsP_first (a : ActS) : actsP [a] = [116, 104, 101, 110, 32] ++ actT a := by
  unfold actsP
  rw [if_neg (by simp)]
  simp [Lib.join]
theorem actsP_snoc (l : List ActS) (a : ActS) (h : l ≠ []) : actsP (l ++ [a]) = actsP l ++ [32, 97, 110, 100, 32] ++ actT a := by
  unfold actsP
  rw [if_neg (by simp), if_neg h, List.map_append, List.map_cons, List.map_nil, join_snoc, if_neg (by simpa using h)]
  simp
theorem termW_eq (t : TermS) (h : t.acts ≠ []) : termW t = condsP t.conds ++ actsP t.acts := by
  unfold termW condsP actsP
  rw [if_neg h]
end
section
open Go.RowKit
set_option linter.unusedVariables false

theorem join_app (xs ys : List (List UInt8)) (sep : List UInt8) (hx : xs ≠ []) (hy : ys ≠ []) : Lib.join (xs ++ ys) sep = Lib.join xs sep ++ sep ++ Lib.join ys sep := by
  induction xs with
  | nil => exact absurd rfl hx
  | cons x r ih =>
    cases r with
    | nil =>
      obtain ⟨y, s, rfl⟩ := List.exists_cons_of_ne_nil hy
      rw [List.singleton_append, join_two, Lib.join_one]
    | cons z q =>
      rw [List.cons_append, List.cons_append, join_two, join_two, ← List.cons_append, ih (by simp)]
      simp
/-- Words with 'and' between. -/
def sepW : List (List (List UInt8)) → List (List UInt8)
  | [] => []
  | [x] => x
  | x :: y :: r => x ++ ([97, 110, 100] :: sepW (y :: r))
theorem sepW_ne : ∀ (l : List (List (List UInt8))), l ≠ [] → (∀ x ∈ l, x ≠ []) → sepW l ≠ []
  | [], h, _ => absurd rfl h
  | [x], _, h => h x (by simp)
  | x :: y :: r, _, h => by
    unfold sepW
    simp
theorem join_sep : ∀ (l : List (List (List UInt8))), (∀ x ∈ l, x ≠ []) → Lib.join (l.map fun x => Lib.join x [32]) [32, 97, 110, 100, 32] = Lib.join (sepW l) [32]
  | [], _ => rfl
  | [x], _ => by simp [sepW, Lib.join_one]
  | x :: y :: r, h => by
    have ih := join_sep (y :: r) (fun z hz => h z (by simp [hz]))
    have hn := sepW_ne (y :: r) (by simp) (fun z hz => h z (by simp [hz]))
    have ih' : Lib.join (Lib.join y [32] :: r.map fun x => Lib.join x [32]) [32, 97, 110, 100, 32] = Lib.join (sepW (y :: r)) [32] := ih
    rw [List.map_cons, List.map_cons, join_two, ih']
    show _ = Lib.join (x ++ ([97, 110, 100] :: sepW (y :: r))) [32]
    obtain ⟨w, q, hw⟩ := List.exists_cons_of_ne_nil hn
    rw [join_app _ _ _ (h x (by simp)) (by simp), hw, join_two, ← hw]
    simp
def kindW (k : Int) : List UInt8 :=
  if k = 1 then [112, 114, 101, 102, 105, 120] else if k = 2 then [99, 111, 109, 109] else if k = 3 then [112, 97, 116, 104] else if k = 4 then [112, 101, 101, 114] else if k = 5 then [111, 114, 105, 103, 105, 110] else if k = 6 then [108, 101, 110, 103, 116, 104] else [102, 97, 109]
def condA (c : CondS) : List UInt8 := if c.kind = 5 then originT c.n else if c.kind = 6 then digS 10 c.n.toNat else if c.kind = 7 then nameS c.n else c.name
def condWs (c : CondS) : List (List UInt8) := (if c.neg = true then [[110, 111, 116]] else []) ++ [kindW c.kind, condA c]
theorem condWs_ne (c : CondS) : condWs c ≠ [] := by unfold condWs; simp
theorem condT_ws (c : CondS) (h : condOk c = true) : condT c = Lib.join (condWs c) [32] := by
  have hk : c.kind = 1 ∨ c.kind = 2 ∨ c.kind = 3 ∨ c.kind = 4 ∨ c.kind = 5 ∨ c.kind = 6 ∨ c.kind = 7 := by
    unfold condOk at h
    by_cases h1 : c.kind = 1 ∨ c.kind = 2 ∨ c.kind = 3 ∨ c.kind = 4
    · omega
    · rw [if_neg h1] at h
      by_cases h5 : c.kind = 5
      · omega
      · rw [if_neg h5] at h
        by_cases h6 : c.kind = 6
        · omega
        · rw [if_neg h6] at h
          by_cases h7 : c.kind = 7
          · omega
          · rw [if_neg h7] at h; cases h
  unfold condT condWs condW kindW condA
  rcases hk with h | h | h | h | h | h | h <;> rw [h] <;> cases c.neg <;> simp [join_two, Lib.join_one]
def actWs (a : ActS) : List (List UInt8) :=
  if a.kind = 1 then [[97, 99, 99, 101, 112, 116]]
  else if a.kind = 2 then [[114, 101, 106, 101, 99, 116]]
  else if a.kind = 5 then [[110, 111, 45, 109, 101, 100]]
  else if a.kind = 3 then [[112, 114, 101, 102], digS 10 a.n.toNat]
  else if a.kind = 4 then [[109, 101, 100], digS 10 a.n.toNat]
  else if a.kind = 6 then [[97, 100, 100], commT a.n]
  else if a.kind = 7 then [[100, 101, 108], a.name]
  else if a.kind = 8 then [[112, 114, 101, 112, 101, 110, 100], digS 10 a.n.toNat]
  else if a.kind = 9 then [[110, 101, 120, 116], (addrT a.addr).1]
  else [[111, 114, 105, 103, 105, 110], originT a.n.toNat]
theorem actWs_ne (a : ActS) : actWs a ≠ [] := by
  unfold actWs
  repeat (split; exact List.cons_ne_nil _ _)
  exact List.cons_ne_nil _ _
theorem actT_ws (a : ActS) : actT a = Lib.join (actWs a) [32] := by
  unfold actT actWs
  repeat (split; simp [join_two, Lib.join_one])
  simp [join_two, Lib.join_one]
def termWs (t : TermS) : List (List UInt8) := (if t.conds = [] then [] else [105, 102] :: sepW (t.conds.map condWs)) ++ ([116, 104, 101, 110] :: sepW (t.acts.map actWs))
theorem termW_ws (t : TermS) (h : termOk t = true) : termW t = Lib.join (termWs t) [32] := by
  unfold termOk at h
  simp only [Bool.and_eq_true, decide_eq_true_eq] at h
  obtain ⟨_, ⟨h1, _⟩, hc, _, _⟩ := h
  have hcs : t.conds.map condT = (t.conds.map condWs).map fun x => Lib.join x [32] := by
    rw [List.map_map]
    exact List.map_congr_left fun c hm => condT_ws c (List.all_eq_true.1 hc c hm)
  have has : t.acts.map actT = (t.acts.map actWs).map fun x => Lib.join x [32] := by
    rw [List.map_map]
    exact List.map_congr_left fun a _ => actT_ws a
  have ha : sepW (t.acts.map actWs) ≠ [] := sepW_ne _ (by intro e; rw [List.map_eq_nil_iff] at e; rw [e] at h1; simp at h1) (fun x hx => by obtain ⟨a, _, rfl⟩ := List.mem_map.1 hx; exact actWs_ne a)
  have hthen : [116, 104, 101, 110, 32] ++ Lib.join (t.acts.map actT) [32, 97, 110, 100, 32] = Lib.join ([116, 104, 101, 110] :: sepW (t.acts.map actWs)) [32] := by
    rw [has, join_sep _ (fun x hx => by obtain ⟨a, _, rfl⟩ := List.mem_map.1 hx; exact actWs_ne a)]
    obtain ⟨w, q, hw⟩ := List.exists_cons_of_ne_nil ha
    rw [hw, join_two]
    simp
  unfold termW termWs
  rw [hthen]
  by_cases hn : t.conds = []
  · rw [if_pos hn, if_pos hn, List.nil_append, List.nil_append]
  · rw [if_neg hn, if_neg hn, hcs, join_sep _ (fun x hx => by obtain ⟨c, _, rfl⟩ := List.mem_map.1 hx; exact condWs_ne c)]
    have hs : sepW (t.conds.map condWs) ≠ [] := sepW_ne _ (by intro e; rw [List.map_eq_nil_iff] at e; exact hn e) (fun x hx => by obtain ⟨c, _, rfl⟩ := List.mem_map.1 hx; exact condWs_ne c)
    obtain ⟨w, q, hw⟩ := List.exists_cons_of_ne_nil hs
    rw [join_app _ _ _ (by simp) (by simp), hw, join_two, ← hw]
    simp
theorem name_no {s : List UInt8} (h : nameOk s = true) : (32 : UInt8) ∉ s := fun hm => by
  unfold nameOk at h
  simp only [Bool.and_eq_true] at h
  have := List.all_eq_true.1 h.2.2.2 32 hm
  revert this
  decide
theorem dig_no (n : Nat) : (32 : UInt8) ∉ digS 10 n := digS_no (by decide) (by decide) n 32 (by decide)
theorem origin_no (n : Int) : (32 : UInt8) ∉ originT n := by
  unfold originT
  split
  · decide
  · split <;> decide
theorem comm_no (c : UInt32) : (32 : UInt8) ∉ commT c := by
  unfold commT
  split
  · decide
  · split
    · decide
    · split
      · decide
      · intro h
        rcases List.mem_append.1 h with h | h
        · exact dig_no _ h
        · rcases List.mem_cons.1 h with h | h
          · revert h; decide
          · exact dig_no _ h
theorem fam_no (n : Int) : (32 : UInt8) ∉ nameS n := by
  unfold nameS
  repeat (split; decide)
  decide
theorem kind_no (k : Int) : (32 : UInt8) ∉ kindW k := by
  unfold kindW
  repeat (split; decide)
  decide
theorem condWs_no {c : CondS} (h : condOk c = true) : ∀ w ∈ condWs c, (32 : UInt8) ∉ w := by
  intro w hw
  unfold condWs at hw
  rcases List.mem_append.1 hw with hw | hw
  · cases hn : c.neg with
    | false => rw [hn] at hw; simp at hw
    | true =>
      rw [hn] at hw
      simp at hw
      subst hw
      decide
  · rcases List.mem_cons.1 hw with rfl | hw
    · exact kind_no _
    · rw [List.mem_singleton] at hw
      subst hw
      unfold condA
      by_cases h5 : c.kind = 5
      · rw [if_pos h5]; exact origin_no _
      · rw [if_neg h5]
        by_cases h6 : c.kind = 6
        · rw [if_pos h6]; exact dig_no _
        · rw [if_neg h6]
          by_cases h7 : c.kind = 7
          · rw [if_pos h7]; exact fam_no _
          · rw [if_neg h7]
            unfold condOk at h
            by_cases h1 : c.kind = 1 ∨ c.kind = 2 ∨ c.kind = 3 ∨ c.kind = 4
            · rw [if_pos h1, Bool.and_eq_true] at h
              exact name_no h.1
            · rw [if_neg h1, if_neg h5, if_neg h6, if_neg h7] at h
              cases h
theorem actWs_no {a : ActS} (h : actOk a = true) : ∀ w ∈ actWs a, (32 : UInt8) ∉ w := by
  intro w hw
  unfold actWs at hw
  have two : ∀ {u v : List UInt8}, (32 : UInt8) ∉ u → (32 : UInt8) ∉ v → w ∈ [u, v] → (32 : UInt8) ∉ w := fun hu hv hm => by
    rcases List.mem_cons.1 hm with rfl | hm
    · exact hu
    · rw [List.mem_singleton] at hm
      subst hm
      exact hv
  by_cases h1 : a.kind = 1
  · rw [if_pos h1, List.mem_singleton] at hw; subst hw; decide
  rw [if_neg h1] at hw
  by_cases h2 : a.kind = 2
  · rw [if_pos h2, List.mem_singleton] at hw; subst hw; decide
  rw [if_neg h2] at hw
  by_cases h5 : a.kind = 5
  · rw [if_pos h5, List.mem_singleton] at hw; subst hw; decide
  rw [if_neg h5] at hw
  by_cases h3 : a.kind = 3
  · rw [if_pos h3] at hw; exact two (by decide) (dig_no _) hw
  rw [if_neg h3] at hw
  by_cases h4 : a.kind = 4
  · rw [if_pos h4] at hw; exact two (by decide) (dig_no _) hw
  rw [if_neg h4] at hw
  by_cases h6 : a.kind = 6
  · rw [if_pos h6] at hw; exact two (by decide) (comm_no _) hw
  rw [if_neg h6] at hw
  by_cases h7 : a.kind = 7
  · rw [if_pos h7] at hw
    unfold actOk at h
    rw [if_neg (by omega), if_neg (by omega), if_pos h7, Bool.and_eq_true] at h
    exact two (by decide) (name_no h.1) hw
  rw [if_neg h7] at hw
  by_cases h8 : a.kind = 8
  · rw [if_pos h8] at hw; exact two (by decide) (dig_no _) hw
  rw [if_neg h8] at hw
  by_cases h9 : a.kind = 9
  · rw [if_pos h9] at hw; exact two (by decide) (addrT_no 32 (by decide)) hw
  rw [if_neg h9] at hw
  exact two (by decide) (origin_no _) hw
theorem sepW_mem : ∀ (l : List (List (List UInt8))) (w : List UInt8), w ∈ sepW l → w = [97, 110, 100] ∨ ∃ x ∈ l, w ∈ x
  | [], w, h => by cases h
  | [x], w, h => .inr ⟨x, by simp, h⟩
  | x :: y :: r, w, h => by
    have h : w ∈ x ++ ([97, 110, 100] :: sepW (y :: r)) := h
    rcases List.mem_append.1 h with h | h
    · exact .inr ⟨x, by simp, h⟩
    · rcases List.mem_cons.1 h with h | h
      · exact .inl h
      · rcases sepW_mem (y :: r) w h with h | ⟨z, hz, h⟩
        · exact .inl h
        · exact .inr ⟨z, by simp [hz], h⟩
theorem termWs_no {t : TermS} (h : termOk t = true) : ∀ w ∈ termWs t, (32 : UInt8) ∉ w := by
  unfold termOk at h
  simp only [Bool.and_eq_true] at h
  obtain ⟨_, _, hc, ha, _⟩ := h
  intro w hw
  unfold termWs at hw
  rcases List.mem_append.1 hw with hw | hw
  · by_cases hn : t.conds = []
    · rw [if_pos hn] at hw; cases hw
    · rw [if_neg hn] at hw
      rcases List.mem_cons.1 hw with rfl | hw
      · decide
      · rcases sepW_mem _ _ hw with rfl | ⟨x, hx, hw⟩
        · decide
        · obtain ⟨c, hm, rfl⟩ := List.mem_map.1 hx
          exact condWs_no (List.all_eq_true.1 hc c hm) w hw
  · rcases List.mem_cons.1 hw with rfl | hw
    · decide
    · rcases sepW_mem _ _ hw with rfl | ⟨x, hx, hw⟩
      · decide
      · obtain ⟨a, hm, rfl⟩ := List.mem_map.1 hx
        exact actWs_no (List.all_eq_true.1 ha a hm) w hw
/-- A term's text, cut at its spaces. -/
theorem spl_term {t : TermS} (h : termOk t = true) : spl 32 (termW t) = termWs t := by
  rw [termW_ws t h]
  have hn : termWs t ≠ [] := by unfold termWs; simp
  have hw := termWs_no h
  obtain ⟨x, r, hx⟩ := List.exists_cons_of_ne_nil hn
  rw [hx] at hw ⊢
  exact join_spl 32 x r hw
end
section
open Go.RowKit
set_option linter.unusedVariables false

/-- The number of a text of digits, below m. -/
noncomputable def numO (s : List UInt8) (m : Nat) : Option Nat := open Classical in if h : ∃ n, n < m ∧ digS 10 n = s then some h.choose else none
theorem numO_dig {n m : Nat} (h : n < m) : numO (digS 10 n) m = some n := by
  unfold numO
  have he : ∃ k, k < m ∧ digS 10 k = digS 10 n := ⟨n, h, rfl⟩
  rw [dif_pos he]
  exact congrArg some (digS_inj (by decide) (by decide) he.choose_spec.2)
theorem numO_some {s : List UInt8} {n m : Nat} (h : numO s m = some n) : n < m ∧ digS 10 n = s := by
  unfold numO at h
  split at h
  · rename_i he
    injection h with h
    subst h
    exact he.choose_spec
  · cases h
def originN (s : List UInt8) : Option Int := if s = originT 0 then some 0 else if s = originT 1 then some 1 else if s = originT 2 then some 2 else none
theorem originN_t {n : Int} (h0 : 0 ≤ n) (h2 : n ≤ 2) : originN (originT n) = some n := by
  rcases (show n = 0 ∨ n = 1 ∨ n = 2 by omega) with rfl | rfl | rfl <;> decide
/-- What stands behind 'not'. -/
noncomputable def readV (neg : Bool) : List (List UInt8) → Option (CondS × List (List UInt8))
  | k :: x :: r =>
    if k = [112, 114, 101, 102, 105, 120] then some (⟨1, neg, x, 0⟩, r)
    else if k = [99, 111, 109, 109] then some (⟨2, neg, x, 0⟩, r)
    else if k = [112, 97, 116, 104] then some (⟨3, neg, x, 0⟩, r)
    else if k = [112, 101, 101, 114] then some (⟨4, neg, x, 0⟩, r)
    else if k = [111, 114, 105, 103, 105, 110] then (originN x).map fun n => (⟨5, neg, [], n⟩, r)
    else if k = [108, 101, 110, 103, 116, 104] then (numO x 4294967296).map fun n => (⟨6, neg, [], (n : Int)⟩, r)
    else if k = [102, 97, 109] then (if famN x = 0 then none else some (⟨7, neg, [], famN x⟩, r))
    else none
  | _ => none
noncomputable def readC : List (List UInt8) → Option (CondS × List (List UInt8))
  | w :: r => if w = [110, 111, 116] then readV true r else readV false (w :: r)
  | [] => none
theorem readV_ws (c : CondS) (h : condOk c = true) (r : List (List UInt8)) : readV c.neg (kindW c.kind :: condA c :: r) = some (c, r) := by
  obtain ⟨k, neg, name, n⟩ := c
  unfold condOk at h
  dsimp only at h ⊢
  by_cases h1 : k = 1 ∨ k = 2 ∨ k = 3 ∨ k = 4
  · rw [if_pos h1, Bool.and_eq_true, decide_eq_true_eq] at h
    obtain ⟨_, rfl⟩ := h
    rcases h1 with rfl | rfl | rfl | rfl <;> simp [readV, kindW, condA]
  rw [if_neg h1] at h
  by_cases h5 : k = 5
  · rw [if_pos h5, Bool.and_eq_true, decide_eq_true_eq, decide_eq_true_eq] at h
    obtain ⟨⟨h2, h3⟩, rfl⟩ := h
    subst h5
    have := originN_t h2 h3
    simp [readV, kindW, condA, this]
  rw [if_neg h5] at h
  by_cases h6 : k = 6
  · rw [if_pos h6, Bool.and_eq_true, decide_eq_true_eq, decide_eq_true_eq] at h
    obtain ⟨⟨h2, h3⟩, rfl⟩ := h
    subst h6
    have := numO_dig (n := n.toNat) (m := 4294967296) (by omega)
    simp only [readV, kindW, condA]
    simp [this]
    omega
  rw [if_neg h6] at h
  by_cases h7 : k = 7
  · rw [if_pos h7, Bool.and_eq_true, decide_eq_true_eq, decide_eq_true_eq] at h
    obtain ⟨⟨h2, h3⟩, rfl⟩ := h
    subst h7
    have hf := famN_name h2 h3
    have hz : ¬ n = 0 := by omega
    simp [readV, kindW, condA, hf, hz]
  rw [if_neg h7] at h
  cases h
theorem readC_not (q : List (List UInt8)) : readC ([110, 111, 116] :: q) = readV true q := by simp [readC]
theorem readC_ws (c : CondS) (h : condOk c = true) (r : List (List UInt8)) : readC (condWs c ++ r) = some (c, r) := by
  have hv := readV_ws c h r
  unfold condWs
  cases hn : c.neg with
  | true =>
    rw [hn] at hv
    rw [if_pos rfl]
    show readC ([110, 111, 116] :: kindW c.kind :: condA c :: r) = _
    rw [readC_not]
    exact hv
  | false =>
    rw [hn] at hv
    rw [if_neg (by decide)]
    show readC (kindW c.kind :: condA c :: r) = _
    show (if kindW c.kind = [110, 111, 116] then _ else readV false (kindW c.kind :: condA c :: r)) = _
    rw [if_neg ?_]
    · exact hv
    · unfold kindW
      repeat (split; decide)
      decide
theorem app_cons_inj {c : UInt8} : ∀ {a b x y : List UInt8}, c ∉ a → c ∉ b → a ++ c :: x = b ++ c :: y → a = b ∧ x = y
  | [], [], x, y, _, _, h => by injection h with _ h; exact ⟨rfl, h⟩
  | [], d :: b, x, y, _, hb, h => by injection h with h _; exact absurd (by rw [h]; simp) hb
  | d :: a, [], x, y, ha, _, h => by injection h with h _; exact absurd (by rw [h]; simp) ha
  | d :: a, e :: b, x, y, ha, hb, h => by
    injection h with h1 h2
    obtain ⟨h3, h4⟩ := app_cons_inj (fun hm => ha (by simp [hm])) (fun hm => hb (by simp [hm])) h2
    exact ⟨by rw [h1, h3], h4⟩
theorem comm_num_no (c : UInt32) : (110 : UInt8) ∉ digS 10 (c.toNat / 65536) ++ (58 :: digS 10 (c.toNat % 65536)) := by
  have hd : ∀ n, (110 : UInt8) ∉ digS 10 n := fun n => digS_no (by decide) (by decide) n 110 (by decide)
  intro h
  rcases List.mem_append.1 h with h | h
  · exact hd _ h
  · rcases List.mem_cons.1 h with h | h
    · revert h; decide
    · exact hd _ h
theorem comm_cases (c : UInt32) : (c.toNat = 4294967041 ∧ commT c = [110, 111, 45, 101, 120, 112, 111, 114, 116]) ∨ (c.toNat = 4294967042 ∧ commT c = [110, 111, 45, 97, 100, 118, 101, 114, 116, 105, 115, 101]) ∨ (c.toNat = 4294967043 ∧ commT c = [110, 111, 45, 101, 120, 112, 111, 114, 116, 45, 115, 117, 98, 99, 111, 110, 102, 101, 100]) ∨ commT c = digS 10 (c.toNat / 65536) ++ (58 :: digS 10 (c.toNat % 65536)) := by
  unfold commT
  by_cases h1 : c.toNat = 4294967041
  · exact .inl ⟨h1, if_pos h1⟩
  · rw [if_neg h1]
    by_cases h2 : c.toNat = 4294967042
    · exact .inr (.inl ⟨h2, if_pos h2⟩)
    · rw [if_neg h2]
      by_cases h3 : c.toNat = 4294967043
      · exact .inr (.inr (.inl ⟨h3, if_pos h3⟩))
      · exact .inr (.inr (.inr (if_neg h3)))
theorem comm_inj {c d : UInt32} (h : commT c = commT d) : c = d := by
  have key : c.toNat = d.toNat := by
    have h58 : ∀ n, (58 : UInt8) ∉ digS 10 n := fun n => digS_no (by decide) (by decide) n 58 (by decide)
    have nc := comm_num_no c
    have nd := comm_num_no d
    rcases comm_cases c with ⟨e1, e2⟩ | ⟨e1, e2⟩ | ⟨e1, e2⟩ | e2 <;> rcases comm_cases d with ⟨f1, f2⟩ | ⟨f1, f2⟩ | ⟨f1, f2⟩ | f2 <;> rw [e2, f2] at h
    · rw [e1, f1]
    · cases h
    · cases h
    · rw [← h] at nd; exact absurd (by decide) nd
    · cases h
    · rw [e1, f1]
    · cases h
    · rw [← h] at nd; exact absurd (by decide) nd
    · cases h
    · cases h
    · rw [e1, f1]
    · rw [← h] at nd; exact absurd (by decide) nd
    · rw [h] at nc; exact absurd (by decide) nc
    · rw [h] at nc; exact absurd (by decide) nc
    · rw [h] at nc; exact absurd (by decide) nc
    · obtain ⟨h1, h2⟩ := app_cons_inj (h58 _) (h58 _) h
      have h3 := digS_inj (by decide) (by decide) h1
      have h4 := digS_inj (by decide) (by decide) h2
      omega
  exact UInt32.toNat_inj.1 key
noncomputable def commO (s : List UInt8) : Option UInt32 := open Classical in if h : ∃ c, commT c = s then some h.choose else none
theorem commO_t (c : UInt32) : commO (commT c) = some c := by
  unfold commO
  have he : ∃ d, commT d = commT c := ⟨c, rfl⟩
  rw [dif_pos he]
  exact congrArg some (comm_inj he.choose_spec)
/-- An action's value, by its kind. -/
noncomputable def readX (k : Int) (x : List UInt8) : Option ActS :=
  if k = 3 ∨ k = 4 ∨ k = 8 then (numO x 4294967296).map fun n => ⟨k, [], UInt32.ofNat n, []⟩
  else if k = 6 then (commO x).map fun n => ⟨6, [], n, []⟩
  else if k = 7 then some ⟨7, x, 0, []⟩
  else if k = 9 then (if (addrC x).2 = 0 then some ⟨9, [], 0, (addrC x).1⟩ else none)
  else (originN x).map fun n => ⟨10, [], UInt32.ofNat n.toNat, []⟩
def actK (w : List UInt8) : Int :=
  if w = [97, 99, 99, 101, 112, 116] then 1 else if w = [114, 101, 106, 101, 99, 116] then 2 else if w = [112, 114, 101, 102] then 3 else if w = [109, 101, 100] then 4 else if w = [110, 111, 45, 109, 101, 100] then 5
  else if w = [97, 100, 100] then 6 else if w = [100, 101, 108] then 7 else if w = [112, 114, 101, 112, 101, 110, 100] then 8 else if w = [110, 101, 120, 116] then 9 else if w = [111, 114, 105, 103, 105, 110] then 10 else 0
noncomputable def readA : List (List UInt8) → Option (ActS × List (List UInt8))
  | [] => none
  | w :: r =>
    if actK w = 0 then none
    else if actK w = 1 ∨ actK w = 2 ∨ actK w = 5 then some (⟨actK w, [], 0, []⟩, r)
    else match r with
      | [] => none
      | x :: q => (readX (actK w) x).map fun a => (a, q)
theorem readA_one (w : List UInt8) (r : List (List UInt8)) (h : actK w = 1 ∨ actK w = 2 ∨ actK w = 5) : readA (w :: r) = some (⟨actK w, [], 0, []⟩, r) := by
  simp only [readA]
  rw [if_neg (by omega), if_pos h]
theorem readA_two (w x : List UInt8) (r : List (List UInt8)) (h0 : actK w ≠ 0) (h : ¬ (actK w = 1 ∨ actK w = 2 ∨ actK w = 5)) : readA (w :: x :: r) = (readX (actK w) x).map fun a => (a, r) := by
  simp only [readA]
  rw [if_neg h0, if_neg h]
theorem u32_of (n : UInt32) : UInt32.ofNat n.toNat = n := by simp
theorem readA_ws (a : ActS) (h : actOk a = true) (r : List (List UInt8)) : readA (actWs a ++ r) = some (a, r) := by
  obtain ⟨k, name, n, addr⟩ := a
  unfold actOk at h
  dsimp only at h
  have hn32 : n.toNat < 4294967296 := n.toNat_lt
  by_cases h1 : k = 1 ∨ k = 2 ∨ k = 5
  · rw [if_pos h1, Bool.and_eq_true, Bool.and_eq_true, decide_eq_true_eq, decide_eq_true_eq, decide_eq_true_eq] at h
    obtain ⟨rfl, rfl, rfl⟩ := h
    rcases h1 with rfl | rfl | rfl
    · exact readA_one [97, 99, 99, 101, 112, 116] r (by decide)
    · exact readA_one [114, 101, 106, 101, 99, 116] r (by decide)
    · exact readA_one [110, 111, 45, 109, 101, 100] r (by decide)
  rw [if_neg h1] at h
  by_cases h3 : k = 3 ∨ k = 4 ∨ k = 6
  · rw [if_pos h3, Bool.and_eq_true, decide_eq_true_eq, decide_eq_true_eq] at h
    obtain ⟨rfl, rfl⟩ := h
    rcases h3 with rfl | rfl | rfl
    · refine (readA_two [112, 114, 101, 102] (digS 10 n.toNat) r (by decide) (by decide)).trans ?_
      rw [show actK [112, 114, 101, 102] = 3 by decide]
      unfold readX
      rw [if_pos (by decide), numO_dig hn32]
      simp
    · refine (readA_two [109, 101, 100] (digS 10 n.toNat) r (by decide) (by decide)).trans ?_
      rw [show actK [109, 101, 100] = 4 by decide]
      unfold readX
      rw [if_pos (by decide), numO_dig hn32]
      simp
    · refine (readA_two [97, 100, 100] (commT n) r (by decide) (by decide)).trans ?_
      rw [show actK [97, 100, 100] = 6 by decide]
      unfold readX
      rw [if_neg (by decide), if_pos rfl, commO_t]
      simp
  rw [if_neg h3] at h
  by_cases h7 : k = 7
  · rw [if_pos h7, Bool.and_eq_true, Bool.and_eq_true, decide_eq_true_eq, decide_eq_true_eq] at h
    obtain ⟨_, rfl, rfl⟩ := h
    subst h7
    refine (readA_two [100, 101, 108] name r (by decide) (by decide)).trans ?_
    rw [show actK [100, 101, 108] = 7 by decide]
    unfold readX
    rw [if_neg (by decide), if_neg (by decide), if_pos rfl]
    simp
  rw [if_neg h7] at h
  by_cases h8 : k = 8
  · rw [if_pos h8, Bool.and_eq_true, Bool.and_eq_true, decide_eq_true_eq, decide_eq_true_eq, decide_eq_true_eq] at h
    obtain ⟨_, rfl, rfl⟩ := h
    subst h8
    refine (readA_two [112, 114, 101, 112, 101, 110, 100] (digS 10 n.toNat) r (by decide) (by decide)).trans ?_
    rw [show actK [112, 114, 101, 112, 101, 110, 100] = 8 by decide]
    unfold readX
    rw [if_pos (by decide), numO_dig hn32]
    simp
  rw [if_neg h8] at h
  by_cases h9 : k = 9
  · rw [if_pos h9, Bool.and_eq_true, Bool.and_eq_true, decide_eq_true_eq, decide_eq_true_eq, decide_eq_true_eq] at h
    obtain ⟨ha, rfl, rfl⟩ := h
    subst h9
    have hta := text_addr ha
    refine (readA_two [110, 101, 120, 116] (addrT addr).1 r (by decide) (by decide)).trans ?_
    rw [show actK [110, 101, 120, 116] = 9 by decide]
    unfold readX
    rw [if_neg (by decide), if_neg (by decide), if_neg (by decide), if_pos rfl, hta]
    simp
  rw [if_neg h9] at h
  by_cases h10 : k = 10
  · rw [if_pos h10, Bool.and_eq_true, Bool.and_eq_true, decide_eq_true_eq, decide_eq_true_eq, decide_eq_true_eq] at h
    obtain ⟨ha, rfl, rfl⟩ := h
    subst h10
    have := originN_t (n := (n.toNat : Int)) (by omega) (by omega)
    refine (readA_two [111, 114, 105, 103, 105, 110] (originT n.toNat) r (by decide) (by decide)).trans ?_
    rw [show actK [111, 114, 105, 103, 105, 110] = 10 by decide]
    unfold readX
    rw [if_neg (by decide), if_neg (by decide), if_neg (by decide), if_neg (by decide), this]
    simp
  rw [if_neg h10] at h
  cases h
/-- Conditions, up to 'then'. -/
noncomputable def readCs : Nat → List UInt8 → List (List UInt8) → Option (List CondS × List (List UInt8))
  | 0, _, _ => none
  | n + 1, w, r =>
    if w = [116, 104, 101, 110] then some ([], r)
    else if w = [105, 102] ∨ w = [97, 110, 100] then
      (match readC r with
        | some (c, v :: q) => (readCs n v q).map fun p => (c :: p.1, p.2)
        | _ => none)
    else none
/-- Actions, to the end. -/
noncomputable def readAs : Nat → List (List UInt8) → Option (List ActS)
  | 0, _ => none
  | n + 1, r =>
    match readA r with
    | none => none
    | some (a, []) => some [a]
    | some (a, w :: q) => if w = [97, 110, 100] then (readAs n q).map fun l => a :: l else none
noncomputable def readT : List (List UInt8) → Option TermS
  | [] => none
  | w :: r =>
    if w = [105, 102] then (readCs (r.length + 1) w r).bind fun p => (readAs (r.length + 1) p.2).map fun l => ⟨p.1, l⟩
    else if w = [116, 104, 101, 110] then (readAs (r.length + 1) r).map fun l => ⟨[], l⟩
    else none
theorem readAs_ws : ∀ (l : List ActS) (n : Nat), l ≠ [] → l.length ≤ n → (∀ a ∈ l, actOk a = true) → readAs n (sepW (l.map actWs)) = some l
  | [], _, h, _, _ => absurd rfl h
  | _ :: _, 0, _, h, _ => absurd h (by simp)
  | [a], n + 1, _, _, h => by
    have ha := readA_ws a (h a (by simp)) []
    rw [List.append_nil] at ha
    show readAs (n + 1) (actWs a) = _
    simp only [readAs, ha]
  | a :: b :: r, n + 1, _, hn, h => by
    have ha := readA_ws a (h a (by simp)) ([97, 110, 100] :: sepW ((b :: r).map actWs))
    have ih := readAs_ws (b :: r) n (by simp) (by simp at hn ⊢; omega) (fun z hz => h z (by simp [hz]))
    show readAs (n + 1) (actWs a ++ ([97, 110, 100] :: sepW ((b :: r).map actWs))) = _
    simp only [readAs, ha, ih, if_true]
    rfl
theorem readCs_ws : ∀ (l : List CondS) (n : Nat) (w : List UInt8) (R : List (List UInt8)), l ≠ [] → l.length < n → (w = [105, 102] ∨ w = [97, 110, 100]) → (∀ c ∈ l, condOk c = true) → readCs n w (sepW (l.map condWs) ++ ([116, 104, 101, 110] :: R)) = some (l, R)
  | [], _, _, _, h, _, _, _ => absurd rfl h
  | _ :: _, 0, _, _, _, h, _, _ => absurd h (by simp)
  | _ :: _, 1, _, _, _, h, _, _ => absurd h (by simp)
  | [c], n + 2, w, R, _, _, hw, h => by
    have hc := readC_ws c (h c (by simp)) ([116, 104, 101, 110] :: R)
    have hne : ¬ w = [116, 104, 101, 110] := by rcases hw with rfl | rfl <;> decide
    show readCs (n + 2) w (condWs c ++ ([116, 104, 101, 110] :: R)) = _
    simp only [readCs, hc, if_neg hne, if_pos hw]
    simp
  | c :: d :: r, n + 2, w, R, _, hn, hw, h => by
    have hc := readC_ws c (h c (by simp)) ([97, 110, 100] :: (sepW ((d :: r).map condWs) ++ ([116, 104, 101, 110] :: R)))
    have ih := readCs_ws (d :: r) (n + 1) [97, 110, 100] R (by simp) (by simp at hn ⊢; omega) (.inr rfl) (fun z hz => h z (by simp [hz]))
    have hne : ¬ w = [116, 104, 101, 110] := by rcases hw with rfl | rfl <;> decide
    show readCs (n + 1 + 1) w ((condWs c ++ ([97, 110, 100] :: sepW ((d :: r).map condWs))) ++ ([116, 104, 101, 110] :: R)) = _
    rw [List.append_assoc, List.cons_append]
    rw [readCs, if_neg hne, if_pos hw, hc]
    show Option.map _ (readCs (n + 1) [97, 110, 100] _) = _
    rw [ih]
    rfl
theorem sepW_len : ∀ (l : List (List (List UInt8))), (∀ x ∈ l, x ≠ []) → l.length ≤ (sepW l).length
  | [], _ => Nat.le_refl _
  | [x], h => by
    have := List.length_pos_iff.2 (h x (by simp))
    show 1 ≤ x.length
    omega
  | x :: y :: r, h => by
    have := sepW_len (y :: r) (fun z hz => h z (by simp [hz]))
    have h1 : (sepW (x :: y :: r)).length = x.length + (1 + (sepW (y :: r)).length) := by
      show (x ++ ([97, 110, 100] :: sepW (y :: r))).length = _
      rw [List.length_append, List.length_cons]
      omega
    rw [h1]
    simp at this ⊢
    omega
/-- A term is read of its words. -/
theorem readT_ws (t : TermS) (h : termOk t = true) : readT (termWs t) = some t := by
  unfold termOk at h
  simp only [Bool.and_eq_true, decide_eq_true_eq] at h
  obtain ⟨_, ⟨h1, _⟩, hc, ha, _⟩ := h
  obtain ⟨cs, al⟩ := t
  dsimp only at h1 hc ha
  have hne : al ≠ [] := by rintro rfl; simp at h1
  have hla := sepW_len (al.map actWs) (fun x hx => by obtain ⟨a, _, rfl⟩ := List.mem_map.1 hx; exact actWs_ne a)
  rw [List.length_map] at hla
  have hra := fun n hn => readAs_ws al n hne hn (fun a hm => List.all_eq_true.1 ha a hm)
  unfold termWs
  dsimp only
  by_cases hn : cs = []
  · subst hn
    rw [if_pos rfl, List.nil_append]
    simp only [readT]
    rw [if_neg (by decide), if_pos trivial, hra _ (by omega)]
    rfl
  · rw [if_neg hn, List.cons_append]
    have hlc := sepW_len (cs.map condWs) (fun x hx => by obtain ⟨c, _, rfl⟩ := List.mem_map.1 hx; exact condWs_ne c)
    rw [List.length_map] at hlc
    have hl : (sepW (cs.map condWs) ++ ([116, 104, 101, 110] :: sepW (al.map actWs))).length = (sepW (cs.map condWs)).length + ((sepW (al.map actWs)).length + 1) := by rw [List.length_append, List.length_cons]
    simp only [readT]
    rw [if_pos trivial, readCs_ws cs _ [105, 102] _ hn (by rw [hl]; omega) (.inl rfl) (fun c hm => List.all_eq_true.1 hc c hm)]
    show Option.map _ (readAs _ (sepW (al.map actWs))) = _
    rw [hra _ (by rw [hl]; omega)]
    rfl
/-- A term's text tells the term. -/
theorem termW_inj {t u : TermS} (ht : termOk t = true) (hu : termOk u = true) (h : termW t = termW u) : t = u := by
  have h1 := readT_ws t ht
  have h2 := readT_ws u hu
  rw [← spl_term ht] at h1
  rw [← spl_term hu, ← h, h1] at h2
  exact Option.some.inj h2
/-- The term of a text. -/
noncomputable def termO (s : List UInt8) : Option TermS := (readT (spl 32 s)).bind fun t => if termT t = (s, 0) then some t else none
theorem termO_text {t : TermS} (h : termOk t = true) : termO (termW t) = some t := by
  unfold termO
  rw [spl_term h, readT_ws t h]
  show (if termT t = (termW t, 0) then some t else none) = some t
  exact if_pos (if_pos h)
theorem termO_some {s : List UInt8} {t : TermS} (h : termO s = some t) : termT t = (s, 0) := by
  unfold termO at h
  cases hr : readT (spl 32 s) with
  | none => rw [hr] at h; cases h
  | some u =>
    rw [hr] at h
    have h : (if termT u = (s, 0) then some u else none) = some t := h
    split at h
    · rename_i he
      injection h with h
      rw [← h]
      exact he
    · cases h
end
section
open Go.RowKit
set_option linter.unusedVariables false

/-- The set that a condition names, and of which kind. -/
def needC (c : CondS) : Option (List UInt8 × Int) := if c.kind = 1 ∨ c.kind = 2 ∨ c.kind = 3 then some (c.name, c.kind) else none
def needA (a : ActS) : Option (List UInt8 × Int) := if a.kind = 7 then some (a.name, 2) else none
def needsT (t : TermS) : List (List UInt8 × Int) := t.conds.filterMap needC ++ t.acts.filterMap needA
def needsP (p : PolS) : List (List UInt8 × Int) := p.terms.flatMap needsT
/-- Is there a set of that name and kind? -/
def findE (l : List StS) (name : List UInt8) : Option StS := l.find? fun s => s.name == name
def thereS (l : List StS) (n : List UInt8 × Int) : Bool := l.any fun s => s.name == n.1 && decide (s.kind = n.2)
/-- Sets that may be, no two of one name. -/
noncomputable def setsOk : List StS → List (List UInt8) → Bool
  | [], _ => true
  | s :: r, seen => setOk s && (!seen.contains s.name && setsOk r (s.name :: seen))
noncomputable def checkP (p : PolS) (l : List StS) : Int :=
  if polOk p = false then 2 else if setsOk l [] = false then 2 else if (needsP p).all (thereS l) = false then 8 else 0
theorem setsOk_name : ∀ (l : List StS) (seen : List (List UInt8)), setsOk l seen = true → ∀ s ∈ l, s.name ∉ seen
  | [], _, _, s, h => by cases h
  | x :: r, seen, h, s, hs => by
    unfold setsOk at h
    simp only [Bool.and_eq_true, Bool.not_eq_true'] at h
    obtain ⟨_, h2, h3⟩ := h
    rcases List.mem_cons.1 hs with rfl | hs
    · intro hm
      rw [List.contains_iff_mem.2 hm] at h2
      cases h2
    · intro hm
      exact setsOk_name r (x.name :: seen) h3 s hs (List.mem_cons_of_mem _ hm)
/-- Of sets of different names, the first one of a name is the one. -/
theorem there_find (l : List StS) (seen : List (List UInt8)) (h : setsOk l seen = true) (n : List UInt8 × Int) : thereS l n = match findE l n.1 with | some s => decide (s.kind = n.2) | none => false := by
  induction l generalizing seen with
  | nil => rfl
  | cons x r ih =>
    have h' := h
    unfold setsOk at h
    simp only [Bool.and_eq_true, Bool.not_eq_true'] at h
    obtain ⟨_, _, h3⟩ := h
    have ihr := ih (x.name :: seen) h3
    unfold thereS findE at *
    rw [List.any_cons, List.find?_cons]
    cases hx : x.name == n.1 with
    | false =>
      rw [Bool.false_and, Bool.false_or]
      exact ihr
    | true =>
      rw [Bool.true_and]
      have hr : (r.any fun s => s.name == n.1 && decide (s.kind = n.2)) = false := by
        rw [List.any_eq_false]
        intro s hs
        have hn := setsOk_name r (x.name :: seen) h3 s hs
        have : (s.name == n.1) = false := by
          rw [beq_eq_false_iff_ne]
          intro e
          exact hn (by rw [e, ← eq_of_beq hx]; simp)
        rw [this]
        simp
      rw [hr, Bool.or_false]
/-- An instruction. -/
structure InsS where
  kind : Int
  cond : CondS
  act : ActS
  to : Int
  n : Int
def zeroCo : CondS := ⟨0, false, [], 0⟩
def zeroAc : ActS := ⟨0, [], 0, []⟩
def insT (off : Nat) (t : TermS) : List InsS := (t.conds.map fun c => ⟨1, c, zeroAc, ((off + t.conds.length + t.acts.length : Nat) : Int), 0⟩) ++ t.acts.map fun a => ⟨2, zeroCo, a, 0, 0⟩
def insL : Nat → List TermS → List InsS
  | _, [] => []
  | off, t :: r => insT off t ++ insL (off + t.conds.length + t.acts.length) r
def insP (p : PolS) : List InsS := insL 0 p.terms ++ [⟨3, zeroCo, zeroAc, 0, if p.els = true then 1 else 0⟩]
/-- The sets that a policy names, in their order. -/
def setsP (p : PolS) (l : List StS) : List StS := l.filter fun s => (needsP p).any fun n => n.1 == s.name
theorem insT_len (off : Nat) (t : TermS) : (insT off t).length = t.conds.length + t.acts.length := by unfold insT; simp
theorem insL_snoc : ∀ (l : List TermS) (off : Nat) (t : TermS), insL off (l ++ [t]) = insL off l ++ insT (off + (insL off l).length) t
  | [], off, t => by simp [insL]
  | x :: r, off, t => by
    have ih := insL_snoc r (off + x.conds.length + x.acts.length) t
    show insT off x ++ insL (off + x.conds.length + x.acts.length) (r ++ [t]) = _
    rw [ih]
    show _ = (insT off x ++ insL (off + x.conds.length + x.acts.length) r) ++ insT (off + (insT off x ++ insL (off + x.conds.length + x.acts.length) r).length) t
    rw [List.append_assoc, List.length_append, insT_len]
    congr 3
    omega
/-- A jump goes forward, not behind the end. -/
theorem insL_jump : ∀ (l : List TermS) (off i : Nat) (x : InsS), (insL off l)[i]? = some x → x.kind = 1 → ((off + i : Nat) : Int) < x.to ∧ x.to ≤ ((off + (insL off l).length : Nat) : Int)
  | [], off, i, x, h, _ => by simp [insL] at h
  | t :: r, off, i, x, h, hk => by
    have h : (insT off t ++ insL (off + t.conds.length + t.acts.length) r)[i]? = some x := h
    have hlen : (insL off (t :: r)).length = t.conds.length + t.acts.length + (insL (off + t.conds.length + t.acts.length) r).length := by
      show (insT off t ++ _).length = _
      rw [List.length_append, insT_len]
    rcases Nat.lt_or_ge i (insT off t).length with hi | hi
    · rw [List.getElem?_append_left hi] at h
      rw [insT_len] at hi
      unfold insT at h
      rcases Nat.lt_or_ge i t.conds.length with hc | hc
      · rw [List.getElem?_append_left (by simpa using hc), List.getElem?_map, List.getElem?_eq_getElem hc] at h
        injection h with h
        subst h
        dsimp only
        rw [hlen]
        omega
      · rw [List.getElem?_append_right (by simpa using hc), List.getElem?_map] at h
        obtain ⟨a, _, rfl⟩ := Option.map_eq_some_iff.1 h
        cases hk
    · rw [List.getElem?_append_right hi] at h
      have ih := insL_jump r (off + t.conds.length + t.acts.length) (i - (insT off t).length) x h hk
      rw [insT_len] at ih hi
      rw [hlen]
      omega
end
end Go.Proofs.YtljibkfbldjgdaaGreatDoor
