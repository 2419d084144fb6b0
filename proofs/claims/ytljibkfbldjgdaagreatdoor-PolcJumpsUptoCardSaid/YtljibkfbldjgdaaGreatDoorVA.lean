/- Chapter 15, plain: patterns of atoms, which lists they match; patterns as texts. Chapter 15, plain: names; sets, which may be, what they hold. Data of a fixed number of cells that lead nowhere: rows of the call's own, a whole slice appended. How numbers of 64 bits, bytes as texts, Bools, prefixes, items, atoms and sets lie in memory. Arguments of chapter 15, opened: prefixes, items, atoms, sets. -/
import Derived.Test.YtljibkfbldjgdaaGreatDoorPN
import Derived.Test.YtljibkfbldjgdaaGreatDoorP1
import Derived.Shelf.GgClosure.StringsRunes
import Derived.Test.YtljibkfbldjgdaaGreatDoorBase
import Derived.Test.YtljibkfbldjgdaaGreatDoorA4
import Derived.Test.YtljibkfbldjgdaaGreatDoorO4
namespace Go.Proofs.YtljibkfbldjgdaaGreatDoor
set_option linter.unusedVariables false

/-- An atom: its kind, its AS. -/
abbrev Atm := Int × UInt32
def atmOk (a : Atm) : Bool := decide (1 ≤ a.1) && (decide (a.1 ≤ 3) && (decide (a.1 = 1) == decide (0 < a.2.toNat)))
def atmsOk (l : List Atm) : Bool := l.all atmOk && decide (l.length ≤ 64)
def starS (f : List UInt32 → Bool) : List UInt32 → Bool
  | [] => f []
  | x :: t => f (x :: t) || starS f t
/-- Does a pattern match a list? -/
def matS : List Atm → List UInt32 → Bool
  | [], l => l.isEmpty
  | a :: p, l => if a.1 = 3 then starS (matS p) l else if a.1 = 2 then (match l with | [] => false | _ :: t => matS p t) else (match l with | [] => false | x :: t => decide (x = a.2) && matS p t)
theorem starS_iff (f : List UInt32 → Bool) : ∀ l, starS f l = true ↔ ∃ i, i ≤ l.length ∧ f (l.drop i) = true
  | [] => by
    show f [] = true ↔ _
    constructor
    · intro h; exact ⟨0, Nat.le_refl _, h⟩
    · rintro ⟨i, hi, h⟩
      rwa [List.drop_nil] at h
  | x :: t => by
    show (f (x :: t) || starS f t) = true ↔ _
    rw [Bool.or_eq_true, starS_iff f t]
    constructor
    · rintro (h | ⟨i, hi, h⟩)
      · exact ⟨0, Nat.zero_le _, h⟩
      · exact ⟨i + 1, by simp; omega, h⟩
    · rintro ⟨i, hi, h⟩
      cases i with
      | zero => exact .inl h
      | succ i => exact .inr ⟨i, by simp at hi; omega, h⟩
theorem matS_many (a : Atm) (p : List Atm) (l : List UInt32) (h : a.1 = 3) : matS (a :: p) l = starS (matS p) l := if_pos h
theorem matS_any (a : Atm) (p : List Atm) (l : List UInt32) (h : a.1 = 2) : matS (a :: p) l = match l with | [] => false | _ :: t => matS p t := by
  show (if _ then _ else _) = _
  rw [if_neg (by omega), if_pos h]
theorem matS_as (a : Atm) (p : List Atm) (l : List UInt32) (h : a.1 ≠ 3) (h2 : a.1 ≠ 2) : matS (a :: p) l = match l with | [] => false | x :: t => decide (x = a.2) && matS p t := by
  show (if _ then _ else _) = _
  rw [if_neg h, if_neg h2]
theorem matS_append (q : List Atm) : ∀ (p : List Atm) (l : List UInt32), matS (p ++ q) l = true ↔ ∃ k, k ≤ l.length ∧ matS p (l.take k) = true ∧ matS q (l.drop k) = true
  | [], l => by
    rw [List.nil_append]
    constructor
    · intro h; exact ⟨0, Nat.zero_le _, rfl, h⟩
    · rintro ⟨k, hk, h1, h2⟩
      have h3 : l.take k = [] := List.isEmpty_iff.1 h1
      have h4 : k = 0 ∨ l = [] := by
        rcases List.take_eq_nil_iff.1 h3 with h | h
        · exact .inl h
        · exact .inr h
      rcases h4 with rfl | rfl
      · exact h2
      · rwa [List.drop_nil] at h2
  | a :: p, l => by
    rw [List.cons_append]
    have ih := matS_append q p
    by_cases h3 : a.1 = 3
    · rw [matS_many _ _ _ h3, starS_iff]
      constructor
      · rintro ⟨i, hi, h⟩
        obtain ⟨k, hk, h1, h2⟩ := (ih _).1 h
        rw [List.length_drop] at hk
        refine ⟨i + k, by omega, ?_, ?_⟩
        · rw [matS_many _ _ _ h3, starS_iff]
          refine ⟨i, by simp; omega, ?_⟩
          rw [List.drop_take, Nat.add_sub_cancel_left]
          exact h1
        · rw [List.drop_drop] at h2
          exact h2
      · rintro ⟨k, hk, h1, h2⟩
        rw [matS_many _ _ _ h3, starS_iff] at h1
        obtain ⟨i, hi, h1⟩ := h1
        rw [List.length_take] at hi
        rw [List.drop_take] at h1
        refine ⟨i, by omega, (ih _).2 ⟨k - i, by simp; omega, h1, ?_⟩⟩
        rw [List.drop_drop, show i + (k - i) = k by omega]
        exact h2
    · by_cases h2 : a.1 = 2
      · rw [matS_any _ _ _ h2]
        cases l with
        | nil =>
          constructor
          · intro h; cases h
          · rintro ⟨k, hk, h1, _⟩
            rw [List.take_nil, matS_any _ _ _ h2] at h1
            cases h1
        | cons x t =>
          show matS (p ++ q) t = true ↔ _
          rw [ih]
          constructor
          · rintro ⟨k, hk, h4, h5⟩
            refine ⟨k + 1, by simp; omega, ?_, h5⟩
            rw [matS_any _ _ _ h2]
            exact h4
          · rintro ⟨k, hk, h4, h5⟩
            rw [matS_any _ _ _ h2] at h4
            cases k with
            | zero => cases h4
            | succ k => exact ⟨k, by simp at hk; omega, h4, h5⟩
      · rw [matS_as _ _ _ h3 h2]
        cases l with
        | nil =>
          constructor
          · intro h; cases h
          · rintro ⟨k, hk, h1, _⟩
            rw [List.take_nil, matS_as _ _ _ h3 h2] at h1
            cases h1
        | cons x t =>
          show (decide (x = a.2) && matS (p ++ q) t) = true ↔ _
          rw [Bool.and_eq_true, ih]
          constructor
          · rintro ⟨hx, k, hk, h4, h5⟩
            refine ⟨k + 1, by simp; omega, ?_, h5⟩
            rw [matS_as _ _ _ h3 h2]
            exact Bool.and_eq_true_iff.2 ⟨hx, h4⟩
          · rintro ⟨k, hk, h4, h5⟩
            rw [matS_as _ _ _ h3 h2] at h4
            cases k with
            | zero => cases h4
            | succ k =>
              obtain ⟨hx, h4⟩ := Bool.and_eq_true_iff.1 h4
              exact ⟨hx, k, by simp at hk; omega, h4, h5⟩
/-- The step of a pattern, as the program takes it: at atom i, AS j. -/
theorem matS_end (l : List UInt32) : matS [] l = decide (l.length = 0) := by
  cases l <;> simp [matS]
theorem mat_many {a : Atm} {p : List Atm} {l : List UInt32} (h : a.1 = 3) : matS (a :: p) l = (matS p l || (decide (l ≠ []) && matS (a :: p) l.tail)) := by
  rw [matS_many _ _ _ h]
  cases l with
  | nil => simp [starS]
  | cons x t => rw [List.tail_cons, matS_many _ _ _ h]; simp [starS]
/-- One atom takes the ASs from k to m. -/
def stepA (a : Atm) (l : List UInt32) (k m : Nat) : Bool := if a.1 = 3 then decide (k ≤ m) else if a.1 = 2 then decide (m = k + 1) else decide (m = k + 1 ∧ l[k]? = some a.2)
theorem mat_one (a : Atm) (l : List UInt32) (k m : Nat) (hm : m ≤ l.length) (hk : k ≤ m) : matS [a] ((l.take m).drop k) = stepA a l k m := by
  unfold stepA
  by_cases h3 : a.1 = 3
  · rw [matS_many _ _ _ h3, if_pos h3, decide_eq_true hk, starS_iff]
    exact ⟨((l.take m).drop k).length, Nat.le_refl _, by rw [List.drop_length]; rfl⟩
  · rw [if_neg h3]
    by_cases h2 : a.1 = 2
    · rw [matS_any _ _ _ h2, if_pos h2]
      have hl : ((l.take m).drop k).length = m - k := by simp; omega
      generalize (l.take m).drop k = x at hl
      match x, hl with
      | [], hl => exact (decide_eq_false (by simp at hl; omega)).symm
      | [_], hl => exact (decide_eq_true (by simp at hl; omega)).symm
      | _ :: _ :: _, hl => exact (decide_eq_false (by simp at hl; omega)).symm
    · rw [matS_as _ _ _ h3 h2, if_neg h2]
      have hl : ((l.take m).drop k).length = m - k := by simp; omega
      have hg : ((l.take m).drop k)[0]? = if k < m then l[k]? else none := by
        rw [List.getElem?_drop, Nat.add_zero, List.getElem?_take]
      generalize (l.take m).drop k = x at hl hg
      match x, hl, hg with
      | [], hl, hg => exact (decide_eq_false (by simp at hl; omega)).symm
      | [y], hl, hg =>
        have hm1 : m = k + 1 := by simp at hl; omega
        rw [if_pos (by omega)] at hg
        have hg' : some y = l[k]? := hg
        rw [← hg']
        show (decide (y = a.2) && true) = _
        rw [Bool.and_true]
        exact decide_eq_decide.2 ⟨fun h => ⟨hm1, congrArg some h⟩, fun h => Option.some.inj h.2⟩
      | y :: z :: r, hl, hg =>
        show (decide (y = a.2) && false) = _
        rw [Bool.and_false]
        exact (decide_eq_false (by simp at hl; omega)).symm
/-- What the document's row of Bools holds behind i atoms: which beginnings of the list the first i atoms match. -/
def rowA (p : List Atm) (l : List UInt32) (i : Nat) : List Bool := (List.range (l.length + 1)).map fun k => matS (p.take i) (l.take k)
theorem rowA_len (p : List Atm) (l : List UInt32) (i : Nat) : (rowA p l i).length = l.length + 1 := by simp [rowA]
theorem rowA_at (p : List Atm) (l : List UInt32) (i k : Nat) (hk : k < (rowA p l i).length) : (rowA p l i)[k] = matS (p.take i) (l.take k) := by simp [rowA]
theorem rowA_zero (p : List Atm) (l : List UInt32) : rowA p l 0 = true :: List.replicate l.length false := by
  apply List.ext_getElem (by simp [rowA])
  intro k h1 h2
  rw [rowA_at, List.take_zero, matS_end, List.length_take]
  cases k with
  | zero => simp
  | succ k =>
    have : k < l.length := by rw [rowA_len] at h1; omega
    rw [List.getElem_cons_succ, List.getElem_replicate]
    exact decide_eq_false (by omega)
/-- .. and while the next row is filled, behind the first k places. -/
def fillA (p : List Atm) (l : List UInt32) (i : Nat) (a : Atm) (k : Nat) : List Bool := (List.range (l.length + 1)).map fun m => (List.range k).any fun j => matS (p.take i) (l.take j) && stepA a l j m
theorem fillA_len (p : List Atm) (l : List UInt32) (i : Nat) (a : Atm) (k : Nat) : (fillA p l i a k).length = l.length + 1 := by simp [fillA]
theorem fillA_at (p : List Atm) (l : List UInt32) (i : Nat) (a : Atm) (k m : Nat) (hm : m < (fillA p l i a k).length) : (fillA p l i a k)[m] = (List.range k).any fun j => matS (p.take i) (l.take j) && stepA a l j m := by simp [fillA]
theorem fillA_zero (p : List Atm) (l : List UInt32) (i : Nat) (a : Atm) : fillA p l i a 0 = List.replicate (l.length + 1) false := by
  apply List.ext_getElem (by simp [fillA])
  intro k h1 h2
  rw [fillA_at, List.getElem_replicate]
  rfl
theorem fill_step (p : List Atm) (l : List UInt32) (i : Nat) (a : Atm) (k m : Nat) (hm : m < (fillA p l i a k).length) (hm' : m < (fillA p l i a (k + 1)).length) : (fillA p l i a (k + 1))[m] = ((fillA p l i a k)[m] || (matS (p.take i) (l.take k) && stepA a l k m)) := by
  rw [fillA_at, fillA_at, List.range_succ, List.any_append, List.any_cons, List.any_nil, Bool.or_false]
theorem fill_skip (p : List Atm) (l : List UInt32) (i : Nat) (a : Atm) (k : Nat) (h : matS (p.take i) (l.take k) = false ∨ ∀ m, m ≤ l.length → stepA a l k m = false) : fillA p l i a (k + 1) = fillA p l i a k := by
  apply List.ext_getElem (by rw [fillA_len, fillA_len])
  intro m h1 h2
  rw [fill_step p l i a k m h2 h1]
  rcases h with h | h
  · rw [h, Bool.false_and, Bool.or_false]
  · rw [h m (by rw [fillA_len] at h2; omega), Bool.and_false, Bool.or_false]
theorem fill_one (p : List Atm) (l : List UInt32) (i : Nat) (a : Atm) (k : Nat) (h : matS (p.take i) (l.take k) = true) (hs : ∀ m, m ≤ l.length → stepA a l k m = decide (m = k + 1)) (hk : k < l.length) : fillA p l i a (k + 1) = (fillA p l i a k).set (k + 1) true := by
  apply List.ext_getElem (by rw [List.length_set, fillA_len, fillA_len])
  intro m h1 h2
  rw [List.length_set] at h2
  rw [fill_step p l i a k m h2 h1, h, Bool.true_and, hs m (by rw [fillA_len] at h2; omega), List.getElem_set]
  by_cases he : k + 1 = m
  · rw [if_pos he, decide_eq_true he.symm, Bool.or_true]
  · rw [if_neg he, decide_eq_false (fun e => he e.symm), Bool.or_false]
/-- A star's places: from k on, up to j. -/
def starA (x : List Bool) (k j : Nat) : List Bool := x.mapIdx fun m b => if k ≤ m ∧ m < j then true else b
theorem starA_len (x : List Bool) (k j : Nat) : (starA x k j).length = x.length := by simp [starA]
theorem starA_at (x : List Bool) (k j m : Nat) (hm : m < (starA x k j).length) (hx : m < x.length) : (starA x k j)[m] = if k ≤ m ∧ m < j then true else x[m] := by simp [starA]
theorem starA_zero (x : List Bool) (k : Nat) : starA x k k = x := by
  apply List.ext_getElem (starA_len _ _ _)
  intro m h1 h2
  rw [starA_at x k k m h1 h2, if_neg (by omega)]
theorem starA_step (x : List Bool) (k j : Nat) (hj : j < x.length) (hk : k ≤ j) : starA x k (j + 1) = (starA x k j).set j true := by
  apply List.ext_getElem (by rw [List.length_set, starA_len, starA_len])
  intro m h1 h2
  have hm : m < x.length := by rw [starA_len] at h1; exact h1
  rw [starA_at x k (j + 1) m h1 hm, List.getElem_set]
  by_cases he : j = m
  · rw [if_pos he, if_pos (by omega)]
  · rw [if_neg he, starA_at x k j m (by rw [starA_len]; exact hm) hm]
    by_cases h3 : k ≤ m ∧ m < j
    · rw [if_pos h3, if_pos (by omega)]
    · rw [if_neg h3, if_neg (by omega)]
theorem fill_star (p : List Atm) (l : List UInt32) (i : Nat) (a : Atm) (k : Nat) (h : matS (p.take i) (l.take k) = true) (h3 : a.1 = 3) : fillA p l i a (k + 1) = starA (fillA p l i a k) k (l.length + 1) := by
  apply List.ext_getElem (by rw [starA_len, fillA_len, fillA_len])
  intro m h1 h2
  have hm : m < (fillA p l i a k).length := by rw [starA_len] at h2; exact h2
  rw [fill_step p l i a k m hm h1, h, Bool.true_and, starA_at _ _ _ _ h2 hm]
  unfold stepA
  rw [if_pos h3]
  rw [fillA_len] at hm
  by_cases he : k ≤ m
  · rw [if_pos ⟨he, hm⟩, decide_eq_true he, Bool.or_true]
  · rw [if_neg (fun e => he e.1), decide_eq_false he, Bool.or_false]
theorem fill_all (p : List Atm) (l : List UInt32) (i : Nat) (hi : i < p.length) : fillA p l i p[i] (l.length + 1) = rowA p l (i + 1) := by
  apply List.ext_getElem (by rw [fillA_len, rowA_len])
  intro m h1 h2
  rw [fillA_len] at h1
  rw [fillA_at, rowA_at]
  rw [Bool.eq_iff_iff, List.any_eq_true, List.take_succ_eq_append_getElem hi, matS_append]
  constructor
  · rintro ⟨j, hj, h⟩
    obtain ⟨ha, hb⟩ := Bool.and_eq_true_iff.1 h
    rw [List.mem_range] at hj
    have hjm : j ≤ m := by
      unfold stepA at hb
      split at hb
      · exact of_decide_eq_true hb
      · split at hb
        · have := of_decide_eq_true hb; omega
        · have := of_decide_eq_true hb; omega
    refine ⟨j, by rw [List.length_take]; omega, ?_, ?_⟩
    · rw [List.take_take, show min j m = j by omega]; exact ha
    · rw [mat_one _ _ _ _ (by omega) hjm]; exact hb
  · rintro ⟨j, hj, ha, hb⟩
    rw [List.length_take] at hj
    refine ⟨j, List.mem_range.2 (by omega), Bool.and_eq_true_iff.2 ⟨?_, ?_⟩⟩
    · rw [List.take_take, show min j m = j by omega] at ha; exact ha
    · rw [mat_one _ _ _ _ (by omega) (by omega)] at hb; exact hb
theorem rowA_last (p : List Atm) (l : List UInt32) (h : l.length < (rowA p l p.length).length) : (rowA p l p.length)[l.length] = matS p l := by
  rw [rowA_at, List.take_length, List.take_length]

/-! ### what SetsStars asks -/
theorem matS_star_at {a : Atm} (h : a.1 = 3) (p : List Atm) (l : List UInt32) : matS (a :: p) l = true ↔ ∃ i, i ≤ l.length ∧ matS p (l.drop i) = true := by
  rw [matS_many _ _ _ h, starS_iff]
theorem matS_one_star {a : Atm} (h : a.1 = 3) (l : List UInt32) : matS [a] l = true := (matS_star_at h [] l).2 ⟨l.length, Nat.le_refl _, by rw [List.drop_length]; rfl⟩
theorem matS_both {a : Atm} (h : a.1 = 3) (p : List Atm) (l : List UInt32) : matS (a :: (p ++ [a])) l = true ↔ ∃ i k, i ≤ k ∧ k ≤ l.length ∧ matS p ((l.take k).drop i) = true := by
  rw [matS_star_at h]
  constructor
  · rintro ⟨i, hi, h1⟩
    obtain ⟨k, hk, h2, _⟩ := (matS_append _ _ _).1 h1
    rw [List.length_drop] at hk
    refine ⟨i, i + k, by omega, by omega, ?_⟩
    rw [List.drop_take, Nat.add_sub_cancel_left]
    exact h2
  · rintro ⟨i, k, hik, hk, h1⟩
    rw [List.drop_take] at h1
    exact ⟨i, by omega, (matS_append _ _ _).2 ⟨k - i, by simp; omega, h1, matS_one_star h _⟩⟩
theorem matS_twice {a : Atm} (h : a.1 = 3) (p : List Atm) (l : List UInt32) : matS (a :: a :: p) l = matS (a :: p) l := by
  rw [Bool.eq_iff_iff, matS_star_at h]
  constructor
  · rintro ⟨i, hi, h1⟩
    obtain ⟨k, hk, h2⟩ := (matS_star_at h _ _).1 h1
    rw [List.length_drop] at hk
    rw [List.drop_drop] at h2
    exact (matS_star_at h _ _).2 ⟨i + k, by omega, h2⟩
  · intro h1
    exact ⟨0, Nat.zero_le _, h1⟩
theorem matS_dot_star {a b : Atm} (h : a.1 = 3) (hb : b.1 = 2) (l : List UInt32) : matS [b, a] l = matS [a, b] l := by
  rw [Bool.eq_iff_iff, matS_any _ _ _ hb, matS_star_at h]
  cases l with
  | nil =>
    constructor
    · intro e; cases e
    · rintro ⟨i, _, e⟩
      rw [List.drop_nil, matS_any _ _ _ hb] at e
      cases e
  | cons x t =>
    refine ⟨fun _ => ⟨t.length, by simp, ?_⟩, fun _ => matS_one_star h t⟩
    rw [matS_any _ _ _ hb]
    have hl : ((x :: t).drop t.length).length = 1 := by simp
    generalize (x :: t).drop t.length = y at hl
    match y, hl with
    | [_], _ => rfl
theorem matS_change {a b : Atm} (h : a.1 = 3) (hb : b.1 = 2) (p : List Atm) (l : List UInt32) : matS (p ++ [b, a]) l = matS (p ++ [a, b]) l := by
  rw [Bool.eq_iff_iff, matS_append, matS_append]
  simp only [matS_dot_star h hb]
theorem matS_same : ∀ (m l : List UInt32), matS (m.map fun x => ((1, x) : Atm)) l = decide (l = m)
  | [], l => by cases l <;> simp [matS]
  | x :: m, l => by
    rw [List.map_cons, matS_as _ _ _ (by show (1 : Int) ≠ 3; decide) (by show (1 : Int) ≠ 2; decide)]
    cases l with
    | nil => simp
    | cons y t =>
      show (decide (y = x) && matS _ t) = _
      rw [matS_same m t]
      simp

/-! ### patterns as texts -/
def wordT (a : Atm) : List UInt8 := if a.1 = 2 then [46] else if a.1 = 3 then [42] else digS 10 a.2.toNat
def textL (l : List Atm) : List UInt8 := if l = [] then [45] else Lib.join (l.map wordT) [32]
def textA (l : List Atm) : List UInt8 × Int := if atmsOk l = true then (textL l, 0) else ([], 2)
def wordA (w : List UInt8) : Option Atm := if w = [46] then some (2, 0) else if w = [42] then some (3, 0) else match rdN 10 4294967295 w with
  | some n => if n = 0 then none else some (1, UInt32.ofNat n)
  | none => none
def wordsA : List (List UInt8) → Option (List Atm)
  | [] => some []
  | w :: r => match wordA w, wordsA r with
    | some a, some l => some (a :: l)
    | _, _ => none
def parseA (s : List UInt8) : List Atm × Int := if s = [45] then ([], 0) else match wordsA (spl 32 s) with
  | some l => if l.length ≤ 64 then (l, 0) else ([], 4)
  | none => ([], 4)
theorem wordsA_snoc (w : List UInt8) : ∀ l, wordsA (l ++ [w]) = match wordsA l, wordA w with | some x, some a => some (x ++ [a]) | _, _ => none
  | [] => by
    show (match wordA w, some [] with | some a, some l => some (a :: l) | _, _ => none) = _
    cases wordA w <;> rfl
  | y :: l => by
    show (match wordA y, wordsA (l ++ [w]) with | some a, some l => some (a :: l) | _, _ => none) = (match (match wordA y, wordsA l with | some a, some l => some (a :: l) | _, _ => none), wordA w with | some x, some a => some (x ++ [a]) | _, _ => none)
    rw [wordsA_snoc w l]
    cases wordA y <;> cases wordsA l <;> cases wordA w <;> rfl
theorem wordsA_next {l : List (List UInt8)} {k : Nat} (hk : k < l.length) {x : List Atm} {a : Atm} (h : wordsA (l.take k) = some x) (ha : wordA l[k] = some a) : wordsA (l.take (k + 1)) = some (x ++ [a]) := by
  rw [List.take_succ_eq_append_getElem hk, wordsA_snoc, h, ha]
theorem wordsA_bad : ∀ {l : List (List UInt8)} {x : List UInt8}, x ∈ l → wordA x = none → wordsA l = none
  | y :: l, x, hx, h => by
    show (match wordA y, wordsA l with | some a, some l => some (a :: l) | _, _ => none) = none
    rcases List.mem_cons.1 hx with rfl | hx
    · rw [h]
    · rw [wordsA_bad hx h]
      cases wordA y <;> rfl
theorem wordsA_len : ∀ {l : List (List UInt8)} {x : List Atm}, wordsA l = some x → x.length = l.length
  | [], x, h => by cases h; rfl
  | w :: l, x, h => by
    replace h : (match wordA w, wordsA l with | some a, some l => some (a :: l) | _, _ => none) = some x := h
    cases hw : wordA w with
    | none => rw [hw] at h; cases h
    | some a =>
      cases hl : wordsA l with
      | none => rw [hw, hl] at h; cases h
      | some y =>
        rw [hw, hl] at h
        cases h
        simp [wordsA_len hl]
theorem wordA_text {w : List UInt8} {a : Atm} (h : wordA w = some a) : atmOk a = true ∧ wordT a = w ∧ w.length ≤ 10 ∧ (32 : UInt8) ∉ w := by
  unfold wordA at h
  split at h
  · rename_i e
    cases h
    subst e
    exact ⟨by decide, by decide, by decide, by decide⟩
  · split at h
    · rename_i e
      cases h
      subst e
      exact ⟨by decide, by decide, by decide, by decide⟩
    · cases hr : rdN 10 4294967295 w with
      | none => rw [hr] at h; cases h
      | some n =>
        rw [hr] at h
        simp only at h
        split at h
        · cases h
        · rename_i h1 h2 hn
          cases h
          obtain ⟨hle, hd⟩ := (rdN_iff (by decide) (by decide)).1 hr
          have ht : (UInt32.ofNat n).toNat = n := by rw [UInt32.toNat_ofNat']; omega
          refine ⟨?_, ?_, ?_, ?_⟩
          · unfold atmOk
            rw [ht]
            simp
            omega
          · unfold wordT
            rw [if_neg (by show ¬ (1 : Int) = 2; decide), if_neg (by show ¬ (1 : Int) = 3; decide), ht]
            exact hd
          · rw [← hd]
            exact digS_len (by decide) 10 n (by omega) (by decide)
          · rw [← hd]
            exact digS_no (by decide) (by decide) n 32 (.inl (by decide))
theorem text_wordA {a : Atm} (h : atmOk a = true) (h0 : a.1 = 1 ∨ a.2 = 0) : wordA (wordT a) = some a := by
  obtain ⟨k, x⟩ := a
  unfold atmOk at h
  simp only [Bool.and_eq_true, decide_eq_true_eq, beq_iff_eq, decide_eq_decide] at h
  obtain ⟨h1, h3, h4⟩ := h
  by_cases h2 : k = 2
  · subst h2
    have hx : x = 0 := by
      rcases h0 with h | h
      · exact absurd h (by show ¬ (2 : Int) = 1; decide)
      · exact h
    subst hx
    decide
  · by_cases h5 : k = 3
    · subst h5
      have hx : x = 0 := by
        rcases h0 with h | h
        · exact absurd h (by show ¬ (3 : Int) = 1; decide)
        · exact h
      subst hx
      decide
    · have hk : k = 1 := by omega
      subst hk
      have hx : 0 < x.toNat := h4.1 rfl
      have hlt : x.toNat < 4294967296 := x.toNat_lt
      unfold wordT
      rw [if_neg h2, if_neg h5]
      unfold wordA
      have hne : ∀ c : UInt8, (c.toNat < 48) → digS 10 x.toNat ≠ [c] := fun c hc he => digS_no (b := 10) (by decide) (by decide) x.toNat c (.inl hc) (by rw [he]; exact List.mem_singleton.2 rfl)
      rw [if_neg (hne 46 (by decide)), if_neg (hne 42 (by decide)), rdN_dig (by decide) (by decide) (show x.toNat ≤ 4294967295 by omega)]
      show (if x.toNat = 0 then none else some (1, UInt32.ofNat x.toNat)) = _
      rw [if_neg (by omega)]
      congr 2
      exact UInt32.ofNat_toNat
theorem atm_zero {a : Atm} (h : atmOk a = true) : a.1 = 1 ∨ a.2 = 0 := by
  unfold atmOk at h
  simp only [Bool.and_eq_true, decide_eq_true_eq, beq_iff_eq, decide_eq_decide] at h
  by_cases h1 : a.1 = 1
  · exact .inl h1
  · exact .inr (UInt32.toNat_inj.1 (by have := h.2.2; show a.2.toNat = 0; omega))
theorem wordsA_map : ∀ {l : List Atm}, (∀ a ∈ l, atmOk a = true) → wordsA (l.map wordT) = some l
  | [], _ => rfl
  | a :: l, h => by
    show (match wordA (wordT a), wordsA (l.map wordT) with | some a, some l => some (a :: l) | _, _ => none) = _
    have ha := h a (List.mem_cons_self ..)
    rw [text_wordA ha (atm_zero ha), wordsA_map fun b hb => h b (List.mem_cons_of_mem _ hb)]
theorem parse_textA {l : List Atm} (h : atmsOk l = true) : parseA (textL l) = (l, 0) := by
  unfold atmsOk at h
  rw [Bool.and_eq_true, List.all_eq_true, decide_eq_true_eq] at h
  obtain ⟨h1, h2⟩ := h
  have hw : ∀ a ∈ l, wordA (wordT a) = some a := fun a ha => text_wordA (h1 a ha) (atm_zero (h1 a ha))
  cases l with
  | nil => rfl
  | cons a r =>
    have ht : textL (a :: r) = Lib.join (wordT a :: r.map wordT) [32] := if_neg (by simp)
    have hs : spl 32 (textL (a :: r)) = (a :: r).map wordT := by
      rw [ht]
      refine join_spl 32 _ _ fun y hy => ?_
      rw [← List.map_cons (f := wordT)] at hy
      obtain ⟨b, hb, rfl⟩ := List.mem_map.1 hy
      exact (wordA_text (hw b hb)).2.2.2
    unfold parseA
    rw [hs, wordsA_map h1]
    rw [if_neg]
    · exact if_pos h2
    · intro e
      have := hs
      rw [e] at this
      have h3 : spl 32 [45] = [[45]] := by decide +kernel
      rw [h3] at this
      have h4 : wordT a = [45] := by
        rw [List.map_cons] at this
        injection this with this _
        exact this.symm
      have h5 := hw a (List.mem_cons_self ..)
      rw [h4] at h5
      exact absurd h5 (by
        have : wordA [45] = none := by
          have hr : rdN 10 4294967295 [45] = none := (rdN_none (by decide) (by decide)).2 fun u _ e => digS_no (b := 10) (by decide) (by decide) u 45 (.inl (by decide)) (by rw [e]; exact List.mem_singleton.2 rfl)
          unfold wordA
          rw [if_neg (by decide), if_neg (by decide), hr]
        rw [this]
        exact fun h => by cases h)
/-- A text of a pattern is short: what is longer is refused. -/
theorem wordsA_short : ∀ {l : List (List UInt8)} {x : List Atm}, wordsA l = some x → (Lib.join l [32]).length ≤ 11 * l.length
  | [], _, _ => by decide
  | [w], x, h => by
    replace h : (match wordA w, some [] with | some a, some l => some (a :: l) | _, _ => none) = some x := h
    cases hw : wordA w with
    | none => rw [hw] at h; cases h
    | some a =>
      have := (wordA_text hw).2.2.1
      rw [show Lib.join [w] [32] = w from by simp [Lib.join]]
      simp
      omega
  | w :: v :: l, x, h => by
    replace h : (match wordA w, wordsA (v :: l) with | some a, some l => some (a :: l) | _, _ => none) = some x := h
    cases hw : wordA w with
    | none => rw [hw] at h; cases h
    | some a =>
      cases hl : wordsA (v :: l) with
      | none => rw [hw, hl] at h; cases h
      | some y =>
        have h1 := (wordA_text hw).2.2.1
        have h2 := wordsA_short hl
        rw [join_two, List.length_append, List.length_append]
        simp only [List.length_cons, List.length_nil] at *
        omega
theorem parseA_long {s : List UInt8} (h : 768 < s.length) : parseA s = ([], 4) := by
  unfold parseA
  rw [if_neg (by rintro rfl; simp at h)]
  cases hw : wordsA (spl 32 s) with
  | none => rfl
  | some l =>
    have h1 := wordsA_short hw
    rw [spl_join] at h1
    have h2 := wordsA_len hw
    exact if_neg (by omega)

def runeOk (x : Nat) : Bool := (decide (97 ≤ x) && decide (x ≤ 122)) || ((decide (48 ≤ x) && decide (x ≤ 57)) || decide (x = 45))
def nameCh (c : UInt8) : Bool := runeOk c.toNat
/-- May it be a name? -/
def nameOk (s : List UInt8) : Bool := decide (1 ≤ s.length) && (decide (s.length ≤ 16) && (decide (97 ≤ (s.headD 0).toNat) && s.all nameCh))
theorem ba_get (s : List UInt8) (i : Nat) (h : i < s.length) : (ByteArray.mk s.toArray).get! i = s[i] := by
  show (s.toArray)[i]! = _
  rw [getElem!_pos s.toArray i (by simpa using h)]
  simp
theorem dec_small (s : List UInt8) (i : Nat) (h : i < s.length) (hs : s[i].toNat < 128) : Utf8.decode ⟨s.toArray⟩ i = (s[i].toNat, 1) := by
  unfold Utf8.decode
  simp only [Nat.add_zero, ba_get s i h]
  rw [if_pos hs]
theorem dec_great (s : List UInt8) (i : Nat) (h : i < s.length) (hs : 128 ≤ s[i].toNat) : 128 ≤ (Utf8.decode ⟨s.toArray⟩ i).1 := by
  unfold Utf8.decode
  simp only [Nat.add_zero, ba_get s i h, Utf8.runeError]
  rw [if_neg (by omega)]
  split
  · split
    · assumption
    · decide
  · split
    · split
      · rename_i hc
        rw [Bool.and_eq_true, decide_eq_true_eq] at hc
        dsimp only
        omega
      · decide
    · split
      · split
        · rename_i hc
          rw [Bool.and_eq_true, decide_eq_true_eq] at hc
          dsimp only
          omega
        · decide
      · decide
theorem name_from (s : List UInt8) : ∀ f pos, s.length ≤ pos + f → (Lib.idxFuncFrom (fun x => !runeOk x) true ⟨s.toArray⟩ f pos < 0 ↔ (s.drop pos).all nameCh = true)
  | 0, pos, hf => by
    rw [List.drop_eq_nil_of_le (by omega)]
    simp [Lib.idxFuncFrom]
  | f + 1, pos, hf => by
    unfold Lib.idxFuncFrom
    have hsz : (ByteArray.mk s.toArray).size = s.length := by simp [ByteArray.size]
    rw [hsz]
    by_cases hp : pos < s.length
    · rw [if_pos hp, List.drop_eq_getElem_cons hp, List.all_cons]
      by_cases hs : s[pos].toNat < 128
      · rw [dec_small s pos hp hs]
        show (if (!runeOk s[pos].toNat) = true then (pos : Int) else _) < 0 ↔ _
        cases hc : runeOk s[pos].toNat with
        | true =>
          rw [if_neg (by simp), name_from s f (pos + 1) (by omega)]
          simp [nameCh, hc]
        | false =>
          rw [if_pos (by simp)]
          simp [nameCh, hc]
      · have h1 := dec_great s pos hp (by omega)
        have hc : ∀ x, 128 ≤ x → runeOk x = false := fun x hx => by
          unfold runeOk
          simp
          omega
        rw [hc _ h1, if_pos (by simp)]
        simp [nameCh, hc _ (show 128 ≤ s[pos].toNat by omega)]
    · rw [if_neg hp, List.drop_eq_nil_of_le (by omega)]
      simp
theorem name_idx (s : List UInt8) : Lib.idxFunc (fun x => !runeOk x) true ⟨s.toArray⟩ < 0 ↔ s.all nameCh = true := by
  unfold Lib.idxFunc
  rw [show (ByteArray.mk s.toArray).size = s.length by simp [ByteArray.size], name_from s s.length 0 (by omega), List.drop_zero]

/-- An item of a set of prefixes. -/
structure Itm where
  p : Pfx
  low : Int
  high : Int
def itmOk (x : Itm) : Prop := MayP x.p ∧ x.p.len ≤ x.low ∧ x.low ≤ x.high ∧ x.high ≤ 8 * sizeS x.p.fam
noncomputable instance (x : Itm) : Decidable (itmOk x) := Classical.propDecidable _
/-- A set. -/
structure StS where
  name : List UInt8
  kind : Int
  items : List Itm
  comms : List UInt32
  paths : List (List Atm)
def zeroSt : StS := ⟨[], 0, [], [], []⟩
def risU : List UInt32 → Bool
  | x :: y :: r => decide (x.toNat < y.toNat) && risU (y :: r)
  | _ => true
noncomputable def itmsOk (l : List Itm) : Bool := l.all (fun x => decide (itmOk x)) && decide (l.length ≤ 64)
def commsOk (l : List UInt32) : Bool := risU l && decide (l.length ≤ 64)
def pathsOk (l : List (List Atm)) : Bool := l.all atmsOk && decide (l.length ≤ 64)
noncomputable def setOk (s : StS) : Bool := nameOk s.name &&
  (if s.kind = 1 then itmsOk s.items && (s.comms.isEmpty && s.paths.isEmpty) else if s.kind = 2 then commsOk s.comms && (s.items.isEmpty && s.paths.isEmpty) else if s.kind = 3 then pathsOk s.paths && (s.items.isEmpty && s.comms.isEmpty) else false)
noncomputable def itmHas (p : Pfx) (x : Itm) : Bool := decide (x.low ≤ p.len) && (decide (p.len ≤ x.high) && @decide (Cov x.p p) (Classical.propDecidable _))
noncomputable def setPfx (s : StS) (p : Pfx) : Bool := setOk s && (decide (s.kind = 1) && s.items.any (itmHas p))
noncomputable def setCom (s : StS) (l : List UInt32) : Bool := setOk s && (decide (s.kind = 2) && l.any (fun c => s.comms.contains c))
def matchS (p : List Atm) (l : List UInt32) : Bool := atmsOk p && matS p l
noncomputable def setPath (s : StS) (flat : List UInt32) : Bool := setOk s && (decide (s.kind = 3) && s.paths.any (fun x => matchS x flat))
open Go.RowKit

def Enc.cells {α : Type} (f : α → List Value) (P : α → Prop) (n : Nat) (hn : ∀ x, (f x).length = n) (h1 : ∀ x, ∀ u ∈ f x, u.oneCell' = true) : Enc α where
  R _ _ x cs := cs = f x ∧ P x
  sz := n
  size h := by rw [h.1]; exact hn _
  one := by rintro w S x cs ⟨rfl, _⟩ u hu; exact h1 x u hu
  frame _ h := h
  mono _ h := h
theorem flatC_len {α : Type} (f : α → List Value) (n : Nat) (hn : ∀ x, (f x).length = n) : ∀ l : List α, (l.flatMap f).length = l.length * n
  | [] => by simp
  | x :: l => by
    rw [List.flatMap_cons, List.length_append, hn, flatC_len f n hn l, List.length_cons, Nat.add_mul]
    omega
theorem flat_get {α : Type} (f : α → List Value) (n : Nat) (hn : ∀ x, (f x).length = n) : ∀ (l : List α) (k j : Nat) (hk : k < l.length), j < n → (l.flatMap f)[k * n + j]? = (f l[k])[j]?
  | x :: l, 0, j, _, hj => by
    rw [List.flatMap_cons, Nat.zero_mul, Nat.zero_add, List.getElem?_append_left (by rw [hn]; exact hj)]
    rfl
  | x :: l, k + 1, j, hk, hj => by
    have h : (k + 1) * n + j = n + (k * n + j) := by rw [Nat.add_mul]; omega
    rw [List.flatMap_cons, h, List.getElem?_append_right (by rw [hn]; omega), hn, Nat.add_sub_cancel_left, flat_get f n hn l k j (by simpa using hk) hj]
    rfl
section
variable {α : Type} {f : α → List Value} {P : α → Prop} {n : Nat} {hn : ∀ x, (f x).length = n} {h1 : ∀ x, ∀ u ∈ f x, u.oneCell' = true} {w w' : World} {B : Nat} {v : Value} {l : List α} {e : TypeId} {S : Nat → Prop} {a : Option Addr}
theorem own_cells (h0 : 0 < n) : Own (Enc.cells f P n hn h1) e w B v l ↔ w.ownsRow B e n v l.length (l.flatMap f) ∧ ∀ x ∈ l, P x := by
  constructor
  · rintro ⟨xs, ho, hr⟩
    have ho1 : xs.length = l.length * n := ho.1
    have hx : xs = l.flatMap f := by
      apply List.ext_getElem?
      intro i
      rcases Nat.lt_or_ge i (l.length * n) with hi | hi
      · have hk : i / n < l.length := Nat.div_lt_of_lt_mul (by rw [Nat.mul_comm]; exact hi)
        have hj : i % n < n := Nat.mod_lt _ h0
        have he : i / n * n + i % n = i := by rw [Nat.mul_comm]; exact Nat.div_add_mod i n
        obtain ⟨cs, ⟨rfl, _⟩, hc⟩ := hr (i / n) l[i / n] (List.getElem?_eq_getElem hk)
        have hlt : i % n < (f l[i / n]).length := by rw [hn]; exact hj
        have h2 := hc (i % n) _ (List.getElem?_eq_getElem hlt)
        have h3 := flat_get f n hn l (i / n) (i % n) hk hj
        rw [he] at h3
        have h2' : xs[i / n * n + i % n]? = some (f l[i / n])[i % n] := h2
        rw [he] at h2'
        rw [h2', h3, List.getElem?_eq_getElem hlt]
      · rw [List.getElem?_eq_none (by omega), List.getElem?_eq_none (by rw [flatC_len f n hn]; omega)]
    subst hx
    refine ⟨ho, fun x hx => ?_⟩
    obtain ⟨k, hk, rfl⟩ := List.getElem_of_mem hx
    obtain ⟨cs, ⟨rfl, h⟩, _⟩ := hr k l[k] (List.getElem?_eq_getElem hk)
    exact h
  · rintro ⟨ho, hp⟩
    refine ⟨l.flatMap f, ho, fun k x hx => ⟨f x, ⟨rfl, hp x (List.mem_of_getElem? hx)⟩, fun j u hu => ?_⟩⟩
    obtain ⟨hk, he⟩ := List.getElem?_eq_some_iff.1 hx
    have hj : j < n := by
      have := (List.getElem?_eq_some_iff.1 hu).1
      rwa [hn] at this
    show (l.flatMap f)[k * n + j]? = some u
    rw [flat_get f n hn l k j hk hj, he]
    exact hu
theorem cells_all (h : Sl (Enc.cells f P n hn h1) w S a l) : ∀ x ∈ l, P x := by
  intro x hx
  obtain ⟨k, hk, rfl⟩ := List.getElem_of_mem hx
  obtain ⟨b, off, cs, _, _, ⟨_, hp⟩, _⟩ := h.at k hk
  exact hp
theorem cells_cells (h0 : 0 < n) {b off : Nat} {sp : Option Nat} (h : Sl (Enc.cells f P n hn h1) w S (some ⟨b, off, sp⟩) l) : ∀ j u, (l.flatMap f)[j]? = some u → w.cell? ((⟨b, off, sp⟩ : Addr).add j) = some u := by
  intro i u hu
  have hi : i < l.length * n := by
    have := (List.getElem?_eq_some_iff.1 hu).1
    rwa [flatC_len f n hn] at this
  have hk : i / n < l.length := Nat.div_lt_of_lt_mul (by rw [Nat.mul_comm]; exact hi)
  have hj : i % n < n := Nat.mod_lt _ h0
  have he : i / n * n + i % n = i := by rw [Nat.mul_comm]; exact Nat.div_add_mod i n
  obtain ⟨b', off', cs, h2, _, ⟨rfl, _⟩, hc⟩ := h.at (i / n) hk
  injection h2 with h2
  injection h2 with h2 h3 h4
  subst h2 h3 h4
  have h5 := flat_get f n hn l (i / n) (i % n) hk hj
  rw [he, hu] at h5
  have h6 : w.cell? ⟨b, off + i / n * n + i % n, none⟩ = some u := hc (i % n) u h5.symm
  rw [add_lit]
  rw [show off + i = off + i / n * n + i % n by omega]
  exact h6
/-- append of a whole slice onto a row of the call's own. -/
theorem run_pushesC {Q : Program} {t ty : TypeId} {bytes : Nat} (h0 : 0 < n) (hok : ElemOk Q t e n bytes) (hby : bytes ≤ 4096) (h : Own (Enc.cells f P n hn h1) e w B v l) (hB : B ≤ w.heap.size)
    {l2 : List α} (hl : l.length + l2.length ≤ 34359738368) (h2 : Sl (Enc.cells f P n hn h1) w S a l2) (c : Nat) :
    ∃ v' w', (Builtin.append_ #[t, t] ty #[v, .slice a l2.length c]).run Q w = .ok v' w' ∧ Own (Enc.cells f P n hn h1) e w' B v' (l ++ l2) ∧ w.grownBy w' v.ownBlock ∧ (v'.ownBlock = v.ownBlock ∨ v'.ownBlock = some w.heap.size) := by
  obtain ⟨ht, i, z, hi, hz, hs1, hb, h3⟩ := hok
  have hall := cells_all h2
  obtain ⟨ho, hp⟩ := (own_cells h0).1 h
  rcases a with _ | ⟨b, off, sp⟩
  · have hnn : l2 = [] := by
      rcases h2 with h2 | ⟨_, _, h2, _⟩
      · exact h2
      · cases h2
    subst hnn
    refine ⟨v, w, ?_, by simpa using h, ⟨rfl, rfl, rfl, Nat.le_refl _, fun _ _ _ => rfl⟩, .inl rfl⟩
    rcases ho.2 with ⟨rfl, h0'⟩ | ⟨g, cap, cur, rfl, _, _, hnc, _⟩
    · simp [Builtin.append_, run_underlying ht, sizeOf, typeInfo, hi, Builtin.lenOf, Builtin.firstCells]
    · simp [Builtin.append_, run_underlying ht, sizeOf, typeInfo, hi, Builtin.lenOf, Builtin.firstCells, hnc, storeCells]
  · have hm : (l.length + l2.length) * bytes ≤ 34359738368 * 4096 := Nat.mul_le_mul (by omega) hby
    obtain ⟨v', w', hrun, hown, hg, _, hat⟩ := run_append_own_at (P := Q) w B t ty e i z n bytes ht hi hz hs1 hb h3 h0 v l.length (l.flatMap f) ho ⟨b, off, sp⟩ l2.length c (l2.flatMap f) (flatC_len f n hn l2)
      (cells_cells h0 h2) (by intro u hu; obtain ⟨x, _, hx⟩ := List.mem_flatMap.1 hu; exact h1 x u hx) (by unfold maxLen; omega) (by omega) hB
    refine ⟨v', w', hrun, (own_cells h0).2 ⟨by simpa using hown, fun x hx => ?_⟩, hg, hat⟩
    rcases List.mem_append.1 hx with h | h
    · exact hp x h
    · exact hall x h
theorem wp_pushesC {Q : Program} {o : Oper} {ac : Act} {K : Act → World → Prop} {R : Exit → Act → World → Prop} (s x : Operand) (t : TypeId)
    (ho : o.op = .call { callee := .builtin .append, args := #[s, x], argTypes := #[t, t] }) {bytes : Nat} (h0 : 0 < n) (hok : ElemOk Q t e n bytes) (hby : bytes ≤ 4096)
    (hs : ac.eval s = v) (h : Own (Enc.cells f P n hn h1) e w B v l) (hB : B ≤ w.heap.size)
    {l2 : List α} {c : Nat} (hx : ac.eval x = .slice a l2.length c) (hl : l.length + l2.length ≤ 34359738368) (h2 : Sl (Enc.cells f P n hn h1) w S a l2)
    (hk : ∀ v' w', Own (Enc.cells f P n hn h1) e w' B v' (l ++ l2) → w.grownBy w' v.ownBlock → (v'.ownBlock = v.ownBlock ∨ v'.ownBlock = some w.heap.size) → K (ac.put o.dst v') w') : o.wp Q ac w K R := by
  obtain ⟨v', w', hrun, h3, h4, h5⟩ := run_pushesC (Q := Q) (ty := o.type) h0 hok hby h hB hl h2 c
  unfold Oper.wp execOp
  simp only [ho, resolve, invoke, builtin, Sem.run_bind, Sem.run_pure, Result.andThen_ok, List.map_toArray, List.map_cons, List.map_nil, hs, hx, hrun]
  exact hk v' w' h3 h4 h5
theorem wpList_pushesC {Q : Program} {ops : Array Oper} {rest : List Oper} {o : Oper} {ac : Act} {R : Exit → Act → World → Prop} (hgd : o.guard = none) (s x : Operand) (t : TypeId)
    (ho : o.op = .call { callee := .builtin .append, args := #[s, x], argTypes := #[t, t] }) {bytes : Nat} (h0 : 0 < n) (hok : ElemOk Q t e n bytes) (hby : bytes ≤ 4096)
    (hs : ac.eval s = v) (h : Own (Enc.cells f P n hn h1) e w B v l) (hB : B ≤ w.heap.size)
    {l2 : List α} {c : Nat} (hx : ac.eval x = .slice a l2.length c) (hl : l.length + l2.length ≤ 34359738368) (h2 : Sl (Enc.cells f P n hn h1) w S a l2)
    (hk : ∀ v' w', Own (Enc.cells f P n hn h1) e w' B v' (l ++ l2) → w.grownBy w' v.ownBlock → (v'.ownBlock = v.ownBlock ∨ v'.ownBlock = some w.heap.size) → wpList Q ops R rest (ac.put o.dst v') w') : wpList Q ops R (o :: rest) ac w :=
  wpList_plain hgd fun _ hK => wp_pushesC s x t ho h0 hok hby hs h hB hx hl h2 fun v' w' h3 h4 h5 => hK _ _ (hk v' w' h3 h4 h5)
end

def EU64 : Enc Nat := Enc.flat (fun n => .int .u64 (n : Int)) (fun n => n ≤ 18446744073709551615) (fun _ => rfl)
def EByt : Enc (List UInt8) := Enc.flat (fun l => .string ⟨l.toArray⟩) (fun l => l.length ≤ 1048576) (fun _ => rfl)
def EBool : Enc Bool := Enc.flat (fun b => .bool b) (fun _ => True) (fun _ => rfl)
def pfxCs (p : Pfx) : List Value := [.int .i64 p.fam, .int .u64 (p.rd : Int), .string ⟨p.addr.toArray⟩, .int .i64 p.len]
def itmCs (x : Itm) : List Value := [.int .i64 x.p.fam, .int .u64 (x.p.rd : Int), .string ⟨x.p.addr.toArray⟩, .int .i64 x.p.len, .int .i64 x.low, .int .i64 x.high]
def atmCs (a : Atm) : List Value := [.int .i64 a.1, .int .u32 (a.2.toNat : Int)]
def i64 (x : Int) : Prop := -9223372036854775808 ≤ x ∧ x ≤ 9223372036854775807
structure PfxIn (p : Pfx) : Prop where
  fam : i64 p.fam
  rd : p.rd ≤ 18446744073709551615
  addr : p.addr.length ≤ 1048576
  len : i64 p.len
structure ItmIn (x : Itm) : Prop where
  p : PfxIn x.p
  low : i64 x.low
  high : i64 x.high
def EPfx : Enc Pfx := Enc.cells pfxCs PfxIn 4 (fun _ => rfl) (fun x u hu => by simp only [pfxCs, List.mem_cons, List.not_mem_nil, or_false] at hu; rcases hu with rfl | rfl | rfl | rfl <;> rfl)
def EItm : Enc Itm := Enc.cells itmCs ItmIn 6 (fun _ => rfl) (fun x u hu => by simp only [itmCs, List.mem_cons, List.not_mem_nil, or_false] at hu; rcases hu with rfl | rfl | rfl | rfl | rfl | rfl <;> rfl)
def EAtm : Enc Atm := Enc.cells atmCs (fun a => i64 a.1) 2 (fun _ => rfl) (fun x u hu => by simp only [atmCs, List.mem_cons, List.not_mem_nil, or_false] at hu; rcases hu with rfl | rfl <;> rfl)
def ESet : Enc StS := (EByt.pair (EI64.pair (EItm.slice.pair (EU32.slice.pair EAtm.slice.slice)))).map fun s => (s.name, s.kind, s.items, s.comms, s.paths)
theorem EPfx.of {w : World} {S : Nat → Prop} {p : Pfx} {cs : List Value} (h : ((EI64.pair (EU64.pair (EByt.pair EI64))).map fun p : Pfx => (p.fam, p.rd, p.addr, p.len)).R w S p cs) : EPfx.R w S p cs := by
  obtain ⟨c, d, rfl, ⟨rfl, h1⟩, c, d, rfl, ⟨rfl, h2⟩, c, d, rfl, ⟨rfl, h3⟩, ⟨rfl, h4⟩⟩ := h
  exact ⟨rfl, h1, h2, h3, h4⟩
theorem EItm.of {w : World} {S : Nat → Prop} {x : Itm} {cs : List Value} (h : ((EPfx.pair (EI64.pair EI64)).map fun x : Itm => (x.p, x.low, x.high)).R w S x cs) : EItm.R w S x cs := by
  obtain ⟨c, d, rfl, ⟨rfl, h1⟩, c, d, rfl, ⟨rfl, h2⟩, ⟨rfl, h3⟩⟩ := h
  exact ⟨rfl, h1, h2, h3⟩
theorem EAtm.of {w : World} {S : Nat → Prop} {x : Atm} {cs : List Value} (h : (EI64.pair EU32).R w S x cs) : EAtm.R w S x cs := by
  obtain ⟨c, d, rfl, ⟨rfl, h1⟩, ⟨rfl, h2⟩⟩ := h
  exact ⟨rfl, h1⟩
theorem EItm.at {w : World} {S : Nat → Prop} {a : Option Addr} {l : List Itm} (h : Sl EItm w S a l) (k : Nat) (hk : k < l.length) :
    ∃ b off, a = some ⟨b, off, none⟩ ∧ S b ∧ ItmIn l[k] ∧ ∀ j u, (itmCs l[k])[j]? = some u → w.cell? ⟨b, off + k * 6 + j, none⟩ = some u := by
  obtain ⟨b, off, cs, rfl, hb, ⟨rfl, hi⟩, hc⟩ := h.at k hk
  exact ⟨b, off, rfl, hb, hi, hc⟩
theorem EAtm.at {w : World} {S : Nat → Prop} {a : Option Addr} {l : List Atm} (h : Sl EAtm w S a l) (k : Nat) (hk : k < l.length) :
    ∃ b off, a = some ⟨b, off, none⟩ ∧ S b ∧ i64 l[k].1 ∧ w.cell? ⟨b, off + k * 2, none⟩ = some (.int .i64 l[k].1) ∧ w.cell? ⟨b, off + k * 2 + 1, none⟩ = some (.int .u32 (l[k].2.toNat : Int)) := by
  obtain ⟨b, off, cs, rfl, hb, ⟨rfl, h1⟩, hc⟩ := h.at k hk
  exact ⟨b, off, rfl, hb, h1, hc 0 _ rfl, hc 1 _ rfl⟩
theorem EPat.at {w : World} {S : Nat → Prop} {a : Option Addr} {l : List (List Atm)} (h : Sl EAtm.slice w S a l) (k : Nat) (hk : k < l.length) :
    ∃ b off ak ck, a = some ⟨b, off, none⟩ ∧ S b ∧ w.cell? ⟨b, off + k, none⟩ = some (.slice ak l[k].length ck) ∧ l[k].length ≤ 16777216 ∧ Sl EAtm w S ak l[k] := by
  obtain ⟨b, off, cs, rfl, hb, ⟨ak, ck, rfl, hm, hs⟩, hc⟩ := h.at k hk
  have h0 := hc 0 _ rfl
  simp only [Enc.slice, Nat.mul_one, Nat.add_zero] at h0
  exact ⟨b, off, ak, ck, rfl, hb, h0, hm, hs⟩
/-- The cells of a set. -/
def setCs (s : StS) (a1 : Option Addr) (c1 : Nat) (a2 : Option Addr) (c2 : Nat) (a3 : Option Addr) (c3 : Nat) : List Value :=
  [.string ⟨s.name.toArray⟩, .int .i64 s.kind, .slice a1 s.items.length c1, .slice a2 s.comms.length c2, .slice a3 s.paths.length c3]
structure SetIn (w : World) (S : Nat → Prop) (s : StS) (a1 a2 a3 : Option Addr) : Prop where
  name : s.name.length ≤ 1048576
  kind : i64 s.kind
  nItems : s.items.length ≤ 16777216
  items : Sl EItm w S a1 s.items
  nComms : s.comms.length ≤ 16777216
  comms : Sl EU32 w S a2 s.comms
  nPaths : s.paths.length ≤ 16777216
  paths : Sl EAtm.slice w S a3 s.paths
theorem ESet.iff {w : World} {S : Nat → Prop} {s : StS} {cs : List Value} : ESet.R w S s cs ↔ ∃ a1 c1 a2 c2 a3 c3, cs = setCs s a1 c1 a2 c2 a3 c3 ∧ SetIn w S s a1 a2 a3 := by
  constructor
  · rintro ⟨c, d, rfl, ⟨rfl, h1⟩, c, d, rfl, ⟨rfl, h2⟩, c, d, rfl, ⟨a1, c1, rfl, n1, s1⟩, c, d, rfl, ⟨a2, c2, rfl, n2, s2⟩, a3, c3, rfl, n3, s3⟩
    exact ⟨a1, c1, a2, c2, a3, c3, rfl, h1, h2, n1, s1, n2, s2, n3, s3⟩
  · rintro ⟨a1, c1, a2, c2, a3, c3, rfl, h1, h2, n1, s1, n2, s2, n3, s3⟩
    exact ⟨[_], _, rfl, ⟨rfl, h1⟩, [_], _, rfl, ⟨rfl, h2⟩, [_], _, rfl, ⟨a1, c1, rfl, n1, s1⟩, [_], _, rfl, ⟨a2, c2, rfl, n2, s2⟩, a3, c3, rfl, n3, s3⟩
theorem SetIn.frame {w w' : World} {S : Nat → Prop} {s : StS} {a1 a2 a3 : Option Addr} (h : SetIn w S s a1 a2 a3) (hw : ∀ b, S b → w'.heap[b]? = w.heap[b]?) : SetIn w' S s a1 a2 a3 :=
  ⟨h.name, h.kind, h.nItems, h.items.frame hw, h.nComms, h.comms.frame hw, h.nPaths, h.paths.frame hw⟩
theorem SetIn.mono {w : World} {S S' : Nat → Prop} {s : StS} {a1 a2 a3 : Option Addr} (h : SetIn w S s a1 a2 a3) (hS : ∀ b, S b → S' b) : SetIn w S' s a1 a2 a3 :=
  ⟨h.name, h.kind, h.nItems, h.items.mono hS, h.nComms, h.comms.mono hS, h.nPaths, h.paths.mono hS⟩
theorem SetIn.ext {w w' : World} {s : StS} {a1 a2 a3 : Option Addr} (h : SetIn w (· < w.heap.size) s a1 a2 a3) (hb : Ext w w') : SetIn w' (· < w'.heap.size) s a1 a2 a3 :=
  (h.frame hb.block).mono fun _ hh => Nat.lt_of_lt_of_le hh hb.size
open Go.RowKit Go.ChangeShapes Go.WideShapes Go.Deep

section
variable {P : Program} {T : TypeId}
theorem opens_u64 (h : P.underlying T = some (.int .u64)) (hc : P.cellsOf T = 1) : Opens P T EU64 := by
  refine ⟨hc, fun enc W fuel cs x hx _ => ?_⟩
  obtain ⟨n, rfl, _, hw⟩ := DataW.trod_int h hx
  have : 0 ≤ n ∧ n ≤ 18446744073709551615 := by simpa [Lit.wf, IntKind.min, IntKind.max, IntKind.signed, IntKind.bits] using hw
  refine ⟨n.toNat, ?_, by omega⟩
  show [Value.int .u64 n] = [Value.int .u64 _]
  rw [show ((n.toNat : Nat) : Int) = n by omega]
theorem opens_bytes (h : P.underlying T = some .string) (hc : P.cellsOf T = 1) : Opens P T EByt := by
  refine ⟨hc, fun enc W fuel cs x hx hb => ?_⟩
  obtain ⟨s, rfl, hd, hs⟩ := DataW.trod_string h hx
  refine ⟨s.data.toList, by simp, ?_⟩
  rw [hd] at hb
  simp only [Rows.uptoBulk] at hb
  show s.data.toList.length ≤ 1048576
  omega
theorem opens_of {α β : Type} {E : Enc α} {F : Enc β} (h : Opens P T E) (hsz : E.sz = F.sz) (g : α → β) (hg : ∀ {w : World} {S : Nat → Prop} {x : α} {cs : List Value}, E.R w S x cs → F.R w S (g x) cs) : Opens P T F := by
  refine ⟨h.1.trans hsz, fun enc W fuel cs x hx hb => ?_⟩
  obtain ⟨y, hy⟩ := h.2 enc W fuel cs x hx hb
  exact ⟨g y, hg hy⟩
end
theorem opens_EU8 : Opens Tryz.prog 5 EU8 := opens_u8 Tryz.underlying5 (by kernel_rfl)
theorem opens_int64 : Opens Tryz.prog 68 EU64 := opens_u64 Tryz.underlying68 (by kernel_rfl)
theorem opens_text : Opens Tryz.prog 9 EByt := opens_bytes Tryz.underlying9 (by kernel_rfl)
set_option maxRecDepth 100000 in
theorem opens_EPfx : Opens Tryz.prog 70 EPfx :=
  opens_of (opens_map (opens_struct Tryz.underlying70 (by kernel_rfl) (opensF_cons rfl rfl opens_int (opensF_cons rfl rfl opens_int64 (opensF_cons rfl rfl opens_text (opensF_last rfl rfl opens_int rfl))))) (fun p : Pfx => (p.fam, p.rd, p.addr, p.len)) (fun p => ⟨p.1, p.2.1, p.2.2.1, p.2.2.2⟩) (fun _ => rfl)) rfl id (fun h => EPfx.of h)
set_option maxRecDepth 100000 in
theorem opens_EItm : Opens Tryz.prog 72 EItm :=
  opens_of (opens_map (opens_struct Tryz.underlying72 (by kernel_rfl) (opensF_cons rfl rfl opens_EPfx (opensF_cons rfl rfl opens_int (opensF_last rfl rfl opens_int rfl)))) (fun x : Itm => (x.p, x.low, x.high)) (fun p => ⟨p.1, p.2.1, p.2.2⟩) (fun _ => rfl)) rfl id (fun h => EItm.of h)
set_option maxRecDepth 100000 in
theorem opens_EAtm : Opens Tryz.prog 75 EAtm :=
  opens_of (opens_struct Tryz.underlying75 (by kernel_rfl) (opensF_cons rfl rfl opens_int (opensF_last rfl rfl opens_u32_ rfl))) rfl id (fun h => EAtm.of h)
theorem opens_items : Opens Tryz.prog 63 EItm.slice := opens_slice Tryz.underlying63 (by kernel_rfl) opens_EItm (by decide)
theorem opens_atoms : Opens Tryz.prog 73 EAtm.slice := opens_slice Tryz.underlying73 (by kernel_rfl) opens_EAtm (by decide)
theorem opens_paths : Opens Tryz.prog 65 EAtm.slice.slice := opens_slice Tryz.underlying65 (by kernel_rfl) opens_atoms (by decide)
set_option maxRecDepth 100000 in
theorem opens_ESet : Opens Tryz.prog 67 ESet :=
  opens_map (opens_struct Tryz.underlying67 (by kernel_rfl) (opensF_cons rfl rfl opens_text (opensF_cons rfl rfl opens_int (opensF_cons rfl rfl opens_items (opensF_cons rfl rfl opens_u32s (opensF_last rfl rfl opens_paths rfl))))) ) (fun s : StS => (s.name, s.kind, s.items, s.comms, s.paths)) (fun p => ⟨p.1, p.2.1, p.2.2.1, p.2.2.2.1, p.2.2.2.2⟩) (fun _ => rfl)
end Go.Proofs.YtljibkfbldjgdaaGreatDoor
