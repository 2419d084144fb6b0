/- A path that may be, of any segments; what an AS put ahead changes. -/
import Derived.Test.YtiappobhljiknaaDoorA11
import Derived.Test.YtiappobhljiknaaDoorA5
namespace Go.Proofs.YtiappobhljiknaaDoor
open Go.RowKit
set_option linter.unusedVariables false

def max1 (x : UInt32) : UInt32 := if x = 0 then 1 else x
theorem max1_ne (x : UInt32) : max1 x ≠ 0 := by unfold max1; split <;> simp_all
theorem max1_int (x : UInt32) : max (x.toNat : Int) 1 = ((max1 x).toNat : Int) := by
  unfold max1
  split
  · subst_vars; rfl
  · rename_i h
    have : x.toNat ≠ 0 := fun h0 => h (UInt32.toNat_inj.1 (by simpa using h0))
    omega
def rkind (k : Int) : Int := 1 + (k.tmod 4 + 4).tmod 4
theorem rkind_bd (k : Int) : 1 ≤ rkind k ∧ rkind k ≤ 4 := by
  have h1 := Int.lt_tmod_of_pos k (show (0 : Int) < 4 by omega)
  have h2 := Int.tmod_lt_of_pos k (show (0 : Int) < 4 by omega)
  have h3 := Int.tmod_nonneg 4 (show 0 ≤ k.tmod 4 + 4 by omega)
  have h4 := Int.tmod_lt_of_pos (k.tmod 4 + 4) (show (0 : Int) < 4 by omega)
  unfold rkind
  omega
def rseg (s : Seg) : Seg := ⟨rkind s.kind, (s.as.take 3).map max1⟩
def neS (s : Seg) : Bool := decide (0 < s.as.length)
def rightN (l : List Seg) (k : Nat) : List Seg := ((l.take k).map rseg).filter neS
def rightS (l : List Seg) : List Seg := rightN l 6
theorem rightN_succ (l : List Seg) (k : Nat) (hk : k < l.length) : rightN l (k + 1) = rightN l k ++ (if neS (rseg l[k]) then [rseg l[k]] else []) := by
  unfold rightN
  rw [List.take_succ_eq_append_getElem hk, List.map_append, List.filter_append]
  congr 1
  simp [List.filter_cons]
theorem rightN_all (l : List Seg) (k : Nat) (hk : l.length ≤ k) (h6 : l.length ≤ 6) : rightN l k = rightS l := by
  unfold rightS rightN
  rw [List.take_of_length_le hk, List.take_of_length_le h6]
theorem rightS_len (l : List Seg) : (rightS l).length ≤ 6 := by
  unfold rightS rightN
  refine Nat.le_trans (List.length_filter_le _ _) ?_
  simp
  omega
theorem rightS_mem {l : List Seg} {s : Seg} (h : s ∈ rightS l) : 1 ≤ s.kind ∧ s.kind ≤ 4 ∧ 1 ≤ s.as.length ∧ s.as.length ≤ 3 ∧ (0 : UInt32) ∉ s.as := by
  unfold rightS rightN at h
  obtain ⟨h1, h2⟩ := List.mem_filter.1 h
  obtain ⟨t, _, rfl⟩ := List.mem_map.1 h1
  have hb := rkind_bd t.kind
  refine ⟨hb.1, hb.2, ?_, ?_, ?_⟩
  · have : 0 < (rseg t).as.length := of_decide_eq_true h2
    exact this
  · simp [rseg]; omega
  · intro h0
    obtain ⟨y, _, hy⟩ := List.mem_map.1 h0
    exact max1_ne y hy
theorem rightS_chk (l : List Seg) : chk (rightS l) = true := by
  have hl := rightS_len l
  unfold chk
  simp only [Bool.and_eq_true, decide_eq_true_eq, List.all_eq_true]
  refine ⟨by omega, fun s hs => ?_⟩
  obtain ⟨h1, h2, h3, h4, h5⟩ := rightS_mem hs
  unfold segOk
  simp only [Bool.and_eq_true, decide_eq_true_eq]
  exact ⟨⟨⟨⟨h1, h2⟩, h3⟩, by omega⟩, by simpa [List.contains_iff_mem] using h5⟩

theorem bareS_lens (l : List Seg) : lenS (bareS l) = lenS l := by
  induction l with
  | nil => rfl
  | cons s t ih =>
    have e1 : lenS (s :: t) = segLen s + lenS t := by simp [lenS]
    rw [e1, ← ih]
    by_cases h : confB s.kind = true
    · have e2 : bareS (s :: t) = bareS t := by simp [bareS, h]
      have e3 : segLen s = 0 := by
        unfold confB at h
        unfold segLen
        simp at h
        rcases h with h | h <;> simp [h]
      rw [e2, e3, Int.zero_add]
    · have e2 : bareS (s :: t) = s :: bareS t := by simp [bareS, h]
      rw [e2]
      simp [lenS]

/-- An AS put ahead of a small path that may be. -/
theorem prep_form {m : List Seg} {x : UInt32} {conf : Bool} (hc : chk m = true) (hx : x ≠ 0) (h6 : m.length ≤ 6) (h3 : ∀ s ∈ m, s.as.length ≤ 3) :
    (∃ s t, m = s :: t ∧ s.kind = prepK conf ∧ prepS m x conf = (⟨prepK conf, x :: s.as⟩ :: t, 0)) ∨ prepS m x conf = (⟨prepK conf, [x]⟩ :: m, 0) := by
  unfold prepS
  rw [if_pos ⟨hc, hx⟩]
  cases m with
  | nil => exact .inr rfl
  | cons s t =>
    have hs := h3 s (by simp)
    by_cases hk : s.kind = prepK conf
    · refine .inl ⟨s, t, rfl, hk, ?_⟩
      have hc' : s.kind = prepK conf ∧ s.as.length < 255 := ⟨hk, by omega⟩
      simp only [if_pos hc']
      rw [hk]
    · refine .inr ?_
      have : ¬ (16 ≤ t.length + 1) := by simp at h6; omega
      simp only [if_neg (show ¬ (s.kind = prepK conf ∧ s.as.length < 255) from fun h => hk h.1), if_neg this]
theorem prep_seq {m : List Seg} {x : UInt32} (hc : chk m = true) (hx : x ≠ 0) (h6 : m.length ≤ 6) (h3 : ∀ s ∈ m, s.as.length ≤ 3) :
    ∃ p, prepS m x false = (p, 0) ∧ p.length ≤ 7 ∧ lenS p = lenS m + 1 ∧ firstV p = (x, true) ∧ flatS p = x :: flatS m ∧ hasS p x = true := by
  rcases prep_form (conf := false) hc hx h6 h3 with ⟨s, t, rfl, hk, he⟩ | he
  · refine ⟨_, he, by simpa using Nat.le_succ_of_le h6, ?_, ?_, ?_, ?_⟩
    · simp only [lenS, List.map_cons, List.sum_cons, segLen, hk, prepK]
      simp
      omega
    · simp [firstV, bareS, prepK, confB]
    · simp [flatS]
    · simp [hasS]
  · refine ⟨_, he, by simp; omega, ?_, ?_, ?_, ?_⟩
    · simp only [lenS, List.map_cons, List.sum_cons, segLen, prepK]
      simp
      omega
    · simp [firstV, bareS, prepK, confB]
    · simp [flatS]
    · simp [hasS]
theorem prep_conf {m : List Seg} {x : UInt32} (hc : chk m = true) (hx : x ≠ 0) (h6 : m.length ≤ 6) (h3 : ∀ s ∈ m, s.as.length ≤ 3) :
    ∃ p, prepS m x true = (p, 0) ∧ p.length ≤ 7 ∧ lenS p = lenS m ∧ bareS p = bareS m ∧ hasS p x = true := by
  rcases prep_form (conf := true) hc hx h6 h3 with ⟨s, t, rfl, hk, he⟩ | he
  · refine ⟨_, he, by simpa using Nat.le_succ_of_le h6, ?_, ?_, ?_⟩
    · simp only [lenS, List.map_cons, List.sum_cons, segLen, hk, prepK]
      simp
    · simp [bareS, prepK, confB, hk]
    · simp [hasS]
  · refine ⟨_, he, by simp; omega, ?_, ?_, ?_⟩
    · simp only [lenS, List.map_cons, List.sum_cons, segLen, prepK]
      simp
    · simp [bareS, prepK, confB]
    · simp [hasS]
end Go.Proofs.YtiappobhljiknaaDoor
