/- Walks: has a set a prefix (sets.Prefix). Walks: a pattern read of any text (sets.Parse). -/
import Derived.Test.YtljibkfbldjgdaaGreatDoorV17
import Derived.Test.YtljibkfbldjgdaaGreatDoorVA
import Derived.Test.YtljibkfbldjgdaaGreatDoorS5
namespace Go.Proofs.YtljibkfbldjgdaaGreatDoor
open Go.RowKit Go.Sort
set_option linter.unusedVariables false

open Go.RowKit Go.Sort

theorem PU32_any (s : List UInt8) (w : World) (hV : Vars w) (hs : s.length ≤ 1048576) :
    Calls Tryz.prog 137 #[.string ⟨s.toArray⟩, .int .i64 10, .int .i64 32] w (PuP 10 4294967295 s w) := by
  obtain ⟨t1, p1, h1⟩ := hV.es
  obtain ⟨t2, p2, h2⟩ := hV.er
  have hz : (ByteArray.mk s.toArray).size = s.length := ba_size s
  have hrd := fun n => rd_dec (B := 32) (s := s) (n := n) (by decide)
  rcases hp : Lib.parseUintB 32 s with u | _ | _
  · rw [hp] at hrd
    refine (Any.strconv_ParseUint_10_at32_ok Tryz.laysPu14 ⟨s.toArray⟩ (by omega) u hp w).mono ?_
    rintro e w' ⟨rfl, hw⟩
    refine ⟨?_, .inl ⟨u, Lib.parseUintB_le hp, rfl, fun n hn => by have := hrd n hn; injection this with this; exact this.symm⟩⟩
    rcases hw with rfl | rfl
    · exact Ext.refl _
    · exact ext_bytes _ _ _
  · rw [hp] at hrd
    refine (Any.strconv_ParseUint_10_at32_syntax Tryz.laysPu14 ⟨s.toArray⟩ (by omega) hp _ w h1 (.inr ⟨_, _, rfl⟩)).mono ?_
    rintro e w' ⟨N, rfl, _, _, hb⟩
    refine ⟨hb, .inr ⟨?_, _, _, _, rfl⟩⟩
    cases hr : rdN 10 4294967295 s with
    | none => rfl
    | some n => cases hrd n hr
  · rw [hp] at hrd
    refine (Any.strconv_ParseUint_10_at32_range Tryz.laysPu14 ⟨s.toArray⟩ (by omega) hp _ w h2 (.inr ⟨_, _, rfl⟩)).mono ?_
    rintro e w' ⟨N, rfl, _, _, hb⟩
    refine ⟨hb, .inr ⟨?_, _, _, _, rfl⟩⟩
    cases hr : rdN 10 4294967295 s with
    | none => rfl
    | some n => cases hrd n hr
theorem splC_len (c : UInt8) (f : Nat) (s : List UInt8) (h : s.length ≤ f) : (spl c s).length ≤ s.length + 1 := by
  refine spl_ind (P := fun s => (spl c s).length ≤ s.length + 1) c (fun s hs => ?_) (fun a b ha ih => ?_) f s h
  · rw [spl_no hs]; simp
  · rw [spl_at ha]
    simp only [List.length_cons, List.length_append] at ih ⊢
    omega
theorem okAtm : ElemOk Tryz.prog 73 75 EAtm.sz 16 := elemOk (z := .agg #[.int .i64 0, .int .u32 0]) Tryz.underlying73 (by kernel_rfl) rfl
theorem parseA_bad {s : List UInt8} {k : Nat} (hd : s ≠ [45]) (hk : k < (spl 32 s).length) (h : wordA (spl 32 s)[k] = none) : parseA s = ([], 4) := by
  unfold parseA
  rw [if_neg hd, wordsA_bad (List.getElem_mem hk) h]
theorem word_num {wd : List UInt8} {u : Nat} (h46 : ¬ wd = [46]) (h42 : ¬ wd = [42]) (hu : u ≤ 4294967295) (h0 : 0 < u) (hd : digS 10 u = wd) : wordA wd = some (1, UInt32.ofNat u) := by
  unfold wordA
  rw [if_neg h46, if_neg h42, (rdN_iff (by decide) (by decide)).2 ⟨hu, hd⟩]
  show (if u = 0 then none else _) = _
  rw [if_neg (by omega)]
theorem word_no {wd : List UInt8} (h46 : ¬ wd = [46]) (h42 : ¬ wd = [42]) (h : ∀ n, rdN 10 4294967295 wd = some n → n = 0) : wordA wd = none := by
  unfold wordA
  rw [if_neg h46, if_neg h42]
  cases hr : rdN 10 4294967295 wd with
  | none => rfl
  | some n => exact if_pos (h n hr)
/-- What reading a pattern answers. -/
def PaP (s : List UInt8) (w : World) (e : Ending) (w' : World) : Prop :=
  (∃ v, e = .returned (.tuple #[v, .int .i64 (parseA s).2]) ∧ Own EAtm 75 w' w.heap.size v (parseA s).1) ∧ Ext w w'
theorem PaP.bad {s : List UInt8} {w w' : World} (h : parseA s = ([], 4)) (he : Ext w w') : PaP s w (.returned (.tuple #[.slice none 0 0, .int .i64 4])) w' := by
  refine ⟨⟨.slice none 0 0, ?_, ?_⟩, he⟩
  · rw [h]
  · rw [h]; exact Own.nil
end Go.Proofs.YtljibkfbldjgdaaGreatDoor
