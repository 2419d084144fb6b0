/- Walks: a prefix read of any text, by the program (printed by genp29.py). -/
import Derived.Test.YtljibkfbldjgdaaGreatDoorS1
import Derived.Test.YtljibkfbldjgdaaGreatDoorP21
namespace Go.Proofs.YtljibkfbldjgdaaGreatDoor
open Go.RowKit Go.Sort
set_option linter.unusedVariables false

theorem Split_eq (s : List UInt8) (c : UInt8) (w : World) (hV : Vars w) (hs : s.length ≤ 1048576) :
    Calls Tryz.prog 45 #[.string ⟨s.toArray⟩, .string ⟨#[c]⟩] w fun e w' => e = .returned (.slice (some ⟨w.heap.size, 0, none⟩) (spl c s).length (spl c s).length) ∧ Ext w w' ∧ ∀ k, (h : k < (spl c s).length) → w'.cell? ⟨w.heap.size, k, none⟩ = some (.string ⟨(spl c s)[k].toArray⟩) := by
  obtain ⟨m, hm⟩ := hV.max
  have hm2 : (Lib.splitB ⟨#[c]⟩ 0 (Lib.countB ⟨s.toArray⟩ ⟨#[c]⟩) ⟨s.toArray⟩).map (·.data.toList) = spl c s := Lib.splitB_data _ _ _ _
  have hlen : Lib.countB ⟨s.toArray⟩ ⟨#[c]⟩ + 1 = (spl c s).length := by
    rw [← hm2, List.length_map]
    exact (Lib.splitB_all ⟨#[c]⟩ (Nat.le_refl 1) _ _ _ rfl).symm
  refine (Tryz.strings_Split ⟨s.toArray⟩ ⟨#[c]⟩ m w (by simp [ByteArray.size]; omega) hm (Nat.le_refl 1)).mono ?_
  rintro e w' ⟨rfl, rfl⟩
  refine ⟨by rw [hlen], (Ext.refl _).alloc _, fun k h => ?_⟩
  rw [(Blk.new w 9 _).cell k]
  have hk : k < (Lib.splitB ⟨#[c]⟩ 0 (Lib.countB ⟨s.toArray⟩ ⟨#[c]⟩) ⟨s.toArray⟩).length := by
    have := congrArg List.length hm2
    rw [List.length_map] at this
    omega
  have he := congrArg (fun l => l[k]?) hm2
  simp only [List.getElem?_map, List.getElem?_eq_getElem hk, List.getElem?_eq_getElem h, Option.map_some, Option.some.injEq] at he
  rw [List.getElem?_toArray, List.getElem?_map, List.getElem?_eq_getElem hk, ← he]
  rw [ba_list]
  rfl
theorem cut_len (h : List UInt8) (c : UInt8) : (Lib.cut h [c]).1.length ≤ h.length ∧ (Lib.cut h [c]).2.1.length ≤ h.length := by
  by_cases hm : c ∈ h
  · obtain ⟨a, b, rfl, ha⟩ := first_at hm
    rw [cut_hit ha]
    simp
    omega
  · rw [cut_miss hm]
    simp
theorem row_tail (g o n : Nat) (W : World) : (Instr.sliceAt 79 (.slice (some ⟨g, o, none⟩) (n + 1) (n + 1)) (some (.int .i64 1)) none none).run Tryz.prog W = .ok (.slice (some ⟨g, if n = 0 then o else o + 1, none⟩) n n) W := by
  by_cases h : n = 0
  · subst h
    go_simp
  · rw [if_neg h]
    go_simp
    first | omega | (intro h2; omega) | skip
/-- What reading a prefix answers. -/
def PsP (s : List UInt8) (w : World) (e : Ending) (w' : World) : Prop := e = .returned (.tuple #[valP (parseC s).1, .int .i64 (parseC s).2]) ∧ Ext w w'
theorem PsP.of {s : List UInt8} {p : Pfx} {c : Int} {w : World} (h : parseC s = (p, c)) (W : World) (hE : Ext w W) : PsP s w (.returned (.tuple #[valP p, .int .i64 c])) W := ⟨by rw [h], hE⟩
theorem tail_cases (f : Int) (rd : Nat) (h : List UInt8) : ((Lib.cut h [47]).2.2 = false ∧ tailC f rd h = errC) ∨ ((Lib.cut h [47]).2.2 = true ∧ rdN 10 255 (Lib.cut h [47]).2.1 = none ∧ tailC f rd h = errC) ∨
    ((Lib.cut h [47]).2.2 = true ∧ ∃ n, rdN 10 255 (Lib.cut h [47]).2.1 = some n ∧ n ≤ 255 ∧ ((addrC (Lib.cut h [47]).1 = ([], 4) ∧ tailC f rd h = errC) ∨
      ((addrC (Lib.cut h [47]).1).2 = 0 ∧ ¬ MayP ⟨f, rd, (addrC (Lib.cut h [47]).1).1, n⟩ ∧ tailC f rd h = errC) ∨ ((addrC (Lib.cut h [47]).1).2 = 0 ∧ MayP ⟨f, rd, (addrC (Lib.cut h [47]).1).1, n⟩ ∧ tailC f rd h = (⟨f, rd, (addrC (Lib.cut h [47]).1).1, n⟩, 0)))) := by
  unfold tailC
  generalize Lib.cut h [47] = c
  obtain ⟨a, l, is⟩ := c
  cases is with
  | false => exact .inl ⟨rfl, rfl⟩
  | true =>
    simp only [if_true]
    cases h1 : rdN 10 255 l with
    | none =>
      refine .inr (.inl ⟨trivial, rfl, ?_⟩)
      have h2 : rdN 10 128 l = none := (rdN_none (by decide) (by decide)).2 fun u hu => (rdN_none (b := 10) (most := 255) (by decide) (by decide)).1 h1 u (by omega)
      rw [h2]
    | some n =>
      obtain ⟨hn, hd⟩ := (rdN_iff (by decide) (by decide)).1 h1
      refine .inr (.inr ⟨trivial, n, rfl, hn, ?_⟩)
      by_cases h128 : n ≤ 128
      · have h2 : rdN 10 128 l = some n := (rdN_iff (by decide) (by decide)).2 ⟨h128, hd⟩
        rw [h2]
        rcases addrC_err a with ha | ha
        · by_cases hm : MayP ⟨f, rd, (addrC a).1, n⟩
          · exact .inr (.inr ⟨ha, hm, if_pos ⟨ha, hm⟩⟩)
          · exact .inr (.inl ⟨ha, hm, if_neg fun h => hm h.2⟩)
        · exact .inl ⟨ha, if_neg fun h => by rw [ha] at h; exact absurd h.1 (by decide)⟩
      · have h2 : rdN 10 128 l = none := (rdN_none (by decide) (by decide)).2 fun u hu he => by
          have := digS_inj (b := 10) (by decide) (by decide) (he.trans hd.symm)
          omega
        rw [h2]
        rcases addrC_err a with ha | ha
        · exact .inr (.inl ⟨ha, fun hm => by have h3 := hm.1.small.2.2; replace h3 : (n : Int) ≤ 128 := h3; omega, rfl⟩)
        · exact .inl ⟨ha, rfl⟩
theorem parse_cases (f : Int) (tl : List (List UInt8)) :
    (apartS f = true ∧ ∃ r h rest, tl = r :: h :: rest ∧ rdN 10 18446744073709551615 r = none ∧ parseW f tl = errC) ∨
    (apartS f = true ∧ ∃ r h x rest rd, tl = r :: h :: x :: rest ∧ rdN 10 18446744073709551615 r = some rd ∧ parseW f tl = errC) ∨
    (apartS f = true ∧ ∃ r h rd, tl = [r, h] ∧ rdN 10 18446744073709551615 r = some rd ∧ parseW f tl = tailC f rd h) ∨
    (apartS f = true ∧ tl.length ≤ 1 ∧ parseW f tl = errC) ∨ (apartS f = false ∧ f = 0 ∧ parseW f tl = errC) ∨ (apartS f = false ∧ f ≠ 0 ∧ tl.length ≠ 1 ∧ parseW f tl = errC) ∨
    (apartS f = false ∧ f ≠ 0 ∧ ∃ h, tl = [h] ∧ parseW f tl = tailC f 0 h) := by
  unfold parseW
  cases ha : apartS f with
  | true =>
    simp only [if_true]
    match tl with
    | [] => exact .inr (.inr (.inr (.inl ⟨trivial, by simp, rfl⟩)))
    | [_] => exact .inr (.inr (.inr (.inl ⟨trivial, by simp, rfl⟩)))
    | r :: h :: x :: rest =>
      cases hr : rdN 10 18446744073709551615 r with
      | none => exact .inl ⟨trivial, r, h, _, rfl, hr, rfl⟩
      | some rd => exact .inr (.inl ⟨trivial, r, h, x, rest, rd, rfl, hr, rfl⟩)
    | [r, h] =>
      cases hr : rdN 10 18446744073709551615 r with
      | none => exact .inl ⟨trivial, r, h, _, rfl, hr, by simp only [hr]⟩
      | some rd => exact .inr (.inr (.inl ⟨trivial, r, h, rd, rfl, hr, by simp only [hr]⟩))
  | false =>
    rw [if_neg (by decide)]
    by_cases h0 : f = 0
    · exact .inr (.inr (.inr (.inr (.inl ⟨rfl, h0, if_pos h0⟩))))
    · rw [if_neg h0]
      match tl with
      | [] => exact .inr (.inr (.inr (.inr (.inr (.inl ⟨rfl, h0, by simp, rfl⟩)))))
      | _ :: _ :: _ => exact .inr (.inr (.inr (.inr (.inr (.inl ⟨rfl, h0, by simp, rfl⟩)))))
      | [h] => exact .inr (.inr (.inr (.inr (.inr (.inr ⟨rfl, h0, h, rfl, rfl⟩)))))
end Go.Proofs.YtljibkfbldjgdaaGreatDoor
