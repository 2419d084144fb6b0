/- The chapter's examples, plain. -/
import Derived.Test.YtmhmcdpadmimlaaGreatDoorPX
namespace Go.Proofs.YtmhmcdpadmimlaaGreatDoor
open Go.RowKit
set_option linter.unusedVariables false

def mayK (p : Pfx) : Bool := decide (sizeS p.fam ≠ 0) && (decide ((p.addr.length : Int) = sizeS p.fam) && (decide (0 ≤ p.len) && (decide (p.len ≤ 8 * sizeS p.fam) && ((decide (p.rd = 0) || apartS p.fam) && decide (maskS p.addr p.len = p.addr)))))
theorem mayK_iff (p : Pfx) : MayP p ↔ mayK p = true := by
  unfold MayP formP mayK
  simp only [Bool.and_eq_true, Bool.or_eq_true, decide_eq_true_eq]
  constructor
  · rintro ⟨⟨a, b, c, d, e⟩, f⟩; exact ⟨a, b, c, d, e, f⟩
  · rintro ⟨a, b, c, d, e, f⟩; exact ⟨⟨a, b, c, d, e⟩, f⟩
def tailK (f : Int) (rd : Nat) (h : List UInt8) : Pfx × Int :=
  if (Lib.cut h [47]).2.2 = true then
    (match rdN 10 128 (Lib.cut h [47]).2.1 with
    | none => errC
    | some n => if (decide ((addrC (Lib.cut h [47]).1).2 = 0) && mayK ⟨f, rd, (addrC (Lib.cut h [47]).1).1, n⟩) = true then (⟨f, rd, (addrC (Lib.cut h [47]).1).1, n⟩, 0) else errC)
  else errC
theorem tailK_eq (f : Int) (rd : Nat) (h : List UInt8) : tailC f rd h = tailK f rd h := by
  unfold tailC tailK
  by_cases hc : (Lib.cut h [47]).2.2 = true
  · rw [if_pos hc, if_pos hc]
    cases rdN 10 128 (Lib.cut h [47]).2.1 with
    | none => rfl
    | some n =>
      show (if _ then _ else _) = (if _ then _ else _)
      by_cases hk : (addrC (Lib.cut h [47]).1).2 = 0 ∧ MayP ⟨f, rd, (addrC (Lib.cut h [47]).1).1, n⟩
      · rw [if_pos hk, if_pos (by rw [Bool.and_eq_true, decide_eq_true_eq, ← mayK_iff]; exact hk)]
      · rw [if_neg hk, if_neg (by rw [Bool.and_eq_true, decide_eq_true_eq, ← mayK_iff]; exact hk)]
  · rw [if_neg hc, if_neg hc]
def parseK (f : Int) (w : List (List UInt8)) : Pfx × Int :=
  if apartS f = true then (match w with
    | [r, h] => (match rdN 10 18446744073709551615 r with | some rd => tailK f rd h | none => errC)
    | _ => errC)
  else if f = 0 then errC else (match w with | [h] => tailK f 0 h | _ => errC)
theorem parseK_eq (s : List UInt8) : parseC s = parseK (famN ((spl 32 s).headD [])) (spl 32 s).tail := by
  unfold parseC parseW parseK
  simp only [tailK_eq]
  generalize famN ((spl 32 s).headD []) = f
  generalize (spl 32 s).tail = w
  rfl
deriving instance DecidableEq for Pfx

def goodL : List (List UInt8) := [[118, 52, 32, 49, 48, 46, 48, 46, 48, 46, 48, 47, 56], [118, 54, 32, 49, 58, 48, 58, 48, 58, 48, 58, 48, 58, 48, 58, 48, 58, 48, 47, 51, 50], [108, 52, 32, 48, 46, 48, 46, 48, 46, 48, 47, 48], [118, 112, 110, 54, 32, 49, 56, 52, 52, 54, 55, 52, 52, 48, 55, 51, 55, 48, 57, 53, 53, 49, 54, 49, 53, 32, 48, 58, 48, 58, 48, 58, 48, 58, 48, 58, 48, 58, 48, 58, 48, 47, 48], [118, 52, 32, 50, 53, 53, 46, 50, 53, 53, 46, 50, 53, 53, 46, 50, 53, 53, 47, 51, 50]]
def goodP : List Pfx := [⟨1, 0, [10, 0, 0, 0], 8⟩, ⟨2, 0, [0, 1, 0, 0, 0, 0, 0, 0, 0, 0, 0, 0, 0, 0, 0, 0], 32⟩, ⟨3, 0, [0, 0, 0, 0], 0⟩, ⟨5, 18446744073709551615, [0, 0, 0, 0, 0, 0, 0, 0, 0, 0, 0, 0, 0, 0, 0, 0], 0⟩, ⟨1, 0, [255, 255, 255, 255], 32⟩]
def badL : List (List UInt8) := [[118, 52, 32, 49, 48, 46, 48, 46, 48, 46, 49, 47, 56], [118, 52, 32, 49, 48, 46, 48, 46, 48, 46, 48, 47, 51, 51], [118, 52, 32, 48, 49, 48, 46, 48, 46, 48, 46, 48, 47, 56], [118, 53, 32, 49, 48, 46, 48, 46, 48, 46, 48, 47, 56], [118, 112, 110, 52, 32, 49, 48, 46, 48, 46, 48, 46, 48, 47, 56], [118, 52, 32, 55, 32, 49, 48, 46, 48, 46, 48, 46, 48, 47, 56], [118, 54, 32, 49, 48, 46, 48, 46, 48, 46, 48, 47, 56], [118, 52, 32, 49, 48, 46, 48, 46, 48, 46, 48], [118, 52, 32, 49, 48, 46, 48, 46, 48, 46, 48, 47, 56, 32], [], [118, 112, 110, 52, 32, 49, 56, 52, 52, 54, 55, 52, 52, 48, 55, 51, 55, 48, 57, 53, 53, 49, 54, 49, 54, 32, 49, 48, 46, 48, 46, 48, 46, 48, 47, 56], [118, 52, 32, 49, 48, 46, 48, 46, 48, 46, 48, 47, 48, 56]]
def badA : List (List UInt8) := [[49, 46, 50, 46, 51], [50, 53, 54, 46, 48, 46, 48, 46, 48], [48, 58, 48, 58, 48, 58, 48, 58, 48, 58, 48, 58, 48, 58, 71], [48, 48, 58, 48, 58, 48, 58, 48, 58, 48, 58, 48, 58, 48, 58, 48], [], [48, 58, 48, 58, 48, 58, 48, 58, 48, 58, 48, 58, 48, 58, 49, 48, 48, 48, 48], [58, 58, 49], [49, 46, 50, 46, 51, 46, 52, 46, 53]]
theorem good_text : goodP.map textP = goodL := by decide +kernel
theorem good_may : goodP.all mayK = true := by decide +kernel
theorem bad_parse : badL.all (fun s => decide (parseK (famN ((spl 32 s).headD [])) (spl 32 s).tail = errC)) = true := by decide +kernel
theorem bad_addr : badA.all (fun s => decide (addrC s = ([], 4))) = true := by decide +kernel
theorem good_at (k : Nat) (h : k < 5) : ∃ p : Pfx, MayP p ∧ p.rd ≤ 18446744073709551615 ∧ textP p = goodL[k]'(by exact h) ∧ (goodL[k]'(by exact h)).length ≤ 100 := by
  have h1 := List.all_eq_true.1 good_may
  have h2 : ∀ i (hi : i < 5), (goodP[i]'hi).rd ≤ 18446744073709551615 ∧ (goodL[i]'hi).length ≤ 100 := by decide +kernel
  refine ⟨goodP[k]'(by exact h), (mayK_iff _).2 (h1 _ (List.getElem_mem _)), (h2 k h).1, ?_, (h2 k h).2⟩
  have h3 : (goodP.map textP)[k]? = goodL[k]? := by rw [good_text]
  rw [List.getElem?_map, List.getElem?_eq_getElem (show k < goodP.length from h), List.getElem?_eq_getElem (show k < goodL.length from h)] at h3
  exact Option.some.inj h3
theorem bad_at (k : Nat) (h : k < 12) : parseC (badL[k]'(by exact h)) = errC := by
  rw [parseK_eq]
  exact of_decide_eq_true (List.all_eq_true.1 bad_parse _ (List.getElem_mem _))
theorem badA_at (k : Nat) (h : k < 8) : addrC (badA[k]'(by exact h)) = ([], 4) := of_decide_eq_true (List.all_eq_true.1 bad_addr _ (List.getElem_mem _))
theorem bad_len : ∀ i (hi : i < 12), (badL[i]'hi).length ≤ 100 := by decide +kernel
theorem badA_len : ∀ i (hi : i < 8), (badA[i]'hi).length ≤ 100 := by decide +kernel
end Go.Proofs.YtmhmcdpadmimlaaGreatDoor
