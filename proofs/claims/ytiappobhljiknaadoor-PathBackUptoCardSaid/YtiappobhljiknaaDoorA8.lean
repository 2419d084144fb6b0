/- The copy law for elements of any number of cells; nested rows known whole. -/
import Derived.Test.YtiappobhljiknaaDoorA7
import Derived.Laws.CopyOwn
namespace Go.Proofs.YtiappobhljiknaaDoor
open Go.RowKit
set_option linter.unusedVariables false

theorem run_copy_sz {P : Program} (w : World) (dT sT ty elem : TypeId) (sz g o dLen dCap : Nat) (a : Addr) (sLen sCap : Nat) (cur : Array Value) (t : TypeId) (cs : List Value)
    (hu : P.underlying dT = some (.slice elem)) (hs : (P.info? elem).map (·.size) = some sz)
    (hg : w.heap[g]? = some (.cells cur t (0, 0))) (hn : cs.length = Nat.min sLen dLen * sz)
    (hsrc : ∀ j v, cs[j]? = some v → w.cell? (a.add j) = some v) (hfit : o + cs.length ≤ cur.size) (h1 : ∀ v ∈ cs, v.oneCell' = true) :
    (Builtin.copy_ #[dT, sT] ty #[.slice (some ⟨g, o, none⟩) dLen dCap, .slice (some a) sLen sCap]).run P w =
      .ok (goInt (Nat.min sLen dLen)) (w.setRow g (cur.toList.take o ++ cs ++ cur.toList.drop (o + cs.length)).toArray) := by
  have hl := run_loadCells_list (P := P) w a cs hsrc
  have hst := run_storeCells_at P g o t cs 0 cur w hg (by simpa using hfit) h1
  cases hq : P.info? elem with
  | none => simp [hq] at hs
  | some i =>
    have hi : i.size = sz := by simpa [hq] using hs
    simp [Builtin.copy_, run_underlying hu, Builtin.lenOf, Builtin.firstCells, sizeOf, typeInfo, hq, hi, ← hn, hl, hst]

def u32s (l : List UInt32) : List Value := l.map fun x => Value.int .u32 (x.toNat : Int)
/-- A nested row of uint32, its block known whole. -/
def rowU : Enc (List UInt32) where
  R w S l cs := ∃ v, cs = [v] ∧ l.length ≤ 16777216 ∧ w.ownsRow 0 31 1 v l.length (u32s l) ∧ ∀ g, v.ownBlock = some g → S g
  sz := 1
  size := by rintro w S x cs ⟨v, rfl, _⟩; rfl
  one := by
    rintro w S x cs ⟨v, rfl, _, ho, _⟩ u hu
    simp at hu
    subst hu
    rcases ho.2 with ⟨rfl, _⟩ | ⟨g, cap, cur, rfl, _⟩ <;> rfl
  frame := by
    rintro w w' S x cs hw ⟨v, rfl, hm, ⟨h1, h2⟩, hS⟩
    refine ⟨v, rfl, hm, ⟨h1, ?_⟩, hS⟩
    rcases h2 with h2 | ⟨g, cap, cur, rfl, hb, hg, hr⟩
    · exact .inl h2
    · exact .inr ⟨g, cap, cur, rfl, hb, by rw [hw g (hS g rfl)]; exact hg, hr⟩
  mono := by rintro w S S' x cs hS ⟨v, rfl, hm, h, hs⟩; exact ⟨v, rfl, hm, h, fun g hg => hS g (hs g hg)⟩
def ESegO : Enc Seg := (EI64.pair rowU).map fun s => (s.kind, s.as)
theorem okSegO' : ElemOk Tryd.prog 22 48 ESegO.sz 32 := okSeg
theorem Own.rowU {w : World} {B : Nat} {v : Value} {l : List UInt32} (h : Own EU32 31 w B v l) : w.ownsRow 0 31 1 v l.length (u32s l) := by
  obtain ⟨xs, ho, hr⟩ := h
  have hx : xs = u32s l := by
    refine List.ext_getElem? fun k => ?_
    unfold u32s
    rw [List.getElem?_map]
    have hl : xs.length = l.length := by simpa [EU32, Enc.flat] using ho.1
    cases hk : l[k]? with
    | none => rw [List.getElem?_eq_none (by have := List.getElem?_eq_none_iff.1 hk; omega)]; rfl
    | some x =>
      obtain ⟨cs, ⟨rfl, _⟩, hc⟩ := hr k x hk
      have := hc 0 _ rfl
      simpa [EU32, Enc.flat] using this
  rw [← hx]
  refine ⟨by simpa [EU32, Enc.flat] using ho.1, ?_⟩
  rcases ho.2 with h | ⟨g, cap, cur, h1, h2, h3, h4, h5, h6, h7⟩
  · exact .inl h
  · exact .inr ⟨g, cap, cur, h1, Nat.zero_le _, h3, h4, h5, h6, h7⟩
theorem rowU.weak {w : World} {S : Nat → Prop} {l : List UInt32} {cs : List Value} (h : rowU.R w S l cs) : EU32.sliceW.R w S l cs := by
  obtain ⟨v, rfl, hm, ho, hS⟩ := h
  have hfr := fun g c (hv : v = .slice (some ⟨g, 0, none⟩) l.length c) j => (hv ▸ ho).frozenAt j
  rcases ho.2 with ⟨rfl, h0⟩ | ⟨g, cap, cur, rfl, _, hg, hc1, hc2, hc3, hc4⟩
  · have : l = [] := List.eq_nil_of_length_eq_zero h0
    subst this
    exact ⟨none, 0, rfl, hm, .inl rfl, fun h => absurd rfl h⟩
  · refine ⟨some ⟨g, 0, none⟩, cap, rfl, hm, .inr ⟨g, 0, rfl, hS g rfl, fun k x hx => ⟨_, ⟨rfl, trivial⟩, fun j u hu => ?_⟩⟩, fun _ b o hb j => ?_⟩
    · match j, hu with
      | 0, hu =>
        simp at hu
        subst hu
        have := ho.cells (g := g) rfl k (.int .u32 (x.toNat : Int)) (by unfold u32s; rw [List.getElem?_map, hx]; rfl)
        rw [add_lit] at this
        simpa [EU32, Enc.flat] using this
    · injection hb with hb
      injection hb with hb _
      subst hb
      exact hfr g cap rfl j
theorem ESegO.weak {w : World} {S : Nat → Prop} {x : Seg} {cs : List Value} (h : ESegO.R w S x cs) : ESegW.R w S x cs := by
  obtain ⟨c, d, rfl, h1, h2⟩ := h
  exact ⟨c, d, rfl, h1, rowU.weak h2⟩
end Go.Proofs.YtiappobhljiknaaDoor
