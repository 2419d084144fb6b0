/- A row with one more element at its head: the cells, and what they read as. -/
import Derived.Test.YtiappobhljiknaaDoorA9
namespace Go.Proofs.YtiappobhljiknaaDoor
open Go.RowKit
set_option linter.unusedVariables false

theorem splice_shift {α : Type} (C X Y R1 : List α) (s : Nat) (hs : s = Y.length) (hC : s + X.length ≤ C.length) (h1 : R1 = C.take s ++ X ++ C.drop (s + X.length)) : ∃ Z, R1.take 0 ++ Y ++ R1.drop (0 + Y.length) = Y ++ X ++ Z := by
  refine ⟨C.drop (s + X.length), ?_⟩
  have hl : (C.take s).length = s := by rw [List.length_take]; omega
  rw [h1, List.take_zero, List.nil_append, Nat.zero_add, ← hs, List.append_assoc, List.drop_left' hl, List.append_assoc]
theorem splice_grow {α : Type} (R X Y RA : List α) (s : Nat) (hs : s = Y.length) (hC : s + X.length ≤ R.length) (h1 : RA = R.take 0 ++ Y ++ R.drop (0 + Y.length)) : ∃ Z, RA.take s ++ X ++ RA.drop (s + X.length) = Y ++ X ++ Z := by
  refine ⟨RA.drop (s + X.length), ?_⟩
  rw [h1, List.take_zero, List.nil_append, List.take_left' hs.symm]

section
variable {α : Type} {E : Enc α} {w w' : World} {B : Nat} {v v' : Value} {l : List α} {e : TypeId}
theorem Own.cons_gen {S : Nat → Prop} {x : α} {xc xs : List Value} (hr : ∀ k y, l[k]? = some y → ∃ cs, E.R w S y cs ∧ ∀ j u, cs[j]? = some u → xs[k * E.sz + j]? = some u)
    (hx : E.R w S x xc) (ho : w'.ownsRow B e E.sz v' (l.length + 1) (xc ++ xs)) (hS : ∀ b, S b → w'.heap[b]? = w.heap[b]? ∧ B ≤ b ∧ b < w'.heap.size ∧ some b ≠ v'.ownBlock) : Own E e w' B v' (x :: l) := by
  have hxl : xc.length = E.sz := E.size hx
  have hmo : ∀ {y : α} {cs : List Value}, E.R w S y cs → E.R w' (fun b => B ≤ b ∧ b < w'.heap.size ∧ some b ≠ v'.ownBlock) y cs := fun h => E.mono (fun b hb => (hS b hb).2) (E.frame (fun b hb => (hS b hb).1) h)
  refine ⟨xc ++ xs, ho, fun k y hy => ?_⟩
  cases k with
  | zero =>
    simp at hy
    subst hy
    refine ⟨xc, hmo hx, fun j u hu => ?_⟩
    have hj : j < xc.length := (List.getElem?_eq_some_iff.1 hu).1
    rw [Nat.zero_mul, Nat.zero_add, List.getElem?_append_left hj]
    exact hu
  | succ k =>
    rw [List.getElem?_cons_succ] at hy
    obtain ⟨cs, h1, h2⟩ := hr k y hy
    refine ⟨cs, hmo h1, fun j u hu => ?_⟩
    have h3 := h2 j u hu
    rw [List.getElem?_append_right (by rw [hxl, Nat.add_mul]; omega), hxl, show (k + 1) * E.sz + j - E.sz = k * E.sz + j by rw [Nat.add_mul]; omega]
    exact h3
theorem Own.cons_of {x : α} {xc xs : List Value} (hr : ∀ k y, l[k]? = some y → ∃ cs, E.R w (fun b => B ≤ b ∧ b < w.heap.size ∧ some b ≠ v.ownBlock) y cs ∧ ∀ j u, cs[j]? = some u → xs[k * E.sz + j]? = some u)
    (hx : E.R w (fun b => B ≤ b ∧ b < w.heap.size ∧ some b ≠ v.ownBlock) x xc) (ho : w'.ownsRow B e E.sz v' (l.length + 1) (xc ++ xs)) (hg : w.grownBy w' v.ownBlock) (hat : v'.ownBlock = v.ownBlock ∨ ∃ k, v'.ownBlock = some k ∧ w.heap.size ≤ k) : Own E e w' B v' (x :: l) := by
  refine Own.cons_gen hr hx ho fun b hb => ⟨hg.block b hb.2.1 hb.2.2, hb.1, Nat.lt_of_lt_of_le hb.2.1 hg.size, fun he => ?_⟩
  rcases hat with hat | ⟨k, hk, hk2⟩
  · exact hb.2.2 (by rw [he, hat])
  · rw [hk] at he
    injection he with he
    have := hb.2.1
    omega
theorem row_ones {S : Nat → Prop} {xs : List Value} (hl : xs.length = l.length * E.sz) (hr : ∀ k y, l[k]? = some y → ∃ cs, E.R w S y cs ∧ ∀ j u, cs[j]? = some u → xs[k * E.sz + j]? = some u) : ∀ u ∈ xs, u.oneCell' = true := by
  intro u hu
  obtain ⟨p, hp, rfl⟩ := List.getElem_of_mem hu
  rcases Nat.eq_zero_or_pos E.sz with h0 | h0
  · rw [hl, h0, Nat.mul_zero] at hp; omega
  · have hk : p / E.sz < l.length := by
      rw [Nat.div_lt_iff_lt_mul h0]
      omega
    obtain ⟨cs, h1, h2⟩ := hr _ _ (List.getElem?_eq_getElem hk)
    have hj : p % E.sz < cs.length := by rw [E.size h1]; exact Nat.mod_lt _ h0
    have h3 := h2 _ _ (List.getElem?_eq_getElem hj)
    rw [Nat.div_add_mod' p E.sz, List.getElem?_eq_getElem hp] at h3
    rw [Option.some.inj h3]
    exact E.one h1 _ (List.getElem_mem hj)
end
theorem owns_shift {w w' : World} {B g n cap sz : Nat} {T : TypeId} {cur r1 r2 : Array Value} {xs xc : List Value} (o1 o0 i0 : Nat) (h1 : o1 = sz) (h0 : o0 = 0) (hi : i0 = 0) (hg : w.heap[g]? = some (.cells cur T (0, 0))) (hB : B ≤ g) (hn : n + 1 ≤ cap) (hm : cap ≤ maxLen)
    (hcs : cur.size = cap * sz) (hxs : xs.length = n * sz) (hxc : xc.length = sz)
    (hr1 : r1 = (cur.toList.take o1 ++ xs.drop i0 ++ cur.toList.drop (o1 + (xs.drop i0).length)).toArray) (hr2 : r2 = (r1.toList.take o0 ++ xc ++ r1.toList.drop (o0 + xc.length)).toArray) (hw : w' = (w.drew.setRow g r1).setRow g r2) :
    w'.ownsRow B T sz (.slice (some ⟨g, 0, none⟩) (n + 1) cap) (n + 1) (xc ++ xs) ∧ w.grownBy w' (some g) := by
  subst h0 hi
  have hle : (n + 1) * sz ≤ cap * sz := Nat.mul_le_mul_right _ hn
  rw [Nat.add_mul] at hle
  rw [List.drop_zero] at hr1
  have hr1' : r1.toList = cur.toList.take o1 ++ xs ++ cur.toList.drop (o1 + xs.length) := by rw [hr1]
  have hr1s : r1.size = cap * sz := by
    rw [← Array.length_toList, hr1']
    simp only [List.length_append, List.length_take, List.length_drop, Array.length_toList]
    omega
  obtain ⟨Z, hZ⟩ := splice_shift cur.toList xs xc r1.toList o1 (by omega) (by have : cur.toList.length = cur.size := Array.length_toList; omega) hr1'
  have hg1 : (w.drew.setRow g r1).heap[g]? = some (.cells r1 T (0, 0)) := setRow_heap w.drew g cur r1 _ _ hg
  subst hw
  refine ⟨⟨by rw [List.length_append, hxs, hxc, Nat.add_mul]; omega, .inr ⟨g, cap, r2, rfl, hB, setRow_heap _ g r1 r2 _ _ hg1, hn, hm, ?_, ?_⟩⟩, ⟨rfl, rfl, rfl, by simp, fun k _ hk => ?_⟩⟩
  · rw [hr2]
    simp only [List.size_toArray, List.length_append, List.length_take, List.length_drop, Array.length_toList, hr1s]
    omega
  · rw [hr2, hZ]
    exact List.take_left' (by rw [List.length_append, hxs, hxc, Nat.add_mul]; omega)
  · have hk' : k ≠ g := fun he => hk (by rw [he])
    rw [setRow_other _ g k _ hk', setRow_other _ g k _ hk']
    rfl
theorem owns_grow {w w' : World} {B n G sz : Nat} {T : TypeId} {ROW rA rB : Array Value} {xs xc : List Value} (o1 i0 : Nat) (h1 : o1 = sz) (hi : i0 = 0) (hB : B ≤ w.heap.size) (hn : n + 1 ≤ G) (hm : G ≤ maxLen)
    (hcs : ROW.size = G * sz) (hxs : xs.length = n * sz) (hxc : xc.length = sz)
    (hrA : rA = (ROW.toList.take i0 ++ xc ++ ROW.toList.drop (i0 + xc.length)).toArray) (hrB : rB = (rA.toList.take o1 ++ xs.drop i0 ++ rA.toList.drop (o1 + (xs.drop i0).length)).toArray)
    (hw : w' = (((w.alloc (.cells ROW T)).drew.setRow w.heap.size rA).drew).setRow w.heap.size rB) (r : Option Nat) :
    w'.ownsRow B T sz (.slice (some ⟨w.heap.size, 0, none⟩) (n + 1) G) (n + 1) (xc ++ xs) ∧ w.grownBy w' r := by
  subst hi
  have hle : (n + 1) * sz ≤ G * sz := Nat.mul_le_mul_right _ hn
  rw [Nat.add_mul] at hle
  rw [List.drop_zero] at hrB
  have hrA' : rA.toList = ROW.toList.take 0 ++ xc ++ ROW.toList.drop (0 + xc.length) := by rw [hrA]
  have hrAs : rA.size = G * sz := by
    rw [← Array.length_toList, hrA']
    simp only [List.length_append, List.length_take, List.length_drop, Array.length_toList]
    omega
  obtain ⟨Z, hZ⟩ := splice_grow ROW.toList xs xc rA.toList o1 (by omega) (by have : ROW.toList.length = ROW.size := Array.length_toList; omega) hrA'
  have hg0 : (w.alloc (.cells ROW T)).drew.heap[w.heap.size]? = some (.cells ROW T (0, 0)) := heap_alloc_new w _
  have hg1 : (((w.alloc (.cells ROW T)).drew.setRow w.heap.size rA).drew).heap[w.heap.size]? = some (.cells rA T (0, 0)) := setRow_heap _ _ ROW rA _ _ hg0
  subst hw
  refine ⟨⟨by rw [List.length_append, hxs, hxc, Nat.add_mul]; omega, .inr ⟨w.heap.size, G, rB, rfl, hB, setRow_heap _ _ rA rB _ _ hg1, hn, hm, ?_, ?_⟩⟩, ⟨rfl, rfl, rfl, by simp, fun k hk _ => ?_⟩⟩
  · rw [hrB]
    simp only [List.size_toArray, List.length_append, List.length_take, List.length_drop, Array.length_toList, hrAs]
    omega
  · rw [hrB, hZ]
    exact List.take_left' (by rw [List.length_append, hxs, hxc, Nat.add_mul]; omega)
  · have hk' : k ≠ w.heap.size := by omega
    rw [setRow_other _ _ k _ hk']
    show ((w.alloc (.cells ROW T)).drew.setRow w.heap.size rA).heap[k]? = _
    rw [setRow_other _ _ k _ hk']
    exact Below.heap_alloc w _ k hk
end Go.Proofs.YtiappobhljiknaaDoor
