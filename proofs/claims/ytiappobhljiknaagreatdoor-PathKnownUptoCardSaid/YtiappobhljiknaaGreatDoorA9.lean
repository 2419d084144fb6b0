/- The copy law for elements of any number of cells; nested rows known whole. Segments with the number of the block that each one's own row lies in. A row with one more element at its head: the cells, and what they read as. An AS put ahead of a path, as plain data; the first segment's own row changed. -/
import Derived.Test.YtiappobhljiknaaGreatDoorA7
import Derived.Laws.CopyOwn
import Derived.Test.YtiappobhljiknaaGreatDoorW12
namespace Go.Proofs.YtiappobhljiknaaGreatDoor
open Go.RowKit
set_option linter.unusedVariables false

theorem run_copy_sz {P : Program} (w : World) (dT sT ty elem : TypeId) (sz g o dLen dCap : Nat) (a : Addr) (sLen sCap : Nat) (cur : Array Value) (t : TypeId) (cs : List Value)
    (hu : P.underlying dT = some (.slice elem)) (hs : (P.info? elem).map (·.size) = some sz)
    (hg : w.heap[g]? = some (.cells cur t (0, 0))) (hn : cs.length = Nat.min sLen dLen * sz)
    (hsrc : ∀ j v, cs[j]? = some v → w.cell? (a.add j) = some v) (hfit : o + cs.length ≤ cur.size) (h1 : ∀ v ∈ cs, v.oneCell' = true) :
    (Builtin.copy_ #[dT, sT] ty #[.slice (some ⟨g, o, none⟩) dLen dCap, .slice (some a) sLen sCap]).run P w =
      .ok (goInt (Nat.min sLen dLen)) (w.setRow g (cur.toList.take o ++ cs ++ cur.toList.drop (o + cs.length)).toArray) := by
  have hl := run_loadCells_list (P := P) w a cs hsrc
  have hst := run_storeCells_at P g o t cs 0 cur w hg (by simpa using hfit) h1
  cases hq : P.info? elem with
  | none => simp [hq] at hs
  | some i =>
    have hi : i.size = sz := by simpa [hq] using hs
    simp [Builtin.copy_, run_underlying hu, Builtin.lenOf, Builtin.firstCells, sizeOf, typeInfo, hq, hi, ← hn, hl, hst]

def u32s (l : List UInt32) : List Value := l.map fun x => Value.int .u32 (x.toNat : Int)
/-- A nested row of uint32, its block known whole. -/
def rowU : Enc (List UInt32) where
  R w S l cs := ∃ v, cs = [v] ∧ l.length ≤ 16777216 ∧ w.ownsRow 0 26 1 v l.length (u32s l) ∧ ∀ g, v.ownBlock = some g → S g
  sz := 1
  size := by rintro w S x cs ⟨v, rfl, _⟩; rfl
  one := by
    rintro w S x cs ⟨v, rfl, _, ho, _⟩ u hu
    simp at hu
    subst hu
    rcases ho.2 with ⟨rfl, _⟩ | ⟨g, cap, cur, rfl, _⟩ <;> rfl
  frame := by
    rintro w w' S x cs hw ⟨v, rfl, hm, ⟨h1, h2⟩, hS⟩
    refine ⟨v, rfl, hm, ⟨h1, ?_⟩, hS⟩
    rcases h2 with h2 | ⟨g, cap, cur, rfl, hb, hg, hr⟩
    · exact .inl h2
    · exact .inr ⟨g, cap, cur, rfl, hb, by rw [hw g (hS g rfl)]; exact hg, hr⟩
  mono := by rintro w S S' x cs hS ⟨v, rfl, hm, h, hs⟩; exact ⟨v, rfl, hm, h, fun g hg => hS g (hs g hg)⟩
def ESegO : Enc Seg := (EI64.pair rowU).map fun s => (s.kind, s.as)
theorem okSegO' : ElemOk Tryz.prog 27 24 ESegO.sz 32 := okSeg
theorem Own.rowU {w : World} {B : Nat} {v : Value} {l : List UInt32} (h : Own EU32 26 w B v l) : w.ownsRow 0 26 1 v l.length (u32s l) := by
  obtain ⟨xs, ho, hr⟩ := h
  have hx : xs = u32s l := by
    refine List.ext_getElem? fun k => ?_
    unfold u32s
    rw [List.getElem?_map]
    have hl : xs.length = l.length := by simpa [EU32, Enc.flat] using ho.1
    cases hk : l[k]? with
    | none => rw [List.getElem?_eq_none (by have := List.getElem?_eq_none_iff.1 hk; omega)]; rfl
    | some x =>
      obtain ⟨cs, ⟨rfl, _⟩, hc⟩ := hr k x hk
      have := hc 0 _ rfl
      simpa [EU32, Enc.flat] using this
  rw [← hx]
  refine ⟨by simpa [EU32, Enc.flat] using ho.1, ?_⟩
  rcases ho.2 with h | ⟨g, cap, cur, h1, h2, h3, h4, h5, h6, h7⟩
  · exact .inl h
  · exact .inr ⟨g, cap, cur, h1, Nat.zero_le _, h3, h4, h5, h6, h7⟩
theorem rowU.weak {w : World} {S : Nat → Prop} {l : List UInt32} {cs : List Value} (h : rowU.R w S l cs) : EU32.sliceW.R w S l cs := by
  obtain ⟨v, rfl, hm, ho, hS⟩ := h
  have hfr := fun g c (hv : v = .slice (some ⟨g, 0, none⟩) l.length c) j => (hv ▸ ho).frozenAt j
  rcases ho.2 with ⟨rfl, h0⟩ | ⟨g, cap, cur, rfl, _, hg, hc1, hc2, hc3, hc4⟩
  · have : l = [] := List.eq_nil_of_length_eq_zero h0
    subst this
    exact ⟨none, 0, rfl, hm, .inl rfl, fun h => absurd rfl h⟩
  · refine ⟨some ⟨g, 0, none⟩, cap, rfl, hm, .inr ⟨g, 0, rfl, hS g rfl, fun k x hx => ⟨_, ⟨rfl, trivial⟩, fun j u hu => ?_⟩⟩, fun _ b o hb j => ?_⟩
    · match j, hu with
      | 0, hu =>
        simp at hu
        subst hu
        have := ho.cells (g := g) rfl k (.int .u32 (x.toNat : Int)) (by unfold u32s; rw [List.getElem?_map, hx]; rfl)
        rw [add_lit] at this
        simpa [EU32, Enc.flat] using this
    · injection hb with hb
      injection hb with hb _
      subst hb
      exact hfr g cap rfl j
theorem ESegO.weak {w : World} {S : Nat → Prop} {x : Seg} {cs : List Value} (h : ESegO.R w S x cs) : ESegW.R w S x cs := by
  obtain ⟨c, d, rfl, h1, h2⟩ := h
  exact ⟨c, d, rfl, h1, rowU.weak h2⟩

def ESegB : Enc (Seg × Nat) where
  R w S x cs := ESegO.R w (fun b => S b ∧ b = x.2) x.1 cs
  sz := ESegO.sz
  size h := ESegO.size h
  one h := ESegO.one h
  frame hw h := ESegO.frame (fun b hb => hw b hb.1) h
  mono hS h := ESegO.mono (fun b hb => ⟨hS b hb.1, hb.2⟩) h
theorem okSegB' : ElemOk Tryz.prog 27 24 ESegB.sz 32 := okSeg
theorem Own.plain {e : TypeId} {w : World} {B : Nat} {v : Value} {ls : List (Seg × Nat)} (h : Own ESegB e w B v ls) : Own ESegW e w B v (ls.map (·.1)) := by
  obtain ⟨xs, h1, h2⟩ := h
  refine ⟨xs, by rw [List.length_map]; exact h1, fun k x hx => ?_⟩
  rw [List.getElem?_map] at hx
  cases hk : ls[k]? with
  | none => rw [hk] at hx; cases hx
  | some p =>
    rw [hk] at hx
    obtain rfl : p.1 = x := Option.some.inj hx
    obtain ⟨cs, h3, h4⟩ := h2 k p hk
    exact ⟨cs, ESegO.weak (ESegO.mono (fun b hb => hb.1) h3), h4⟩
theorem segRB {w1 : World} {B : Nat} {v u : Value} {x : Seg} {C : Nat} {T : TypeId} {cs : Array Value} (hv : ∀ k, v.ownBlock = some k → k < C) (hC : B ≤ C) (hCw : C ≤ w1.heap.size) (hk1 : -9223372036854775808 ≤ x.kind) (hk2 : x.kind ≤ 9223372036854775807) (hm : x.as.length ≤ 16777216)
    (ho : Own EU32 26 w1 C u x.as) :
    ∃ h, C ≤ h ∧ h ≤ w1.heap.size ∧ ESegB.R (w1.alloc (.cells cs T)) (fun b => B ≤ b ∧ b < (w1.alloc (.cells cs T)).heap.size ∧ some b ≠ v.ownBlock) (x, h) [.int .i64 x.kind, u] := by
  have hr := ho.rowU
  have hlt := ho.lt
  have key : ∀ h, (∀ g, u.ownBlock = some g → g = h) → ESegB.R (w1.alloc (.cells cs T)) (fun b => B ≤ b ∧ b < (w1.alloc (.cells cs T)).heap.size ∧ some b ≠ v.ownBlock) (x, h) [.int .i64 x.kind, u] := by
    intro h hh
    have base : ESegO.R w1 (fun b => C ≤ b ∧ b < w1.heap.size ∧ b = h) x [.int .i64 x.kind, u] :=
      ⟨[.int .i64 x.kind], [u], rfl, ⟨rfl, hk1, hk2⟩, u, rfl, hm, hr, fun g hg => ⟨(hlt g hg).1, (hlt g hg).2, hh g hg⟩⟩
    have step := ESegO.frame (w' := w1.alloc (.cells cs T)) (fun b hb => Below.heap_alloc _ _ _ hb.2.1) base
    exact ESegO.mono (fun b hb => ⟨⟨by omega, by simp; omega, fun he => by have := hv b he.symm; omega⟩, hb.2.2⟩) step
  cases hu : u.ownBlock with
  | none => exact ⟨C, Nat.le_refl _, hCw, key C fun g hg => by rw [hu] at hg; cases hg⟩
  | some g => exact ⟨g, (hlt g hu).1, Nat.le_of_lt (hlt g hu).2, key g fun g' hg => by rw [hu] at hg; exact (Option.some.inj hg).symm⟩

theorem splice_shift {α : Type} (C X Y R1 : List α) (s : Nat) (hs : s = Y.length) (hC : s + X.length ≤ C.length) (h1 : R1 = C.take s ++ X ++ C.drop (s + X.length)) : ∃ Z, R1.take 0 ++ Y ++ R1.drop (0 + Y.length) = Y ++ X ++ Z := by
  refine ⟨C.drop (s + X.length), ?_⟩
  have hl : (C.take s).length = s := by rw [List.length_take]; omega
  rw [h1, List.take_zero, List.nil_append, Nat.zero_add, ← hs, List.append_assoc, List.drop_left' hl, List.append_assoc]
theorem splice_grow {α : Type} (R X Y RA : List α) (s : Nat) (hs : s = Y.length) (hC : s + X.length ≤ R.length) (h1 : RA = R.take 0 ++ Y ++ R.drop (0 + Y.length)) : ∃ Z, RA.take s ++ X ++ RA.drop (s + X.length) = Y ++ X ++ Z := by
  refine ⟨RA.drop (s + X.length), ?_⟩
  rw [h1, List.take_zero, List.nil_append, List.take_left' hs.symm]

section
variable {α : Type} {E : Enc α} {w w' : World} {B : Nat} {v v' : Value} {l : List α} {e : TypeId}
theorem Own.cons_gen {S : Nat → Prop} {x : α} {xc xs : List Value} (hr : ∀ k y, l[k]? = some y → ∃ cs, E.R w S y cs ∧ ∀ j u, cs[j]? = some u → xs[k * E.sz + j]? = some u)
    (hx : E.R w S x xc) (ho : w'.ownsRow B e E.sz v' (l.length + 1) (xc ++ xs)) (hS : ∀ b, S b → w'.heap[b]? = w.heap[b]? ∧ B ≤ b ∧ b < w'.heap.size ∧ some b ≠ v'.ownBlock) : Own E e w' B v' (x :: l) := by
  have hxl : xc.length = E.sz := E.size hx
  have hmo : ∀ {y : α} {cs : List Value}, E.R w S y cs → E.R w' (fun b => B ≤ b ∧ b < w'.heap.size ∧ some b ≠ v'.ownBlock) y cs := fun h => E.mono (fun b hb => (hS b hb).2) (E.frame (fun b hb => (hS b hb).1) h)
  refine ⟨xc ++ xs, ho, fun k y hy => ?_⟩
  cases k with
  | zero =>
    simp at hy
    subst hy
    refine ⟨xc, hmo hx, fun j u hu => ?_⟩
    have hj : j < xc.length := (List.getElem?_eq_some_iff.1 hu).1
    rw [Nat.zero_mul, Nat.zero_add, List.getElem?_append_left hj]
    exact hu
  | succ k =>
    rw [List.getElem?_cons_succ] at hy
    obtain ⟨cs, h1, h2⟩ := hr k y hy
    refine ⟨cs, hmo h1, fun j u hu => ?_⟩
    have h3 := h2 j u hu
    rw [List.getElem?_append_right (by rw [hxl, Nat.add_mul]; omega), hxl, show (k + 1) * E.sz + j - E.sz = k * E.sz + j by rw [Nat.add_mul]; omega]
    exact h3
theorem Own.cons_of {x : α} {xc xs : List Value} (hr : ∀ k y, l[k]? = some y → ∃ cs, E.R w (fun b => B ≤ b ∧ b < w.heap.size ∧ some b ≠ v.ownBlock) y cs ∧ ∀ j u, cs[j]? = some u → xs[k * E.sz + j]? = some u)
    (hx : E.R w (fun b => B ≤ b ∧ b < w.heap.size ∧ some b ≠ v.ownBlock) x xc) (ho : w'.ownsRow B e E.sz v' (l.length + 1) (xc ++ xs)) (hg : w.grownBy w' v.ownBlock) (hat : v'.ownBlock = v.ownBlock ∨ ∃ k, v'.ownBlock = some k ∧ w.heap.size ≤ k) : Own E e w' B v' (x :: l) := by
  refine Own.cons_gen hr hx ho fun b hb => ⟨hg.block b hb.2.1 hb.2.2, hb.1, Nat.lt_of_lt_of_le hb.2.1 hg.size, fun he => ?_⟩
  rcases hat with hat | ⟨k, hk, hk2⟩
  · exact hb.2.2 (by rw [he, hat])
  · rw [hk] at he
    injection he with he
    have := hb.2.1
    omega
theorem row_ones {S : Nat → Prop} {xs : List Value} (hl : xs.length = l.length * E.sz) (hr : ∀ k y, l[k]? = some y → ∃ cs, E.R w S y cs ∧ ∀ j u, cs[j]? = some u → xs[k * E.sz + j]? = some u) : ∀ u ∈ xs, u.oneCell' = true := by
  intro u hu
  obtain ⟨p, hp, rfl⟩ := List.getElem_of_mem hu
  rcases Nat.eq_zero_or_pos E.sz with h0 | h0
  · rw [hl, h0, Nat.mul_zero] at hp; omega
  · have hk : p / E.sz < l.length := by
      rw [Nat.div_lt_iff_lt_mul h0]
      omega
    obtain ⟨cs, h1, h2⟩ := hr _ _ (List.getElem?_eq_getElem hk)
    have hj : p % E.sz < cs.length := by rw [E.size h1]; exact Nat.mod_lt _ h0
    have h3 := h2 _ _ (List.getElem?_eq_getElem hj)
    rw [Nat.div_add_mod' p E.sz, List.getElem?_eq_getElem hp] at h3
    rw [Option.some.inj h3]
    exact E.one h1 _ (List.getElem_mem hj)
end
theorem owns_shift {w w' : World} {B g n cap sz : Nat} {T : TypeId} {cur r1 r2 : Array Value} {xs xc : List Value} (o1 o0 i0 : Nat) (h1 : o1 = sz) (h0 : o0 = 0) (hi : i0 = 0) (hg : w.heap[g]? = some (.cells cur T (0, 0))) (hB : B ≤ g) (hn : n + 1 ≤ cap) (hm : cap ≤ maxLen)
    (hcs : cur.size = cap * sz) (hxs : xs.length = n * sz) (hxc : xc.length = sz)
    (hr1 : r1 = (cur.toList.take o1 ++ xs.drop i0 ++ cur.toList.drop (o1 + (xs.drop i0).length)).toArray) (hr2 : r2 = (r1.toList.take o0 ++ xc ++ r1.toList.drop (o0 + xc.length)).toArray) (hw : w' = (w.drew.setRow g r1).setRow g r2) :
    w'.ownsRow B T sz (.slice (some ⟨g, 0, none⟩) (n + 1) cap) (n + 1) (xc ++ xs) ∧ w.grownBy w' (some g) := by
  subst h0 hi
  have hle : (n + 1) * sz ≤ cap * sz := Nat.mul_le_mul_right _ hn
  rw [Nat.add_mul] at hle
  rw [List.drop_zero] at hr1
  have hr1' : r1.toList = cur.toList.take o1 ++ xs ++ cur.toList.drop (o1 + xs.length) := by rw [hr1]
  have hr1s : r1.size = cap * sz := by
    rw [← Array.length_toList, hr1']
    simp only [List.length_append, List.length_take, List.length_drop, Array.length_toList]
    omega
  obtain ⟨Z, hZ⟩ := splice_shift cur.toList xs xc r1.toList o1 (by omega) (by have : cur.toList.length = cur.size := Array.length_toList; omega) hr1'
  have hg1 : (w.drew.setRow g r1).heap[g]? = some (.cells r1 T (0, 0)) := setRow_heap w.drew g cur r1 _ _ hg
  subst hw
  refine ⟨⟨by rw [List.length_append, hxs, hxc, Nat.add_mul]; omega, .inr ⟨g, cap, r2, rfl, hB, setRow_heap _ g r1 r2 _ _ hg1, hn, hm, ?_, ?_⟩⟩, ⟨rfl, rfl, rfl, by simp, fun k _ hk => ?_⟩⟩
  · rw [hr2]
    simp only [List.size_toArray, List.length_append, List.length_take, List.length_drop, Array.length_toList, hr1s]
    omega
  · rw [hr2, hZ]
    exact List.take_left' (by rw [List.length_append, hxs, hxc, Nat.add_mul]; omega)
  · have hk' : k ≠ g := fun he => hk (by rw [he])
    rw [setRow_other _ g k _ hk', setRow_other _ g k _ hk']
    rfl
theorem owns_grow {w w' : World} {B n G sz : Nat} {T : TypeId} {ROW rA rB : Array Value} {xs xc : List Value} (o1 i0 : Nat) (h1 : o1 = sz) (hi : i0 = 0) (hB : B ≤ w.heap.size) (hn : n + 1 ≤ G) (hm : G ≤ maxLen)
    (hcs : ROW.size = G * sz) (hxs : xs.length = n * sz) (hxc : xc.length = sz)
    (hrA : rA = (ROW.toList.take i0 ++ xc ++ ROW.toList.drop (i0 + xc.length)).toArray) (hrB : rB = (rA.toList.take o1 ++ xs.drop i0 ++ rA.toList.drop (o1 + (xs.drop i0).length)).toArray)
    (hw : w' = (((w.alloc (.cells ROW T)).drew.setRow w.heap.size rA).drew).setRow w.heap.size rB) (r : Option Nat) :
    w'.ownsRow B T sz (.slice (some ⟨w.heap.size, 0, none⟩) (n + 1) G) (n + 1) (xc ++ xs) ∧ w.grownBy w' r := by
  subst hi
  have hle : (n + 1) * sz ≤ G * sz := Nat.mul_le_mul_right _ hn
  rw [Nat.add_mul] at hle
  rw [List.drop_zero] at hrB
  have hrA' : rA.toList = ROW.toList.take 0 ++ xc ++ ROW.toList.drop (0 + xc.length) := by rw [hrA]
  have hrAs : rA.size = G * sz := by
    rw [← Array.length_toList, hrA']
    simp only [List.length_append, List.length_take, List.length_drop, Array.length_toList]
    omega
  obtain ⟨Z, hZ⟩ := splice_grow ROW.toList xs xc rA.toList o1 (by omega) (by have : ROW.toList.length = ROW.size := Array.length_toList; omega) hrA'
  have hg0 : (w.alloc (.cells ROW T)).drew.heap[w.heap.size]? = some (.cells ROW T (0, 0)) := heap_alloc_new w _
  have hg1 : (((w.alloc (.cells ROW T)).drew.setRow w.heap.size rA).drew).heap[w.heap.size]? = some (.cells rA T (0, 0)) := setRow_heap _ _ ROW rA _ _ hg0
  subst hw
  refine ⟨⟨by rw [List.length_append, hxs, hxc, Nat.add_mul]; omega, .inr ⟨w.heap.size, G, rB, rfl, hB, setRow_heap _ _ rA rB _ _ hg1, hn, hm, ?_, ?_⟩⟩, ⟨rfl, rfl, rfl, by simp, fun k hk _ => ?_⟩⟩
  · rw [hrB]
    simp only [List.size_toArray, List.length_append, List.length_take, List.length_drop, Array.length_toList, hrAs]
    omega
  · rw [hrB, hZ]
    exact List.take_left' (by rw [List.length_append, hxs, hxc, Nat.add_mul]; omega)
  · have hk' : k ≠ w.heap.size := by omega
    rw [setRow_other _ _ k _ hk']
    show ((w.alloc (.cells ROW T)).drew.setRow w.heap.size rA).heap[k]? = _
    rw [setRow_other _ _ k _ hk']
    exact Below.heap_alloc w _ k hk

def prepK (conf : Bool) : Int := if conf then 3 else 2
def prepS (l : List Seg) (x : UInt32) (conf : Bool) : List Seg × Int :=
  if chk l = true ∧ x ≠ 0 then
    match l with
    | s :: t => if s.kind = prepK conf ∧ s.as.length < 255 then (⟨s.kind, x :: s.as⟩ :: t, 0) else if 16 ≤ t.length + 1 then ([], 3) else (⟨prepK conf, [x]⟩ :: s :: t, 0)
    | [] => ([⟨prepK conf, [x]⟩], 0)
  else ([], 2)
theorem prepS_len (l : List Seg) (x : UInt32) (conf : Bool) : (prepS l x conf).1.length ≤ l.length + 1 := by
  unfold prepS
  split
  · split
    · split
      · simp
      · split <;> simp
    · simp
  · simp

/-- The first segment's cells, and its own row. -/
theorem own_headB {w : World} {B g n c hb : Nat} {s : Seg} {ls : List (Seg × Nat)} (h : Own ESegB 24 w B (.slice (some ⟨g, 0, none⟩) n c) ((s, hb) :: ls)) :
    ∃ u, w.cell? ⟨g, 0, none⟩ = some (.int .i64 s.kind) ∧ w.cell? ⟨g, 1, none⟩ = some u ∧ -9223372036854775808 ≤ s.kind ∧ s.kind ≤ 9223372036854775807 ∧ s.as.length ≤ 16777216 ∧ Own EU32 26 w B u s.as ∧ ∀ k, u.ownBlock = some k → k ≠ g ∧ k < w.heap.size ∧ k = hb := by
  obtain ⟨cs, ⟨c1, d1, rfl, ⟨rfl, hk1, hk2⟩, u, rfl, hm, ho, hS⟩, hc⟩ := h.at0 0 (by simp)
  refine ⟨u, ?_, ?_, hk1, hk2, hm, own_flat.2 ⟨⟨ho.1, ?_⟩, fun _ _ => trivial⟩, fun k hk => ⟨(hS k hk).1.2.2, (hS k hk).1.2.1, (hS k hk).2⟩⟩
  · have := hc 0 _ rfl
    simpa using this
  · have := hc 1 _ rfl
    simpa using this
  · rcases ho.2 with h1 | ⟨g', cap, cur, rfl, _, h3⟩
    · exact .inl h1
    · exact .inr ⟨g', cap, cur, rfl, (hS g' rfl).1.1, h3⟩
/-- .. and these changed. -/
theorem own_headSet {w w2 : World} {B g n c hb : Nat} {s : Seg} {x : UInt32} {ls : List (Seg × Nat)} {u v' : Value} (h : Own ESegB 24 w B (.slice (some ⟨g, 0, none⟩) n c) ((s, hb) :: ls)) (hp : (hb :: ls.map (·.2)).Pairwise (· < ·))
    (hu : ∀ k, u.ownBlock = some k → k ≠ g ∧ k < w.heap.size ∧ k = hb) (hg : w.grownBy w2 u.ownBlock) (hv : Own EU32 26 w2 B v' (x :: s.as)) (hm : s.as.length < 16777216) (hat : v'.ownBlock = u.ownBlock ∨ ∃ k, v'.ownBlock = some k ∧ w.heap.size ≤ k) :
    Own ESegW 24 (w2.setCell ⟨g, 1, none⟩ v') B (.slice (some ⟨g, 0, none⟩) n c) (⟨s.kind, x :: s.as⟩ :: ls.map (·.1)) := by
  have hgl := h.blockLt
  have hn := h.lenEq
  obtain ⟨xs, ho, hr⟩ := h
  have hgu : some g ≠ u.ownBlock := fun he => (hu g he.symm).1 rfl
  have ho2 : w2.ownsRow B 24 ESegB.sz (.slice (some ⟨g, 0, none⟩) n c) n xs := by
    subst hn
    refine ⟨ho.1, ?_⟩
    rcases ho.2 with ⟨h1, _⟩ | ⟨g', cap, cur, h1, h2, h3, h4⟩
    · cases h1
    · injection h1 with e1 e2 e3
      injection e1 with e1
      injection e1 with e1
      subst e1 e3
      exact .inr ⟨g, c, cur, rfl, h2, by rw [hg.block g hgl.2 hgu]; exact h3, h4⟩
  obtain ⟨o3, _⟩ := ho2.stored 1 v'
  have hv9 : ∀ k, v'.ownBlock = some k → k ≠ g := fun k hk he => by
    rcases hat with ha | ⟨k', hk', hle⟩
    · rw [ha] at hk
      exact (hu k hk).1 he
    · rw [hk'] at hk
      injection hk with hk
      omega
  have hxl : xs.length = n * 2 := by rw [ho.1, hn]; rfl
  refine ⟨xs.set 1 v', ?_, fun k y hy => ?_⟩
  · have : (⟨s.kind, x :: s.as⟩ :: ls.map (·.1)).length = n := by rw [hn]; simp
    rw [this]
    exact o3
  · have hbk : ∀ b, b ≠ g → (w2.setCell ⟨g, 1, none⟩ v').heap[b]? = w2.heap[b]? := fun b hb => Below.heap_setCell _ _ _ _ (by exact hb)
    cases k with
    | zero =>
      simp at hy
      subst hy
      obtain ⟨cs, ⟨c1, d1, rfl, ⟨rfl, hk1, hk2⟩, _⟩, hc⟩ := hr 0 _ rfl
      have hw9 : rowU.R w2 (fun b => B ≤ b ∧ b < w2.heap.size ∧ b ≠ g) (x :: s.as) [v'] := ⟨v', rfl, by simp; omega, hv.rowU, fun k hk => ⟨(hv.lt k hk).1, (hv.lt k hk).2, hv9 k hk⟩⟩
      have hw8 := rowU.weak (rowU.frame (w' := w2.setCell ⟨g, 1, none⟩ v') (fun b hb => hbk b hb.2.2) hw9)
      refine ⟨[.int .i64 s.kind, v'], ⟨[.int .i64 s.kind], [v'], rfl, ⟨rfl, hk1, hk2⟩, EU32.sliceW.mono (fun b hb => ⟨hb.1, by simpa [World.setCell] using hb.2.1, fun he => hb.2.2 (Option.some.inj he)⟩) hw8⟩, fun j q hq => ?_⟩
      match j, hq with
      | 0, hq =>
        simp at hq
        subst hq
        have := hc 0 _ rfl
        simp only [Nat.zero_mul, Nat.zero_add] at this ⊢
        rw [List.getElem?_set_ne (by omega)]
        exact this
      | 1, hq =>
        simp at hq
        subst hq
        have hn1 : 0 < n := by rw [hn]; simp
        simp only [Nat.zero_mul, Nat.zero_add]
        rw [List.getElem?_set_self (by omega)]
    | succ k =>
      rw [List.getElem?_cons_succ, List.getElem?_map] at hy
      cases hk : ls[k]? with
      | none => rw [hk] at hy; cases hy
      | some p =>
        rw [hk] at hy
        obtain rfl : p.1 = y := Option.some.inj hy
        obtain ⟨cs, h3, h4⟩ := hr (k + 1) p (by rw [List.getElem?_cons_succ]; exact hk)
        have hlt : hb < p.2 := (List.pairwise_cons.1 hp).1 p.2 (List.mem_map.2 ⟨p, List.mem_of_getElem? hk, rfl⟩)
        have h5 : ESegO.R w (fun b => B ≤ b ∧ b < w.heap.size ∧ b ≠ g ∧ some b ≠ u.ownBlock) p.1 cs := ESegO.mono (fun b hb2 => ⟨hb2.1.1, hb2.1.2.1, fun he => hb2.1.2.2 (by rw [he]; rfl), fun he => by
          have := (hu b he.symm).2.2
          have := hb2.2
          omega⟩) h3
        have h6 := ESegO.frame (w' := w2.setCell ⟨g, 1, none⟩ v') (fun b hb2 => (hbk b hb2.2.2.1).trans (hg.block b hb2.2.1 hb2.2.2.2)) h5
        have hsz : w.heap.size ≤ w2.heap.size := hg.size
        refine ⟨cs, ESegW.mono (fun b hb2 => ⟨hb2.1, by have := hb2.2.1; simp [World.setCell]; omega, fun he => hb2.2.2.1 (Option.some.inj he)⟩) (ESegO.weak h6), fun j q hq => ?_⟩
        have h7 := h4 j q hq
        have hj : j < 2 := by
          have := ESegB.size h3
          have := (List.getElem?_eq_some_iff.1 hq).1
          have h9 : ESegB.sz = 2 := rfl
          omega
        have h9 : ESegB.sz = 2 := rfl
        have h10 : ESegW.sz = 2 := rfl
        rw [h9] at h7
        rw [h10, List.getElem?_set_ne (by omega)]
        exact h7
/-- A new segment of one AS. -/
theorem segNew' {w : World} {K : Int} {x : UInt32} {T : TypeId} {cs : Array Value} (h1 : -9223372036854775808 ≤ K) (h2 : K ≤ 9223372036854775807) :
    ESegW.R ((w.alloc (.cells #[.int .u32 (x.toNat : Int)] 26)).alloc (.cells cs T)) (fun b => b = w.heap.size) ⟨K, [x]⟩ [.int .i64 K, .slice (some ⟨w.heap.size, 0, none⟩) 1 1] := by
  have hr : rowU.R (w.alloc (.cells #[.int .u32 (x.toNat : Int)] 26)) (fun b => b = w.heap.size) [x] [.slice (some ⟨w.heap.size, 0, none⟩) 1 1] := by
    refine ⟨_, rfl, by simp, ⟨rfl, .inr ⟨w.heap.size, 1, #[.int .u32 (x.toNat : Int)], rfl, Nat.zero_le _, heap_alloc_new w _, by simp, by unfold maxLen; omega, rfl, rfl⟩⟩, fun g hg => (Option.some.inj hg).symm⟩
  have hr2 := rowU.weak (rowU.frame (w' := (w.alloc (.cells #[.int .u32 (x.toNat : Int)] 26)).alloc (.cells cs T)) (fun b hb => Below.heap_alloc _ _ _ (by rw [hb]; simp)) hr)
  exact ⟨[.int .i64 K], _, rfl, ⟨rfl, h1, h2⟩, hr2⟩
theorem segNew {w : World} {B : Nat} {v : Value} {K : Int} {x : UInt32} {T : TypeId} {cs : Array Value} (hB : B ≤ w.heap.size) (hv : ∀ k, v.ownBlock = some k → k < w.heap.size) (h1 : -9223372036854775808 ≤ K) (h2 : K ≤ 9223372036854775807) :
    ESegW.R ((w.alloc (.cells #[.int .u32 (x.toNat : Int)] 26)).alloc (.cells cs T)) (fun b => B ≤ b ∧ b < ((w.alloc (.cells #[.int .u32 (x.toNat : Int)] 26)).alloc (.cells cs T)).heap.size ∧ some b ≠ v.ownBlock) ⟨K, [x]⟩ [.int .i64 K, .slice (some ⟨w.heap.size, 0, none⟩) 1 1] := by
  refine ESegW.mono (fun b hb => ⟨by omega, by simp; omega, fun he => ?_⟩) (segNew' h1 h2)
  have := hv b he.symm
  omega
end Go.Proofs.YtiappobhljiknaaGreatDoor
