/- A map that remembers answers: every entry holds what a function says at its key. Keys of two whole numbers. The keys of sets.Match's memory; the recursion of sets.Match, walked. The recursion of sets.Match, walked. The recursion of sets.Match, walked: every spot. Walks: may a pattern be (sets.atoms); does a pattern match (sets.Match). -/
import Derived.Test.YtoghdmoldcjedaaDoorBase
import Derived.Maps.OwnSet
import Derived.Maps.Views
import Derived.Maps.Range
import Derived.DeepKeys5
import Derived.Test.YtoghdmoldcjedaaDoorVA
import Derived.Test.YtoghdmoldcjedaaDoorPG
import Derived.Deep.Cut
import Derived.Test.YtoghdmoldcjedaaDoorLib
namespace Go.Proofs.YtoghdmoldcjedaaDoor
open Go.RowKit Go.Maps
set_option linter.unusedVariables false

open Classical in
theorem nodup_le {α : Type} : ∀ {a b : List α}, a.Pairwise (· ≠ ·) → (∀ x ∈ a, x ∈ b) → a.length ≤ b.length
  | [], b, _, _ => Nat.zero_le _
  | x :: a, b, hp, hs => by
    have hp' := List.pairwise_cons.1 hp
    have h1 : a.length ≤ (b.erase x).length := nodup_le hp'.2 fun y hy => by
      have hne : y ≠ x := fun e => hp'.1 y hy e.symm
      exact (List.mem_erase_of_ne hne).2 (hs y (List.mem_cons_of_mem _ hy))
    rw [List.length_erase_of_mem (hs x (List.mem_cons_self ..))] at h1
    have h2 := List.length_pos_of_mem (hs x (List.mem_cons_self ..))
    simp only [List.length_cons]
    omega
section
variable {P : Program} {k e t : TypeId} {w w' : World} {b : Nat}
theorem owns_tight {H : Type} {R : Value → Option (DataW H × List MemPlace)} {n : Nat} {D : DataW H} (h : w.ownsMap P k R b n D) : w.ownsMap P k R b (Maps.size D) D := by
  obtain ⟨es, clock, hb, F, hs, rfl⟩ := h
  exact ⟨es, clock, hb, F, by simp [Maps.size, length_sorted], rfl⟩
/-- Every entry of the map at block b: its key is that of an x of the list G, its element what f says at x. -/
def Memo {α : Type} (P : Program) (k e : TypeId) (key : α → Value) (G : List α) (f : α → Bool) (w : World) (b : Nat) : Prop :=
  ∃ D : DataW Unit, w.ownsMap P k (plainElem P e) b (Maps.size D) D ∧ ∀ l, Maps.has D l = true → ∃ x ∈ G, keyOf P k (key x) = some l ∧ ∀ z, D.atKey l z = .lit (.bool (f x))
variable {α : Type} {key : α → Value} {G : List α} {f : α → Bool}
theorem Memo.made : Memo P k e key G f (w.alloc (.map #[] 0)) w.heap.size :=
  ⟨.map [], World.ownsMap_made w P k _, fun l h => by simp [Maps.has] at h⟩
theorem Memo.lt (h : Memo P k e key G f w b) : b < w.heap.size := by
  obtain ⟨D, h, _⟩ := h
  exact h.lt
theorem Memo.kept {row : Option Nat} (h : Memo P k e key G f w b) (hg : w.grownBy w' row) (hne : some b ≠ row) : Memo P k e key G f w' b := by
  obtain ⟨D, h, hh⟩ := h
  exact ⟨D, h.kept hg hne, hh⟩
theorem Memo.frame (h : Memo P k e key G f w b) (hb : w'.heap[b]? = w.heap[b]?) : Memo P k e key G f w' b := by
  obtain ⟨D, ⟨es, clock, h1, F, hs, hD⟩, hh⟩ := h
  exact ⟨D, ⟨es, clock, hb.trans h1, F, hs, hD⟩, hh⟩
/-- 'v, ok := m[x]'. -/
theorem Memo.look (h : Memo P k e key G f w b) (K : Keyed P k) (ht : P.underlying t = some (.map k e)) (he : P.underlying e = some .bool) (hz : (zeroValue e).run P w = .ok (.bool false) w) {x : α} {kl : Lit} (hkey : keyOf P k (key x) = some kl) (hinj : ∀ y ∈ G, key y = key x → f y = f x) :
    ∃ v ok, (Instr.lookup t (.map (some b)) (key x) true).run P w = .ok (.tuple #[.bool v, .bool ok]) w ∧ (ok = true → v = f x) := by
  obtain ⟨D, h, hh⟩ := h
  obtain ⟨v, ps, hrun, hv⟩ := h.look_ok K ht hz (plainElem_bool he false) hkey
  have hvb : ∃ c, v = .bool c ∧ D.atKey kl (.lit (.bool false)) = .lit (.bool c) := by
    unfold plainElem at hv
    rw [he] at hv
    cases v <;> simp at hv
    exact ⟨_, rfl, hv.1.symm⟩
  obtain ⟨c, rfl, hc⟩ := hvb
  refine ⟨c, _, hrun, fun hok => ?_⟩
  obtain ⟨y, hy, hky, hat⟩ := hh kl hok
  have e1 : key y = key x := K.inj hky hkey
  rw [hat] at hc
  injection hc with hc
  injection hc with hc
  rw [← hc, hinj y hy e1]
theorem Memo.size (K : Keyed P k) {D : DataW Unit} (h : w.ownsMap P k (plainElem P e) b (Maps.size D) D) (hh : ∀ l, Maps.has D l = true → ∃ x ∈ G, keyOf P k (key x) = some l) : Maps.size D ≤ G.length := by
  obtain ⟨es, rfl, hp, hk⟩ := h.entries K
  have h1 : (es.map (·.1)).Pairwise (· ≠ ·) := by rw [List.pairwise_map]; exact hp
  have h2 : ∀ l ∈ es.map (·.1), l ∈ G.filterMap fun x => keyOf P k (key x) := fun l hl => by
    obtain ⟨p, hp', rfl⟩ := List.mem_map.1 hl
    have hs : p.1.sameKey p.1 = true := by
      have := hk p hp'
      cases h : p.1 <;> simp [h, WideAt.IsKeyLit, Lit.sameKey] at this ⊢
    obtain ⟨x, hx, hkx⟩ := hh p.1 (by rw [has_eq]; exact List.any_eq_true.2 ⟨p, hp', hs⟩)
    exact List.mem_filterMap.2 ⟨x, hx, hkx⟩
  have h3 := nodup_le h1 h2
  rw [List.length_map] at h3
  have h4 := List.length_filterMap_le (fun x => keyOf P k (key x)) G
  rw [size_eq]
  omega
/-- 'm[x] = f x'. -/
theorem Memo.store (h : Memo P k e key G f w b) (K : Keyed P k) (ht : P.underlying t = some (.map k e)) (he : P.underlying e = some .bool) {x : α} {kl : Lit} (hkey : keyOf P k (key x) = some kl) (hx : x ∈ G) (hG : G.length < maxLen) :
    ∃ w', (Instr.mapUpdate t (.map (some b)) (key x) (.bool (f x))).run P w = .ok () w' ∧ Memo P k e key G f w' b ∧ w.grownBy w' (some b) := by
  obtain ⟨D, h, hh⟩ := h
  have hsz := Memo.size K h fun l hl => let ⟨x, hx, hk, _⟩ := hh l hl; ⟨x, hx, hk⟩
  obtain ⟨w', hrun, hown, hg⟩ := h.update K ht (Nat.lt_of_le_of_lt hsz hG) hkey (plainElem_bool he (f x))
  refine ⟨w', hrun, ⟨D.put kl (.lit (.bool (f x))), owns_tight hown, fun l hl => ?_⟩, hg⟩
  by_cases hl2 : l = kl
  · subst hl2
    exact ⟨x, hx, hkey, fun z => atKey_put_same h.isMap (K.key hkey) _ _⟩
  · rw [has_put_other hl2] at hl
    obtain ⟨y, hy, hk, hat⟩ := hh l hl
    exact ⟨y, hy, hk, fun z => (atKey_put_other hl2 _ _).trans (hat z)⟩
end
/-- A class of worlds, each as a value with its proof: for regions that draw. -/
structure Sub (C : World → Prop) where
  w : World
  h : C w
theorem wp_region_class {P : Program} {id : Nat} {Q : Exit → Act → World → Prop} {a : Act} {w : World} {l : List Oper} (C : World → Prop) (hm : P.follows .mixedOrders = true) (hB : Region.lexB .any l.toArray = true) (hw : ∀ n, C (w.drewN n))
    (h : wpQuiet P l.toArray (fun w' => ∃ p : Sub C, w' = p.w) (fun a' => ∀ w', (∃ p : Sub C, w' = p.w) → Q .normal a' w') l a) : (Code.region id l.toArray true).wp P Q a w :=
  wp_region_quiet (C := fun w' => ∃ p : Sub C, w' = p.w) hm hB ⟨⟨_, hw 1⟩, rfl⟩ (by simpa using h)
open Go.RowKit Go.Maps

theorem laidOutV : laidOutB Tryd.prog = true := by kernel_rfl
theorem spot_wide : (match Tryd.prog.underlying 57 with | some (.array _ _) | some (.struct _) => true | _ => false) = true := by rw [Tryd.underlying57]
set_option maxRecDepth 100000 in
theorem spot_law : Keyed Tryd.prog 57 := Keyed.of_law (deep_law_laid laidOutV (m := 2) (by omega) (of_decide_eq_true (by kernel_rfl)) (by kernel_rfl) spot_wide)
theorem spot_cells : Tryd.prog.cellsOf 57 = 2 := by kernel_rfl
theorem spot_cellsI : Tryd.prog.cellsOf 3 = 1 := by kernel_rfl
set_option maxRecDepth 100000 in
theorem spot_types : ∃ n, Tryd.prog.types.size + 1 = n + 2 := ⟨Tryd.prog.types.size - 1, by have : 1 ≤ Tryd.prog.types.size := of_decide_eq_true (by kernel_rfl); omega⟩
def spotV (x : Nat × Nat) : Value := .agg #[.int .i64 (x.1 : Int), .int .i64 (x.2 : Int)]
set_option maxRecDepth 100000 in
theorem spot_key (x : Nat × Nat) (h1 : x.1 ≤ 4294967296) (h2 : x.2 ≤ 4294967296) : keyOf Tryd.prog 57 (spotV x) = some (.string (keyBytes [.int .i64 (x.1 : Int), .int .i64 (x.2 : Int)])) := by
  have hk : Tryd.prog.keyType 57 = true := by kernel_rfl
  have hw1 : (Lit.int .i64 (x.1 : Int)).wf = true := by simp [Lit.wf, IntKind.min, IntKind.max, IntKind.signed, IntKind.bits]; omega
  have hw2 : (Lit.int .i64 (x.2 : Int)).wf = true := by simp [Lit.wf, IntKind.min, IntKind.max, IntKind.signed, IntKind.bits]; omega
  obtain ⟨n, hn⟩ := spot_types
  unfold keyOf spotV
  rw [Tryd.underlying57]
  simp only [hk, Value.formed, Tryd.underlying57, spot_cells, hn, Value.cells]
  simp [Program.keyLits, Tryd.underlying57, Tryd.underlying3, spot_cells, spot_cellsI, hw1, hw2]
theorem spot_inj {x y : Nat × Nat} (h : spotV x = spotV y) : x = y := by
  unfold spotV at h
  simp at h
  exact Prod.ext (by omega) (by omega)
open Go.RowKit Go.Maps

/-- What sets.Match's function answers at a spot. -/
def matF (p : List Atm) (l : List UInt32) (x : Nat × Nat) : Bool := matS (p.drop x.1) (l.drop x.2)
def spots (n m : Nat) : List (Nat × Nat) := (List.range (n + 1)).flatMap fun i => (List.range (m + 1)).map fun j => (i, j)
theorem spots_mem {n m i j : Nat} (hi : i ≤ n) (hj : j ≤ m) : (i, j) ∈ spots n m := by
  unfold spots
  exact List.mem_flatMap.2 ⟨i, List.mem_range.2 (by omega), List.mem_map.2 ⟨j, List.mem_range.2 (by omega), rfl⟩⟩
theorem spots_bd {n m : Nat} {x : Nat × Nat} (h : x ∈ spots n m) : x.1 ≤ n ∧ x.2 ≤ m := by
  obtain ⟨i, hi, h⟩ := List.mem_flatMap.1 h
  obtain ⟨j, hj, rfl⟩ := List.mem_map.1 h
  rw [List.mem_range] at hi hj
  exact ⟨by show i ≤ n; omega, by show j ≤ m; omega⟩
theorem sum_const (c : Nat) : ∀ k, ((List.range k).map fun _ => c).sum = k * c
  | 0 => by simp
  | k + 1 => by rw [List.range_succ, List.map_append, List.sum_append, sum_const c k, Nat.add_mul]; simp
theorem spots_len (n m : Nat) : (spots n m).length = (n + 1) * (m + 1) := by
  unfold spots
  rw [List.length_flatMap]
  simp only [List.length_map, List.length_range]
  exact sum_const _ _
theorem matF_end (p : List Atm) (l : List UInt32) (i j : Nat) (hi : i = p.length) : matF p l (i, j) = decide (l.length ≤ j) := by
  show matS (p.drop i) (l.drop j) = _
  rw [hi, List.drop_length, matS_end, List.length_drop]
  exact decide_eq_decide.2 (by omega)
theorem matF_many (p : List Atm) (l : List UInt32) (i j : Nat) (hi : i < p.length) (h : p[i].1 = 3) : matF p l (i, j) = (matF p l (i + 1, j) || (decide (j < l.length) && matF p l (i, j + 1))) := by
  show matS (p.drop i) (l.drop j) = (matS (p.drop (i + 1)) (l.drop j) || (_ && matS (p.drop i) (l.drop (j + 1))))
  rw [List.drop_eq_getElem_cons hi, mat_many h, List.tail_drop]
  congr 2
  exact decide_eq_decide.2 (by rw [ne_eq, List.drop_eq_nil_iff]; omega)
theorem matF_any (p : List Atm) (l : List UInt32) (i j : Nat) (hi : i < p.length) (h : p[i].1 = 2) : matF p l (i, j) = (decide (j < l.length) && matF p l (i + 1, j + 1)) := by
  show matS (p.drop i) (l.drop j) = (_ && matS (p.drop (i + 1)) (l.drop (j + 1)))
  rw [List.drop_eq_getElem_cons hi, matS_any _ _ _ h]
  by_cases hj : j < l.length
  · rw [List.drop_eq_getElem_cons hj, decide_eq_true hj]; rfl
  · rw [List.drop_eq_nil_of_le (by omega), decide_eq_false hj]; rfl
theorem matF_as (p : List Atm) (l : List UInt32) (i j : Nat) (hi : i < p.length) (h3 : p[i].1 ≠ 3) (h2 : p[i].1 ≠ 2) (hj : j < l.length) : matF p l (i, j) = (decide (l[j] = p[i].2) && matF p l (i + 1, j + 1)) := by
  show matS (p.drop i) (l.drop j) = (_ && matS (p.drop (i + 1)) (l.drop (j + 1)))
  rw [List.drop_eq_getElem_cons hi, matS_as _ _ _ h3 h2, List.drop_eq_getElem_cons hj]
theorem matF_no (p : List Atm) (l : List UInt32) (i j : Nat) (hi : i < p.length) (h3 : p[i].1 ≠ 3) (h2 : p[i].1 ≠ 2) (hj : l.length ≤ j) : matF p l (i, j) = false := by
  show matS (p.drop i) (l.drop j) = false
  rw [List.drop_eq_getElem_cons hi, matS_as _ _ _ h3 h2, List.drop_eq_nil_of_le hj]

abbrev MemoM (p : List Atm) (l : List UInt32) (w : World) (b : Nat) : Prop := Memo Tryd.prog 57 4 spotV (spots p.length l.length) (matF p l) w b
/-- What the function sees: the variables that it holds, the pattern, the list; the map remembers answers. -/
structure MatG (p : List Atm) (l : List UInt32) (gp gl gk gf b : Nat) (ap al : Option Addr) (cp cl : Nat) (w : World) : Prop where
  pat : w.cell? ⟨gp, 0, none⟩ = some (.slice ap p.length cp)
  lst : w.cell? ⟨gl, 0, none⟩ = some (.slice al l.length cl)
  known : w.cell? ⟨gk, 0, none⟩ = some (.map (some b))
  fn : w.cell? ⟨gf, 0, none⟩ = some (.func (.func 15) #[] #[.pointer (some ⟨gp, 0, none⟩), .pointer (some ⟨gl, 0, none⟩), .pointer (some ⟨gk, 0, none⟩), .pointer (some ⟨gf, 0, none⟩)])
  np : gp ≠ b
  nl : gl ≠ b
  nk : gk ≠ b
  nf : gf ≠ b
  slp : Sl EAtm w (fun x => x < w.heap.size ∧ x ≠ b) ap p
  sll : Sl EU32 w (fun x => x < w.heap.size ∧ x ≠ b) al l
  memo : MemoM p l w b
theorem grown_cell {w0 w : World} {b g o : Nat} {v : Value} (h : w0.grownBy w (some b)) (hg : g ≠ b) (hc : w0.cell? ⟨g, o, none⟩ = some v) : w.cell? ⟨g, o, none⟩ = some v :=
  (World.cell?_of_block (a := ⟨g, o, none⟩) (h.block g (World.block_lt_of_cell? w0 _ hc) (fun e => hg (Option.some.inj e)))).trans hc
theorem Sl.grown {α : Type} {E : Enc α} {w w' : World} {b : Nat} {a : Option Addr} {l : List α} (h : Sl E w (fun x => x < w.heap.size ∧ x ≠ b) a l) (hg : w.grownBy w' (some b)) : Sl E w' (fun x => x < w'.heap.size ∧ x ≠ b) a l :=
  (h.frame fun x hx => hg.block x hx.1 (fun e => hx.2 (Option.some.inj e))).mono fun x hx => ⟨Nat.lt_of_lt_of_le hx.1 hg.size, hx.2⟩
section
variable {p : List Atm} {l : List UInt32} {gp gl gk gf b : Nat} {ap al : Option Addr} {cp cl : Nat} {w w' : World}
theorem MatG.go (h : MatG p l gp gl gk gf b ap al cp cl w) (hg : w.grownBy w' (some b)) (hm : MemoM p l w' b) : MatG p l gp gl gk gf b ap al cp cl w' :=
  ⟨grown_cell hg h.np h.pat, grown_cell hg h.nl h.lst, grown_cell hg h.nk h.known, grown_cell hg h.nf h.fn, h.np, h.nl, h.nk, h.nf, h.slp.grown hg, h.sll.grown hg, hm⟩
theorem MatG.alloc (h : MatG p l gp gl gk gf b ap al cp cl w) (o : Obj) : MatG p l gp gl gk gf b ap al cp cl (w.alloc o) :=
  h.go (World.grownBy_alloc w o (some b)) (h.memo.kept (World.grownBy_alloc w o none) (by simp))
theorem grown_drewN (w : World) (n : Nat) (row : Option Nat) : w.grownBy (w.drewN n) row := ⟨rfl, rfl, rfl, Nat.le_refl _, fun _ _ _ => rfl⟩
theorem MatG.drewN (h : MatG p l gp gl gk gf b ap al cp cl w) (n : Nat) : MatG p l gp gl gk gf b ap al cp cl (w.drewN n) :=
  h.go (grown_drewN w n _) (h.memo.frame rfl)
end
/-- How the function ends. -/
def MatE (p : List Atm) (l : List UInt32) (gp gl gk gf b : Nat) (ap al : Option Addr) (cp cl : Nat) (i j : Nat) (w : World) (e : Ending) (w' : World) : Prop :=
  e = .returned (.bool (matF p l (i, j))) ∧ w.grownBy w' (some b) ∧ MatG p l gp gl gk gf b ap al cp cl w'

theorem memo_store {p : List Atm} {l : List UInt32} {b : Nat} {w : World} (h : MemoM p l w b) (hp : p.length ≤ 64) (hl : l.length ≤ 16777216) {i j : Nat} (hi : i ≤ p.length) (hj : j ≤ l.length) {v : Bool} (hv : matF p l (i, j) = v) :
    ∃ w', (Instr.mapUpdate 54 (.map (some b)) (.agg #[.int .i64 (i : Int), .int .i64 (j : Int)]) (.bool v)).run Tryd.prog w = .ok () w' ∧ MemoM p l w' b ∧ w.grownBy w' (some b) := by
  have hG : (spots p.length l.length).length < maxLen := by
    rw [spots_len]
    have : (p.length + 1) * (l.length + 1) ≤ 65 * 16777217 := Nat.mul_le_mul (by omega) (by omega)
    unfold maxLen
    omega
  have := Memo.store h spot_law Tryd.underlying54 Tryd.underlying4 (spot_key (i, j) (by show i ≤ _; omega) (by show j ≤ _; omega)) (spots_mem hi hj) hG
  rw [hv] at this
  exact this
set_option maxRecDepth 100000 in
theorem zeroBool (w : World) : (zeroValue 4).run Tryd.prog w = .ok (.bool false) w := by kernel_rfl
set_option maxRecDepth 100000 in
theorem memo_look {p : List Atm} {l : List UInt32} {b : Nat} {w : World} (h : MemoM p l w b) (hp : p.length ≤ 64) (hl : l.length ≤ 16777216) {i j : Nat} (hi : i ≤ p.length) (hj : j ≤ l.length) :
    ∃ v ok, (Instr.lookup 54 (.map (some b)) (.agg #[.int .i64 (i : Int), .int .i64 (j : Int)]) true).run Tryd.prog w = .ok (.tuple #[.bool v, .bool ok]) w ∧ (ok = true → v = matF p l (i, j)) :=
  Memo.look h spot_law Tryd.underlying54 Tryd.underlying4 (zeroBool _) (spot_key (i, j) (by show i ≤ _; omega) (by show j ≤ _; omega)) (fun y _ hy => by rw [spot_inj hy])

set_option maxRecDepth 20000 in
set_option maxHeartbeats 2000000 in
theorem From_end {p : List Atm} {l : List UInt32} {gp gl gk gf b : Nat} {ap al : Option Addr} {cp cl : Nat} (hp : p.length ≤ 64) (hl : l.length ≤ 16777216) (j : Nat) (w : World) (hj : j ≤ l.length) (hG : MatG p l gp gl gk gf b ap al cp cl w) :
    Calls Tryd.prog 15 #[.agg #[.int .i64 (p.length : Int), .int .i64 (j : Int)], .pointer (some ⟨gp, 0, none⟩), .pointer (some ⟨gl, 0, none⟩), .pointer (some ⟨gk, 0, none⟩), .pointer (some ⟨gf, 0, none⟩)] w (MatE p l gp gl gk gf b ap al cp cl p.length j w) := by
  have mixed : Tryd.prog.follows Departure.mixedOrders = true := by kernel_rfl
  have hr := matF_end p l p.length j rfl
  have hd : ((j : Int) == (l.length : Int)) = decide (l.length ≤ j) := by
    rw [Bool.eq_iff_iff, beq_iff_eq, decide_eq_true_eq]
    omega
  rw [← hr] at hd
  unfold MatE
  generalize matF p l (p.length, j) = r at hr hd ⊢
  replace hr := hide hr
  go_enter Tryd.func15, Tryd.ntmps15
  have S := Blk.new w 57 #[.int .i64 (p.length : Int), .int .i64 (j : Int)]
  have E := World.grownBy_alloc w (Obj.cells #[.int .i64 (p.length : Int), .int .i64 (j : Int)] 57) (some b)
  replace hG := hG.alloc (Obj.cells #[.int .i64 (p.length : Int), .int .i64 (j : Int)] 57)
  generalize hW1 : w.alloc (Obj.cells #[.int .i64 (p.length : Int), .int .i64 (j : Int)] 57) = W1 at S E hG
  generalize hs : w.heap.size = s at S
  have c1 := hG.pat
  have c2 := hG.lst
  have c3 := S.cell 0
  have c4 := S.cell 1
  replace S := hide S
  replace E := hide E
  replace hG := hide hG
  go_wp2
  go_ret
  exact ⟨rfl, E.out, hG.out⟩
open Go.RowKit Go.Maps

set_option maxRecDepth 20000 in
set_option maxHeartbeats 4000000 in
theorem From_any {p : List Atm} {l : List UInt32} {gp gl gk gf b : Nat} {ap al : Option Addr} {cp cl : Nat} (hp : p.length ≤ 64) (hl : l.length ≤ 16777216) : ∀ (k i j : Nat) (w : World), (p.length - i) + (l.length - j) ≤ k → i ≤ p.length → j ≤ l.length → MatG p l gp gl gk gf b ap al cp cl w →
    Calls Tryd.prog 15 #[.agg #[.int .i64 (i : Int), .int .i64 (j : Int)], .pointer (some ⟨gp, 0, none⟩), .pointer (some ⟨gl, 0, none⟩), .pointer (some ⟨gk, 0, none⟩), .pointer (some ⟨gf, 0, none⟩)] w (MatE p l gp gl gk gf b ap al cp cl i j w) := by
  intro k
  induction k with
  | zero =>
    intro i j w hk hi hj hG
    obtain rfl : i = p.length := by omega
    exact From_end hp hl j w hj hG
  | succ k ih =>
    intro i j w hk hi hj hG
    by_cases hie : i = p.length
    · subst hie
      exact From_end hp hl j w hj hG
    have hlt : i < p.length := by omega
    have mixed : Tryd.prog.follows Departure.mixedOrders = true := by kernel_rfl
    have ci : ((i + 1 : Nat) : Int) = (i : Int) + 1 := by omega
    have cj : ((j + 1 : Nat) : Int) = (j : Int) + 1 := by omega
    have q10 := fun W (h : MatG p l gp gl gk gf b ap al cp cl W) => ih (i + 1) j W (by omega) (by omega) hj h
    have q01 := fun (hjl : j < l.length) W (h : MatG p l gp gl gk gf b ap al cp cl W) => ih i (j + 1) W (by omega) hi (by omega) h
    have q11 := fun (hjl : j < l.length) W (h : MatG p l gp gl gk gf b ap al cp cl W) => ih (i + 1) (j + 1) W (by omega) (by omega) (by omega) h
    simp only [ci, cj] at q10 q01 q11
    clear ih ci cj
    have hst := fun W (h : MatG p l gp gl gk gf b ap al cp cl W) v (hv : matF p l (i, j) = v) => memo_store h.memo hp hl hi hj hv
    have e1 : ((i : Int) == (p.length : Int)) = false := by
      rw [beq_eq_false_iff_ne]
      omega
    unfold MatE at q10 q01 q11 ⊢
    generalize hr : matF p l (i, j) = r at *
    replace q10 := hide q10
    replace q01 := hide q01
    replace q11 := hide q11
    replace hst := hide hst
    replace hr := hide hr
    go_enter Tryd.func15, Tryd.ntmps15
    have S := Blk.new w 57 #[.int .i64 (i : Int), .int .i64 (j : Int)]
    have E := World.grownBy_alloc w (Obj.cells #[.int .i64 (i : Int), .int .i64 (j : Int)] 57) (some b)
    have hsb : w.heap.size ≠ b := fun e => by have := hG.memo.lt; omega
    replace hG := hG.alloc (Obj.cells #[.int .i64 (i : Int), .int .i64 (j : Int)] 57)
    generalize hW1 : w.alloc (Obj.cells #[.int .i64 (i : Int), .int .i64 (j : Int)] 57) = W1 at S E hG
    generalize hs : w.heap.size = s at S hsb
    have c1 := hG.pat
    have c2 := hG.lst
    have c3 := hG.known
    have c4 := hG.fn
    obtain ⟨v, ok, hlk, hok⟩ := memo_look hG.memo hp hl hi hj
    obtain ⟨bp, op, hap, hbp, hkd, x0, x1⟩ := EAtm.at hG.slp i hlt
    subst hap
    replace S := hide S
    replace E := hide E
    replace hG := hide hG
    replace hsb := hide hsb
    replace hbp := hide hbp
    have S_0 : W1.cell? ⟨s, 0, none⟩ = some (.int .i64 (i : Int)) := S.out.cell 0
    have S_1 : W1.cell? ⟨s, 1, none⟩ = some (.int .i64 (j : Int)) := S.out.cell 1
    cases ok with
    | true =>
      have hv : v = r := (hok rfl).trans hr.out
      subst hv
      clear hok
      go_wp2_with fail
      go_ret
      exact ⟨rfl, E.out, hG.out⟩
    | false =>
      clear hok
      have A := Blk.new W1 52 #[.int .i64 p[i].1, .int .u32 (p[i].2.toNat : Int)]
      replace S := S.out.alloc (Obj.cells #[.int .i64 p[i].1, .int .u32 (p[i].2.toNat : Int)] 52)
      replace E := E.out.trans (World.grownBy_alloc W1 (Obj.cells #[.int .i64 p[i].1, .int .u32 (p[i].2.toNat : Int)] 52) (some b))
      have hab : W1.heap.size ≠ b := fun e => by have := hG.out.memo.lt; omega
      replace hG := hG.out.alloc (Obj.cells #[.int .i64 p[i].1, .int .u32 (p[i].2.toNat : Int)] 52)
      generalize hW2 : W1.alloc (Obj.cells #[.int .i64 p[i].1, .int .u32 (p[i].2.toNat : Int)] 52) = W2 at S E hG A
      generalize hg2 : W1.heap.size = g2 at A hab
      have d1 := hG.pat
      have d2 := hG.lst
      have d3 := hG.known
      have d4 := hG.fn
      replace S := hide S
      replace E := hide E
      replace hG := hide hG
      replace A := hide A
      replace hab := hide hab
      have A_0 : W2.cell? ⟨g2, 0, none⟩ = some (.int .i64 p[i].1) := A.out.cell 0
      have A_1 : W2.cell? ⟨g2, 1, none⟩ = some (.int .u32 (p[i].2.toNat : Int)) := A.out.cell 1
      have T_0 : W2.cell? ⟨s, 0, none⟩ = some (.int .i64 (i : Int)) := S.out.cell 0
      have T_1 : W2.cell? ⟨s, 1, none⟩ = some (.int .i64 (j : Int)) := S.out.cell 1
      by_cases hjl : j < l.length
      · have e2 : decide ((j : Int) < (l.length : Int)) = true := by rw [decide_eq_true_eq]; omega
        replace q01 := hide (q01.out hjl)
        replace q11 := hide (q11.out hjl)
        have hF3 := matF_many p l i j hlt
        have hF2 := matF_any p l i j hlt
        have hF1 := fun h3 h2 => matF_as p l i j hlt h3 h2 hjl
        rw [hr.out, decide_eq_true hjl] at hF3 hF2
        rw [hr.out] at hF1
        clear hr
        replace hF3 := hide hF3
        replace hF2 := hide hF2
        replace hF1 := hide hF1
        go_upto_region 9 with fail
        clear hW2 hg2 x0 x1 hW1 hs hlk S_0 S_1 c1 c2 c3 c4
        by_cases h3 : p[i].1 = 3
        · replace hF3 := hF3.out h3
          have e3 : (p[i].1 == 3) = true := by rw [beq_iff_eq]; exact h3
          clear hF2 hF1 h3
          generalize matF p l (i + 1, j) = r1 at q10 hF3
          go_wp2_with fail
          refine (q10.out _ hG.out).mono ?_
          rintro e W3 ⟨rfl, hgo, hGo⟩
          clear hG d1 d2 d3 d4 T_0 T_1 A_0 A_1
          have hG := hide hGo
          replace S := hide (S.out.grown hgo (fun e => hsb.out (Option.some.inj e)))
          replace A := hide (A.out.grown hgo (fun e => hab.out (Option.some.inj e)))
          replace E := hide (E.out.trans hgo)
          clear hgo hGo
          have d1 := hG.out.pat
          have d2 := hG.out.lst
          have d3 := hG.out.known
          have d4 := hG.out.fn
          have T_0 : W3.cell? ⟨s, 0, none⟩ = some (.int .i64 (i : Int)) := S.out.cell 0
          have T_1 : W3.cell? ⟨s, 1, none⟩ = some (.int .i64 (j : Int)) := S.out.cell 1
          have A_0 : W3.cell? ⟨g2, 0, none⟩ = some (.int .i64 p[i].1) := A.out.cell 0
          have A_1 : W3.cell? ⟨g2, 1, none⟩ = some (.int .u32 (p[i].2.toNat : Int)) := A.out.cell 1
          cases r1 with
          | true =>
            obtain rfl : r = true := hF3
            obtain ⟨W9, hup, hM9, hg9⟩ := hst.out W3 hG.out _ rfl
            have hG9 := hide (hG.out.go hg9 hM9)
            have E9 := hide (E.out.trans hg9)
            clear hM9 hg9
            go_wp2
            go_ret
            exact ⟨rfl, E9.out, hG9.out⟩
          | false =>
            generalize matF p l (i, j + 1) = r2 at q01 hF3
            obtain rfl : r = r2 := by simpa using hF3
            clear hF3
            go_wp2_with fail
            refine (q01.out _ hG.out).mono ?_
            rintro e W4 ⟨rfl, hgo, hGo⟩
            clear hG d1 d2 d3 d4 T_0 T_1 A_0 A_1
            have hG := hide hGo
            replace S := hide (S.out.grown hgo (fun e => hsb.out (Option.some.inj e)))
            replace A := hide (A.out.grown hgo (fun e => hab.out (Option.some.inj e)))
            replace E := hide (E.out.trans hgo)
            clear hgo hGo
            have d1 := hG.out.pat
            have d2 := hG.out.lst
            have d3 := hG.out.known
            have d4 := hG.out.fn
            have T_0 : W4.cell? ⟨s, 0, none⟩ = some (.int .i64 (i : Int)) := S.out.cell 0
            have T_1 : W4.cell? ⟨s, 1, none⟩ = some (.int .i64 (j : Int)) := S.out.cell 1
            have A_0 : W4.cell? ⟨g2, 0, none⟩ = some (.int .i64 p[i].1) := A.out.cell 0
            have A_1 : W4.cell? ⟨g2, 1, none⟩ = some (.int .u32 (p[i].2.toNat : Int)) := A.out.cell 1
            obtain ⟨W9, hup, hM9, hg9⟩ := hst.out W4 hG.out _ rfl
            have hG9 := hide (hG.out.go hg9 hM9)
            have E9 := hide (E.out.trans hg9)
            clear hM9 hg9
            go_wp2
            go_ret
            exact ⟨rfl, E9.out, hG9.out⟩
        · have e3 : (p[i].1 == 3) = false := by rw [beq_eq_false_iff_ne]; exact h3
          by_cases h2 : p[i].1 = 2
          · replace hF2 := hF2.out h2
            have e4 : (p[i].1 == 2) = true := by rw [beq_iff_eq]; exact h2
            clear hF3 hF1 h3 h2
            generalize matF p l (i + 1, j + 1) = r2 at q11 hF2
            obtain rfl : r = r2 := by simpa using hF2
            clear hF2
            go_wp2_with fail
            refine (q11.out _ hG.out).mono ?_
            rintro e W3 ⟨rfl, hgo, hGo⟩
            clear hG d1 d2 d3 d4 T_0 T_1 A_0 A_1
            have hG := hide hGo
            replace S := hide (S.out.grown hgo (fun e => hsb.out (Option.some.inj e)))
            replace A := hide (A.out.grown hgo (fun e => hab.out (Option.some.inj e)))
            replace E := hide (E.out.trans hgo)
            clear hgo hGo
            have d1 := hG.out.pat
            have d2 := hG.out.lst
            have d3 := hG.out.known
            have d4 := hG.out.fn
            have T_0 : W3.cell? ⟨s, 0, none⟩ = some (.int .i64 (i : Int)) := S.out.cell 0
            have T_1 : W3.cell? ⟨s, 1, none⟩ = some (.int .i64 (j : Int)) := S.out.cell 1
            have A_0 : W3.cell? ⟨g2, 0, none⟩ = some (.int .i64 p[i].1) := A.out.cell 0
            have A_1 : W3.cell? ⟨g2, 1, none⟩ = some (.int .u32 (p[i].2.toNat : Int)) := A.out.cell 1
            obtain ⟨W9, hup, hM9, hg9⟩ := hst.out W3 hG.out _ rfl
            have hG9 := hide (hG.out.go hg9 hM9)
            have E9 := hide (E.out.trans hg9)
            clear hM9 hg9
            go_wp2
            go_ret
            exact ⟨rfl, E9.out, hG9.out⟩
          · have e4 : (p[i].1 == 2) = false := by rw [beq_eq_false_iff_ne]; exact h2
            replace hF1 := hF1.out h3 h2
            clear hF3 hF2 h3 h2
            obtain ⟨bl, ol, hal, hbl, y0⟩ := EU32.at hG.out.sll j hjl
            subst hal
            have ha2 := hbl.2
            clear hbl
            have e5 := u32_beq l[j] p[i].2
            by_cases he : l[j] = p[i].2
            · have e6 : ((l[j].toNat : Int) == (p[i].2.toNat : Int)) = true := by rw [e5, beq_iff_eq]; exact he
              rw [decide_eq_true he, Bool.true_and] at hF1
              clear e5 he
              generalize matF p l (i + 1, j + 1) = r2 at q11 hF1
              obtain rfl : r = r2 := hF1
              replace ha2 := hide ha2
              go_upto_region 10 with fail
              obtain ⟨C, hC⟩ : ∃ C : World → Prop, C = fun w' => W2.grownBy w' (some b) ∧ MatG p l gp gl gk gf b (some ⟨bp, op, none⟩) (some ⟨bl, ol, none⟩) cp cl w' := ⟨_, rfl⟩
              have hCi : ∀ w', C w' ↔ (W2.grownBy w' (some b) ∧ MatG p l gp gl gk gf b (some ⟨bp, op, none⟩) (some ⟨bl, ol, none⟩) cp cl w') := fun w' => by rw [hC]
              have hCq := fun q : Sub C => (hCi q.w).1 q.h
              have z2 : ∀ q : Sub C, q.w.cell? ⟨gl, 0, none⟩ = some (.slice (some ⟨bl, ol, none⟩) l.length cl) := fun q => (hCq q).2.lst
              have z4 : ∀ q : Sub C, q.w.cell? ⟨gf, 0, none⟩ = some (.func (.func 15) #[] #[.pointer (some ⟨gp, 0, none⟩), .pointer (some ⟨gl, 0, none⟩), .pointer (some ⟨gk, 0, none⟩), .pointer (some ⟨gf, 0, none⟩)]) := fun q => (hCq q).2.fn
              have z5 : ∀ q : Sub C, q.w.cell? ⟨s, 0, none⟩ = some (.int .i64 (i : Int)) := fun q => grown_cell (hCq q).1 hsb.out (S.out.cell 0)
              have z6 : ∀ q : Sub C, q.w.cell? ⟨s, 1, none⟩ = some (.int .i64 (j : Int)) := fun q => grown_cell (hCq q).1 hsb.out (S.out.cell 1)
              have z8 : ∀ q : Sub C, q.w.cell? ⟨g2, 1, none⟩ = some (.int .u32 (p[i].2.toNat : Int)) := fun q => grown_cell (hCq q).1 hab.out (A.out.cell 1)
              have z9 : ∀ q : Sub C, q.w.cell? ⟨bl, ol + j, none⟩ = some (.int .u32 (l[j].toNat : Int)) := fun q => grown_cell (hCq q).1 ha2.out y0
              have zq : ∀ q : Sub C, Calls Tryd.prog 15 #[.agg #[.int .i64 ((i : Int) + 1), .int .i64 ((j : Int) + 1)], .pointer (some ⟨gp, 0, none⟩), .pointer (some ⟨gl, 0, none⟩), .pointer (some ⟨gk, 0, none⟩), .pointer (some ⟨gf, 0, none⟩)] q.w fun e w' => e = .returned (.bool r) ∧ ∃ q' : Sub C, w' = q'.w := fun q => (q11.out _ (hCq q).2).mono fun e w' h => ⟨h.1, ⟨w', (hCi w').2 ⟨(hCq q).1.trans h.2.1, h.2.2⟩⟩, rfl⟩
              replace zq := hide zq
              replace hCq := hide hCq
              have hne : Nonempty (Sub C) := ⟨⟨W2, (hCi _).2 ⟨World.grownBy.refl _ _, hG.out⟩⟩⟩
              replace hCi := hide hCi
              clear hC
              clear d1 d2 d3 d4 T_0 T_1 A_0 A_1 y0
              refine wp_region_class C mixed (by kernel_rfl) (fun n => (hCi.out _).2 ⟨grown_drewN _ _ _, hG.out.drewN n⟩) ?_
              repeat (go_big_quiet_step (first | (with_reducible exact zq.out _)))
              refine wpQuiet_nil ?_
              intro _ hw
              obtain ⟨q, hq⟩ := hw
              subst hq
              obtain ⟨hgo, hGo⟩ := hCq.out q
              clear hCi hCq hne z2 z4 z5 z6 z8 z9 zq
              generalize q.w = W3 at hgo hGo ⊢
              clear hG q
              have hG := hide hGo
              replace S := hide (S.out.grown hgo (fun e => hsb.out (Option.some.inj e)))
              replace E := hide (E.out.trans hgo)
              clear hgo hGo
              have d1 := hG.out.pat
              have d2 := hG.out.lst
              have d3 := hG.out.known
              have d4 := hG.out.fn
              have T_0 : W3.cell? ⟨s, 0, none⟩ = some (.int .i64 (i : Int)) := S.out.cell 0
              have T_1 : W3.cell? ⟨s, 1, none⟩ = some (.int .i64 (j : Int)) := S.out.cell 1
              obtain ⟨W9, hup, hM9, hg9⟩ := hst.out W3 hG.out _ rfl
              have hG9 := hide (hG.out.go hg9 hM9)
              have E9 := hide (E.out.trans hg9)
              clear hM9 hg9
              go_wp2
              go_ret
              exact ⟨rfl, E9.out, hG9.out⟩
            · have e6 : ((l[j].toNat : Int) == (p[i].2.toNat : Int)) = false := by rw [e5, beq_eq_false_iff_ne]; exact he
              rw [decide_eq_false he, Bool.false_and] at hF1
              obtain rfl : r = false := hF1
              clear e5 he
              go_upto_region 10 with fail
              go_quiet (fail)
              clear d1 d2 d3 d4 T_0 T_1 A_0 A_1
              replace hG := hide (hG.out.drewN nq)
              replace S := hide (S.out.drewN nq)
              replace E := hide (E.out.trans (grown_drewN W2 nq _))
              generalize W2.drewN nq = W3 at S E hG ⊢
              have d1 := hG.out.pat
              have d2 := hG.out.lst
              have d3 := hG.out.known
              have d4 := hG.out.fn
              have T_0 : W3.cell? ⟨s, 0, none⟩ = some (.int .i64 (i : Int)) := S.out.cell 0
              have T_1 : W3.cell? ⟨s, 1, none⟩ = some (.int .i64 (j : Int)) := S.out.cell 1
              obtain ⟨W9, hup, hM9, hg9⟩ := hst.out W3 hG.out _ rfl
              have hG9 := hide (hG.out.go hg9 hM9)
              have E9 := hide (E.out.trans hg9)
              clear hM9 hg9
              go_wp2
              go_ret
              exact ⟨rfl, E9.out, hG9.out⟩
      · have e2 : decide ((j : Int) < (l.length : Int)) = false := by rw [decide_eq_false_iff_not]; omega
        have hF3 := matF_many p l i j hlt
        have hF2 := matF_any p l i j hlt
        have hF1 := fun h3 h2 => matF_no p l i j hlt h3 h2 (by omega)
        rw [hr.out, decide_eq_false hjl] at hF3 hF2
        rw [hr.out] at hF1
        clear hr
        replace hF3 := hide hF3
        replace hF2 := hide hF2
        replace hF1 := hide hF1
        go_upto_region 9 with fail
        clear hW2 hg2 x0 x1 hW1 hs hlk S_0 S_1 c1 c2 c3 c4
        by_cases h3 : p[i].1 = 3
        · replace hF3 := hF3.out h3
          have e3 : (p[i].1 == 3) = true := by rw [beq_iff_eq]; exact h3
          clear hF2 hF1 h3
          generalize matF p l (i + 1, j) = r1 at q10 hF3
          go_wp2_with fail
          refine (q10.out _ hG.out).mono ?_
          rintro e W3 ⟨rfl, hgo, hGo⟩
          clear hG d1 d2 d3 d4 T_0 T_1 A_0 A_1
          have hG := hide hGo
          replace S := hide (S.out.grown hgo (fun e => hsb.out (Option.some.inj e)))
          replace A := hide (A.out.grown hgo (fun e => hab.out (Option.some.inj e)))
          replace E := hide (E.out.trans hgo)
          clear hgo hGo
          have d1 := hG.out.pat
          have d2 := hG.out.lst
          have d3 := hG.out.known
          have d4 := hG.out.fn
          have T_0 : W3.cell? ⟨s, 0, none⟩ = some (.int .i64 (i : Int)) := S.out.cell 0
          have T_1 : W3.cell? ⟨s, 1, none⟩ = some (.int .i64 (j : Int)) := S.out.cell 1
          have A_0 : W3.cell? ⟨g2, 0, none⟩ = some (.int .i64 p[i].1) := A.out.cell 0
          have A_1 : W3.cell? ⟨g2, 1, none⟩ = some (.int .u32 (p[i].2.toNat : Int)) := A.out.cell 1
          cases r1 with
          | true =>
            obtain rfl : r = true := hF3
            obtain ⟨W9, hup, hM9, hg9⟩ := hst.out W3 hG.out _ rfl
            have hG9 := hide (hG.out.go hg9 hM9)
            have E9 := hide (E.out.trans hg9)
            clear hM9 hg9
            go_wp2
            go_ret
            exact ⟨rfl, E9.out, hG9.out⟩
          | false =>
            obtain rfl : r = false := hF3
            obtain ⟨W9, hup, hM9, hg9⟩ := hst.out W3 hG.out _ rfl
            have hG9 := hide (hG.out.go hg9 hM9)
            have E9 := hide (E.out.trans hg9)
            clear hM9 hg9
            go_wp2
            go_ret
            exact ⟨rfl, E9.out, hG9.out⟩
        · have e3 : (p[i].1 == 3) = false := by rw [beq_eq_false_iff_ne]; exact h3
          by_cases h2 : p[i].1 = 2
          · replace hF2 := hF2.out h2
            have e4 : (p[i].1 == 2) = true := by rw [beq_iff_eq]; exact h2
            clear hF3 hF1 h3 h2
            obtain rfl : r = false := hF2
            obtain ⟨W9, hup, hM9, hg9⟩ := hst.out W2 hG.out _ rfl
            have hG9 := hide (hG.out.go hg9 hM9)
            have E9 := hide (E.out.trans hg9)
            clear hM9 hg9
            go_wp2
            go_ret
            exact ⟨rfl, E9.out, hG9.out⟩
          · have e4 : (p[i].1 == 2) = false := by rw [beq_eq_false_iff_ne]; exact h2
            replace hF1 := hF1.out h3 h2
            clear hF3 hF2 h3 h2
            obtain rfl : r = false := hF1
            go_upto_region 10 with fail
            go_quiet (fail)
            clear d1 d2 d3 d4 T_0 T_1 A_0 A_1
            replace hG := hide (hG.out.drewN nq)
            replace S := hide (S.out.drewN nq)
            replace E := hide (E.out.trans (grown_drewN W2 nq _))
            generalize W2.drewN nq = W3 at S E hG ⊢
            have d1 := hG.out.pat
            have d2 := hG.out.lst
            have d3 := hG.out.known
            have d4 := hG.out.fn
            have T_0 : W3.cell? ⟨s, 0, none⟩ = some (.int .i64 (i : Int)) := S.out.cell 0
            have T_1 : W3.cell? ⟨s, 1, none⟩ = some (.int .i64 (j : Int)) := S.out.cell 1
            obtain ⟨W9, hup, hM9, hg9⟩ := hst.out W3 hG.out _ rfl
            have hG9 := hide (hG.out.go hg9 hM9)
            have E9 := hide (E.out.trans hg9)
            clear hM9 hg9
            go_wp2
            go_ret
            exact ⟨rfl, E9.out, hG9.out⟩
open Go.RowKit Go.Maps

theorem allA_succ (l : List Atm) (k : Nat) (hk : k < l.length) : (l.take (k + 1)).all atmOk = ((l.take k).all atmOk && atmOk l[k]) := by
  rw [List.take_succ_eq_append_getElem hk, List.all_append, List.all_cons, List.all_nil, Bool.and_true]
theorem allA_bad {l : List Atm} {k : Nat} (hk : k < l.length) (h : atmOk l[k] = false) : atmsOk l = false := by
  unfold atmsOk
  rw [Bool.and_eq_false_iff]
  refine .inl ?_
  rw [List.all_eq_false]
  exact ⟨l[k], List.getElem_mem hk, by rw [h]; decide⟩
theorem atm_cases (a : Atm) : (a.1 < 1 ∧ atmOk a = false) ∨ (1 ≤ a.1 ∧ 3 < a.1 ∧ atmOk a = false) ∨ (1 ≤ a.1 ∧ a.1 ≤ 3 ∧ ∃ b3 b4 : Bool, (a.1 == 1) = b3 ∧ decide (0 < a.2.toNat) = b4 ∧ (b3 != b4) = !atmOk a) := by
  unfold atmOk
  by_cases h1 : a.1 < 1
  · exact .inl ⟨h1, by rw [decide_eq_false (by omega)]; rfl⟩
  · by_cases h3 : 3 < a.1
    · exact .inr (.inl ⟨by omega, h3, by rw [decide_eq_false (p := a.1 ≤ 3) (by omega)]; simp⟩)
    · refine .inr (.inr ⟨by omega, by omega, _, _, rfl, rfl, ?_⟩)
      rw [decide_eq_true (p := 1 ≤ a.1) (by omega), decide_eq_true (p := a.1 ≤ 3) (by omega)]
      have e1 : (a.1 == 1) = decide (a.1 = 1) := rfl
      rw [e1]
      simp [bne]
set_option maxHeartbeats 1000000 in
theorem Atoms_any (a : Option Addr) (c : Nat) (l : List Atm) (w : World) (hl : l.length ≤ 16777216) (hs : Sl EAtm w (· < w.heap.size) a l) :
    Calls Tryd.prog 14 #[.slice a l.length c] w fun e w' => e = .returned (.bool (atmsOk l)) ∧ Ext w w' := by
  replace hs := hide hs
  go_enter Tryd.func14, Tryd.ntmps14
  go_wp2
  go_loopw [7] (fun i wr => ∃ k : Nat, k ≤ l.length ∧ i = .int .i64 k ∧ Ext w wr ∧ (l.take k).all atmOk = true) (fun i _ => l.length - (intOf i).toNat)
  case atStart => exact ⟨0, Nat.zero_le _, rfl, Ext.refl _, rfl⟩
  case round =>
    obtain ⟨k, hk, rfl, he, ha⟩ := hrel
    replace ha := hide ha
    replace he := hide he
    by_cases hlt : k < l.length
    · obtain ⟨b, off, rfl, _, hkd, x0, x1⟩ := EAtm.at (hs.out.ext he.out) k hlt
      have A := Blk.new wr 52 #[.int .i64 l[k].1, .int .u32 (l[k].2.toNat : Int)]
      have he' := hide (he.out.alloc (Obj.cells #[.int .i64 l[k].1, .int .u32 (l[k].2.toNat : Int)] 52))
      generalize hW : wr.alloc (Obj.cells #[.int .i64 l[k].1, .int .u32 (l[k].2.toNat : Int)] 52) = W at A he'
      generalize hg : wr.heap.size = g at A
      have A_0 : W.cell? ⟨g, 0, none⟩ = some (.int .i64 l[k].1) := A.cell 0
      have A_1 : W.cell? ⟨g, 1, none⟩ = some (.int .u32 (l[k].2.toNat : Int)) := A.cell 1
      replace A := hide A
      have hbad := fun h => allA_bad hlt h
      have hok := fun h : atmOk l[k] = true => (allA_succ l k hlt).trans (by rw [ha.out, h, Bool.true_and])
      have hcs := atm_cases l[k]
      generalize atmOk l[k] = ok at hbad hok hcs
      generalize l[k] = x at *
      obtain ⟨kd, av⟩ := x
      dsimp only at *
      replace hbad := hide hbad
      replace hok := hide hok
      rcases hcs with ⟨h1, rfl⟩ | ⟨h1, h3, rfl⟩ | ⟨h1, h3, b3, b4, e3, e4, e5⟩
      · have e1 : decide (kd < 1) = true := decide_eq_true h1
        clear h1
        go_wp2
        go_ret
        exact ⟨ret_bool (hbad.out (by trivial)).symm, he'.out⟩
      · have e1 : decide (kd < 1) = false := decide_eq_false (by omega)
        have e2 : decide (3 < kd) = true := decide_eq_true h3
        clear h1 h3
        go_wp2
        go_ret
        exact ⟨ret_bool (hbad.out (by trivial)).symm, he'.out⟩
      · have e1 : decide (kd < 1) = false := decide_eq_false (by omega)
        have e2 : decide (3 < kd) = false := decide_eq_false (by omega)
        clear h1 h3
        cases ok with
        | true =>
          rw [Bool.not_true] at e5
          cases b3 <;> cases b4 <;> first | exact absurd e5 (by decide) | (go_wp2; go_roundw; (case rel => exact ⟨k + 1, by omega, by go_num, he'.out, hok.out (by trivial)⟩); (case measure => simp [intOf]; omega))
        | false =>
          rw [Bool.not_false] at e5
          cases b3 <;> cases b4 <;> first | exact absurd e5 (by decide) | (go_wp2; go_ret; exact ⟨ret_bool (hbad.out (by trivial)).symm, he'.out⟩)
    · have hend : atmsOk l = decide (l.length ≤ 64) := by
        obtain rfl : k = l.length := by omega
        have := ha.out
        rw [List.take_length] at this
        unfold atmsOk
        rw [this, Bool.true_and]
      have hle : decide ((l.length : Int) ≤ 64) = decide (l.length ≤ 64) := decide_eq_decide.2 (by omega)
      rw [← hend] at hle
      clear hend
      go_wp2
      go_ret
      exact ⟨ret_bool rfl, he.out⟩

theorem match_atoms (P : List Atm) : atmsOk P = true → P.length ≤ 64 := fun h => by
  unfold atmsOk at h
  rw [Bool.and_eq_true, decide_eq_true_eq] at h
  exact h.2
set_option maxRecDepth 20000 in
set_option maxHeartbeats 2000000 in
theorem Match_any (ap al : Option Addr) (cp cl : Nat) (p : List Atm) (l : List UInt32) (w : World) (hp : p.length ≤ 16777216) (hl : l.length ≤ 16777216) (hsp : Sl EAtm w (· < w.heap.size) ap p) (hsl : Sl EU32 w (· < w.heap.size) al l) :
    Calls Tryd.prog 7 #[.slice ap p.length cp, .slice al l.length cl] w fun e w' => e = .returned (.bool (matchS p l)) ∧ Ext w w' := by
  have mixed : Tryd.prog.follows Departure.mixedOrders = true := by kernel_rfl
  have qa := fun W (h : Ext w W) => Atoms_any ap cp p W hp (hsp.ext h)
  have hfr : matchS p l = (atmsOk p && matF p l (0, 0)) := rfl
  have hp64 := match_atoms p
  generalize atmsOk p = ok at qa hfr hp64
  replace qa := hide qa
  replace hfr := hide hfr
  replace hp64 := hide hp64
  replace hsp := hide hsp
  replace hsl := hide hsl
  go_enter Tryd.func7, Tryd.ntmps7
  have E := ((Ext.refl w).alloc (Obj.cells #[.slice ap p.length cp] 23)).alloc (Obj.cells #[.slice al l.length cl] 25)
  have A := (Blk.new w 23 #[.slice ap p.length cp]).alloc (Obj.cells #[.slice al l.length cl] 25)
  have B := Blk.new (w.alloc (Obj.cells #[.slice ap p.length cp] 23)) 25 #[.slice al l.length cl]
  have hgl : (w.alloc (Obj.cells #[.slice ap p.length cp] 23)).heap.size = w.heap.size + 1 := by simp
  rw [hgl] at B
  generalize hW1 : (w.alloc (Obj.cells #[.slice ap p.length cp] 23)).alloc (Obj.cells #[.slice al l.length cl] 25) = W1 at E A B
  generalize hg : w.heap.size = g at A B
  have hgw : w.heap.size ≤ g := Nat.le_of_eq hg
  have a0 : W1.cell? ⟨g, 0, none⟩ = some (.slice ap p.length cp) := A.cell 0
  have b0 : W1.cell? ⟨g + 1, 0, none⟩ = some (.slice al l.length cl) := B.cell 0
  replace E := hide E
  replace A := hide A
  replace B := hide B
  replace hgw := hide hgw
  go_wp2_with fail
  refine (qa.out _ E.out).mono ?_
  rintro e W2 ⟨rfl, he⟩
  clear hW1 hg a0 b0 hgl
  replace A := hide (A.out.ext he)
  replace B := hide (B.out.ext he)
  replace E := hide (E.out.trans he)
  clear he
  cases ok with
  | false =>
    go_wp2
    go_ret
    exact ⟨ret_bool (by rw [hfr.out]; rfl), E.out⟩
  | true =>
    have hmm := @run_makeMap Tryd.prog
    have hg2 := A.out.lt
    have hg3 := B.out.lt
    have M : MemoM p l (W2.alloc (.map #[] 0)) W2.heap.size := Memo.made
    have K := Blk.new (W2.alloc (.map #[] 0)) 54 #[.map (some W2.heap.size)]
    have F := Blk.new ((W2.alloc (.map #[] 0)).alloc (Obj.cells #[.map (some W2.heap.size)] 54)) 55 #[.nilFunc]
    replace M := (M.kept (World.grownBy_alloc _ (Obj.cells #[.map (some W2.heap.size)] 54) none) (by simp)).kept (World.grownBy_alloc _ (Obj.cells #[.nilFunc] 55) none) (by simp)
    replace K := K.alloc (Obj.cells #[.nilFunc] 55)
    replace A := ((A.out.alloc (.map #[] 0)).alloc (Obj.cells #[.map (some W2.heap.size)] 54)).alloc (Obj.cells #[.nilFunc] 55)
    replace B := ((B.out.alloc (.map #[] 0)).alloc (Obj.cells #[.map (some W2.heap.size)] 54)).alloc (Obj.cells #[.nilFunc] 55)
    have hE2 := E.out.size
    replace E := ((E.out.alloc (.map #[] 0)).alloc (Obj.cells #[.map (some W2.heap.size)] 54)).alloc (Obj.cells #[.nilFunc] 55)
    have hz1 : (W2.alloc (.map #[] 0)).heap.size = W2.heap.size + 1 := by simp
    have hz2 : ((W2.alloc (.map #[] 0)).alloc (Obj.cells #[.map (some W2.heap.size)] 54)).heap.size = W2.heap.size + 1 + 1 := by simp
    rw [hz1] at K
    rw [hz2] at F
    generalize hW5 : ((W2.alloc (.map #[] 0)).alloc (Obj.cells #[.map (some W2.heap.size)] 54)).alloc (Obj.cells #[.nilFunc] 55) = W5 at M K F A B E
    generalize hbb : W2.heap.size = b at *
    clear hz1 hz2
    have f0 : W5.cell? ⟨b + 1 + 1, 0, none⟩ = some .nilFunc := F.cell 0
    have f1 := F.frozen 0
    have k0 : W5.cell? ⟨b + 1, 0, none⟩ = some (.map (some b)) := K.cell 0
    replace F := F.set_ 0 (.func (.func 15) #[] #[.pointer (some ⟨g, 0, none⟩), .pointer (some ⟨g + 1, 0, none⟩), .pointer (some ⟨b + 1, 0, none⟩), .pointer (some ⟨b + 1 + 1, 0, none⟩)])
    replace K := K.far (p := ⟨b + 1 + 1, 0, none⟩) (by show b + 1 ≠ b + 1 + 1; omega) (.func (.func 15) #[] #[.pointer (some ⟨g, 0, none⟩), .pointer (some ⟨g + 1, 0, none⟩), .pointer (some ⟨b + 1, 0, none⟩), .pointer (some ⟨b + 1 + 1, 0, none⟩)])
    replace A := A.far (p := ⟨b + 1 + 1, 0, none⟩) (by show g ≠ b + 1 + 1; omega) (.func (.func 15) #[] #[.pointer (some ⟨g, 0, none⟩), .pointer (some ⟨g + 1, 0, none⟩), .pointer (some ⟨b + 1, 0, none⟩), .pointer (some ⟨b + 1 + 1, 0, none⟩)])
    replace B := B.far (p := ⟨b + 1 + 1, 0, none⟩) (by show g + 1 ≠ b + 1 + 1; omega) (.func (.func 15) #[] #[.pointer (some ⟨g, 0, none⟩), .pointer (some ⟨g + 1, 0, none⟩), .pointer (some ⟨b + 1, 0, none⟩), .pointer (some ⟨b + 1 + 1, 0, none⟩)])
    replace M := M.frame (w' := W5.setCell ⟨b + 1 + 1, 0, none⟩ (.func (.func 15) #[] #[.pointer (some ⟨g, 0, none⟩), .pointer (some ⟨g + 1, 0, none⟩), .pointer (some ⟨b + 1, 0, none⟩), .pointer (some ⟨b + 1 + 1, 0, none⟩)])) (Below.heap_setCell W5 ⟨b + 1 + 1, 0, none⟩ _ b (by show b ≠ b + 1 + 1; omega))
    replace E := E.setCell (p := ⟨b + 1 + 1, 0, none⟩) (by show w.heap.size ≤ b + 1 + 1; omega) (.func (.func 15) #[] #[.pointer (some ⟨g, 0, none⟩), .pointer (some ⟨g + 1, 0, none⟩), .pointer (some ⟨b + 1, 0, none⟩), .pointer (some ⟨b + 1 + 1, 0, none⟩)])
    generalize hW6 : W5.setCell ⟨b + 1 + 1, 0, none⟩ (.func (.func 15) #[] #[.pointer (some ⟨g, 0, none⟩), .pointer (some ⟨g + 1, 0, none⟩), .pointer (some ⟨b + 1, 0, none⟩), .pointer (some ⟨b + 1 + 1, 0, none⟩)]) = W6 at M K F A B E
    have hbw : w.heap.size ≤ b := hE2
    have hstr : (store ⟨b + 1 + 1, 0, none⟩ (.func (.func 15) #[] #[.pointer (some ⟨g, 0, none⟩), .pointer (some ⟨g + 1, 0, none⟩), .pointer (some ⟨b + 1, 0, none⟩), .pointer (some ⟨b + 1 + 1, 0, none⟩)])).run Tryd.prog W5 = .ok () W6 := by
      rw [run_store _ _ _ _ _ rfl, ← hW6]
      simp [f0, f1]
    have G : MatG p l g (g + 1) (b + 1) (b + 1 + 1) b ap al cp cl W6 := ⟨A.cell 0, B.cell 0, K.cell 0, F.cell 0, by omega, by omega, by omega, by omega,
      (hsp.out.frame E.block).mono fun x hx => ⟨Nat.lt_of_lt_of_le hx E.size, by omega⟩, (hsl.out.frame E.block).mono fun x hx => ⟨Nat.lt_of_lt_of_le hx E.size, by omega⟩, M⟩
    have z0 : W6.cell? ⟨b + 1 + 1, 0, none⟩ = some (.func (.func 15) #[] #[.pointer (some ⟨g, 0, none⟩), .pointer (some ⟨g + 1, 0, none⟩), .pointer (some ⟨b + 1, 0, none⟩), .pointer (some ⟨b + 1 + 1, 0, none⟩)]) := F.cell 0
    have q := From_any (hp64.out rfl) hl (p.length + l.length) 0 0 W6 (by omega) (Nat.zero_le _) (Nat.zero_le _) G
    unfold MatE at q
    simp only [Int.cast_ofNat_Int] at q
    clear M K F A B G hE2 hg2 hg3
    replace E := hide E
    replace q := hide q
    replace hbw := hide hbw
    go_wp2_with fail
    refine q.out.mono ?_
    rintro e W7 ⟨rfl, hgo, _⟩
    have E7 := hide (E.out.grown hgo (fun k hk => by rw [← Option.some.inj hk]; exact hbw.out))
    clear hgo
    go_wp2
    go_ret
    exact ⟨ret_bool (by rw [hfr.out]; rfl), E7.out⟩
end Go.Proofs.YtoghdmoldcjedaaDoor
