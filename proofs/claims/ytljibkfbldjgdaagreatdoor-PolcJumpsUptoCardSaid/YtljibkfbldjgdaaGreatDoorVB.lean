/- A map that remembers answers: every entry holds what a function says at its key. Keys of two whole numbers. The keys of sets.Match's memory; the recursion of sets.Match, walked. The recursion of sets.Match, walked. The recursion of sets.Match, walked: every spot. Walks: may a pattern be (sets.atoms); does a pattern match (sets.Match). -/
import Derived.Test.YtljibkfbldjgdaaGreatDoorBase
import Derived.Maps.OwnSet
import Derived.Maps.Views
import Derived.Maps.Range
import Derived.DeepKeys5
import Derived.Test.YtljibkfbldjgdaaGreatDoorVA
import Derived.Test.YtljibkfbldjgdaaGreatDoorPG
import Derived.Deep.Cut
import Derived.Test.YtljibkfbldjgdaaGreatDoorLib
namespace Go.Proofs.YtljibkfbldjgdaaGreatDoor
open Go.RowKit Go.Maps
set_option linter.unusedVariables false

open Classical in
theorem nodup_le {α : Type} : ∀ {a b : List α}, a.Pairwise (· ≠ ·) → (∀ x ∈ a, x ∈ b) → a.length ≤ b.length
  | [], b, _, _ => Nat.zero_le _
  | x :: a, b, hp, hs => by
    have hp' := List.pairwise_cons.1 hp
    have h1 : a.length ≤ (b.erase x).length := nodup_le hp'.2 fun y hy => by
      have hne : y ≠ x := fun e => hp'.1 y hy e.symm
      exact (List.mem_erase_of_ne hne).2 (hs y (List.mem_cons_of_mem _ hy))
    rw [List.length_erase_of_mem (hs x (List.mem_cons_self ..))] at h1
    have h2 := List.length_pos_of_mem (hs x (List.mem_cons_self ..))
    simp only [List.length_cons]
    omega
section
variable {P : Program} {k e t : TypeId} {w w' : World} {b : Nat}
theorem owns_tight {H : Type} {R : Value → Option (DataW H × List MemPlace)} {n : Nat} {D : DataW H} (h : w.ownsMap P k R b n D) : w.ownsMap P k R b (Maps.size D) D := by
  obtain ⟨es, clock, hb, F, hs, rfl⟩ := h
  exact ⟨es, clock, hb, F, by simp [Maps.size, length_sorted], rfl⟩
/-- Every entry of the map at block b: its key is that of an x of the list G, its element what f says at x. -/
def Memo {α : Type} (P : Program) (k e : TypeId) (key : α → Value) (G : List α) (f : α → Bool) (w : World) (b : Nat) : Prop :=
  ∃ D : DataW Unit, w.ownsMap P k (plainElem P e) b (Maps.size D) D ∧ ∀ l, Maps.has D l = true → ∃ x ∈ G, keyOf P k (key x) = some l ∧ ∀ z, D.atKey l z = .lit (.bool (f x))
variable {α : Type} {key : α → Value} {G : List α} {f : α → Bool}
theorem Memo.made : Memo P k e key G f (w.alloc (.map #[] 0)) w.heap.size :=
  ⟨.map [], World.ownsMap_made w P k _, fun l h => by simp [Maps.has] at h⟩
theorem Memo.lt (h : Memo P k e key G f w b) : b < w.heap.size := by
  obtain ⟨D, h, _⟩ := h
  exact h.lt
theorem Memo.kept {row : Option Nat} (h : Memo P k e key G f w b) (hg : w.grownBy w' row) (hne : some b ≠ row) : Memo P k e key G f w' b := by
  obtain ⟨D, h, hh⟩ := h
  exact ⟨D, h.kept hg hne, hh⟩
theorem Memo.frame (h : Memo P k e key G f w b) (hb : w'.heap[b]? = w.heap[b]?) : Memo P k e key G f w' b := by
  obtain ⟨D, ⟨es, clock, h1, F, hs, hD⟩, hh⟩ := h
  exact ⟨D, ⟨es, clock, hb.trans h1, F, hs, hD⟩, hh⟩
/-- 'v, ok := m[x]'. -/
theorem Memo.look (h : Memo P k e key G f w b) (K : Keyed P k) (ht : P.underlying t = some (.map k e)) (he : P.underlying e = some .bool) (hz : (zeroValue e).run P w = .ok (.bool false) w) {x : α} {kl : Lit} (hkey : keyOf P k (key x) = some kl) (hinj : ∀ y ∈ G, key y = key x → f y = f x) :
    ∃ v ok, (Instr.lookup t (.map (some b)) (key x) true).run P w = .ok (.tuple #[.bool v, .bool ok]) w ∧ (ok = true → v = f x) := by
  obtain ⟨D, h, hh⟩ := h
  obtain ⟨v, ps, hrun, hv⟩ := h.look_ok K ht hz (plainElem_bool he false) hkey
  have hvb : ∃ c, v = .bool c ∧ D.atKey kl (.lit (.bool false)) = .lit (.bool c) := by
    unfold plainElem at hv
    rw [he] at hv
    cases v <;> simp at hv
    exact ⟨_, rfl, hv.1.symm⟩
  obtain ⟨c, rfl, hc⟩ := hvb
  refine ⟨c, _, hrun, fun hok => ?_⟩
  obtain ⟨y, hy, hky, hat⟩ := hh kl hok
  have e1 : key y = key x := K.inj hky hkey
  rw [hat] at hc
  injection hc with hc
  injection hc with hc
  rw [← hc, hinj y hy e1]
theorem Memo.size (K : Keyed P k) {D : DataW Unit} (h : w.ownsMap P k (plainElem P e) b (Maps.size D) D) (hh : ∀ l, Maps.has D l = true → ∃ x ∈ G, keyOf P k (key x) = some l) : Maps.size D ≤ G.length := by
  obtain ⟨es, rfl, hp, hk⟩ := h.entries K
  have h1 : (es.map (·.1)).Pairwise (· ≠ ·) := by rw [List.pairwise_map]; exact hp
  have h2 : ∀ l ∈ es.map (·.1), l ∈ G.filterMap fun x => keyOf P k (key x) := fun l hl => by
    obtain ⟨p, hp', rfl⟩ := List.mem_map.1 hl
    have hs : p.1.sameKey p.1 = true := by
      have := hk p hp'
      cases h : p.1 <;> simp [h, WideAt.IsKeyLit, Lit.sameKey] at this ⊢
    obtain ⟨x, hx, hkx⟩ := hh p.1 (by rw [has_eq]; exact List.any_eq_true.2 ⟨p, hp', hs⟩)
    exact List.mem_filterMap.2 ⟨x, hx, hkx⟩
  have h3 := nodup_le h1 h2
  rw [List.length_map] at h3
  have h4 := List.length_filterMap_le (fun x => keyOf P k (key x)) G
  rw [size_eq]
  omega
/-- 'm[x] = f x'. -/
theorem Memo.store (h : Memo P k e key G f w b) (K : Keyed P k) (ht : P.underlying t = some (.map k e)) (he : P.underlying e = some .bool) {x : α} {kl : Lit} (hkey : keyOf P k (key x) = some kl) (hx : x ∈ G) (hG : G.length < maxLen) :
    ∃ w', (Instr.mapUpdate t (.map (some b)) (key x) (.bool (f x))).run P w = .ok () w' ∧ Memo P k e key G f w' b ∧ w.grownBy w' (some b) := by
  obtain ⟨D, h, hh⟩ := h
  have hsz := Memo.size K h fun l hl => let ⟨x, hx, hk, _⟩ := hh l hl; ⟨x, hx, hk⟩
  obtain ⟨w', hrun, hown, hg⟩ := h.update K ht (Nat.lt_of_le_of_lt hsz hG) hkey (plainElem_bool he (f x))
  refine ⟨w', hrun, ⟨D.put kl (.lit (.bool (f x))), owns_tight hown, fun l hl => ?_⟩, hg⟩
  by_cases hl2 : l = kl
  · subst hl2
    exact ⟨x, hx, hkey, fun z => atKey_put_same h.isMap (K.key hkey) _ _⟩
  · rw [has_put_other hl2] at hl
    obtain ⟨y, hy, hk, hat⟩ := hh l hl
    exact ⟨y, hy, hk, fun z => (atKey_put_other hl2 _ _).trans (hat z)⟩
end
/-- A class of worlds, each as a value with its proof: for regions that draw. -/
structure Sub (C : World → Prop) where
  w : World
  h : C w
theorem wp_region_class {P : Program} {id : Nat} {Q : Exit → Act → World → Prop} {a : Act} {w : World} {l : List Oper} (C : World → Prop) (hm : P.follows .mixedOrders = true) (hB : Region.lexB .any l.toArray = true) (hw : ∀ n, C (w.drewN n))
    (h : wpQuiet P l.toArray (fun w' => ∃ p : Sub C, w' = p.w) (fun a' => ∀ w', (∃ p : Sub C, w' = p.w) → Q .normal a' w') l a) : (Code.region id l.toArray true).wp P Q a w :=
  wp_region_quiet (C := fun w' => ∃ p : Sub C, w' = p.w) hm hB ⟨⟨_, hw 1⟩, rfl⟩ (by simpa using h)
open Go.RowKit Go.Maps

theorem laidOutV : laidOutB Tryz.prog = true := by kernel_rfl
theorem spot_cellsI : Tryz.prog.cellsOf 3 = 1 := by kernel_rfl
set_option maxRecDepth 100000 in
theorem spot_types : ∃ n, Tryz.prog.types.size + 1 = n + 2 := ⟨Tryz.prog.types.size - 1, by have : 1 ≤ Tryz.prog.types.size := of_decide_eq_true (by kernel_rfl); omega⟩
def spotV (x : Nat × Nat) : Value := .agg #[.int .i64 (x.1 : Int), .int .i64 (x.2 : Int)]
theorem spot_inj {x y : Nat × Nat} (h : spotV x = spotV y) : x = y := by
  unfold spotV at h
  simp at h
  exact Prod.ext (by omega) (by omega)
open Go.RowKit Go.Maps

/-- What sets.Match's function answers at a spot. -/
def matF (p : List Atm) (l : List UInt32) (x : Nat × Nat) : Bool := matS (p.drop x.1) (l.drop x.2)
def spots (n m : Nat) : List (Nat × Nat) := (List.range (n + 1)).flatMap fun i => (List.range (m + 1)).map fun j => (i, j)
theorem spots_mem {n m i j : Nat} (hi : i ≤ n) (hj : j ≤ m) : (i, j) ∈ spots n m := by
  unfold spots
  exact List.mem_flatMap.2 ⟨i, List.mem_range.2 (by omega), List.mem_map.2 ⟨j, List.mem_range.2 (by omega), rfl⟩⟩
theorem spots_bd {n m : Nat} {x : Nat × Nat} (h : x ∈ spots n m) : x.1 ≤ n ∧ x.2 ≤ m := by
  obtain ⟨i, hi, h⟩ := List.mem_flatMap.1 h
  obtain ⟨j, hj, rfl⟩ := List.mem_map.1 h
  rw [List.mem_range] at hi hj
  exact ⟨by show i ≤ n; omega, by show j ≤ m; omega⟩
theorem sum_const (c : Nat) : ∀ k, ((List.range k).map fun _ => c).sum = k * c
  | 0 => by simp
  | k + 1 => by rw [List.range_succ, List.map_append, List.sum_append, sum_const c k, Nat.add_mul]; simp
theorem spots_len (n m : Nat) : (spots n m).length = (n + 1) * (m + 1) := by
  unfold spots
  rw [List.length_flatMap]
  simp only [List.length_map, List.length_range]
  exact sum_const _ _
theorem matF_end (p : List Atm) (l : List UInt32) (i j : Nat) (hi : i = p.length) : matF p l (i, j) = decide (l.length ≤ j) := by
  show matS (p.drop i) (l.drop j) = _
  rw [hi, List.drop_length, matS_end, List.length_drop]
  exact decide_eq_decide.2 (by omega)
theorem matF_many (p : List Atm) (l : List UInt32) (i j : Nat) (hi : i < p.length) (h : p[i].1 = 3) : matF p l (i, j) = (matF p l (i + 1, j) || (decide (j < l.length) && matF p l (i, j + 1))) := by
  show matS (p.drop i) (l.drop j) = (matS (p.drop (i + 1)) (l.drop j) || (_ && matS (p.drop i) (l.drop (j + 1))))
  rw [List.drop_eq_getElem_cons hi, mat_many h, List.tail_drop]
  congr 2
  exact decide_eq_decide.2 (by rw [ne_eq, List.drop_eq_nil_iff]; omega)
theorem matF_any (p : List Atm) (l : List UInt32) (i j : Nat) (hi : i < p.length) (h : p[i].1 = 2) : matF p l (i, j) = (decide (j < l.length) && matF p l (i + 1, j + 1)) := by
  show matS (p.drop i) (l.drop j) = (_ && matS (p.drop (i + 1)) (l.drop (j + 1)))
  rw [List.drop_eq_getElem_cons hi, matS_any _ _ _ h]
  by_cases hj : j < l.length
  · rw [List.drop_eq_getElem_cons hj, decide_eq_true hj]; rfl
  · rw [List.drop_eq_nil_of_le (by omega), decide_eq_false hj]; rfl
theorem matF_as (p : List Atm) (l : List UInt32) (i j : Nat) (hi : i < p.length) (h3 : p[i].1 ≠ 3) (h2 : p[i].1 ≠ 2) (hj : j < l.length) : matF p l (i, j) = (decide (l[j] = p[i].2) && matF p l (i + 1, j + 1)) := by
  show matS (p.drop i) (l.drop j) = (_ && matS (p.drop (i + 1)) (l.drop (j + 1)))
  rw [List.drop_eq_getElem_cons hi, matS_as _ _ _ h3 h2, List.drop_eq_getElem_cons hj]
theorem matF_no (p : List Atm) (l : List UInt32) (i j : Nat) (hi : i < p.length) (h3 : p[i].1 ≠ 3) (h2 : p[i].1 ≠ 2) (hj : l.length ≤ j) : matF p l (i, j) = false := by
  show matS (p.drop i) (l.drop j) = false
  rw [List.drop_eq_getElem_cons hi, matS_as _ _ _ h3 h2, List.drop_eq_nil_of_le hj]

theorem grown_cell {w0 w : World} {b g o : Nat} {v : Value} (h : w0.grownBy w (some b)) (hg : g ≠ b) (hc : w0.cell? ⟨g, o, none⟩ = some v) : w.cell? ⟨g, o, none⟩ = some v :=
  (World.cell?_of_block (a := ⟨g, o, none⟩) (h.block g (World.block_lt_of_cell? w0 _ hc) (fun e => hg (Option.some.inj e)))).trans hc
theorem Sl.grown {α : Type} {E : Enc α} {w w' : World} {b : Nat} {a : Option Addr} {l : List α} (h : Sl E w (fun x => x < w.heap.size ∧ x ≠ b) a l) (hg : w.grownBy w' (some b)) : Sl E w' (fun x => x < w'.heap.size ∧ x ≠ b) a l :=
  (h.frame fun x hx => hg.block x hx.1 (fun e => hx.2 (Option.some.inj e))).mono fun x hx => ⟨Nat.lt_of_lt_of_le hx.1 hg.size, hx.2⟩
section
variable {p : List Atm} {l : List UInt32} {gp gl gk gf b : Nat} {ap al : Option Addr} {cp cl : Nat} {w w' : World}
theorem grown_drewN (w : World) (n : Nat) (row : Option Nat) : w.grownBy (w.drewN n) row := ⟨rfl, rfl, rfl, Nat.le_refl _, fun _ _ _ => rfl⟩
end
set_option maxRecDepth 100000 in
theorem zeroBool (w : World) : (zeroValue 4).run Tryz.prog w = .ok (.bool false) w := by kernel_rfl
open Go.RowKit Go.Maps

open Go.RowKit Go.Maps

theorem allA_succ (l : List Atm) (k : Nat) (hk : k < l.length) : (l.take (k + 1)).all atmOk = ((l.take k).all atmOk && atmOk l[k]) := by
  rw [List.take_succ_eq_append_getElem hk, List.all_append, List.all_cons, List.all_nil, Bool.and_true]
theorem allA_bad {l : List Atm} {k : Nat} (hk : k < l.length) (h : atmOk l[k] = false) : atmsOk l = false := by
  unfold atmsOk
  rw [Bool.and_eq_false_iff]
  refine .inl ?_
  rw [List.all_eq_false]
  exact ⟨l[k], List.getElem_mem hk, by rw [h]; decide⟩
theorem atm_cases (a : Atm) : (a.1 < 1 ∧ atmOk a = false) ∨ (1 ≤ a.1 ∧ 3 < a.1 ∧ atmOk a = false) ∨ (1 ≤ a.1 ∧ a.1 ≤ 3 ∧ ∃ b3 b4 : Bool, (a.1 == 1) = b3 ∧ decide (0 < a.2.toNat) = b4 ∧ (b3 != b4) = !atmOk a) := by
  unfold atmOk
  by_cases h1 : a.1 < 1
  · exact .inl ⟨h1, by rw [decide_eq_false (by omega)]; rfl⟩
  · by_cases h3 : 3 < a.1
    · exact .inr (.inl ⟨by omega, h3, by rw [decide_eq_false (p := a.1 ≤ 3) (by omega)]; simp⟩)
    · refine .inr (.inr ⟨by omega, by omega, _, _, rfl, rfl, ?_⟩)
      rw [decide_eq_true (p := 1 ≤ a.1) (by omega), decide_eq_true (p := a.1 ≤ 3) (by omega)]
      have e1 : (a.1 == 1) = decide (a.1 = 1) := rfl
      rw [e1]
      simp [bne]
set_option maxHeartbeats 1000000 in
theorem Atoms_any (a : Option Addr) (c : Nat) (l : List Atm) (w : World) (hl : l.length ≤ 16777216) (hs : Sl EAtm w (· < w.heap.size) a l) :
    Calls Tryz.prog 120 #[.slice a l.length c] w fun e w' => e = .returned (.bool (atmsOk l)) ∧ Ext w w' := by
  replace hs := hide hs
  go_enter Tryz.func120, Tryz.ntmps120
  go_wp2
  go_loopw [7] (fun i wr => ∃ k : Nat, k ≤ l.length ∧ i = .int .i64 k ∧ Ext w wr ∧ (l.take k).all atmOk = true) (fun i _ => l.length - (intOf i).toNat)
  case atStart => exact ⟨0, Nat.zero_le _, rfl, Ext.refl _, rfl⟩
  case round =>
    obtain ⟨k, hk, rfl, he, ha⟩ := hrel
    replace ha := hide ha
    replace he := hide he
    by_cases hlt : k < l.length
    · obtain ⟨b, off, rfl, _, hkd, x0, x1⟩ := EAtm.at (hs.out.ext he.out) k hlt
      have A := Blk.new wr 75 #[.int .i64 l[k].1, .int .u32 (l[k].2.toNat : Int)]
      have he' := hide (he.out.alloc (Obj.cells #[.int .i64 l[k].1, .int .u32 (l[k].2.toNat : Int)] 75))
      generalize hW : wr.alloc (Obj.cells #[.int .i64 l[k].1, .int .u32 (l[k].2.toNat : Int)] 75) = W at A he'
      generalize hg : wr.heap.size = g at A
      have A_0 : W.cell? ⟨g, 0, none⟩ = some (.int .i64 l[k].1) := A.cell 0
      have A_1 : W.cell? ⟨g, 1, none⟩ = some (.int .u32 (l[k].2.toNat : Int)) := A.cell 1
      replace A := hide A
      have hbad := fun h => allA_bad hlt h
      have hok := fun h : atmOk l[k] = true => (allA_succ l k hlt).trans (by rw [ha.out, h, Bool.true_and])
      have hcs := atm_cases l[k]
      generalize atmOk l[k] = ok at hbad hok hcs
      generalize l[k] = x at *
      obtain ⟨kd, av⟩ := x
      dsimp only at *
      replace hbad := hide hbad
      replace hok := hide hok
      rcases hcs with ⟨h1, rfl⟩ | ⟨h1, h3, rfl⟩ | ⟨h1, h3, b3, b4, e3, e4, e5⟩
      · have e1 : decide (kd < 1) = true := decide_eq_true h1
        clear h1
        go_wp2
        go_ret
        exact ⟨ret_bool (hbad.out (by trivial)).symm, he'.out⟩
      · have e1 : decide (kd < 1) = false := decide_eq_false (by omega)
        have e2 : decide (3 < kd) = true := decide_eq_true h3
        clear h1 h3
        go_wp2
        go_ret
        exact ⟨ret_bool (hbad.out (by trivial)).symm, he'.out⟩
      · have e1 : decide (kd < 1) = false := decide_eq_false (by omega)
        have e2 : decide (3 < kd) = false := decide_eq_false (by omega)
        clear h1 h3
        cases ok with
        | true =>
          rw [Bool.not_true] at e5
          cases b3 <;> cases b4 <;> first | exact absurd e5 (by decide) | (go_wp2; go_roundw; (case rel => exact ⟨k + 1, by omega, by go_num, he'.out, hok.out (by trivial)⟩); (case measure => simp [intOf]; omega))
        | false =>
          rw [Bool.not_false] at e5
          cases b3 <;> cases b4 <;> first | exact absurd e5 (by decide) | (go_wp2; go_ret; exact ⟨ret_bool (hbad.out (by trivial)).symm, he'.out⟩)
    · have hend : atmsOk l = decide (l.length ≤ 64) := by
        obtain rfl : k = l.length := by omega
        have := ha.out
        rw [List.take_length] at this
        unfold atmsOk
        rw [this, Bool.true_and]
      have hle : decide ((l.length : Int) ≤ 64) = decide (l.length ≤ 64) := decide_eq_decide.2 (by omega)
      rw [← hend] at hle
      clear hend
      go_wp2
      go_ret
      exact ⟨ret_bool rfl, he.out⟩

theorem match_atoms (P : List Atm) : atmsOk P = true → P.length ≤ 64 := fun h => by
  unfold atmsOk at h
  rw [Bool.and_eq_true, decide_eq_true_eq] at h
  exact h.2
end Go.Proofs.YtljibkfbldjgdaaGreatDoor
