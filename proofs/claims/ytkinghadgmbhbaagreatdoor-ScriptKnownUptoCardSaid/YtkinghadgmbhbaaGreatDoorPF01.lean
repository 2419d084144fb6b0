/- Texts, plain: one byte as a separator: found, cut, split, joined; decimal numerals read. Numerals to a base, plain: their digits, their values, which texts are numerals in their own form. Words for memory that a call reads and makes: a slice that reads as a list of data, a row of the call's own that does. Independent of the program. Rows of bytes of the call's own: made by []byte(s) (whose row bears a mark behind its end) or by append. Rows of the call's own whose elements have two cells: an element stored, the tail cleared, a part cut off. Bits of an address; an address cut to its first bits. Prefixes: which may be, their order, which covers which, cut. Rows of bytes: one byte stored; a new row of zeros. Chapter 2: a number in bytes, the highest one first. Chapter 4: paths as data, what is asked of them, and how a path lies in memory. Chapter 4: a path as a text. Chapter 15, plain: patt -/
import Derived.Lib.SplitLaws
import Derived.Lib.ParseIntB
import Derived.Lib.ParseIntBCases
import Derived.Lib.ItoaNum
import Derived.Lib.Join
import Derived.WalkKit
import Derived.Below
import Derived.Outline
import Derived.LoopTactic
import Derived.Laws.OwnMore
import Derived.Deep.AppendLies
import Derived.Deep.Draws
import Derived.Lib.Hide
import Derived.BigQuiet
import Derived.Deep.QuietTactic
import Derived.WalkSpells
import Derived.WalkLawsBesides
import Derived.Deep.RegionHeld3
import Derived.Deep.DrawnRows
import Derived.Deep.RegionLaw
import Derived.Lib.ConvBytes
import Derived.Lib.Bytealg
import Derived.Lib.Small
import Derived.Test.YtkinghadgmbhbaaGreatDoorRows
import Derived.ProofKit
import Derived.Deep.Slices
import Derived.Shelf.GgClosure.StringsRunes
import Derived.Test.YtkinghadgmbhbaaGreatDoorProg
import Derived.Test.YtkinghadgmbhbaaGreatDoorShelf
import Derived.Shelf.RegionOpenPlain
import Derived.Laws.StructEq
import Derived.Lib.QuietBelow
import Derived.Test.YtkinghadgmbhbaaGreatDoorShelf2
import Derived.Lib.UnsafeStr
import Derived.Lib.ItoaMem
import Derived.Lib.ItoaLen
namespace Go.Proofs.YtkinghadgmbhbaaGreatDoor
section
set_option linter.unusedVariables false
theorem join_two (x y : List UInt8) (r : List (List UInt8)) (sep : List UInt8) : Lib.join (x :: y :: r) sep = x ++ sep ++ Lib.join (y :: r) sep := by
 rw [Lib.join_cons, Lib.join_cons]; simp [Lib.joinTail]
/- One byte as the separator. -/
theorem index_at {a b : List UInt8} {c : UInt8} (h : c ∉ a) : Lib.index (a ++ c :: b) [c] = a.length := by
 refine Lib.index_first (by simp) ?_ ?_
 ·simp [Lib.occAt, List.isPrefixOf]
 ·intro j hj
  simp only [Lib.occAt]
  rw [List.drop_append_of_le_length (by omega), List.drop_eq_getElem_cons hj]
  simp only [List.cons_append, List.isPrefixOf, Bool.and_true]
  rw [beq_eq_false_iff_ne]
  intro he
  exact h (by rw [he]; exact List.getElem_mem hj)
theorem index_no {s : List UInt8} {c : UInt8} (h : c ∉ s) : Lib.index s [c] = -1 := by
  rcases Lib.index_spec s [c] with ⟨h1, _⟩ | ⟨i, _, h2, h3, _⟩
  · exact h1
  · simp only [Lib.occAt] at h3
    cases hd : s.drop i with
    | nil => rw [hd] at h3; simp at h3
    | cons x t =>
      rw [hd] at h3
      simp only [List.isPrefixOf, Bool.and_true, beq_iff_eq] at h3
      exact absurd (by rw [h3]; exact List.mem_of_mem_drop (i := i) (by rw [hd]; simp)) h
theorem first_at {s : List UInt8} {c : UInt8} (h : c ∈ s) : ∃ a b, s = a ++ c :: b ∧ c ∉ a := by
  induction s with
  | nil => cases h
  | cons x t ih =>
    by_cases hx : x = c
    · exact ⟨[], t, by rw [hx]; rfl, by simp⟩
    · have ht : c ∈ t := by
        rcases List.mem_cons.1 h with h | h
        · exact absurd h.symm hx
        · exact h
      obtain ⟨a, b, h1, h2⟩ := ih ht
      exact ⟨x :: a, b, by rw [h1]; rfl, fun hm => by
        rcases List.mem_cons.1 hm with hm | hm
        · exact hx hm.symm
        · exact h2 hm⟩
theorem cut_hit {a b : List UInt8} {c : UInt8} (h : c ∉ a) : Lib.cut (a ++ c :: b) [c] = (a, b, true) := by
 unfold Lib.cut
 rw [index_at h, if_pos (by omega)]
 simp
theorem append_at {a b a' b' : List UInt8} {c : UInt8} (h : a ++ c :: b = a' ++ c :: b') (ha : c ∉ a) (ha' : c ∉ a') : a = a' ∧ b = b' := by
 have e1 := cut_hit (b := b) ha
 have e2 := cut_hit (b := b') ha'
 rw [h, e2] at e1
 injection e1 with e1 e3
 injection e3 with e3 _
 exact ⟨e1.symm, e3.symm⟩
def spl (c : UInt8) (s : List UInt8) : List (List UInt8) := Lib.split s [c]
theorem spl_no {c : UInt8} {s : List UInt8} (h : c ∉ s) : spl c s = [s] := by
 unfold spl Lib.split
 rw [Lib.count_miss (index_no h)]
 rfl
theorem spl_at {c : UInt8} {a b : List UInt8} (h : c ∉ a) : spl c (a ++ c :: b) = a :: spl c b := by
 unfold spl Lib.split
 have hd : (a ++ c :: b).drop (a.length + 1) = b := by
  rw [← List.drop_drop, List.drop_left]
  rfl
 rw [Lib.count_hit (by simp) (index_at h)]
 simp only [List.length_singleton, hd]
 rw [Nat.add_comm, Lib.splitK, index_at h, if_neg (by rw [beq_iff_eq]; omega)]
 simp only [Int.toNat_natCast, Nat.add_zero, List.take_left', List.length_singleton, hd]
theorem spl_ind {P : List UInt8 → Prop} (c : UInt8) (h0 : ∀ s, c ∉ s → P s) (h1 : ∀ a b, c ∉ a → P b → P (a ++ c :: b)) : ∀ (f : Nat) (s : List UInt8), s.length ≤ f → P s := by
  intro f
  induction f with
  | zero =>
    intro s hs
    have : s = [] := List.eq_nil_of_length_eq_zero (by omega)
    subst this
    exact h0 [] (by simp)
  | succ f ih =>
    intro s hs
    by_cases hm : c ∈ s
    · obtain ⟨a, b, rfl, ha⟩ := first_at hm
      exact h1 a b ha (ih b (by simp at hs; omega))
    · exact h0 s hm
theorem spl_ne (c : UInt8) (s : List UInt8) : spl c s ≠ [] := by
 refine spl_ind (P := fun s => spl c s ≠ []) c (fun s h => by rw [spl_no h]; simp) (fun a b h _ => by rw [spl_at h]; simp) s.length s (Nat.le_refl _)
theorem spl_join (c : UInt8) (s : List UInt8) : Lib.join (spl c s) [c] = s := by
  refine spl_ind (P := fun s => Lib.join (spl c s) [c] = s) c (fun s h => by rw [spl_no h, Lib.join_one]) (fun a b h ih => ?_) s.length s (Nat.le_refl _)
  rw [spl_at h]
  have hne := spl_ne c b
  cases hs : spl c b with
  | nil => exact absurd hs hne
  | cons x r =>
    rw [join_two, ← hs, ih]
    simp
theorem join_spl (c : UInt8) (x : List UInt8) (r : List (List UInt8)) (h : ∀ y ∈ x :: r, c ∉ y) : spl c (Lib.join (x :: r) [c]) = x :: r := by
  induction r generalizing x with
  | nil => rw [Lib.join_one, spl_no (h x (by simp))]
  | cons y r ih =>
    rw [join_two, List.append_assoc, List.singleton_append, spl_at (h x (by simp)), ih y (fun z hz => h z (by simp [List.mem_cons.1 hz]))]
/- Numerals. -/
theorem pu_append (M : Nat) : ∀ (l r : List UInt8) (acc : Nat), Lib.parseUintM M acc (l ++ r) = match Lib.parseUintM M acc l with | .ok v => Lib.parseUintM M v r | e => e := by
  intro l
  induction l with
  | nil => intro r acc; rfl
  | cons c l ih =>
    intro r acc
    simp only [List.cons_append, Lib.parseUintM]
    split
    · split
      · rfl
      · split
        · rfl
        · exact ih r _
    · rfl
theorem digit_of (i : Nat) (h : i < 10) : (UInt8.ofNat (48 + i)).toNat = 48 + i := by rw [UInt8.toNat_ofNat']; omega
theorem pu_dec (M : Nat) (hM : M ≤ 18446744073709551615) (u : Nat) : u ≤ M → Lib.parseUintM M 0 (Lib.decDigits u) = .ok u := by
  induction u using Nat.strongRecOn with
  | _ u ih =>
    intro hu
    by_cases h : u < 10
    · rw [Lib.decDigits_one h]
      simp only [Lib.parseUintM, digit_of u h]
      rw [if_pos (by omega), if_neg (by omega), if_neg (by omega)]
      congr 1
      omega
    · rw [Lib.decDigits, dif_neg h, pu_append, ih (u / 10) (by omega) (by omega)]
      simp only [Lib.parseUintM, digit_of (u % 10) (by omega)]
      rw [if_pos (by omega), if_neg (by omega), if_neg (by omega)]
      congr 1
      omega
theorem dec_ne (u : Nat) : Lib.decDigits u ≠ [] := by
 intro h
 have h1 := Lib.decDigits_length u
 have h2 := Lib.nDigits_pos u
 rw [h, List.length_nil] at h1
 omega
theorem pub_dec (B : Nat) (hB : B ≤ 64) (u : Nat) (h : u < 2 ^ B) : Lib.parseUintB B (Lib.decDigits u) = .ok u := by
 unfold Lib.parseUintB
 have h64 : 2 ^ B ≤ 2 ^ 64 := Nat.pow_le_pow_right (by omega) hB
 rw [if_neg (dec_ne u), pu_dec _ (by omega) u (by omega)]
/-- A digit: 0 to 9, a to f. -/
def dgt (d : Nat) : UInt8 := if d < 10 then UInt8.ofNat (48 + d) else UInt8.ofNat (87 + d)
def digS (b n : Nat) : List UInt8 := if h : n < b ∨ b < 2 then [dgt n] else digS b (n / b) ++ [dgt (n % b)]
termination_by n
decreasing_by exact Nat.div_lt_self (by omega) (by omega)
theorem digS_small {b n : Nat} (h : n < b) : digS b n = [dgt n] := by rw [digS, dif_pos (.inl h)]
theorem digS_big {b n : Nat} (hb : 2 ≤ b) (h : b ≤ n) : digS b n = digS b (n / b) ++ [dgt (n % b)] := by rw [digS, dif_neg (by omega)]
theorem digS_dec (u : Nat) : digS 10 u = Lib.decDigits u := by
  induction u using Nat.strongRecOn with
  | _ u ih =>
    by_cases h : u < 10
    · rw [digS_small h, Lib.decDigits_one h, dgt, if_pos h]
    · rw [digS_big (by omega) (by omega), Lib.decDigits, dif_neg h, ih (u / 10) (by omega), dgt, if_pos (by omega)]
/-- What a byte is worth as a digit. -/
def dval (c : UInt8) : Nat := if 48 ≤ c.toNat ∧ c.toNat ≤ 57 then c.toNat - 48 else if 97 ≤ c.toNat ∧ c.toNat ≤ 102 then c.toNat - 87 else 99
theorem dgt_toNat {d : Nat} (h : d < 16) : (dgt d).toNat = if d < 10 then 48 + d else 87 + d := by
 unfold dgt
 split <;> rw [UInt8.toNat_ofNat'] <;> omega
theorem dval_dgt {d : Nat} (h : d < 16) : dval (dgt d) = d := by
 unfold dval
 rw [dgt_toNat h]
 split <;> split <;> first | omega | (split <;> omega)
/-- The value of digits. -/
def vf (b : Nat) (s : List UInt8) : Nat := s.foldl (fun n c => n * b + dval c) 0
theorem vf_snoc (b : Nat) (s : List UInt8) (c : UInt8) : vf b (s ++ [c]) = vf b s * b + dval c := by unfold vf; rw [List.foldl_append]; rfl
theorem vf_dig {b : Nat} (h2 : 2 ≤ b) (h16 : b ≤ 16) (u : Nat) : vf b (digS b u) = u := by
  induction u using Nat.strongRecOn with
  | _ u ih =>
    by_cases h : u < b
    · rw [digS_small h]
      show 0 * b + dval (dgt u) = u
      rw [dval_dgt (by omega)]
      omega
    · have hm := Nat.mod_lt u (show 0 < b by omega)
      rw [digS_big h2 (by omega), vf_snoc, ih (u / b) (Nat.div_lt_self (by omega) (by omega)), dval_dgt (by omega)]
      exact Nat.div_add_mod' u b
theorem digS_ne (b u : Nat) : digS b u ≠ [] := by
 rw [digS]
 split <;> simp
/-- Every digit is one. -/
theorem digS_mem {b : Nat} (h2 : 2 ≤ b) (h16 : b ≤ 16) (u : Nat) : ∀ c ∈ digS b u, ∃ d, d < b ∧ c = dgt d := by
  induction u using Nat.strongRecOn with
  | _ u ih =>
    by_cases h : u < b
    · rw [digS_small h]
      intro c hc
      exact ⟨u, h, List.mem_singleton.1 hc⟩
    · rw [digS_big h2 (by omega)]
      intro c hc
      rcases List.mem_append.1 hc with hc | hc
      · exact ih (u / b) (Nat.div_lt_self (by omega) (by omega)) c hc
      · exact ⟨u % b, Nat.mod_lt _ (by omega), List.mem_singleton.1 hc⟩
theorem digS_no {b : Nat} (h2 : 2 ≤ b) (h16 : b ≤ 16) (u : Nat) (c : UInt8) (hc : c.toNat < 48 ∨ (57 < c.toNat ∧ c.toNat < 97) ∨ 102 < c.toNat) : c ∉ digS b u := fun h => by
 obtain ⟨d, hd, rfl⟩ := digS_mem h2 h16 u c h
 rw [dgt_toNat (by omega)] at hc
 split at hc <;> omega
theorem digS_len {b : Nat} (h2 : 2 ≤ b) : ∀ (k u : Nat), u < b ^ k → 1 ≤ k → (digS b u).length ≤ k := by
  intro k
  induction k with
  | zero => intro u _ h; omega
  | succ k ih =>
    intro u hu _
    by_cases h : u < b
    · rw [digS_small h]; simp
    · rw [digS_big h2 (by omega), List.length_append, List.length_singleton]
      have hk : 1 ≤ k := by
        rcases Nat.eq_zero_or_pos k with rfl | hk
        · simp at hu; omega
        · exact hk
      have := ih (u / b) (by rw [Nat.pow_succ] at hu; exact Nat.div_lt_of_lt_mul (by rw [Nat.mul_comm]; exact hu)) hk
      omega
/-- A numeral in its own form, up to a greatest number. -/
def rdN (b most : Nat) (s : List UInt8) : Option Nat := if digS b (vf b s) = s ∧ vf b s ≤ most then some (vf b s) else none
theorem rdN_iff {b most : Nat} (h2 : 2 ≤ b) (h16 : b ≤ 16) {s : List UInt8} {u : Nat} : rdN b most s = some u ↔ u ≤ most ∧ digS b u = s := by
 unfold rdN
 constructor
 ·intro h
  split at h
  ·rename_i hc
   injection h with h
   subst h
   exact ⟨hc.2, hc.1⟩
  ·cases h
 ·rintro ⟨h1, rfl⟩
  rw [vf_dig h2 h16, if_pos ⟨rfl, h1⟩]
theorem rdN_dig {b most u : Nat} (h2 : 2 ≤ b) (h16 : b ≤ 16) (h : u ≤ most) : rdN b most (digS b u) = some u := (rdN_iff h2 h16).2 ⟨h, rfl⟩
theorem rdN_none {b most : Nat} (h2 : 2 ≤ b) (h16 : b ≤ 16) {s : List UInt8} : rdN b most s = none ↔ ∀ u ≤ most, digS b u ≠ s := by
  constructor
  · intro h u hu he
    rw [(rdN_iff h2 h16).2 ⟨hu, he⟩] at h
    cases h
  · intro h
    cases hr : rdN b most s with
    | none => rfl
    | some u =>
      have := (rdN_iff h2 h16).1 hr
      exact absurd this.2 (h u this.1)
/-- Reading digit by digit, as long as the value stays in bounds. -/
theorem vf_take {b : Nat} (h1 : 1 ≤ b) (s : List UInt8) (k : Nat) : vf b (s.take k) ≤ vf b s := by
  have key : ∀ (r : List UInt8) (a : Nat), a ≤ r.foldl (fun n c => n * b + dval c) a := by
    intro r
    induction r with
    | nil => intro a; exact Nat.le_refl _
    | cons c r ih =>
      intro a
      refine Nat.le_trans ?_ (ih _)
      show a ≤ a * b + dval c
      have := Nat.le_mul_of_pos_right a (show 0 < b by omega)
      omega
  have h := key (s.drop k) (vf b (s.take k))
  have he : (s.drop k).foldl (fun n c => n * b + dval c) (vf b (s.take k)) = vf b s := by
    unfold vf
    rw [← List.foldl_append, List.take_append_drop]
  omega
theorem vf_next (b : Nat) (s : List UInt8) (k : Nat) (hk : k < s.length) : vf b (s.take (k + 1)) = vf b (s.take k) * b + dval s[k] := by
 rw [List.take_succ_eq_append_getElem hk, vf_snoc]
end
section
open Go.RowKit
theorem hide {p : Prop} (h : p) : Hid p := h
/-- Nothing that was there when the call began has turned. -/
def Ext (w w' : World) : Prop := Below w.heap.size w w'
theorem Ext.refl (w : World) : Ext w w := Below.refl _ _
theorem Ext.trans {a b c : World} (h : Ext a b) (k : Ext b c) : Ext a c := Below.trans h (Below.mono k h.size)
theorem Ext.alloc {a b : World} (h : Ext a b) (o : Obj) : Ext a (b.alloc o) := Below.alloc h h.size o
theorem Ext.drew {a b : World} (h : Ext a b) : Ext a b.drew := Below.drew h
theorem Ext.drewN {a b : World} (h : Ext a b) (n : Nat) : Ext a (b.drewN n) := ⟨h.os, h.tape, h.output, h.size, h.block⟩
theorem Ext.setCell {a b : World} (h : Ext a b) {p : Addr} (hp : a.heap.size ≤ p.block) (u : Value) : Ext a (b.setCell p u) := Below.setCell h hp u
theorem Ext.grown {a b c : World} {row : Option Nat} (h : Ext a b) (hg : b.grownBy c row) (hr : ∀ k, row = some k → a.heap.size ≤ k) : Ext a c := Below.grown h hg h.size hr
theorem Ext.cell {w w' : World} {b o : Nat} {u : Value} (h : Ext w w') (hc : w.cell? ⟨b, o, none⟩ = some u) : w'.cell? ⟨b, o, none⟩ = some u :=
 (Below.cell h (p := ⟨b, o, none⟩) (World.block_lt_of_cell? w _ hc)).trans hc
/-- The world behind some draws. -/
def Drew (w w' : World) : Prop := ∃ n, w' = w.drewN n
theorem Drew.refl (w : World) : Drew w w := ⟨0, rfl⟩
theorem Drew.more {a b : World} (h : Drew a b) (n : Nat) : Drew a (b.drewN n) := by obtain ⟨m, rfl⟩ := h; exact ⟨m + n, by rw [World.drewN_drewN]⟩
theorem Drew.trans {a b c : World} (h : Drew a b) (k : Drew b c) : Drew a c := by obtain ⟨n, rfl⟩ := k; exact h.more n
theorem Drew.ext {a b : World} (h : Drew a b) : Ext a b := by obtain ⟨m, rfl⟩ := h; exact (Ext.refl a).drewN m
/-- A block that is known whole. -/
def Blk (w : World) (g : Nat) (t : TypeId) (cs : Array Value) : Prop := w.heap[g]? = some (.cells cs t (0, 0))
section
variable {w w' : World} {g : Nat} {t : TypeId} {cs : Array Value}
theorem Blk.lt (h : Blk w g t cs) : g < w.heap.size := by
 rcases Nat.lt_or_ge g w.heap.size with hlt | hge
 ·exact hlt
 ·unfold Blk at h; rw [Array.getElem?_eq_none hge] at h; cases h
theorem Blk.cell (h : Blk w g t cs) (i : Nat) : w.cell? ⟨g, i, none⟩ = cs[i]? := cell_of_row w g i cs t (0, 0) h
theorem Blk.frozen (h : Blk w g t cs) (i : Nat) : w.frozen? ⟨g, i, none⟩ = false := by
 unfold Blk at h
 simp [World.frozen?, h]
theorem Blk.new (w : World) (t : TypeId) (cs : Array Value) : Blk (w.alloc (.cells cs t)) w.heap.size t cs := heap_alloc_new w _
theorem Blk.alloc (h : Blk w g t cs) (o : Obj) : Blk (w.alloc o) g t cs := (Below.heap_alloc w o g h.lt).trans h
theorem Blk.set_ (h : Blk w g t cs) (i : Nat) (u : Value) : Blk (w.setCell ⟨g, i, none⟩ u) g t (cs.setIfInBounds i u) := by
 unfold Blk at h ⊢
 simp [World.setCell, Array.getElem?_modify, h]
theorem Blk.far (h : Blk w g t cs) {p : Addr} (hp : g ≠ p.block) (u : Value) : Blk (w.setCell p u) g t cs := (Below.heap_setCell w p u g hp).trans h
theorem Blk.below {B : Nat} (h : Blk w g t cs) (hb : Below B w w') (hg : g < B) : Blk w' g t cs := (hb.block g hg).trans h
theorem Blk.ext (h : Blk w g t cs) (hb : Ext w w') : Blk w' g t cs := Blk.below h hb h.lt
theorem Blk.grown (h : Blk w g t cs) {row : Option Nat} (hb : w.grownBy w' row) (hg : some g ≠ row) : Blk w' g t cs := (hb.block g h.lt hg).trans h
theorem Blk.drew (h : Blk w g t cs) : Blk w.drew g t cs := h
theorem Blk.drewN (h : Blk w g t cs) (n : Nat) : Blk (w.drewN n) g t cs := h
end
/-- How a datum of type α lies in cells: which cells, in a world, nothing looked at outside the blocks S. -/
structure Enc (α : Type) where
  R : World → (Nat → Prop) → α → List Value → Prop
  sz : Nat
  size : ∀ {w S x cs}, R w S x cs → cs.length = sz
  one : ∀ {w S x cs}, R w S x cs → ∀ u ∈ cs, u.oneCell' = true
  frame : ∀ {w w' : World} {S : Nat → Prop} {x : α} {cs}, (∀ b, S b → w'.heap[b]? = w.heap[b]?) → R w S x cs → R w' S x cs
  mono : ∀ {w : World} {S S' : Nat → Prop} {x : α} {cs}, (∀ b, S b → S' b) → R w S x cs → R w S' x cs
/-- A slice at address a reads as the list l. -/
def Sl {α : Type} (E : Enc α) (w : World) (S : Nat → Prop) (a : Option Addr) (l : List α) : Prop :=
 l = [] ∨ ∃ b off, a = some ⟨b, off, none⟩ ∧ S b ∧ ∀ k x, l[k]? = some x → ∃ cs, E.R w S x cs ∧ ∀ j u, cs[j]? = some u → w.cell? ⟨b, off + k * E.sz + j, none⟩ = some u
section
variable {α : Type} {E : Enc α} {w w' : World} {S S' : Nat → Prop} {a : Option Addr} {l : List α}
theorem Sl.nil : Sl E w S a [] := .inl rfl
theorem Sl.frame (h : Sl E w S a l) (hw : ∀ b, S b → w'.heap[b]? = w.heap[b]?) : Sl E w' S a l := by
 rcases h with h | ⟨b, off, rfl, hb, h⟩
 ·exact .inl h
 ·refine .inr ⟨b, off, rfl, hb, fun k x hx => ?_⟩
  obtain ⟨cs, hr, hc⟩ := h k x hx
  exact ⟨cs, E.frame hw hr, fun j u hu => (World.cell?_of_block (a := ⟨b, off + k * E.sz + j, none⟩) (hw b hb)).trans (hc j u hu)⟩
theorem Sl.mono (h : Sl E w S a l) (hS : ∀ b, S b → S' b) : Sl E w S' a l := by
 rcases h with h | ⟨b, off, rfl, hb, h⟩
 ·exact .inl h
 ·exact .inr ⟨b, off, rfl, hS b hb, fun k x hx => let ⟨cs, hr, hc⟩ := h k x hx; ⟨cs, E.mono hS hr, hc⟩⟩
theorem Sl.at (h : Sl E w S a l) (k : Nat) (hk : k < l.length) :
  ∃ b off cs, a = some ⟨b, off, none⟩ ∧ S b ∧ E.R w S l[k] cs ∧ ∀ j u, cs[j]? = some u → w.cell? ⟨b, off + k * E.sz + j, none⟩ = some u := by
 rcases h with h | ⟨b, off, rfl, hb, h⟩
 ·subst h; simp at hk
 ·obtain ⟨cs, hr, hc⟩ := h k l[k] (by simp [hk])
  exact ⟨b, off, cs, rfl, hb, hr, hc⟩
theorem Sl.below {B : Nat} (h : Sl E w (· < B) a l) (hb : Below B w w') : Sl E w' (· < B) a l := h.frame hb.block
theorem Sl.ext (h : Sl E w (· < w.heap.size) a l) (hb : Ext w w') : Sl E w' (· < w'.heap.size) a l := (h.frame hb.block).mono fun _ hh => Nat.lt_of_lt_of_le hh hb.size
theorem Sl.draw (h : Sl E w S a l) : Sl E w.drew S a l := h.frame fun _ _ => rfl
theorem Sl.drewN (h : Sl E w S a l) (n : Nat) : Sl E (w.drewN n) S a l := h.frame fun _ _ => rfl
theorem Sl.drew (h : Sl E w S a l) (hd : Drew w w') : Sl E w' S a l := by obtain ⟨n, rfl⟩ := hd; exact h.drewN n
theorem Sl.up {B C : Nat} (h : Sl E w (· < B) a l) (hB : B ≤ C) : Sl E w (· < C) a l := h.mono fun _ hb => Nat.lt_of_lt_of_le hb hB
theorem Sl.take (h : Sl E w S a l) (n : Nat) : Sl E w S a (l.take n) := by
 rcases h with h | ⟨b, off, rfl, hb, h⟩
 ·subst h; exact .inl (by simp)
 ·refine .inr ⟨b, off, rfl, hb, fun k x hx => h k x ?_⟩
  rw [List.getElem?_take] at hx
  split at hx <;> simp_all
end
/-- A row of the call's own (from block B on) that reads as the list l; what its elements lead to lies in other blocks, from B on. -/
def Own {α : Type} (E : Enc α) (e : TypeId) (w : World) (B : Nat) (v : Value) (l : List α) : Prop :=
 ∃ xs, w.ownsRow B e E.sz v l.length xs ∧ ∀ k x, l[k]? = some x → ∃ cs, E.R w (fun b => B ≤ b ∧ b < w.heap.size ∧ some b ≠ v.ownBlock) x cs ∧ ∀ j u, cs[j]? = some u → xs[k * E.sz + j]? = some u
section
variable {α : Type} {E : Enc α} {w w' : World} {B : Nat} {v : Value} {l : List α} {e : TypeId}
theorem Own.nil : Own E e w B (.slice none 0 0) [] := ⟨[], World.ownsRow_nil w B e E.sz, fun k x h => by simp at h⟩
theorem Own.form (h : Own E e w B v l) : ∃ a c, v = .slice a l.length c := by
 obtain ⟨xs, ⟨_, h1⟩, _⟩ := h
 rcases h1 with ⟨rfl, h0⟩ | ⟨g, cap, cur, rfl, _⟩
 ·exact ⟨none, 0, by rw [h0]⟩
 ·exact ⟨_, _, rfl⟩
theorem Own.lt (h : Own E e w B v l) : ∀ k, v.ownBlock = some k → B ≤ k ∧ k < w.heap.size := by
 obtain ⟨xs, h1, _⟩ := h
 exact h1.lt
/-- The world grows elsewhere: new blocks, writes to a row that is not this one nor what it leads to. -/
theorem Own.kept (h : Own E e w B v l) (hs : w.heap.size ≤ w'.heap.size) (hw : ∀ b, B ≤ b → b < w.heap.size → w'.heap[b]? = w.heap[b]?) : Own E e w' B v l := by
 obtain ⟨xs, h1, h2⟩ := h
 refine ⟨xs, ?_, fun k x hx => ?_⟩
 ·obtain ⟨hl, h3⟩ := h1
  refine ⟨hl, ?_⟩
  rcases h3 with h3 | ⟨g, cap, cur, rfl, hg, hh, r⟩
  ·exact .inl h3
  ·exact .inr ⟨g, cap, cur, rfl, hg, by rw [hw g hg (Array.getElem?_eq_some_iff.1 hh).1]; exact hh, r⟩
 ·obtain ⟨cs, hr, hc⟩ := h2 k x hx
  exact ⟨cs, E.mono (fun b hb => ⟨hb.1, by omega, hb.2.2⟩) (E.frame (fun b hb => hw b hb.1 hb.2.1) hr), hc⟩
theorem Own.below {C : Nat} (h : Own E e w B v l) (hb : Below C w w') (hC : C = w.heap.size) : Own E e w' B v l := by
 subst hC
 exact h.kept hb.size fun b _ hlt => hb.block b hlt
theorem Own.low {B' : Nat} (h : Own E e w B v l) (hB : B' ≤ B) : Own E e w B' v l := by
 obtain ⟨xs, ⟨hl, h1⟩, h2⟩ := h
 refine ⟨xs, ⟨hl, ?_⟩, fun k x hx => ?_⟩
 ·rcases h1 with h1 | ⟨g, cap, cur, rfl, hg, r⟩
  ·exact .inl h1
  ·exact .inr ⟨g, cap, cur, rfl, Nat.le_trans hB hg, r⟩
 ·obtain ⟨cs, hr, hc⟩ := h2 k x hx
  exact ⟨cs, E.mono (fun b hb => ⟨Nat.le_trans hB hb.1, hb.2⟩) hr, hc⟩
theorem Own.sl (h : Own E e w B v l) : ∃ a c, v = .slice a l.length c ∧ Sl E w (fun b => B ≤ b ∧ b < w.heap.size) a l := by
 obtain ⟨xs, h1, h2⟩ := h
 rcases h1.2 with ⟨rfl, h0⟩ | ⟨g, cap, cur, rfl, hg, hh, hcap, _, hcs, htake⟩
 ·refine ⟨none, 0, by rw [h0], .inl (List.eq_nil_of_length_eq_zero h0)⟩
 ·refine ⟨_, _, rfl, .inr ⟨g, 0, rfl, ⟨hg, (Array.getElem?_eq_some_iff.1 hh).1⟩, fun k x hx => ?_⟩⟩
  obtain ⟨cs, hr, hc⟩ := h2 k x hx
  refine ⟨cs, E.mono (fun b hb => ⟨hb.1, hb.2.1⟩) hr, fun j u hu => ?_⟩
  have := h1.cells (g := g) rfl (k * E.sz + j) u (hc j u hu)
  have hadd : (⟨g, 0, none⟩ : Addr).add (k * E.sz + j) = ⟨g, 0 + k * E.sz + j, none⟩ := by unfold Addr.add; split <;> simp_all
  rw [hadd] at this
  exact this
theorem Own.slc (h : Own E e w B v l) : ∃ a c, v = .slice a l.length c ∧ l.length ≤ c ∧ Sl E w (fun b => B ≤ b ∧ b < w.heap.size) a l := by
 obtain ⟨a, c, rfl, hs⟩ := h.sl
 refine ⟨a, c, rfl, ?_, hs⟩
 obtain ⟨xs, h1, _⟩ := h
 rcases h1.2 with ⟨h2, h0⟩ | ⟨g, cap, cur, h2, _, _, hn, _⟩
 ·omega
 ·injection h2 with _ _ h2; omega
/-- One more element behind: what the law on append leaves. -/
theorem Own.snoc {v' : Value} {x : α} {cs : List Value} {W : World} {xs : List Value} (hold : ∀ k y, l[k]? = some y → ∃ cs, E.R w (fun b => B ≤ b ∧ b < w.heap.size ∧ some b ≠ v.ownBlock) y cs ∧ ∀ j u, cs[j]? = some u → xs[k * E.sz + j]? = some u)
  (hl : xs.length = l.length * E.sz) (hx : E.R w (fun b => B ≤ b ∧ b < w.heap.size ∧ some b ≠ v.ownBlock) x cs) (hs : w.heap.size ≤ W.heap.size)
  (hW : ∀ b, B ≤ b → b < w.heap.size → W.heap[b]? = w.heap[b]?)
  (hown : w'.ownsRow B e E.sz v' (l.length + 1) (xs ++ cs)) (hg : W.grownBy w' v.ownBlock) (hat : v'.ownBlock = v.ownBlock ∨ v'.ownBlock = some W.heap.size) : Own E e w' B v' (l ++ [x]) := by
 have hfr : ∀ b, (B ≤ b ∧ b < w.heap.size ∧ some b ≠ v.ownBlock) → w'.heap[b]? = w.heap[b]? := fun b hb =>
  (hg.block b (by omega) hb.2.2).trans (hW b hb.1 hb.2.1)
 have hsz := hg.size
 have hmo : ∀ b, (B ≤ b ∧ b < w.heap.size ∧ some b ≠ v.ownBlock) → (B ≤ b ∧ b < w'.heap.size ∧ some b ≠ v'.ownBlock) := fun b hb => by
  refine ⟨hb.1, by omega, ?_⟩
  rcases hat with h | h
  ·rw [h]; exact hb.2.2
  ·rw [h]; intro he; injection he; omega
 refine ⟨xs ++ cs, by simpa using hown, fun k y hy => ?_⟩
 rcases Nat.lt_or_ge k l.length with hk | hk
 ·rw [List.getElem?_append_left hk] at hy
  obtain ⟨ds, hr, hc⟩ := hold k y hy
  refine ⟨ds, E.mono hmo (E.frame hfr hr), fun j u hu => ?_⟩
  have := hc j u hu
  have hlt : k * E.sz + j < xs.length := (List.getElem?_eq_some_iff.1 this).1
  rw [List.getElem?_append_left hlt]
  exact this
 ·rw [List.getElem?_append_right hk] at hy
  have hk0 : k - l.length = 0 := by
   rcases Nat.eq_zero_or_pos (k - l.length) with h | h
   ·exact h
   ·rw [List.getElem?_eq_none (by simp; omega)] at hy; cases hy
  rw [hk0] at hy
  simp at hy
  subst hy
  have hk' : k = l.length := by omega
  subst hk'
  refine ⟨cs, E.mono hmo (E.frame hfr hx), fun j u hu => ?_⟩
  rw [List.getElem?_append_right (by omega)]
  rw [show l.length * E.sz + j - xs.length = j by omega]
  exact hu
end
/-- What append asks of a slice type t of elements e. -/
def ElemOk (P : Program) (t e : TypeId) (sz bytes : Nat) : Prop :=
 P.underlying t = some (.slice e) ∧ ∃ i z, P.info? e = some i ∧ i.zero = some z ∧ i.size = sz ∧ i.bytes = bytes ∧ z.cells.size = sz
theorem elemOk {P : Program} {t e : TypeId} {sz bytes : Nat} {z : Value} (ht : P.underlying t = some (.slice e))
    (h : (P.info? e).map (fun i => (i.zero, i.size, i.bytes)) = some (some z, sz, bytes)) (hz : z.cells.size = sz) : ElemOk P t e sz bytes := by
  refine ⟨ht, ?_⟩
  cases hi : P.info? e with
  | none => rw [hi] at h; cases h
  | some i =>
    rw [hi] at h
    simp only [Option.map_some, Option.some.injEq, Prod.mk.injEq] at h
    exact ⟨i, z, rfl, h.1, h.2.1, h.2.2, hz⟩
section
variable {α : Type} {E : Enc α} {w w' : World} {B : Nat} {v : Value} {l : List α} {e : TypeId}
theorem Own.alloc (h : Own E e w B v l) (o : Obj) : Own E e (w.alloc o) B v l := h.kept (by simp) fun b _ hb => Below.heap_alloc w o b hb
theorem Own.ext (h : Own E e w B v l) (he : Ext w w') : Own E e w' B v l := h.kept he.size fun b _ hlt => he.block b hlt
theorem Own.draw (h : Own E e w B v l) : Own E e w.drew B v l := h.kept (Nat.le_refl _) fun _ _ _ => rfl
theorem Own.drewN (h : Own E e w B v l) (n : Nat) : Own E e (w.drewN n) B v l := h.kept (Nat.le_refl _) fun _ _ _ => rfl
theorem Own.drew (h : Own E e w B v l) : Own E e w.drew B v l := h.kept (Nat.le_refl _) fun _ _ _ => rfl
/-- append of one element onto a row of the call's own. -/
theorem run_push {P : Program} {t ty : TypeId} {bytes : Nat} (hok : ElemOk P t e E.sz bytes) (hsz : 0 < E.sz) (hby : bytes ≤ 4096) (h : Own E e w B v l) (hl : l.length ≤ 17179869184) (hB : B ≤ w.heap.size)
  {ad : Addr} {x : α} {cs : List Value} (hx : E.R w (fun b => B ≤ b ∧ b < w.heap.size ∧ some b ≠ v.ownBlock) x cs) (hc : ∀ j u, cs[j]? = some u → w.cell? (ad.add j) = some u) (c : Nat) :
  ∃ v' w', (Builtin.append_ #[t, t] ty #[v, .slice (some ad) 1 c]).run P w = .ok v' w' ∧ Own E e w' B v' (l ++ [x]) ∧ w.grownBy w' v.ownBlock ∧ (v'.ownBlock = v.ownBlock ∨ v'.ownBlock = some w.heap.size) := by
 obtain ⟨ht, i, z, hi, hz, h1, h2, h3⟩ := hok
 obtain ⟨xs, ho, hr⟩ := h
 have hm : (l.length + 1) * bytes ≤ 17179869185 * 4096 := Nat.mul_le_mul (by omega) hby
 obtain ⟨v', w', hrun, hown, hg, _, hat⟩ := run_append_own_at (P := P) w B t ty e i z E.sz bytes ht hi hz h1 h2 h3 hsz v l.length xs ho ad 1 c cs (by rw [E.size hx, Nat.one_mul]) hc (E.one hx)
  (by unfold maxLen; omega) (by omega) hB
 exact ⟨v', w', hrun, Own.snoc hr ho.1 hx (Nat.le_refl _) (fun _ _ _ => rfl) hown hg hat, hg, hat⟩
theorem wp_push {P : Program} {o : Oper} {a : Act} {K : Act → World → Prop} {Q : Exit → Act → World → Prop} (s x : Operand) (t : TypeId)
  (ho : o.op = .call { callee := .builtin .append, args := #[s, x], argTypes := #[t, t] }) {bytes : Nat} (hok : ElemOk P t e E.sz bytes) (hsz : 0 < E.sz) (hby : bytes ≤ 4096)
  (hs : a.eval s = v) (h : Own E e w B v l) (hl : l.length ≤ 17179869184) (hB : B ≤ w.heap.size)
  {ad : Addr} {c : Nat} (hx : a.eval x = .slice (some ad) 1 c) {y : α} {cs : List Value} (hy : E.R w (fun b => B ≤ b ∧ b < w.heap.size ∧ some b ≠ v.ownBlock) y cs) (hc : ∀ j u, cs[j]? = some u → w.cell? (ad.add j) = some u)
  (hk : ∀ v' w', Own E e w' B v' (l ++ [y]) → w.grownBy w' v.ownBlock → (v'.ownBlock = v.ownBlock ∨ v'.ownBlock = some w.heap.size) → K (a.put o.dst v') w') : o.wp P a w K Q := by
 obtain ⟨v', w', hrun, h2, h3, h4⟩ := run_push (P := P) (ty := o.type) hok hsz hby h hl hB hy hc c
 unfold Oper.wp execOp
 simp only [ho, resolve, invoke, builtin, Sem.run_bind, Sem.run_pure, Result.andThen_ok, List.map_toArray, List.map_cons, List.map_nil, hs, hx, hrun]
 exact hk v' w' h2 h3 h4
theorem wpList_push {P : Program} {ops : Array Oper} {rest : List Oper} {o : Oper} {a : Act} {Q : Exit → Act → World → Prop} (hgd : o.guard = none) (s x : Operand) (t : TypeId)
  (ho : o.op = .call { callee := .builtin .append, args := #[s, x], argTypes := #[t, t] }) {bytes : Nat} (hok : ElemOk P t e E.sz bytes) (hsz : 0 < E.sz) (hby : bytes ≤ 4096)
  (hs : a.eval s = v) (h : Own E e w B v l) (hl : l.length ≤ 17179869184) (hB : B ≤ w.heap.size)
  {ad : Addr} {c : Nat} (hx : a.eval x = .slice (some ad) 1 c) {y : α} {cs : List Value} (hy : E.R w (fun b => B ≤ b ∧ b < w.heap.size ∧ some b ≠ v.ownBlock) y cs) (hc : ∀ j u, cs[j]? = some u → w.cell? (ad.add j) = some u)
  (hk : ∀ v' w', Own E e w' B v' (l ++ [y]) → w.grownBy w' v.ownBlock → (v'.ownBlock = v.ownBlock ∨ v'.ownBlock = some w.heap.size) → wpList P ops Q rest (a.put o.dst v') w') : wpList P ops Q (o :: rest) a w :=
 wpList_plain hgd fun _ hK => wp_push s x t ho hok hsz hby hs h hl hB hx hy hc fun v' w' h2 h3 h4 => hK _ _ (hk v' w' h2 h3 h4)
theorem step_push {P : Program} {ops : Array Oper} {o : Oper} {a : Act} {K : Act → World → Prop} {Q : Exit → Act → World → Prop} {X : Prop} (hgd : o.guard = none) (s x : Operand) (t : TypeId)
  (ho : o.op = .call { callee := .builtin .append, args := #[s, x], argTypes := #[t, t] }) {bytes : Nat} (hok : ElemOk P t e E.sz bytes) (hsz : 0 < E.sz) (hby : bytes ≤ 4096)
  (hs : a.eval s = v) (h : Own E e w B v l) (hl : l.length ≤ 17179869184) (hB : B ≤ w.heap.size)
  {ad : Addr} {c : Nat} (hx : a.eval x = .slice (some ad) 1 c) {y : α} {cs : List Value} (hy : E.R w (fun b => B ≤ b ∧ b < w.heap.size ∧ some b ≠ v.ownBlock) y cs) (hc : ∀ j u, cs[j]? = some u → w.cell? (ad.add j) = some u)
  (hk : ∀ v' w', Own E e w' B v' (l ++ [y]) → w.grownBy w' v.ownBlock → (v'.ownBlock = v.ownBlock ∨ v'.ownBlock = some w.heap.size) → K (a.put o.dst v') w') : if Region.wanted o (yielded ops a.tmps) = true then Oper.wp P o a w K Q else X := by
 have hw : Region.wanted o (yielded ops a.tmps) = true := by simp [Region.wanted, hgd]
 rw [if_pos hw]
 exact wp_push s x t ho hok hsz hby hs h hl hB hx hy hc hk
/-- The frame behind such an append. -/
theorem Ext.push {a w w' : World} {v : Value} (h : Ext a w) (hv : ∀ k, v.ownBlock = some k → a.heap.size ≤ k) (hg : w.grownBy w' v.ownBlock) : Ext a w' := h.grown hg hv
/-- The one new cell, or the cells of one new element, of a slice literal. -/
theorem cells_new (w : World) (cs : Array Value) (t : TypeId) : ∀ j u, cs.toList[j]? = some u → (w.alloc (.cells cs t)).cell? ((⟨w.heap.size, 0, none⟩ : Addr).add j) = some u :=
 World.news_of_block (heap_alloc_new w _)
end
/-- A datum of one cell that leads nowhere. -/
def Enc.flat {α : Type} (f : α → Value) (P : α → Prop) (h : ∀ x, (f x).oneCell' = true) : Enc α where
 R _ _ x cs := cs = [f x] ∧ P x
 sz := 1
 size h := by rw [h.1]; rfl
 one := by rintro w S x cs ⟨rfl, _⟩ u hu; simp at hu; subst hu; exact h x
 frame _ h := h
 mono _ h := h
section
variable {α : Type} {f : α → Value} {P : α → Prop} {hf : ∀ x, (f x).oneCell' = true} {w w' : World} {B : Nat} {v : Value} {l : List α} {e : TypeId} {S : Nat → Prop} {a : Option Addr}
theorem add_lit (b off j : Nat) : (⟨b, off, none⟩ : Addr).add j = ⟨b, off + j, none⟩ := by unfold Addr.add; split <;> simp_all
end
def EU32 : Enc UInt32 := Enc.flat (fun x => .int .u32 (x.toNat : Int)) (fun _ => True) (fun _ => rfl)
def EStr : Enc ByteArray := Enc.flat (fun x => .string x) (fun x => x.size ≤ maxLen) (fun _ => rfl)
def EI64 : Enc Int := Enc.flat (fun x => .int .i64 x) (fun x => -9223372036854775808 ≤ x ∧ x ≤ 9223372036854775807) (fun _ => rfl)
def Enc.pair {α β : Type} (E : Enc α) (F : Enc β) : Enc (α × β) where
 R w S x cs := ∃ c d, cs = c ++ d ∧ E.R w S x.1 c ∧ F.R w S x.2 d
 sz := E.sz + F.sz
 size := by rintro w S x cs ⟨c, d, rfl, h1, h2⟩; rw [List.length_append, E.size h1, F.size h2]
 one := by
  rintro w S x cs ⟨c, d, rfl, h1, h2⟩ u hu
  rcases List.mem_append.1 hu with h | h
  ·exact E.one h1 u h
  ·exact F.one h2 u h
 frame := by rintro w w' S x cs hw ⟨c, d, rfl, h1, h2⟩; exact ⟨c, d, rfl, E.frame hw h1, F.frame hw h2⟩
 mono := by rintro w S S' x cs hS ⟨c, d, rfl, h1, h2⟩; exact ⟨c, d, rfl, E.mono hS h1, F.mono hS h2⟩
def Enc.slice {α : Type} (E : Enc α) : Enc (List α) where
 R w S l cs := ∃ a c, cs = [.slice a l.length c] ∧ l.length ≤ 16777216 ∧ Sl E w S a l
 sz := 1
 size := by rintro w S x cs ⟨a, c, rfl, _⟩; rfl
 one := by rintro w S x cs ⟨a, c, rfl, _⟩ u hu; simp at hu; subst hu; rfl
 frame := by rintro w w' S x cs hw ⟨a, c, rfl, hm, h⟩; exact ⟨a, c, rfl, hm, h.frame hw⟩
 mono := by rintro w S S' x cs hS ⟨a, c, rfl, hm, h⟩; exact ⟨a, c, rfl, hm, h.mono hS⟩
def Enc.map {α β : Type} (E : Enc α) (f : β → α) : Enc β where
 R w S x cs := E.R w S (f x) cs
 sz := E.sz
 size h := E.size h
 one h := E.one h
 frame hw h := E.frame hw h
 mono hS h := E.mono hS h
end
section
open Go.RowKit
set_option linter.unusedVariables false
/-- Of the cells below n none is frozen. -/
def Thawed (fz : Nat × Nat) (n : Nat) : Prop := n ≤ fz.1 ∨ fz.2 = 0
theorem Thawed.at {fz : Nat × Nat} {n : Nat} (h : Thawed fz n) {w : World} {g : Nat} {cur : Array Value} {t : TypeId} (hg : w.heap[g]? = some (.cells cur t fz)) (j : Nat) (hj : j < n) : w.frozen? ⟨g, j, none⟩ = false := by
 obtain ⟨lo, hi⟩ := fz
 simp only [World.frozen?, hg, Bool.and_eq_false_iff, decide_eq_false_iff_not]
 rcases h with h | h
 ·left; simp only at h; omega
 ·right; simp only at h; omega
theorem run_stores_thawed (P : Program) (g o : Nat) (t : TypeId) (fz : Nat × Nat) : ∀ (vs : List Value) (i : Nat) (cur : Array Value) (w : World), w.heap[g]? = some (.cells cur t fz) → Thawed fz cur.size → o + i + vs.length ≤ cur.size → (∀ v ∈ vs, v.oneCell' = true) →
    (storeCells ⟨g, o, none⟩ vs i).run P w = .ok () (w.setRow g (cur.toList.take (o + i) ++ vs ++ cur.toList.drop (o + i + vs.length)).toArray)
  | [], i, cur, w, hg, _, _, _ => by
    simp only [storeCells, List.append_nil, List.length_nil, Nat.add_zero, List.take_append_drop, Array.toArray_toList]
    rw [setRow_self w g cur t fz hg]
    rfl
  | v :: rest, i, cur, w, hg, hfz, hl, h1 => by
    have hi : o + i < cur.size := by simp at hl; omega
    have hadd : (⟨g, o, none⟩ : Addr).add i = ⟨g, o + i, none⟩ := by unfold Addr.add; split <;> simp_all
    have hcell : w.cell? ⟨g, o + i, none⟩ = some cur[o + i] := by simp [World.cell?, hg, hi]
    have hfro : w.frozen? ⟨g, o + i, none⟩ = false := hfz.at hg _ hi
    have hst : (store ((⟨g, o, none⟩ : Addr).add i) v).run P w = .ok () (w.setRow g (cur.setIfInBounds (o + i) v)) := by
      rw [hadd, run_store P w _ v _ (h1 v (by simp)), hcell]
      simp [hfro, setCell_eq_setRow w g (o + i) cur t fz v hg]
    have ih := run_stores_thawed P g o t fz rest (i + 1) (cur.setIfInBounds (o + i) v) (w.setRow g (cur.setIfInBounds (o + i) v)) (setRow_heap w g cur _ t _ hg) (by simpa using hfz) (by simp at hl ⊢; omega) (fun x hx => h1 x (by simp [hx]))
    simp only [storeCells, Sem.run_bind, hst, Result.andThen_ok, ih, setRow_setRow]
    congr 3
    have e := list_seg_step cur.toList (o + i) v rest (by simp at hl ⊢; omega)
    simpa [Array.toList_setIfInBounds, Nat.add_assoc] using e
def encB (l : List UInt8) : List Value := l.map fun b => .int .u8 (b.toNat : Int)
@[simp] theorem encB_length (l : List UInt8) : (encB l).length = l.length := by simp [encB]
theorem encB_one (l : List UInt8) : ∀ u ∈ encB l, u.oneCell' = true := by
 intro u hu
 obtain ⟨x, _, rfl⟩ := List.mem_map.1 hu
 rfl
theorem encB_append (l m : List UInt8) : encB (l ++ m) = encB l ++ encB m := by simp [encB]
/-- A slice of bytes of the call's own. -/
def OwnB (e : TypeId) (w : World) (B : Nat) (v : Value) (l : List UInt8) : Prop :=
 (v = .slice none 0 0 ∧ l = []) ∨
 ∃ g cap cur fz, v = .slice (some ⟨g, 0, none⟩) l.length cap ∧ B ≤ g ∧ w.heap[g]? = some (.cells cur e fz) ∧ Thawed fz cap ∧ l.length ≤ cap ∧ cap ≤ maxLen ∧ cur.size = cap ∧ cur.toList.take l.length = encB l
section
variable {w w' : World} {B : Nat} {v : Value} {l : List UInt8} {e : TypeId}
theorem OwnB.nil : OwnB e w B (.slice none 0 0) [] := .inl ⟨rfl, rfl⟩
theorem OwnB.lt (h : OwnB e w B v l) : ∀ k, v.ownBlock = some k → B ≤ k ∧ k < w.heap.size := by
 intro k hk
 rcases h with ⟨rfl, _⟩ | ⟨g, cap, cur, fz, rfl, hb, hg, _⟩
 ·cases hk
 ·obtain rfl : g = k := Option.some.inj hk
  exact ⟨hb, (Array.getElem?_eq_some_iff.1 hg).1⟩
theorem OwnB.form (h : OwnB e w B v l) : ∃ a c, v = .slice a l.length c := by
 rcases h with ⟨rfl, rfl⟩ | ⟨g, cap, cur, fz, rfl, _⟩
 ·exact ⟨_, _, rfl⟩
 ·exact ⟨_, _, rfl⟩
theorem OwnB.kept (h : OwnB e w B v l) (hw : ∀ b, v.ownBlock = some b → w'.heap[b]? = w.heap[b]?) : OwnB e w' B v l := by
 rcases h with h | ⟨g, cap, cur, fz, rfl, hb, hg, r⟩
 ·exact .inl h
 ·exact .inr ⟨g, cap, cur, fz, rfl, hb, by rw [hw g rfl]; exact hg, r⟩
theorem OwnB.alloc (h : OwnB e w B v l) (o : Obj) : OwnB e (w.alloc o) B v l := h.kept fun b hb => Below.heap_alloc w o b (h.lt b hb).2
theorem OwnB.ext (h : OwnB e w B v l) (he : Ext w w') : OwnB e w' B v l := h.kept fun b hb => he.block b (h.lt b hb).2
theorem OwnB.drewN (h : OwnB e w B v l) (n : Nat) : OwnB e (w.drewN n) B v l := h.kept fun _ _ => rfl
theorem OwnB.cell (h : OwnB e w B v l) {g : Nat} {c n : Nat} {off : Nat} {sp : Option Nat} (hv : v = .slice (some ⟨g, off, sp⟩) n c) (j : Nat) (hj : j < l.length) : w.cell? ⟨g, j, none⟩ = some (.int .u8 (l[j].toNat : Int)) ∧ w.frozen? ⟨g, j, none⟩ = false := by
 rcases h with ⟨rfl, rfl⟩ | ⟨g', cap, cur, fz, rfl, hb, hg, hfz, hlc, _, hcs, htk⟩
 ·simp at hj
 ·injection hv with hv
  injection hv with hv
  injection hv with hv
  subst hv
  refine ⟨?_, hfz.at hg j (by omega)⟩
  rw [cell_of_row w g' j cur e fz hg]
  have : (cur.toList.take l.length)[j]? = (encB l)[j]? := by rw [htk]
  rw [List.getElem?_take, if_pos hj] at this
  simpa [encB, hj] using this
theorem OwnB.cellAdd (h : OwnB e w B v l) {g : Nat} {c n : Nat} {off : Nat} {sp : Option Nat} (hv : v = .slice (some ⟨g, off, sp⟩) n c) (hoff : off = 0) (hsp : sp = none) (j : Nat) (hj : j < l.length) : w.cell? ((⟨g, off, sp⟩ : Addr).add j) = some (.int .u8 (l[j].toNat : Int)) := by
 subst hoff hsp
 rw [add_lit, Nat.zero_add]
 exact (h.cell hv j hj).1
theorem OwnB.addr (h : OwnB e w B v l) {ad : Addr} {n c : Nat} (hv : v = .slice (some ad) n c) : ∃ g, ad = ⟨g, 0, none⟩ := by
 rcases h with ⟨rfl, _⟩ | ⟨g, cap, cur, fz, rfl, _⟩
 ·cases hv
 ·injection hv with hv; injection hv with hv; exact ⟨g, hv.symm⟩
theorem run_appendB {P : Program} {t ty : TypeId} (hok : ElemOk P t e 1 1) (h : OwnB e w B v l) (hB : B ≤ w.heap.size) {a : Addr} {m : List UInt8} (c : Nat) (hl : l.length + m.length ≤ 35184372088832)
  (hm : ∀ j (hj : j < m.length), w.cell? (a.add j) = some (.int .u8 (m[j].toNat : Int))) (hz : P.info? e = none ∨ ∀ i, P.info? e = some i → i.zero = some (.int .u8 0)) :
  ∃ v' w', (Builtin.append_ #[t, t] ty #[v, .slice (some a) m.length c]).run P w = .ok v' w' ∧ OwnB e w' B v' (l ++ m) ∧ w.grownBy w' v.ownBlock ∧ (v'.ownBlock = v.ownBlock ∨ v'.ownBlock = some w.heap.size) := by
 obtain ⟨ht, i, z, hi, hz', h1, hb, h3⟩ := hok
 have hz0 : i.zero = some (.int .u8 0) := by
  rcases hz with hz | hz
  ·rw [hi] at hz; cases hz
  ·exact hz i hi
 have hnews : ∀ j u, (encB m)[j]? = some u → w.cell? (a.add j) = some u := by
  intro j u hu
  have hj : j < m.length := by
   rcases Nat.lt_or_ge j m.length with h | h
   ·exact h
   ·rw [List.getElem?_eq_none (by simpa using h)] at hu; cases hu
  rw [hm j hj]
  simpa [encB, hj] using hu
 have hml : maxLen = 9223372036854775807 := by unfold maxLen; omega
 rcases h with ⟨rfl, rfl⟩ | ⟨g, cap, cur, fz, rfl, hbg, hg, hfz, hlc, hcm, hcs, htk⟩
 ·obtain ⟨v', w', hrun, hown, hgr, _, hat⟩ := run_append_own_at (P := P) w B t ty e i z 1 1 ht hi hz' h1 hb h3 (by omega) (.slice none 0 0) 0 [] (World.ownsRow_nil w B e 1) a m.length c (encB m) (by simp) hnews (encB_one m) (by simp at hl; omega) (by simp at hl; omega) hB
  refine ⟨v', w', hrun, ?_, hgr, hat⟩
  simp only [Nat.zero_add, List.nil_append] at hown ⊢
  rcases hown.2 with ⟨rfl, h0⟩ | ⟨g, cap, cur, rfl, hbg, hg, hnc, hcm, hcs, htk⟩
  ·exact .inl ⟨rfl, List.eq_nil_of_length_eq_zero h0⟩
  ·exact .inr ⟨g, cap, cur, (0, 0), rfl, hbg, hg, .inr rfl, hnc, hcm, by simpa using hcs, by simpa using htk⟩
 ·by_cases hroom : l.length + m.length ≤ cap
  ·have hf := run_firstCells_some (P := P) w i.size m.length a m.length c (encB m) (by simp [h1]) hnews
   have hst := run_stores_thawed P g (l.length * i.size) e fz (encB m) 0 cur w hg (by rw [hcs]; exact hfz) (by simp [h1]; omega) (encB_one m)
   simp only [Nat.add_zero, h1, Nat.mul_one] at hst
   have hr : (Builtin.append_ #[t, t] ty #[.slice (some ⟨g, 0, none⟩) l.length cap, .slice (some a) m.length c]).run P w = .ok (.slice (some ⟨g, 0, none⟩) (l.length + m.length) cap) (w.setRow g (cur.toList.take l.length ++ encB m ++ cur.toList.drop (l.length + (encB m).length)).toArray) := by
    rw [h1] at hf
    simp [Builtin.append_, run_underlying ht, sizeOf, typeInfo, hi, Builtin.lenOf, hroom, h1, hf, Addr.add_lit, hst]
   refine ⟨_, _, hr, .inr ⟨g, cap, _, fz, by simp, hbg, setRow_heap w g cur _ e _ hg, hfz, by simpa using hroom, hcm, ?_, ?_⟩, ⟨rfl, rfl, rfl, by simp, fun k _ hk => setRow_other w g k _ (fun e => hk (by simp [Value.ownBlock, e]))⟩, .inl rfl⟩
   ·simp only [List.size_toArray, List.length_append, List.length_take, List.length_drop, Array.length_toList, encB_length]
    omega
   ·rw [htk, encB_append, List.length_append, ← encB_length l, ← encB_length m, ← List.length_append]
    exact List.take_left
  ·have holds : ∀ j u, (encB l)[j]? = some u → w.cell? ((⟨g, 0, none⟩ : Addr).add j) = some u := by
    intro j u hu
    have hj : j < l.length := by
     rcases Nat.lt_or_ge j l.length with h | h
     ·exact h
     ·rw [List.getElem?_eq_none (by simpa using h)] at hu; cases hu
    rw [add_lit, Nat.zero_add, cell_of_row w g j cur e fz hg, ← hu, ← htk, List.getElem?_take, if_pos hj]
    simp
   have hr := run_append_grow (P := P) w t ty e i z ht hi hz' ⟨g, 0, none⟩ l.length cap (encB l) (by simp [h1]) holds a m.length c (encB m) (by simp [h1]) hnews (by omega) (by omega) (growslice_fits (by omega) (by rw [hb]; omega))
   have hge := grownCap_ge w (l.length + m.length) cap e
   have hcm2 : grownCap w (l.length + m.length) cap e ≤ maxLen := grownCap_le_maxLen w _ cap e (by omega)
   refine ⟨_, _, hr, .inr ⟨w.heap.size, _, _, (0, 0), by simp, hB, heap_alloc_new w.drew _, .inr rfl, by simpa using hge, hcm2, ?_, ?_⟩, ⟨rfl, rfl, rfl, by simp, fun k hk _ => Below.heap_alloc w.drew _ k hk⟩, .inr rfl⟩
   ·simp only [Array.size_append, List.size_toArray, size_zeroCells, h3, encB_length]
    omega
   ·simp only [Array.toList_append, List.append_assoc]
    rw [← List.append_assoc, encB_append, List.length_append, ← encB_length l, ← encB_length m, ← List.length_append]
    exact List.take_left
theorem wp_appendB {P : Program} {o : Oper} {ac : Act} {K : Act → World → Prop} {R : Exit → Act → World → Prop} (s x : Operand) (t : TypeId)
  (ho : o.op = .call { callee := .builtin .append, args := #[s, x], argTypes := #[t, t] }) (hok : ElemOk P t e 1 1) (hz : P.info? e = none ∨ ∀ i, P.info? e = some i → i.zero = some (.int .u8 0))
  (hs : ac.eval s = v) (h : OwnB e w B v l) (hB : B ≤ w.heap.size) {a : Addr} {c : Nat} (m : List UInt8) (hx : ac.eval x = .slice (some a) m.length c) (hl : l.length + m.length ≤ 35184372088832)
  (hm : ∀ j (hj : j < m.length), w.cell? (a.add j) = some (.int .u8 (m[j].toNat : Int)))
  (hk : ∀ v' w', OwnB e w' B v' (l ++ m) → w.grownBy w' v.ownBlock → (v'.ownBlock = v.ownBlock ∨ v'.ownBlock = some w.heap.size) → K (ac.put o.dst v') w') : o.wp P ac w K R := by
 obtain ⟨v', w', hrun, h3, h4, h5⟩ := run_appendB (P := P) (ty := o.type) hok h hB c hl hm hz
 unfold Oper.wp execOp
 simp only [ho, resolve, invoke, builtin, Sem.run_bind, Sem.run_pure, Result.andThen_ok, List.map_toArray, List.map_cons, List.map_nil, hs, hx, hrun]
 exact hk v' w' h3 h4 h5
theorem wpList_appendB {P : Program} {ops : Array Oper} {rest : List Oper} {o : Oper} {ac : Act} {R : Exit → Act → World → Prop} (hgd : o.guard = none) (s x : Operand) (t : TypeId)
  (ho : o.op = .call { callee := .builtin .append, args := #[s, x], argTypes := #[t, t] }) (hok : ElemOk P t e 1 1) (hz : P.info? e = none ∨ ∀ i, P.info? e = some i → i.zero = some (.int .u8 0))
  (hs : ac.eval s = v) (h : OwnB e w B v l) (hB : B ≤ w.heap.size) {a : Addr} {c : Nat} (m : List UInt8) (hx : ac.eval x = .slice (some a) m.length c) (hl : l.length + m.length ≤ 35184372088832)
  (hm : ∀ j (hj : j < m.length), w.cell? (a.add j) = some (.int .u8 (m[j].toNat : Int)))
  (hk : ∀ v' w', OwnB e w' B v' (l ++ m) → w.grownBy w' v.ownBlock → (v'.ownBlock = v.ownBlock ∨ v'.ownBlock = some w.heap.size) → wpList P ops R rest (ac.put o.dst v') w') : wpList P ops R (o :: rest) ac w :=
 wpList_plain hgd fun _ hK => wp_appendB s x t ho hok hz hs h hB m hx hl hm fun v' w' h3 h4 h5 => hK _ _ (hk v' w' h3 h4 h5)
/-- One new byte, laid in a block of its own. -/
theorem byte_new (w : World) (b : UInt8) (t : TypeId) : ∀ j (hj : j < [b].length), (w.alloc (.cells #[.int .u8 (b.toNat : Int)] t)).cell? ((⟨w.heap.size, 0, none⟩ : Addr).add j) = some (.int .u8 ([b][j].toNat : Int)) := by
 intro j hj
 obtain rfl : j = 0 := by simpa using hj
 exact cell_one_new w _ t 0 _ rfl
/-- []byte(s). -/
theorem OwnB.conv (s : ByteArray) (hs : s.size ≤ maxLen) : OwnB e (Lib.bytesWorld w e s) w.heap.size (.slice (some ⟨w.heap.size, 0, none⟩) s.size (grownCap w s.size 0 e)) s.data.toList := by
 have hge := grownCap_ge w s.size 0 e
 have hlen : s.data.toList.length = s.size := by simp
 have hcs : (Lib.bytesCells w e s).size = grownCap w s.size 0 e := by
  simp only [Lib.bytesCells, Array.size_append, Array.size_map, Array.size_replicate]
  have : s.data.size = s.size := rfl
  omega
 refine .inr ⟨w.heap.size, _, _, _, by rw [hlen], Nat.le_refl _, Lib.bytesWorld_at_new w e s, .inl ?_, by omega, grownCap_le_maxLen w _ _ e hs, hcs, ?_⟩
 ·rw [hcs]; exact Nat.le_refl _
 ·simp only [Lib.bytesCells, Array.toList_append, Array.toList_map]
  rw [show s.data.toList.length = (s.data.toList.map fun b => Value.int .u8 b.toNat).length by simp]
  exact List.take_left
theorem ext_bytesWorld (w : World) (e : TypeId) (s : ByteArray) : Ext w (Lib.bytesWorld w e s) := by
 refine ⟨?_, ?_, ?_, by rw [Lib.bytesWorld_size]; omega, fun j hj => Lib.bytesWorld_at_old w e s j hj⟩
 all_goals
  unfold Lib.bytesWorld World.freeze
  split <;> rfl
/-- string(b), b of the call's own. -/
theorem run_stringB {P : Program} {src dst : TypeId} (hs : P.underlying src = some (.slice e)) (he : P.underlying e = some (.int .u8)) (hd : P.underlying dst = some .string) (h : OwnB e w B v l) :
  (convert src dst v).run P w = .ok (.string ⟨l.toArray⟩) w := by
 rcases h with ⟨rfl, rfl⟩ | ⟨g, cap, cur, fz, rfl, hb, hg, hfz, hlc, hcm, hcs, htk⟩
 ·rw [run_convert_bytes_string w src dst e none 0 0 hs he hd]
  simp [Conv.bytesToString]; rfl
 ·refine run_convert_bytes_back (P := P) w src dst e ⟨g, 0, none⟩ cap l hs he hd fun j hj => ?_
  exact OwnB.cellAdd (e := e) (w := w) (B := B) (l := l) (.inr ⟨g, cap, cur, fz, rfl, hb, hg, hfz, hlc, hcm, hcs, htk⟩) rfl rfl rfl j hj
end
section
variable {α : Type} {E : Enc α} {e : TypeId} {w w' : World} {B g n c : Nat} {l : List α}
theorem Own.lenEq (h : Own E e w B (.slice (some ⟨g, 0, none⟩) n c) l) : n = l.length := by
 obtain ⟨a, d, hv⟩ := h.form
 injection hv
theorem Own.at0 (h : Own E e w B (.slice (some ⟨g, 0, none⟩) n c) l) (k : Nat) (hk : k < l.length) :
  ∃ cs, E.R w (fun b => B ≤ b ∧ b < w.heap.size ∧ b ≠ g) l[k] cs ∧ ∀ j u, cs[j]? = some u → w.cell? ⟨g, k * E.sz + j, none⟩ = some u := by
 have hn := h.lenEq
 obtain ⟨xs, ho, hr⟩ := h
 obtain ⟨cs, h1, h2⟩ := hr k l[k] (List.getElem?_eq_getElem hk)
 refine ⟨cs, E.mono (fun b hb => ⟨hb.1, hb.2.1, fun he => hb.2.2 (by rw [he]; rfl)⟩) h1, fun j u hu => ?_⟩
 have h3 := h2 j u hu
 have hj := (List.getElem?_eq_some_iff.1 h3).1
 have := ho.cells (g := g) rfl (k * E.sz + j) u h3
 rw [add_lit, Nat.zero_add] at this
 exact this
theorem Own.thaw (h : Own E e w B (.slice (some ⟨g, 0, none⟩) n c) l) (j : Nat) : w.frozen? ⟨g, j, none⟩ = false := by
 have hn := h.lenEq
 obtain ⟨xs, ho, _⟩ := h
 subst hn
 exact ho.frozenAt j
theorem Own.blockLt (h : Own E e w B (.slice (some ⟨g, 0, none⟩) n c) l) : B ≤ g ∧ g < w.heap.size := h.lt g rfl
end
end
section
open Go.RowKit
set_option linter.unusedVariables false
/-- A byte with its first l bits alone. -/
def maskB (l : Int) (x : UInt8) : UInt8 := if l ≤ 0 then 0 else if l < 8 then UInt8.ofNat (x.toNat / 2 ^ (8 - l.toNat) * 2 ^ (8 - l.toNat)) else x
def maskS (a : List UInt8) (n : Int) : List UInt8 := a.mapIdx fun i x => maskB (n - 8 * (i : Int)) x
structure Pfx where
  fam : Int
  rd : Nat
  addr : List UInt8
  len : Int
def sizeS (f : Int) : Int := if f = 1 ∨ f = 3 ∨ f = 4 then 4 else if f = 2 ∨ f = 5 then 16 else 0
def apartS (f : Int) : Bool := decide (f = 4 ∨ f = 5)
/-- All but the bits. -/
def formP (p : Pfx) : Prop := sizeS p.fam ≠ 0 ∧ (p.addr.length : Int) = sizeS p.fam ∧ 0 ≤ p.len ∧ p.len ≤ 8 * sizeS p.fam ∧ (p.rd = 0 ∨ apartS p.fam = true)
def MayP (p : Pfx) : Prop := formP p ∧ maskS p.addr p.len = p.addr
noncomputable instance (p : Pfx) : Decidable (MayP p) := Classical.propDecidable _
/-- A prefix cut. -/
def cutOf (p : Pfx) (n : Int) : Pfx := ⟨p.fam, p.rd, maskS p.addr n, n⟩
def zeroP : Pfx := ⟨0, 0, [], 0⟩
def cutOk (p : Pfx) (n : Int) : Prop := MayP p ∧ 0 ≤ n ∧ n ≤ p.len
/-- a covers b. -/
def Cov (a b : Pfx) : Prop := MayP b ∧ 0 ≤ a.len ∧ a.len ≤ b.len ∧ cutOf b a.len = a
/- The order of bytes, byte by byte. -/
theorem OwnB.set {e : TypeId} {w : World} {B g n c : Nat} {l : List UInt8} (h : OwnB e w B (.slice (some ⟨g, 0, none⟩) n c) l) (j : Nat) (x : UInt8) :
  OwnB e (w.setCell ⟨g, j, none⟩ (.int .u8 (x.toNat : Int))) B (.slice (some ⟨g, 0, none⟩) n c) (l.set j x) := by
 rcases h with ⟨hv, _⟩ | ⟨g', cap, cur, fz, hv, hb, hg, hfz, hlc, hm, hcs, htk⟩
 ·cases hv
 ·injection hv with e1 e2 e3
  injection e1 with e1
  injection e1 with e1
  subst e1 e2 e3
  refine .inr ⟨g, c, cur.setIfInBounds j (.int .u8 (x.toNat : Int)), fz, by rw [List.length_set], hb, by simp [World.setCell, Array.getElem?_modify, hg], hfz, by simpa using hlc, hm, by simpa using hcs, ?_⟩
  rw [List.length_set, Array.toList_setIfInBounds, List.take_set, htk]
  simp [encB, List.map_set]
/-- A block of zeros as a row of bytes. -/
theorem OwnB.zeros {e : TypeId} (w : World) (n : Nat) (hn : n ≤ maxLen) : OwnB e (w.alloc (.cells (Array.replicate n (.int .u8 0)) e)) w.heap.size (.slice (some ⟨w.heap.size, 0, none⟩) n n) (List.replicate n 0) := by
 refine .inr ⟨w.heap.size, n, _, (0, 0), by rw [List.length_replicate], Nat.le_refl _, heap_alloc_new w _, .inr rfl, by simp, hn, by simp, ?_⟩
 simp [encB]
end
section
open Go.RowKit
/-- Byte number i of v, from the lowest. -/
def byt (v i : Nat) : UInt8 := UInt8.ofNat (v / 2 ^ (8 * i))
def be (n v : Nat) : List UInt8 := (List.range n).map fun j => byt v (n - 1 - j)
@[simp] theorem be_length (n v : Nat) : (be n v).length = n := by simp [be]
structure Seg where
  kind : Int
  «as» : List UInt32
  deriving DecidableEq
def ESeg : Enc Seg := (EI64.pair EU32.slice).map fun s => (s.kind, s.as)
theorem ESeg.at {w : World} {S : Nat → Prop} {a : Option Addr} {l : List Seg} (h : Sl ESeg w S a l) (k : Nat) (hk : k < l.length) :
    ∃ b off ak ck, a = some ⟨b, off, none⟩ ∧ S b ∧ w.cell? ⟨b, off + k * 2, none⟩ = some (.int .i64 l[k].kind) ∧ w.cell? ⟨b, off + k * 2 + 1, none⟩ = some (.slice ak l[k].as.length ck) ∧
      l[k].as.length ≤ 16777216 ∧ Sl EU32 w S ak l[k].as ∧ -9223372036854775808 ≤ l[k].kind ∧ l[k].kind ≤ 9223372036854775807 := by
  obtain ⟨b, off, cs, rfl, hb, ⟨c, d, rfl, ⟨rfl, h1, h2⟩, ak, ck, rfl, hm, hs⟩, hc⟩ := h.at k hk
  exact ⟨b, off, ak, ck, rfl, hb, hc 0 _ rfl, hc 1 _ rfl, hm, hs, h1, h2⟩
theorem EU32.at {w : World} {S : Nat → Prop} {a : Option Addr} {l : List UInt32} (h : Sl EU32 w S a l) (k : Nat) (hk : k < l.length) :
  ∃ b off, a = some ⟨b, off, none⟩ ∧ S b ∧ w.cell? ⟨b, off + k, none⟩ = some (.int .u32 (l[k].toNat : Int)) := by
 obtain ⟨b, off, cs, rfl, hb, ⟨rfl, _⟩, hc⟩ := h.at k hk
 have h0 := hc 0 _ rfl
 simp only [EU32, Enc.flat, Nat.mul_one, Nat.add_zero] at h0
 exact ⟨b, off, rfl, hb, h0⟩
end
section
set_option linter.unusedVariables false
/-- An atom: its kind, its AS. -/
abbrev Atm := Int × UInt32
def starS (f : List UInt32 → Bool) : List UInt32 → Bool
 | [] => f []
 | x :: t => f (x :: t) || starS f t
/-- Does a pattern match a list? -/
def matS : List Atm → List UInt32 → Bool
 | [], l => l.isEmpty
 | a :: p, l => if a.1 = 3 then starS (matS p) l else if a.1 = 2 then (match l with | [] => false | _ :: t => matS p t) else (match l with | [] => false | x :: t => decide (x = a.2) && matS p t)
/-- One atom takes the ASs from k to m. -/
def stepA (a : Atm) (l : List UInt32) (k m : Nat) : Bool := if a.1 = 3 then decide (k ≤ m) else if a.1 = 2 then decide (m = k + 1) else decide (m = k + 1 ∧ l[k]? = some a.2)
/-- .. and while the next row is filled, behind the first k places. -/
def fillA (p : List Atm) (l : List UInt32) (i : Nat) (a : Atm) (k : Nat) : List Bool := (List.range (l.length + 1)).map fun m => (List.range k).any fun j => matS (p.take i) (l.take j) && stepA a l j m
/-! ### what SetsStars asks -/
/-! ### patterns as texts -/
def runeOk (x : Nat) : Bool := (decide (97 ≤ x) && decide (x ≤ 122)) || ((decide (48 ≤ x) && decide (x ≤ 57)) || decide (x = 45))
def nameCh (c : UInt8) : Bool := runeOk c.toNat
/-- May it be a name? -/
def nameOk (s : List UInt8) : Bool := decide (1 ≤ s.length) && (decide (s.length ≤ 16) && (decide (97 ≤ (s.headD 0).toNat) && s.all nameCh))
/-- An item of a set of prefixes. -/
structure Itm where
  p : Pfx
  low : Int
  high : Int
def itmOk (x : Itm) : Prop := MayP x.p ∧ x.p.len ≤ x.low ∧ x.low ≤ x.high ∧ x.high ≤ 8 * sizeS x.p.fam
noncomputable instance (x : Itm) : Decidable (itmOk x) := Classical.propDecidable _
/-- A set. -/
structure StS where
  name : List UInt8
  kind : Int
  items : List Itm
  comms : List UInt32
  paths : List (List Atm)
open Go.RowKit
def Enc.cells {α : Type} (f : α → List Value) (P : α → Prop) (n : Nat) (hn : ∀ x, (f x).length = n) (h1 : ∀ x, ∀ u ∈ f x, u.oneCell' = true) : Enc α where
 R _ _ x cs := cs = f x ∧ P x
 sz := n
 size h := by rw [h.1]; exact hn _
 one := by rintro w S x cs ⟨rfl, _⟩ u hu; exact h1 x u hu
 frame _ h := h
 mono _ h := h
section
variable {α : Type} {f : α → List Value} {P : α → Prop} {n : Nat} {hn : ∀ x, (f x).length = n} {h1 : ∀ x, ∀ u ∈ f x, u.oneCell' = true} {w w' : World} {B : Nat} {v : Value} {l : List α} {e : TypeId} {S : Nat → Prop} {a : Option Addr}
end
def EU64 : Enc Nat := Enc.flat (fun n => .int .u64 (n : Int)) (fun n => n ≤ 18446744073709551615) (fun _ => rfl)
def EByt : Enc (List UInt8) := Enc.flat (fun l => .string ⟨l.toArray⟩) (fun l => l.length ≤ 1048576) (fun _ => rfl)
def pfxCs (p : Pfx) : List Value := [.int .i64 p.fam, .int .u64 (p.rd : Int), .string ⟨p.addr.toArray⟩, .int .i64 p.len]
def itmCs (x : Itm) : List Value := [.int .i64 x.p.fam, .int .u64 (x.p.rd : Int), .string ⟨x.p.addr.toArray⟩, .int .i64 x.p.len, .int .i64 x.low, .int .i64 x.high]
def atmCs (a : Atm) : List Value := [.int .i64 a.1, .int .u32 (a.2.toNat : Int)]
def i64 (x : Int) : Prop := -9223372036854775808 ≤ x ∧ x ≤ 9223372036854775807
structure PfxIn (p : Pfx) : Prop where
  fam : i64 p.fam
  rd : p.rd ≤ 18446744073709551615
  addr : p.addr.length ≤ 1048576
  len : i64 p.len
structure ItmIn (x : Itm) : Prop where
  p : PfxIn x.p
  low : i64 x.low
  high : i64 x.high
def EPfx : Enc Pfx := Enc.cells pfxCs PfxIn 4 (fun _ => rfl) (fun x u hu => by simp only [pfxCs, List.mem_cons, List.not_mem_nil, or_false] at hu; rcases hu with rfl | rfl | rfl | rfl <;> rfl)
def EItm : Enc Itm := Enc.cells itmCs ItmIn 6 (fun _ => rfl) (fun x u hu => by simp only [itmCs, List.mem_cons, List.not_mem_nil, or_false] at hu; rcases hu with rfl | rfl | rfl | rfl | rfl | rfl <;> rfl)
def EAtm : Enc Atm := Enc.cells atmCs (fun a => i64 a.1) 2 (fun _ => rfl) (fun x u hu => by simp only [atmCs, List.mem_cons, List.not_mem_nil, or_false] at hu; rcases hu with rfl | rfl <;> rfl)
theorem EPfx.of {w : World} {S : Nat → Prop} {p : Pfx} {cs : List Value} (h : ((EI64.pair (EU64.pair (EByt.pair EI64))).map fun p : Pfx => (p.fam, p.rd, p.addr, p.len)).R w S p cs) : EPfx.R w S p cs := by
 obtain ⟨c, d, rfl, ⟨rfl, h1⟩, c, d, rfl, ⟨rfl, h2⟩, c, d, rfl, ⟨rfl, h3⟩, ⟨rfl, h4⟩⟩ := h
 exact ⟨rfl, h1, h2, h3, h4⟩
theorem EItm.of {w : World} {S : Nat → Prop} {x : Itm} {cs : List Value} (h : ((EPfx.pair (EI64.pair EI64)).map fun x : Itm => (x.p, x.low, x.high)).R w S x cs) : EItm.R w S x cs := by
 obtain ⟨c, d, rfl, ⟨rfl, h1⟩, c, d, rfl, ⟨rfl, h2⟩, ⟨rfl, h3⟩⟩ := h
 exact ⟨rfl, h1, h2, h3⟩
theorem EAtm.of {w : World} {S : Nat → Prop} {x : Atm} {cs : List Value} (h : (EI64.pair EU32).R w S x cs) : EAtm.R w S x cs := by
 obtain ⟨c, d, rfl, ⟨rfl, h1⟩, ⟨rfl, h2⟩⟩ := h
 exact ⟨rfl, h1⟩
theorem EItm.at {w : World} {S : Nat → Prop} {a : Option Addr} {l : List Itm} (h : Sl EItm w S a l) (k : Nat) (hk : k < l.length) :
  ∃ b off, a = some ⟨b, off, none⟩ ∧ S b ∧ ItmIn l[k] ∧ ∀ j u, (itmCs l[k])[j]? = some u → w.cell? ⟨b, off + k * 6 + j, none⟩ = some u := by
 obtain ⟨b, off, cs, rfl, hb, ⟨rfl, hi⟩, hc⟩ := h.at k hk
 exact ⟨b, off, rfl, hb, hi, hc⟩
theorem EAtm.at {w : World} {S : Nat → Prop} {a : Option Addr} {l : List Atm} (h : Sl EAtm w S a l) (k : Nat) (hk : k < l.length) :
  ∃ b off, a = some ⟨b, off, none⟩ ∧ S b ∧ i64 l[k].1 ∧ w.cell? ⟨b, off + k * 2, none⟩ = some (.int .i64 l[k].1) ∧ w.cell? ⟨b, off + k * 2 + 1, none⟩ = some (.int .u32 (l[k].2.toNat : Int)) := by
 obtain ⟨b, off, cs, rfl, hb, ⟨rfl, h1⟩, hc⟩ := h.at k hk
 exact ⟨b, off, rfl, hb, h1, hc 0 _ rfl, hc 1 _ rfl⟩
theorem EPat.at {w : World} {S : Nat → Prop} {a : Option Addr} {l : List (List Atm)} (h : Sl EAtm.slice w S a l) (k : Nat) (hk : k < l.length) :
  ∃ b off ak ck, a = some ⟨b, off, none⟩ ∧ S b ∧ w.cell? ⟨b, off + k, none⟩ = some (.slice ak l[k].length ck) ∧ l[k].length ≤ 16777216 ∧ Sl EAtm w S ak l[k] := by
 obtain ⟨b, off, cs, rfl, hb, ⟨ak, ck, rfl, hm, hs⟩, hc⟩ := h.at k hk
 have h0 := hc 0 _ rfl
 simp only [Enc.slice, Nat.mul_one, Nat.add_zero] at h0
 exact ⟨b, off, ak, ck, rfl, hb, h0, hm, hs⟩
structure SetIn (w : World) (S : Nat → Prop) (s : StS) (a1 a2 a3 : Option Addr) : Prop where
  name : s.name.length ≤ 1048576
  kind : i64 s.kind
  nItems : s.items.length ≤ 16777216
  items : Sl EItm w S a1 s.items
  nComms : s.comms.length ≤ 16777216
  comms : Sl EU32 w S a2 s.comms
  nPaths : s.paths.length ≤ 16777216
  paths : Sl EAtm.slice w S a3 s.paths
theorem SetIn.frame {w w' : World} {S : Nat → Prop} {s : StS} {a1 a2 a3 : Option Addr} (h : SetIn w S s a1 a2 a3) (hw : ∀ b, S b → w'.heap[b]? = w.heap[b]?) : SetIn w' S s a1 a2 a3 :=
 ⟨h.name, h.kind, h.nItems, h.items.frame hw, h.nComms, h.comms.frame hw, h.nPaths, h.paths.frame hw⟩
theorem SetIn.mono {w : World} {S S' : Nat → Prop} {s : StS} {a1 a2 a3 : Option Addr} (h : SetIn w S s a1 a2 a3) (hS : ∀ b, S b → S' b) : SetIn w S' s a1 a2 a3 :=
 ⟨h.name, h.kind, h.nItems, h.items.mono hS, h.nComms, h.comms.mono hS, h.nPaths, h.paths.mono hS⟩
theorem SetIn.ext {w w' : World} {s : StS} {a1 a2 a3 : Option Addr} (h : SetIn w (· < w.heap.size) s a1 a2 a3) (hb : Ext w w') : SetIn w' (· < w'.heap.size) s a1 a2 a3 :=
 (h.frame hb.block).mono fun _ hh => Nat.lt_of_lt_of_le hh hb.size
open Go.RowKit Go.ChangeShapes Go.WideShapes Go.Deep
section
variable {P : Program} {T : TypeId}
end
end
section
open Go.RowKit
set_option linter.unusedVariables false
def famN (s : List UInt8) : Int := if s = [118, 52] then 1 else if s = [118, 54] then 2 else if s = [108, 52] then 3 else if s = [118, 112, 110, 52] then 4 else if s = [118, 112, 110, 54] then 5 else 0
/-- Two bytes as a number. -/
def pairs : List UInt8 → List Nat
 | a :: b :: r => (256 * a.toNat + b.toNat) :: pairs r
 | _ => []
def unpair (n : Nat) : List UInt8 := [UInt8.ofNat (n / 256), UInt8.ofNat n]
theorem unpair_at (a b : UInt8) : unpair (256 * a.toNat + b.toNat) = [a, b] := by
 have h1 := a.toNat_lt
 have h2 := b.toNat_lt
 unfold unpair
 congr 1
 ·apply UInt8.toNat_inj.1; rw [UInt8.toNat_ofNat']; omega
 ·congr 1
  apply UInt8.toNat_inj.1; rw [UInt8.toNat_ofNat']; omega
theorem pairs_le : ∀ (l : List UInt8), ∀ n ∈ pairs l, n ≤ 65535
  | [], n, h => by cases h
  | [_], n, h => by cases h
  | a :: b :: r, n, h => by
    rcases List.mem_cons.1 h with h | h
    · have h1 := a.toNat_lt
      have h2 := b.toNat_lt
      omega
    · exact pairs_le r n h
theorem pairs_length : ∀ (l : List UInt8), (pairs l).length = l.length / 2
  | [] => rfl
  | [_] => by simp [pairs]
  | a :: b :: r => by
    show (pairs r).length + 1 = (r.length + 2) / 2
    rw [pairs_length r]; omega
theorem pairs_unpair : ∀ (l : List UInt8), l.length % 2 = 0 → (pairs l).flatMap unpair = l
  | [], _ => rfl
  | [_], h => by simp at h
  | a :: b :: r, h => by
    show unpair (256 * a.toNat + b.toNat) ++ (pairs r).flatMap unpair = _
    rw [unpair_at, pairs_unpair r (by simp at h; omega)]
    rfl
theorem unpair_pairs : ∀ (l : List Nat), (∀ n ∈ l, n ≤ 65535) → pairs (l.flatMap unpair) = l
  | [], _ => rfl
  | n :: r, h => by
    have hn := h n (by simp)
    show pairs (unpair n ++ r.flatMap unpair) = _
    show (256 * (UInt8.ofNat (n / 256)).toNat + (UInt8.ofNat n).toNat) :: pairs (r.flatMap unpair) = _
    rw [unpair_pairs r (fun m hm => h m (by simp [hm])), UInt8.toNat_ofNat', UInt8.toNat_ofNat']
    congr 1
    omega
theorem pairs_at : ∀ (l : List UInt8) (k : Nat) (h : 2 * k + 1 < l.length), (pairs l)[k]? = some (256 * (l[2 * k]'(by omega)).toNat + (l[2 * k + 1]).toNat)
  | [], k, h => by simp at h
  | [_], k, h => by simp at h
  | a :: b :: r, 0, h => rfl
  | a :: b :: r, k + 1, h => by
    have := pairs_at r k (by simp at h; omega)
    show (pairs r)[k]? = _
    rw [this]
    rfl
def txt4 (a : List UInt8) : List UInt8 := Lib.join (a.map fun x => digS 10 x.toNat) [46]
def txt16 (a : List UInt8) : List UInt8 := Lib.join ((pairs a).map (digS 16)) [58]
def addrT (a : List UInt8) : List UInt8 × Int := if a.length = 4 then (txt4 a, 0) else if a.length = 16 then (txt16 a, 0) else ([], 2)
/-- All numerals of a list of words. -/
def rdAll (b most : Nat) : List (List UInt8) → Option (List Nat)
  | [] => some []
  | x :: r => match rdN b most x with
    | none => none
    | some n => match rdAll b most r with
      | none => none
      | some l => some (n :: l)
theorem rdAll_snoc (b most : Nat) (x : List UInt8) : ∀ l, rdAll b most (l ++ [x]) = match rdAll b most l with
    | none => none
    | some ns => match rdN b most x with
      | none => none
      | some n => some (ns ++ [n])
  | [] => by simp only [List.nil_append, rdAll]
  | y :: l => by
    simp only [List.cons_append, rdAll, rdAll_snoc b most x l]
    cases rdN b most y with
    | none => rfl
    | some n =>
      cases rdAll b most l with
      | none => rfl
      | some ns => cases rdN b most x <;> rfl
theorem rdAll_next {b most : Nat} {l : List (List UInt8)} {k : Nat} (hk : k < l.length) {ns : List Nat} {n : Nat} (h : rdAll b most (l.take k) = some ns) (hn : rdN b most l[k] = some n) : rdAll b most (l.take (k + 1)) = some (ns ++ [n]) := by
 rw [List.take_succ_eq_append_getElem hk, rdAll_snoc, h, hn]
theorem rdAll_bad {b most : Nat} : ∀ {l : List (List UInt8)} {x : List UInt8}, x ∈ l → rdN b most x = none → rdAll b most l = none
  | y :: l, x, hx, hn => by
    rcases List.mem_cons.1 hx with h | h
    · subst h; simp only [rdAll, hn]
    · simp only [rdAll, rdAll_bad h hn]; cases rdN b most y <;> rfl
theorem rdAll_iff {b most : Nat} (h2 : 2 ≤ b) (h16 : b ≤ 16) : ∀ {l : List (List UInt8)} {ns : List Nat}, rdAll b most l = some ns ↔ l = ns.map (digS b) ∧ ∀ n ∈ ns, n ≤ most
  | [], ns => by
    simp only [rdAll, Option.some.injEq]
    constructor
    · rintro rfl; exact ⟨rfl, fun _ h => by cases h⟩
    · rintro ⟨h, _⟩; cases ns with
      | nil => rfl
      | cons _ _ => cases h
  | x :: l, ns => by
    simp only [rdAll]
    constructor
    · intro h
      cases hx : rdN b most x with
      | none => rw [hx] at h; cases h
      | some n =>
        rw [hx] at h
        cases hl : rdAll b most l with
        | none => rw [hl] at h; cases h
        | some ms =>
          rw [hl] at h
          obtain rfl := Option.some.inj h
          have e1 := (rdN_iff h2 h16).1 hx
          have e2 := (rdAll_iff h2 h16).1 hl
          refine ⟨by rw [List.map_cons, e1.2, ← e2.1], fun m hm => ?_⟩
          rcases List.mem_cons.1 hm with rfl | hm
          · exact e1.1
          · exact e2.2 m hm
    · rintro ⟨h, hm⟩
      cases ns with
      | nil => cases h
      | cons n ms =>
        rw [List.map_cons] at h
        injection h with hx hl
        rw [(rdN_iff h2 h16).2 ⟨hm n (by simp), hx.symm⟩, (rdAll_iff h2 h16).2 ⟨hl, fun m h => hm m (by simp [h])⟩]
/-- The address of a text. -/
def addrC (s : List UInt8) : List UInt8 × Int :=
 if (spl 46 s).length = 4 then (match rdAll 10 255 (spl 46 s) with | some l => (l.map UInt8.ofNat, 0) | none => ([], 4))
 else if (spl 58 s).length = 8 then (match rdAll 16 65535 (spl 58 s) with | some l => (l.flatMap unpair, 0) | none => ([], 4))
 else ([], 4)
theorem map_toNat_ofNat : ∀ (l : List Nat), (∀ n ∈ l, n ≤ 255) → (l.map UInt8.ofNat).map UInt8.toNat = l
  | [], _ => rfl
  | n :: r, h => by
    have hn := h n (by simp)
    simp only [List.map_cons, map_toNat_ofNat r (fun m hm => h m (by simp [hm])), UInt8.toNat_ofNat']
    congr 1
    omega
/-- What is read as an address is told by the same text. -/
theorem addr_text {s : List UInt8} (h : (addrC s).2 = 0) : addrT (addrC s).1 = (s, 0) ∧ ((addrC s).1.length = 4 ∨ (addrC s).1.length = 16) ∧ s.length ≤ 39 := by
  unfold addrC at h ⊢
  split at h
  · rename_i h4
    rw [if_pos h4]
    cases hr : rdAll 10 255 (spl 46 s) with
    | none => rw [hr] at h; cases h
    | some l =>
      obtain ⟨e1, e2⟩ := (rdAll_iff (by decide) (by decide)).1 hr
      have hl : l.length = 4 := by rw [e1, List.length_map] at h4; exact h4
      have ht : addrT (l.map UInt8.ofNat) = (s, 0) := by
        unfold addrT
        rw [if_pos (by rw [List.length_map]; exact hl)]
        unfold txt4
        rw [show (l.map UInt8.ofNat).map (fun x => digS 10 x.toNat) = ((l.map UInt8.ofNat).map UInt8.toNat).map (digS 10) by simp, map_toNat_ofNat l e2, ← e1, spl_join]
      refine ⟨ht, .inl (by rw [List.length_map]; exact hl), ?_⟩
      have hs : s = Lib.join (l.map (digS 10)) [46] := by rw [← e1, spl_join]
      obtain ⟨a, b, c, d, rfl⟩ : ∃ a b c d, l = [a, b, c, d] := by
        match l, hl with
        | [a, b, c, d], _ => exact ⟨a, b, c, d, rfl⟩
      have hd : ∀ n ∈ [a, b, c, d], (digS 10 n).length ≤ 3 := fun n hn => digS_len (by decide) 3 n (by have := e2 n hn; omega) (by decide)
      have h1 := hd a (by simp)
      have h2 := hd b (by simp)
      have h3 := hd c (by simp)
      have h4 := hd d (by simp)
      rw [hs]
      simp only [List.map_cons, List.map_nil, join_two, Lib.join_one, List.length_append, List.length_singleton]
      omega
  · rename_i h4
    rw [if_neg h4]
    split at h
    · rename_i h8
      rw [if_pos h8]
      cases hr : rdAll 16 65535 (spl 58 s) with
      | none => rw [hr] at h; cases h
      | some l =>
        obtain ⟨e1, e2⟩ := (rdAll_iff (by decide) (by decide)).1 hr
        have hl : l.length = 8 := by rw [e1, List.length_map] at h8; exact h8
        have hlen : (l.flatMap unpair).length = 16 := by
          have := pairs_length (l.flatMap unpair)
          rw [unpair_pairs l e2, hl] at this
          have hev : ∀ m : List Nat, (m.flatMap unpair).length = 2 * m.length := by
            intro m
            induction m with
            | nil => rfl
            | cons x m ih => rw [List.flatMap_cons, List.length_append, ih]; simp [unpair]; omega
          rw [hev, hl]
        have ht : addrT (l.flatMap unpair) = (s, 0) := by
          unfold addrT
          rw [if_neg (by rw [hlen]; decide), if_pos hlen]
          unfold txt16
          rw [unpair_pairs l e2, ← e1, spl_join]
        refine ⟨ht, .inr hlen, ?_⟩
        have hs : s = Lib.join (l.map (digS 16)) [58] := by rw [← e1, spl_join]
        obtain ⟨a, b, c, d, a', b', c', d', rfl⟩ : ∃ a b c d a' b' c' d', l = [a, b, c, d, a', b', c', d'] := by
          match l, hl with
          | [a, b, c, d, a', b', c', d'], _ => exact ⟨a, b, c, d, a', b', c', d', rfl⟩
        have hd : ∀ n ∈ [a, b, c, d, a', b', c', d'], (digS 16 n).length ≤ 4 := fun n hn => digS_len (by decide) 4 n (by have := e2 n hn; omega) (by decide)
        have h1 := hd a (by simp)
        have h2 := hd b (by simp)
        have h3 := hd c (by simp)
        have h4 := hd d (by simp)
        have h5 := hd a' (by simp)
        have h6 := hd b' (by simp)
        have h7 := hd c' (by simp)
        have h8 := hd d' (by simp)
        rw [hs]
        simp only [List.map_cons, List.map_nil, join_two, Lib.join_one, List.length_append, List.length_singleton]
        omega
    · cases h
theorem join_no {c : UInt8} {sep : List UInt8} (hs : c ∉ sep) : ∀ {l : List (List UInt8)}, (∀ x ∈ l, c ∉ x) → c ∉ Lib.join l sep
  | [], _ => by simp [Lib.join]
  | [x], h => by rw [Lib.join_one]; exact h x (by simp)
  | x :: y :: r, h => by
    rw [join_two]
    intro hm
    rcases List.mem_append.1 hm with hm | hm
    · rcases List.mem_append.1 hm with hm | hm
      · exact h x (by simp) hm
      · exact hs hm
    · exact join_no hs (fun z hz => h z (by simp [List.mem_cons.1 hz])) hm
/-- There and back. -/
theorem text_addr {a : List UInt8} (h : a.length = 4 ∨ a.length = 16) : addrC (addrT a).1 = (a, 0) := by
 rcases h with h | h
 ·unfold addrT
  rw [if_pos h]
  show addrC (txt4 a) = _
  have hne : ∃ x r, (a.map fun x => digS 10 x.toNat) = x :: r := by
   match a, h with
   | x :: r, _ => exact ⟨_, _, rfl⟩
  obtain ⟨x, r, hx⟩ := hne
  have hsp : spl 46 (txt4 a) = a.map fun x => digS 10 x.toNat := by
   unfold txt4
   rw [hx]
   refine join_spl 46 x r fun y hy => ?_
   rw [← hx] at hy
   obtain ⟨u, _, rfl⟩ := List.mem_map.1 hy
   exact digS_no (by decide) (by decide) _ _ (by decide)
  have hrd : rdAll 10 255 (a.map fun x => digS 10 x.toNat) = some (a.map UInt8.toNat) :=
   (rdAll_iff (by decide) (by decide)).2 ⟨by simp, fun n hn => by obtain ⟨u, _, rfl⟩ := List.mem_map.1 hn; have := u.toNat_lt; omega⟩
  unfold addrC
  rw [hsp, if_pos (by rw [List.length_map]; exact h), hrd]
  show ((a.map UInt8.toNat).map UInt8.ofNat, (0 : Int)) = _
  rw [List.map_map]
  have : (UInt8.ofNat ∘ UInt8.toNat) = id := by funext x; simp
  rw [this, List.map_id]
 ·unfold addrT
  rw [if_neg (by omega), if_pos h]
  show addrC (txt16 a) = _
  have hlen : (pairs a).length = 8 := by rw [pairs_length, h]
  have hne : ∃ x r, (pairs a).map (digS 16) = x :: r := by
   cases hp : pairs a with
   | nil => rw [hp] at hlen; cases hlen
   | cons y q => exact ⟨_, _, rfl⟩
  obtain ⟨x, r, hx⟩ := hne
  have hmem : ∀ c : UInt8, (c.toNat < 48 ∨ (57 < c.toNat ∧ c.toNat < 97) ∨ 102 < c.toNat) → ∀ y ∈ (pairs a).map (digS 16), c ∉ y := fun c hc y hy => by
   obtain ⟨u, _, rfl⟩ := List.mem_map.1 hy
   exact digS_no (by decide) (by decide) _ _ hc
  have hsp : spl 58 (txt16 a) = (pairs a).map (digS 16) := by
   unfold txt16
   rw [hx]
   exact join_spl 58 x r fun y hy => hmem 58 (by decide) y (by rw [hx]; exact hy)
  have h46 : spl 46 (txt16 a) = [txt16 a] := spl_no (join_no (by decide) (hmem 46 (by decide)))
  have hrd : rdAll 16 65535 ((pairs a).map (digS 16)) = some (pairs a) := (rdAll_iff (by decide) (by decide)).2 ⟨rfl, pairs_le a⟩
  unfold addrC
  rw [h46, if_neg (by simp), hsp, if_pos (by rw [List.length_map]; exact hlen), hrd]
  show ((pairs a).flatMap unpair, (0 : Int)) = _
  rw [pairs_unpair a (by omega)]
def errC : Pfx × Int := (zeroP, 4)
noncomputable def tailC (f : Int) (rd : Nat) (h : List UInt8) : Pfx × Int :=
 if (Lib.cut h [47]).2.2 = true then
  (match rdN 10 128 (Lib.cut h [47]).2.1 with
  | none => errC
  | some n => if (addrC (Lib.cut h [47]).1).2 = 0 ∧ MayP ⟨f, rd, (addrC (Lib.cut h [47]).1).1, n⟩ then (⟨f, rd, (addrC (Lib.cut h [47]).1).1, n⟩, 0) else errC)
 else errC
noncomputable def parseW (f : Int) (w : List (List UInt8)) : Pfx × Int :=
 if apartS f = true then (match w with
  | [r, h] => (match rdN 10 18446744073709551615 r with | some rd => tailC f rd h | none => errC)
  | _ => errC)
 else if f = 0 then errC else (match w with | [h] => tailC f 0 h | _ => errC)
noncomputable def parseC (s : List UInt8) : Pfx × Int := parseW (famN ((spl 32 s).headD [])) (spl 32 s).tail
theorem addrT_no {a : List UInt8} (c : UInt8) (hc : c.toNat < 46 ∨ c.toNat = 47 ∨ (58 < c.toNat ∧ c.toNat < 97) ∨ 102 < c.toNat) : c ∉ (addrT a).1 := by
 have h1 : c ∉ ([46] : List UInt8) := fun h => by rw [List.mem_singleton.1 h] at hc; revert hc; decide
 have h2 : c ∉ ([58] : List UInt8) := fun h => by rw [List.mem_singleton.1 h] at hc; revert hc; decide
 unfold addrT
 split
 ·refine join_no h1 fun x hx => ?_
  obtain ⟨u, _, rfl⟩ := List.mem_map.1 hx
  exact digS_no (by decide) (by decide) _ _ (by omega)
 ·split
  ·refine join_no h2 fun x hx => ?_
   obtain ⟨u, _, rfl⟩ := List.mem_map.1 hx
   exact digS_no (by decide) (by decide) _ _ (by omega)
  ·simp
end
section
open Go.RowKit
set_option linter.unusedVariables false
set_option linter.unusedSimpArgs false
/-- Bytes as digits. -/
def hexS (b : List UInt8) : List UInt8 := b.flatMap fun x => [dgt (x.toNat / 16), dgt (x.toNat % 16)]
/-- A digit's worth; 16: it is none. -/
def hval (c : UInt8) : Nat := if 48 ≤ c.toNat ∧ c.toNat ≤ 57 then c.toNat - 48 else if 97 ≤ c.toNat ∧ c.toNat ≤ 102 then c.toNat - 87 else 16
def unhexS : List UInt8 → Option (List UInt8)
 | [] => some []
 | [_] => none
 | a :: b :: r => if hval a < 16 ∧ hval b < 16 then (unhexS r).map fun l => UInt8.ofNat (16 * hval a + hval b) :: l else none
theorem hval_dgt {d : Nat} (h : d < 16) : hval (dgt d) = d := by
 unfold hval
 rw [dgt_toNat h]
 split <;> split <;> (try split) <;> omega
theorem dgt_hval {c : UInt8} (h : hval c < 16) : dgt (hval c) = c := by
 apply UInt8.toNat_inj.1
 rw [dgt_toNat h]
 unfold hval at h ⊢
 split at h
 ·rename_i h1; rw [if_pos h1]; split <;> omega
 ·rename_i h1
  rw [if_neg h1]
  split at h
  ·rename_i h2; rw [if_pos h2]; split <;> omega
  ·omega
theorem unhex_hex : ∀ (b : List UInt8), unhexS (hexS b) = some b
  | [] => rfl
  | x :: r => by
    have hx := x.toNat_lt
    have h1 : hval (dgt (x.toNat / 16)) = x.toNat / 16 := hval_dgt (by omega)
    have h2 : hval (dgt (x.toNat % 16)) = x.toNat % 16 := hval_dgt (by omega)
    show unhexS (dgt (x.toNat / 16) :: dgt (x.toNat % 16) :: hexS r) = _
    rw [unhexS, h1, h2, if_pos ⟨by omega, by omega⟩, unhex_hex r]
    show some (_ :: r) = _
    congr 2
    apply UInt8.toNat_inj.1
    rw [UInt8.toNat_ofNat']
    omega
theorem hex_unhex : ∀ (s b : List UInt8), unhexS s = some b → hexS b = s
  | [], b, h => by injection h with h; subst h; rfl
  | [_], b, h => by cases h
  | x :: y :: r, b, h => by
    rw [unhexS] at h
    split at h
    · rename_i hd
      cases hr : unhexS r with
      | none => rw [hr] at h; cases h
      | some l =>
        rw [hr] at h
        injection h with h
        subst h
        have ih := hex_unhex r l hr
        show dgt ((UInt8.ofNat (16 * hval x + hval y)).toNat / 16) :: dgt ((UInt8.ofNat (16 * hval x + hval y)).toNat % 16) :: hexS l = _
        have hv : (UInt8.ofNat (16 * hval x + hval y)).toNat = 16 * hval x + hval y := by rw [UInt8.toNat_ofNat']; omega
        rw [hv, show (16 * hval x + hval y) / 16 = hval x by omega, show (16 * hval x + hval y) % 16 = hval y by omega, dgt_hval hd.1, dgt_hval hd.2, ih]
    · cases h
theorem hexS_len (b : List UInt8) : (hexS b).length = 2 * b.length := by
  induction b with
  | nil => rfl
  | cons x r ih =>
    show (dgt _ :: dgt _ :: hexS r).length = _
    simp only [List.length_cons, ih]
    omega
theorem hexS_mem {b : List UInt8} {c : UInt8} (h : c ∈ hexS b) : ∃ d, d < 16 ∧ c = dgt d := by
 obtain ⟨x, _, h2⟩ := List.mem_flatMap.1 h
 have hx := x.toNat_lt
 simp only [List.mem_cons, List.not_mem_nil, or_false] at h2
 rcases h2 with rfl | rfl
 ·exact ⟨_, by omega, rfl⟩
 ·exact ⟨_, by omega, rfl⟩
theorem hexS_no {b : List UInt8} (c : UInt8) (hc : c.toNat < 48 ∨ (57 < c.toNat ∧ c.toNat < 97) ∨ 102 < c.toNat) : c ∉ hexS b := fun h => by
 obtain ⟨d, hd, rfl⟩ := hexS_mem h
 rw [dgt_toNat hd] at hc
 split at hc <;> omega
/-- A word of bytes. -/
def wordB (b : List UInt8) : List UInt8 := if b = [] then [45] else hexS b
def readB (most : Nat) (s : List UInt8) : Option (List UInt8) :=
 if s = [45] then some [] else match unhexS s with
  | some b => if b ≠ [] ∧ b.length ≤ most then some b else none
  | none => none
theorem readB_word {most : Nat} {b : List UInt8} (h : b.length ≤ most) : readB most (wordB b) = some b := by
 unfold readB wordB
 by_cases hb : b = []
 ·subst hb; rw [if_pos rfl, if_pos rfl]
 ·rw [if_neg hb, if_neg, unhex_hex]
  ·show (if _ then _ else _) = _
   rw [if_pos ⟨hb, h⟩]
  ·intro e
   have := hexS_len b
   rw [e] at this
   simp at this
   omega
theorem word_readB {most : Nat} {s b : List UInt8} (h : readB most s = some b) : wordB b = s ∧ b.length ≤ most := by
  unfold readB at h
  split at h
  · rename_i h1; injection h with h; subst h; exact ⟨h1.symm, Nat.zero_le _⟩
  · cases hu : unhexS s with
    | none => rw [hu] at h; cases h
    | some c =>
      rw [hu] at h
      have h : (if c ≠ [] ∧ c.length ≤ most then some c else none) = some b := h
      split at h
      · rename_i h2
        injection h with h
        subst h
        exact ⟨by unfold wordB; rw [if_neg h2.1]; exact hex_unhex s c hu, h2.2⟩
      · cases h
theorem wordB_no {b : List UInt8} (c : UInt8) (hc : c.toNat < 45 ∨ (45 < c.toNat ∧ c.toNat < 48) ∨ (57 < c.toNat ∧ c.toNat < 97) ∨ 102 < c.toNat) : c ∉ wordB b := by
 unfold wordB
 split
 ·simp only [List.mem_cons, List.not_mem_nil, or_false]
  rintro rfl
  simp at hc
 ·exact hexS_no c (by omega)
/-- An event. -/
structure EvS where
  kind : Int
  conn : Int
  addr : List UInt8
  peer : List UInt8
  bytes : List UInt8
  ticks : Int
  draw : UInt32
deriving instance DecidableEq for EvS
def zeroEv : EvS := ⟨0, 0, [], [], [], 0, 0⟩
def connOk (n : Int) : Bool := decide (1 ≤ n ∧ n ≤ 64)
/-- May it be? -/
def evOk (e : EvS) : Bool :=
 if e.kind = 1 then decide (e = ⟨1, e.conn, e.addr, [], [], 0, 0⟩) && (connOk e.conn && decide (e.addr.length = 4 ∨ e.addr.length = 16))
 else if e.kind = 2 then decide (e = ⟨2, e.conn, [], e.peer, [], 0, 0⟩) && (connOk e.conn && nameOk e.peer)
 else if e.kind = 3 then decide (e = ⟨3, 0, [], e.peer, [], 0, 0⟩) && nameOk e.peer
 else if e.kind = 4 then decide (e = ⟨4, e.conn, [], [], e.bytes, 0, 0⟩) && (connOk e.conn && decide (e.bytes.length ≤ 16384))
 else if e.kind = 5 then decide (e = ⟨5, e.conn, [], [], [], 0, 0⟩) && connOk e.conn
 else if e.kind = 6 then decide (e = ⟨6, 0, [], [], [], e.ticks, 0⟩) && decide (1 ≤ e.ticks ∧ e.ticks ≤ 4096)
 else if e.kind = 7 then decide (e = ⟨7, 0, [], [], e.bytes, 0, 0⟩) && decide (e.bytes.length ≤ 65536)
 else if e.kind = 8 then decide (e = ⟨8, 0, [], [], e.bytes, 0, 0⟩) && decide (e.bytes.length ≤ 16384)
 else if e.kind = 9 then decide (e = ⟨9, 0, [], [], [], 0, e.draw⟩)
 else if e.kind = 10 then decide (e = ⟨10, 0, [], [], [], 0, 0⟩)
 else false
/-- Its words. -/
def evWs (e : EvS) : List (List UInt8) :=
 if e.kind = 1 then [[105, 110], digS 10 e.conn.toNat, (addrT e.addr).1]
 else if e.kind = 2 then [[117, 112], digS 10 e.conn.toNat, e.peer]
 else if e.kind = 3 then [[114, 101, 102, 117, 115, 101], e.peer]
 else if e.kind = 4 then [[100, 97, 116, 97], digS 10 e.conn.toNat, wordB e.bytes]
 else if e.kind = 5 then [[99, 108, 111, 115, 101], digS 10 e.conn.toNat]
 else if e.kind = 6 then [[116, 105, 99, 107], digS 10 e.ticks.toNat]
 else if e.kind = 7 then [[108, 111, 97, 100], wordB e.bytes]
 else if e.kind = 8 then [[97, 115, 107], wordB e.bytes]
 else if e.kind = 9 then [[100, 114, 97, 119], digS 10 e.draw.toNat]
 else [[100, 114, 97, 105, 110]]
def evW (e : EvS) : List UInt8 := Lib.join (evWs e) [32]
def evT (e : EvS) : List UInt8 × Int := if evOk e = true then (evW e, 0) else ([], 2)
def rdC (s : List UInt8) (least most : Nat) : Option Nat := match rdN 10 most s with | some n => if least ≤ n then some n else none | none => none
/-- The event of words. -/
def readE : List (List UInt8) → Option EvS
  | [k, n, x] =>
    if k = [105, 110] then (match rdC n 1 64 with | some c => if (addrC x).2 = 0 then some ⟨1, (c : Int), (addrC x).1, [], [], 0, 0⟩ else none | none => none)
    else if k = [117, 112] then (match rdC n 1 64 with | some c => if nameOk x = true then some ⟨2, (c : Int), [], x, [], 0, 0⟩ else none | none => none)
    else if k = [100, 97, 116, 97] then (match rdC n 1 64 with | some c => (readB 16384 x).map fun b => ⟨4, (c : Int), [], [], b, 0, 0⟩ | none => none)
    else none
  | [k, x] =>
    if k = [114, 101, 102, 117, 115, 101] then (if nameOk x = true then some ⟨3, 0, [], x, [], 0, 0⟩ else none)
    else if k = [99, 108, 111, 115, 101] then (rdC x 1 64).map fun c => ⟨5, (c : Int), [], [], [], 0, 0⟩
    else if k = [116, 105, 99, 107] then (rdC x 1 4096).map fun c => ⟨6, 0, [], [], [], (c : Int), 0⟩
    else if k = [108, 111, 97, 100] then (readB 65536 x).map fun b => ⟨7, 0, [], [], b, 0, 0⟩
    else if k = [97, 115, 107] then (readB 16384 x).map fun b => ⟨8, 0, [], [], b, 0, 0⟩
    else if k = [100, 114, 97, 119] then (rdC x 0 4294967295).map fun c => ⟨9, 0, [], [], [], 0, UInt32.ofNat c⟩
    else none
  | [k] => if k = [100, 114, 97, 105, 110] then some ⟨10, 0, [], [], [], 0, 0⟩ else none
  | _ => none
def evO (s : List UInt8) : Option EvS := readE (spl 32 s)
theorem rdC_some {s : List UInt8} {a m n : Nat} (h : rdC s a m = some n) : a ≤ n ∧ n ≤ m ∧ digS 10 n = s := by
  unfold rdC at h
  cases hr : rdN 10 m s with
  | none => rw [hr] at h; cases h
  | some k =>
    rw [hr] at h
    have h : (if a ≤ k then some k else none) = some n := h
    split at h
    · injection h with h
      subst h
      obtain ⟨h1, h2⟩ := (rdN_iff (by decide) (by decide)).1 hr
      exact ⟨by assumption, h1, h2⟩
    · cases h
theorem rdC_dig {a m n : Nat} (h1 : a ≤ n) (h2 : n ≤ m) : rdC (digS 10 n) a m = some n := by
 unfold rdC
 rw [rdN_dig (by decide) (by decide) h2]
 exact if_pos h1
theorem rdC_int {a m : Nat} {n : Int} (h1 : (a : Int) ≤ n) (h2 : n ≤ (m : Int)) : rdC (digS 10 n.toNat) a m = some n.toNat := rdC_dig (by omega) (by omega)
theorem nameOk_mem {s : List UInt8} (h : nameOk s = true) {c : UInt8} (hc : c ∈ s) : nameCh c = true := by
 unfold nameOk at h
 simp only [Bool.and_eq_true] at h
 exact List.all_eq_true.1 h.2.2.2 c hc
theorem readE_words {e : EvS} (h : evOk e = true) : readE (evWs e) = some e := by
 obtain ⟨k, c, a, p, b, t, d⟩ := e
 unfold evOk at h
 dsimp only at h
 unfold evWs
 dsimp only
 split at h
 ·rename_i hk
  rw [if_pos hk]
  simp only [Bool.and_eq_true, decide_eq_true_eq, connOk, EvS.mk.injEq] at h
  obtain ⟨⟨rfl, _, _, rfl, rfl, rfl, rfl⟩, hc, ha⟩ := h
  have hx := text_addr ha
  unfold readE
  dsimp only
  rw [if_pos rfl, rdC_int (by omega) (by omega), hx]
  show (if (0 : Int) = 0 then _ else _) = _
  rw [if_pos rfl, Int.toNat_of_nonneg (by omega)]
 rename_i hk
 rw [if_neg hk]
 split at h
 ·rename_i hk
  rw [if_pos hk]
  simp only [Bool.and_eq_true, decide_eq_true_eq, connOk, EvS.mk.injEq] at h
  obtain ⟨⟨rfl, _, rfl, _, rfl, rfl, rfl⟩, hc, hn⟩ := h
  unfold readE
  dsimp only
  rw [if_neg (by decide), if_pos rfl, rdC_int (by omega) (by omega)]
  show (if nameOk p = true then _ else _) = _
  rw [if_pos hn, Int.toNat_of_nonneg (by omega)]
 rename_i hk
 rw [if_neg hk]
 split at h
 ·rename_i hk
  rw [if_pos hk]
  simp only [Bool.and_eq_true, decide_eq_true_eq, connOk, EvS.mk.injEq] at h
  obtain ⟨⟨rfl, rfl, rfl, _, rfl, rfl, rfl⟩, hn⟩ := h
  unfold readE
  dsimp only
  rw [if_pos rfl, if_pos hn]
 rename_i hk
 rw [if_neg hk]
 split at h
 ·rename_i hk
  rw [if_pos hk]
  simp only [Bool.and_eq_true, decide_eq_true_eq, connOk, EvS.mk.injEq] at h
  obtain ⟨⟨rfl, _, rfl, rfl, _, rfl, rfl⟩, hc, hb⟩ := h
  unfold readE
  dsimp only
  rw [if_neg (by decide), if_neg (by decide), if_pos rfl, rdC_int (by omega) (by omega)]
  show (readB 16384 (wordB b)).map _ = _
  rw [readB_word hb]
  show some _ = _
  rw [Int.toNat_of_nonneg (by omega)]
 rename_i hk
 rw [if_neg hk]
 split at h
 ·rename_i hk
  rw [if_pos hk]
  simp only [Bool.and_eq_true, decide_eq_true_eq, connOk, EvS.mk.injEq] at h
  obtain ⟨⟨rfl, _, rfl, rfl, rfl, rfl, rfl⟩, hc⟩ := h
  unfold readE
  dsimp only
  rw [if_neg (by decide), if_pos rfl, rdC_int (by omega) (by omega)]
  show some _ = _
  rw [Int.toNat_of_nonneg (by omega)]
 rename_i hk
 rw [if_neg hk]
 split at h
 ·rename_i hk
  rw [if_pos hk]
  simp only [Bool.and_eq_true, decide_eq_true_eq, connOk, EvS.mk.injEq] at h
  obtain ⟨⟨rfl, rfl, rfl, rfl, rfl, _, rfl⟩, hc⟩ := h
  unfold readE
  dsimp only
  rw [if_neg (by decide), if_neg (by decide), if_pos rfl, rdC_int (by omega) (by omega)]
  show some _ = _
  rw [Int.toNat_of_nonneg (by omega)]
 rename_i hk
 rw [if_neg hk]
 split at h
 ·rename_i hk
  rw [if_pos hk]
  simp only [Bool.and_eq_true, decide_eq_true_eq, connOk, EvS.mk.injEq] at h
  obtain ⟨⟨rfl, rfl, rfl, rfl, _, rfl, rfl⟩, hb⟩ := h
  unfold readE
  dsimp only
  rw [if_neg (by decide), if_neg (by decide), if_neg (by decide), if_pos rfl, readB_word hb]
  rfl
 rename_i hk
 rw [if_neg hk]
 split at h
 ·rename_i hk
  rw [if_pos hk]
  simp only [Bool.and_eq_true, decide_eq_true_eq, connOk, EvS.mk.injEq] at h
  obtain ⟨⟨rfl, rfl, rfl, rfl, _, rfl, rfl⟩, hb⟩ := h
  unfold readE
  dsimp only
  rw [if_neg (by decide), if_neg (by decide), if_neg (by decide), if_neg (by decide), if_pos rfl, readB_word hb]
  rfl
 rename_i hk
 rw [if_neg hk]
 split at h
 ·rename_i hk
  rw [if_pos hk]
  simp only [Bool.and_eq_true, decide_eq_true_eq, connOk, EvS.mk.injEq] at h
  obtain ⟨rfl, rfl, rfl, rfl, rfl, rfl, _⟩ := h
  have hd := d.toNat_lt
  unfold readE
  dsimp only
  rw [if_neg (by decide), if_neg (by decide), if_neg (by decide), if_neg (by decide), if_neg (by decide), if_pos rfl, rdC_dig (Nat.zero_le _) (by omega)]
  show some (⟨9, 0, [], [], [], 0, UInt32.ofNat d.toNat⟩ : EvS) = _
  rw [UInt32.ofNat_toNat]
 rename_i hk
 rw [if_neg hk]
 split at h
 ·rename_i hk
  simp only [Bool.and_eq_true, decide_eq_true_eq, connOk, EvS.mk.injEq] at h
  obtain ⟨rfl, rfl, rfl, rfl, rfl, rfl, rfl⟩ := h
  unfold readE
  dsimp only
  rw [if_pos rfl]
 rename_i hk
 cases h
/-- A space, a line's end: none stands in a word of an event that may be. -/
theorem evWs_no {e : EvS} (h : evOk e = true) {c : UInt8} (hc : c = 32 ∨ c = 10) : ∀ w ∈ evWs e, c ∉ w := by
 have hd : c.toNat < 45 := by rcases hc with rfl | rfl <;> decide
 have dig : ∀ n, c ∉ digS 10 n := fun n => digS_no (by decide) (by decide) n c (.inl (by omega))
 have wrd : ∀ b, c ∉ wordB b := fun b => wordB_no c (.inl hd)
 have adr : ∀ x : List UInt8, c ∉ (addrT x).1 := fun x => addrT_no c (.inl (by omega))
 have nam : ∀ x, nameOk x = true → c ∉ x := fun x hx hm => by
  have := nameOk_mem hx hm
  rcases hc with rfl | rfl <;> exact absurd this (by decide)
 have lit : ∀ l : List UInt8, (∀ x ∈ l, 97 ≤ x.toNat) → c ∉ l := fun l hl hm => by have := hl c hm; omega
 obtain ⟨k, cn, a, p, b, t, d⟩ := e
 unfold evOk at h
 unfold evWs
 dsimp only at h ⊢
 intro w hw
 split at h
 ·rename_i hk
  rw [if_pos hk] at hw
  simp only [List.mem_cons, List.not_mem_nil, or_false] at hw
  rcases hw with rfl | rfl | rfl
  ·exact lit _ (by decide)
  ·exact dig _
  ·exact adr _
 rename_i hk
 rw [if_neg hk] at hw
 split at h
 ·rename_i hk
  rw [if_pos hk] at hw
  simp only [Bool.and_eq_true] at h
  have hn := h.2.2
  simp only [List.mem_cons, List.not_mem_nil, or_false] at hw
  rcases hw with rfl | rfl | rfl
  ·exact lit _ (by decide)
  ·exact dig _
  ·exact nam _ hn
 rename_i hk
 rw [if_neg hk] at hw
 split at h
 ·rename_i hk
  rw [if_pos hk] at hw
  simp only [Bool.and_eq_true] at h
  have hn := h.2
  simp only [List.mem_cons, List.not_mem_nil, or_false] at hw
  rcases hw with rfl | rfl
  ·exact lit _ (by decide)
  ·exact nam _ hn
 rename_i hk
 rw [if_neg hk] at hw
 split at h
 ·rename_i hk
  rw [if_pos hk] at hw
  simp only [List.mem_cons, List.not_mem_nil, or_false] at hw
  rcases hw with rfl | rfl | rfl
  ·exact lit _ (by decide)
  ·exact dig _
  ·exact wrd _
 rename_i hk
 rw [if_neg hk] at hw
 split at h
 ·rename_i hk
  rw [if_pos hk] at hw
  simp only [List.mem_cons, List.not_mem_nil, or_false] at hw
  rcases hw with rfl | rfl
  ·exact lit _ (by decide)
  ·exact dig _
 rename_i hk
 rw [if_neg hk] at hw
 split at h
 ·rename_i hk
  rw [if_pos hk] at hw
  simp only [List.mem_cons, List.not_mem_nil, or_false] at hw
  rcases hw with rfl | rfl
  ·exact lit _ (by decide)
  ·exact dig _
 rename_i hk
 rw [if_neg hk] at hw
 split at h
 ·rename_i hk
  rw [if_pos hk] at hw
  simp only [List.mem_cons, List.not_mem_nil, or_false] at hw
  rcases hw with rfl | rfl
  ·exact lit _ (by decide)
  ·exact wrd _
 rename_i hk
 rw [if_neg hk] at hw
 split at h
 ·rename_i hk
  rw [if_pos hk] at hw
  simp only [List.mem_cons, List.not_mem_nil, or_false] at hw
  rcases hw with rfl | rfl
  ·exact lit _ (by decide)
  ·exact wrd _
 rename_i hk
 rw [if_neg hk] at hw
 split at h
 ·rename_i hk
  rw [if_pos hk] at hw
  simp only [List.mem_cons, List.not_mem_nil, or_false] at hw
  rcases hw with rfl | rfl
  ·exact lit _ (by decide)
  ·exact dig _
 rename_i hk
 rw [if_neg hk] at hw
 split at h
 ·rename_i hk
  simp only [List.mem_cons, List.not_mem_nil, or_false] at hw
  subst hw
  exact lit _ (by decide)
 rename_i hk
 cases h
theorem evWs_ne (e : EvS) : evWs e ≠ [] := by
 unfold evWs
 repeat' split
 all_goals simp
theorem spl_ev {e : EvS} (h : evOk e = true) : spl 32 (evW e) = evWs e := by
 have hn := evWs_no h (c := 32) (.inl rfl)
 have hne := evWs_ne e
 unfold evW
 generalize evWs e = l at *
 match l, hne with
 | x :: r, _ => exact join_spl 32 x r hn
theorem evO_ev {e : EvS} (h : evOk e = true) : evO (evW e) = some e := by unfold evO; rw [spl_ev h, readE_words h]
theorem addrC_len4 {x : List UInt8} (h : (addrC x).2 = 0) : (addrT (addrC x).1).1 = x ∧ ((addrC x).1.length = 4 ∨ (addrC x).1.length = 16) := by
 obtain ⟨h1, h2⟩ := addr_text h
 exact ⟨by rw [h1], h2.1⟩
theorem words_readE {w : List (List UInt8)} {e : EvS} (h : readE w = some e) : evOk e = true ∧ evWs e = w := by
  match w, h with
  | [], h => cases h
  | [k], h =>
    unfold readE at h
    dsimp only at h
    split at h
    · rename_i hk
      injection h with h
      subst h hk
      exact ⟨by decide, by decide⟩
    · cases h
  | [k, x], h =>
    unfold readE at h
    dsimp only at h
    split at h
    · rename_i hk
      split at h
      · rename_i hn
        injection h with h
        subst h hk
        exact ⟨by simp [evOk, hn], rfl⟩
      · cases h
    split at h
    · rename_i hk
      subst hk
      cases hc : rdC x 1 64 with
      | none => rw [hc] at h; cases h
      | some c =>
        rw [hc] at h
        injection h with h
        subst h
        obtain ⟨h1, h2, h3⟩ := rdC_some hc
        exact ⟨by simp [evOk, connOk]; omega, by rw [← h3]; rfl⟩
    split at h
    · rename_i hk
      subst hk
      cases hc : rdC x 1 4096 with
      | none => rw [hc] at h; cases h
      | some c =>
        rw [hc] at h
        injection h with h
        subst h
        obtain ⟨h1, h2, h3⟩ := rdC_some hc
        exact ⟨by simp [evOk]; omega, by rw [← h3]; rfl⟩
    split at h
    · rename_i hk
      subst hk
      cases hc : readB 65536 x with
      | none => rw [hc] at h; cases h
      | some b =>
        rw [hc] at h
        injection h with h
        subst h
        obtain ⟨h1, h2⟩ := word_readB hc
        exact ⟨by simp [evOk, h2], by rw [← h1]; rfl⟩
    split at h
    · rename_i hk
      subst hk
      cases hc : readB 16384 x with
      | none => rw [hc] at h; cases h
      | some b =>
        rw [hc] at h
        injection h with h
        subst h
        obtain ⟨h1, h2⟩ := word_readB hc
        exact ⟨by simp [evOk, h2], by rw [← h1]; rfl⟩
    split at h
    · rename_i hk
      subst hk
      cases hc : rdC x 0 4294967295 with
      | none => rw [hc] at h; cases h
      | some c =>
        rw [hc] at h
        injection h with h
        subst h
        obtain ⟨h1, h2, h3⟩ := rdC_some hc
        have hv : (UInt32.ofNat c).toNat = c := by rw [UInt32.toNat_ofNat']; omega
        exact ⟨by simp [evOk], by rw [← h3]; show [_, digS 10 (UInt32.ofNat c).toNat] = _; rw [hv]⟩
    · cases h
  | [k, n, x], h =>
    unfold readE at h
    dsimp only at h
    split at h
    · rename_i hk
      subst hk
      cases hc : rdC n 1 64 with
      | none => rw [hc] at h; cases h
      | some c =>
        rw [hc] at h
        have h : (if (addrC x).2 = 0 then some (⟨1, (c : Int), (addrC x).1, [], [], 0, 0⟩ : EvS) else none) = some e := h
        split at h
        · rename_i ha
          injection h with h
          subst h
          obtain ⟨h1, h2, h3⟩ := rdC_some hc
          obtain ⟨h4, h5⟩ := addrC_len4 ha
          exact ⟨by simp [evOk, connOk, h5]; omega, by rw [← h3]; show [_, _, (addrT (addrC x).1).1] = _; rw [h4]; rfl⟩
        · cases h
    split at h
    · rename_i hk
      subst hk
      cases hc : rdC n 1 64 with
      | none => rw [hc] at h; cases h
      | some c =>
        rw [hc] at h
        have h : (if nameOk x = true then some (⟨2, (c : Int), [], x, [], 0, 0⟩ : EvS) else none) = some e := h
        split at h
        · rename_i ha
          injection h with h
          subst h
          obtain ⟨h1, h2, h3⟩ := rdC_some hc
          exact ⟨by simp [evOk, connOk, ha]; omega, by rw [← h3]; rfl⟩
        · cases h
    split at h
    · rename_i hk
      subst hk
      cases hc : rdC n 1 64 with
      | none => rw [hc] at h; cases h
      | some c =>
        rw [hc] at h
        have h : (readB 16384 x).map (fun b => (⟨4, (c : Int), [], [], b, 0, 0⟩ : EvS)) = some e := h
        cases hb : readB 16384 x with
        | none => rw [hb] at h; cases h
        | some b =>
          rw [hb] at h
          injection h with h
          subst h
          obtain ⟨h1, h2, h3⟩ := rdC_some hc
          obtain ⟨h4, h5⟩ := word_readB hb
          exact ⟨by simp [evOk, connOk, h5]; omega, by rw [← h3, ← h4]; rfl⟩
    · cases h
  | _ :: _ :: _ :: _ :: _, h => cases h
theorem evO_some {s : List UInt8} {e : EvS} (h : evO s = some e) : evOk e = true ∧ evW e = s := by
 obtain ⟨h1, h2⟩ := words_readE h
 exact ⟨h1, by unfold evW; rw [h2]; exact spl_join 32 s⟩
theorem evW_no {e : EvS} (h : evOk e = true) : (10 : UInt8) ∉ evW e := by
 unfold evW
 exact join_no (by decide) (evWs_no h (.inr rfl))
end
section
open Go.RowKit
set_option linter.unusedVariables false
def runW : List UInt8 := [114, 117, 110]
/-- The lines of a configuration, up to 'run': where it stands, how many bytes stand ahead, the lines behind; none: there is none. -/
def scanC : Nat → Nat → List (List UInt8) → Option (Nat × Nat × List (List UInt8))
 | at_, cf, x :: y :: r => if x = runW then some (at_, cf, y :: r) else scanC (at_ + 1) (cf + x.length + 1) (y :: r)
 | _, _, _ => none
/-- The lines of events: events, a code, a place. -/
def scanE : Nat → List EvS → List (List UInt8) → List EvS × Int × Nat
  | at_, out, x :: y :: r => match evO x with
    | none => ([], 9, at_)
    | some e => if out.length = 512 then ([], 3, at_) else scanE (at_ + 1) (out ++ [e]) (y :: r)
  | at_, out, [x] => if x = [] then (out, 0, 0) else ([], 9, at_)
  | at_, out, [] => (out, 0, 0)
/-- What reading a script answers: the configuration, the events, a code (0: all is right), a place. -/
def parseS (s : List UInt8) : List UInt8 × List EvS × Int × Nat :=
  if 1048576 < s.length then ([], [], 3, 0)
  else match scanC 0 0 (spl 10 s) with
    | none => ([], [], 9, (spl 10 s).length - 1)
    | some (at_, cf, r) => match scanE (at_ + 1) [] r with
      | (out, c, p) => if c = 0 then (s.take cf, out, 0, 0) else ([], [], c, p)
/-- A configuration that may stand ahead of a script. -/
def cfgOk (c : List UInt8) : Bool := (decide (c = []) || decide (c.getLast? = some 10)) && !(spl 10 c).contains runW
def tellL (l : List EvS) : List UInt8 := l.flatMap fun e => evW e ++ [10]
def textScr (c : List UInt8) (l : List EvS) : List UInt8 := c ++ (runW ++ (10 :: tellL l))
def printS (c : List UInt8) (l : List EvS) : List UInt8 × Int :=
 if cfgOk c = false then ([], 2)
 else if 512 < l.length then ([], 3)
 else if l.all evOk = false then ([], 2)
 else if 1048576 < (textScr c l).length then ([], 3)
 else (textScr c l, 0)
theorem spl_tell : ∀ (l : List EvS), l.all evOk = true → spl 10 (tellL l) = l.map evW ++ [[]]
  | [], _ => spl_no (by simp [tellL])
  | e :: r, h => by
    simp only [List.all_cons, Bool.and_eq_true] at h
    have h1 : tellL (e :: r) = evW e ++ 10 :: tellL r := by simp [tellL]
    rw [h1, spl_at (evW_no h.1), spl_tell r h.2]
    rfl
theorem scanE_tell : ∀ (l : List EvS) (at_ : Nat) (out : List EvS), l.all evOk = true → out.length + l.length ≤ 512 → scanE at_ out (l.map evW ++ [[]]) = (out ++ l, 0, 0)
  | [], at_, out, _, _ => by simp [scanE]
  | e :: r, at_, out, h, hl => by
    simp only [List.all_cons, Bool.and_eq_true] at h
    simp only [List.length_cons] at hl
    have ih := scanE_tell r (at_ + 1) (out ++ [e]) h.2 (by simp; omega)
    have hne : ∃ y q, r.map evW ++ [[]] = y :: q := by cases r <;> exact ⟨_, _, rfl⟩
    obtain ⟨y, q, hq⟩ := hne
    show scanE at_ out (evW e :: (r.map evW ++ [[]])) = _
    rw [hq] at ih ⊢
    rw [scanE, evO_ev h.1]
    show (if out.length = 512 then _ else _) = _
    rw [if_neg (by omega), ih]
    simp
/-- The lines of a configuration that ends in a line's end: all but the last one, which is empty. -/
theorem spl_end (c t : List UInt8) : spl 10 (c ++ 10 :: t) = spl 10 c ++ spl 10 t := by
 refine spl_ind (P := fun c => spl 10 (c ++ 10 :: t) = spl 10 c ++ spl 10 t) 10 (fun s hs => ?_) (fun a b ha ih => ?_) c.length c (Nat.le_refl _)
 ·rw [spl_at hs, spl_no hs]; rfl
 ·rw [List.append_assoc, List.cons_append, spl_at ha, spl_at ha, ih]; rfl
theorem scanC_lines : ∀ (L : List (List UInt8)) (at_ cf : Nat) (y : List UInt8) (r : List (List UInt8)), runW ∉ L → scanC at_ cf (L ++ runW :: y :: r) = some (at_ + L.length, cf + (L.map fun x => x.length + 1).sum, y :: r)
  | [], at_, cf, y, r, _ => by rw [List.nil_append, scanC, if_pos rfl]; rfl
  | x :: q, at_, cf, y, r, h => by
    have hx : x ≠ runW := fun e => h (by simp [e])
    have hne : ∃ z s, q ++ runW :: y :: r = z :: s := by cases q <;> exact ⟨_, _, rfl⟩
    obtain ⟨z, s, hz⟩ := hne
    have ih := scanC_lines q (at_ + 1) (cf + x.length + 1) y r (fun hm => h (List.mem_cons_of_mem _ hm))
    rw [List.cons_append, hz, scanC, if_neg hx, ← hz, ih]
    simp only [List.length_cons, List.map_cons, List.sum_cons]
    congr 2
    · omega
    · congr 1; omega
theorem spl_size (c : List UInt8) : ((spl 10 c).map fun x => x.length + 1).sum = c.length + 1 := by
 refine spl_ind (P := fun c => ((spl 10 c).map fun x => x.length + 1).sum = c.length + 1) 10 (fun s hs => ?_) (fun a b ha ih => ?_) c.length c (Nat.le_refl _)
 ·rw [spl_no hs]; simp
 ·rw [spl_at ha, List.map_cons, List.sum_cons, ih]
  simp only [List.length_append, List.length_cons]
  omega
theorem textScr_lines {c : List UInt8} (h : cfgOk c = true) : ∃ L, runW ∉ L ∧ (L.map fun x => x.length + 1).sum = c.length ∧ ∀ t, spl 10 (c ++ t) = L ++ spl 10 t := by
 unfold cfgOk at h
 simp only [Bool.and_eq_true, Bool.or_eq_true, decide_eq_true_eq, Bool.not_eq_true'] at h
 obtain ⟨h1, h2⟩ := h
 have h2' : runW ∉ spl 10 c := fun hm => by rw [List.contains_iff_mem.2 hm] at h2; cases h2
 rcases h1 with rfl | h1
 ·exact ⟨[], by simp, rfl, fun t => rfl⟩
 ·have hc : c ≠ [] := by rintro rfl; cases h1
  obtain ⟨d, rfl⟩ : ∃ d, c = d ++ [10] := List.getLast?_eq_some_iff.1 h1
  have hs := spl_end d []
  rw [show spl 10 ([] : List UInt8) = [[]] from spl_no (by simp)] at hs
  have hd : runW ∉ spl 10 d := fun hm => h2' (by rw [hs]; exact List.mem_append_left _ hm)
  refine ⟨spl 10 d, hd, ?_, fun t => ?_⟩
  ·rw [spl_size]; simp
  ·rw [List.append_assoc]; exact spl_end d t
theorem parse_print {c : List UInt8} {l : List EvS} (h : cfgOk c = true) (hl : l.length ≤ 512) (ho : l.all evOk = true) (hs : (textScr c l).length ≤ 1048576) : parseS (textScr c l) = (c, l, 0, 0) := by
 obtain ⟨L, hL, hsum, hsp⟩ := textScr_lines h
 have h1 : spl 10 (textScr c l) = L ++ runW :: (l.map evW ++ [[]]) := by
  unfold textScr
  rw [hsp, spl_at (by decide), spl_tell l ho]
 have hne : ∃ y q, l.map evW ++ [[]] = y :: q := by cases l <;> exact ⟨_, _, rfl⟩
 obtain ⟨y, q, hq⟩ := hne
 have h2 := scanC_lines L 0 0 y q hL
 rw [← hq, Nat.zero_add, Nat.zero_add, hsum] at h2
 have h3 := scanE_tell l (L.length + 1) [] ho (by simpa using hl)
 unfold parseS
 rw [if_neg (by omega), h1, h2]
 dsimp only
 rw [h3]
 dsimp only
 rw [if_pos rfl, List.nil_append]
 congr 1
 unfold textScr
 rw [List.take_left]
end
section
open Go.RowKit Go.Sort Go.Lib
set_option linter.unusedVariables false
/-- The table of powers of ten is laid. -/
def Tab (w : World) : Prop := Lib.TabIs Tryz.prog w "internal/strconv.uint64pow10" .u64 Lib.pow10Tab
theorem var_lt {P : Program} {w : World} {n : String} {cs : Array Value} {g : Nat} (hg : P.globalNamed n = some g) (h : w.var? P n = some cs) : g < w.heap.size := by
 unfold World.var? at h
 simp only [hg, Option.bind_some] at h
 rcases Nat.lt_or_ge g w.heap.size with hlt | hge
 ·exact hlt
 ·rw [Array.getElem?_eq_none hge] at h; cases h
theorem Tab.ext {w w' : World} (h : Tab w) (he : Ext w w') : Tab w' := by
 have hg : Tryz.prog.globalNamed "internal/strconv.uint64pow10" = some 2 := by kernel_rfl
 exact var?_below he hg (var_lt hg h) h
/-- Digits of a number, as a text. -/
def dec (u : Nat) : ByteArray := ⟨(Lib.decDigits u).toArray⟩
theorem ext_putRow {w : World} (o : Obj) (dk : Array UInt8) (k off : Nat) : Ext w ((putRow (fun (b : UInt8) => Value.int .u8 (b.toNat : Int)) (w.alloc o) w.heap.size off dk).drewN k) := by
 refine Ext.drewN ?_ k
 obtain ⟨os', _, e⟩ := putRow_grow_new (fun (b : UInt8) => Value.int .u8 (b.toNat : Int)) w #[o] w.heap.size off dk (Nat.le_refl _)
 rw [alloc_eq_grow, e]
 refine ⟨rfl, rfl, rfl, by simp [grow], fun j hj => ?_⟩
 simp only [grow]
 rw [Array.getElem?_append_left hj]
theorem holds_zero0 (w : World) (T : TypeId) (nd : Nat) (hs : nd ≤ 24) : Holds (fun (b : UInt8) => Value.int .u8 (b.toNat : Int)) (w.alloc (.cells zeros24 T)) w.heap.size 0 (Array.replicate nd (0 : UInt8)) := fun j hj => by
 have hj' : j < nd := by simpa using hj
 refine ⟨?_, World.frozen?_alloc_new _ _ _ _⟩
 rw [World.cell?_alloc_new, zeros24_at _ (by omega), getElem!_pos _ j hj]
 simp
set_option maxHeartbeats 6400000 in
set_option maxRecDepth 100000 in
theorem IFormatUint_any (u : Nat) (hu64 : u < 18446744073709551616) (w : World) (htab : Tab w) :
  Calls Tryz.prog 84 #[.int .u64 u, .int .i64 10] w fun e w' => e = .returned (.string (dec u)) ∧ Ext w w' := by
 by_cases hs : u < 100
 ·go_enter Tryz.func84, Tryz.ntmps84
  go_wp2_with (go_at_call 102; refine (Tryz.internal_strconv_small u hs _).mono ?_; rintro e w' ⟨rfl, rfl⟩)
  go_ret
  exact ⟨rfl, Ext.refl _⟩
 ·have hu1 : 1 ≤ u := by omega
  have hnd20 : Lib.nDigits u ≤ 20 := by have := Lib.numDigits_eq u hu1 hu64; split at this <;> omega
  have hal : Tryz.prog.arrayLen 152 = 24 := by simp [Program.arrayLen, Tryz.underlying152]
  have hsl1 : ∀ W, (Instr.sliceAt 152 (.pointer (some ⟨w.heap.size, 0, none⟩)) none (some (.int .i64 (Lib.nDigits u : Int))) none).run Tryz.prog W = .ok (.slice (some ⟨w.heap.size, 0, none⟩) (Lib.nDigits u) 24) W := fun W => by
   rw [run_sliceAt_array_h W 152 ⟨w.heap.size, 0, none⟩ (by simp [Program.arrayLen, Program.elem, Tryz.underlying152]) .i64 (Lib.nDigits u : Int) (by omega) (by rw [hal]; omega)]
   go_simp
  have hH0 := holds_zero0 w 152 (Lib.nDigits u) (by omega)
  have hfmt := Tryz.internal_strconv_formatBase10 w.heap.size 0 24 u (Array.replicate (Lib.nDigits u) 0) (w.alloc (.cells Lib.zeros24 152)) hH0 (by rw [Array.size_replicate]; exact Lib.lt_pow_nDigits u) hu64 (by rw [Array.size_replicate]; omega)
  rw [Array.size_replicate] at hfmt
  have HH0 := Lib.hid hH0
  clear hH0 hal
  go_enter Tryz.func84, Tryz.ntmps84
  go_wp2_with (first
   | (go_at_call 103; refine (Tryz.internal_strconv_numDigits u hu1 hu64 _ (htab.ext ((Ext.refl _).alloc _))).mono ?_; rintro e w' ⟨rfl, rfl⟩))
  go_at_call 104
  refine hfmt.mono ?_
  rintro e w' ⟨rfl, k, v', dk, rfl, hF⟩
  have hcv : (convert 65 9 (.slice (some ⟨w.heap.size, 0, none⟩) (Lib.nDigits u) 24)).run Tryz.prog ((putRow (fun (b : UInt8) => Value.int .u8 (b.toNat : Int)) (w.alloc (.cells Lib.zeros24 152)) w.heap.size 0 dk).drewN k) = .ok (.string ⟨(Lib.decDigits u).toArray⟩) ((putRow (fun (b : UInt8) => Value.int .u8 (b.toNat : Int)) (w.alloc (.cells Lib.zeros24 152)) w.heap.size 0 dk).drewN k) := by
   have h := run_convert_bytes_back (P := Tryz.prog) ((putRow (fun (b : UInt8) => Value.int .u8 (b.toNat : Int)) (w.alloc (.cells Lib.zeros24 152)) w.heap.size 0 dk).drewN k) 65 9 5 ⟨w.heap.size, 0, none⟩ 24 (Lib.decDigits u) Tryz.underlying65 Tryz.underlying5 Tryz.underlying9 (fun j hj => by
    rw [Lib.row_is_numeral hF j hj, Lib.add_plain, World.cell?_drewN]
    exact cell?_putRow (fun (b : UInt8) => Value.int .u8 (b.toNat : Int)) _ w.heap.size 0 _ dk HH0.out (by rw [hF.size, Array.size_replicate]) j (by rw [hF.size]; rw [Lib.decDigits_length] at hj; exact hj))
   rw [Lib.decDigits_length] at h
   exact h
  go_wp2
  go_ret
  exact ⟨rfl, ext_putRow _ _ _ _⟩
theorem FormatUint_any (u : Nat) (hu64 : u < 18446744073709551616) (w : World) (htab : Tab w) :
  Calls Tryz.prog 62 #[.int .u64 u, .int .i64 10] w fun e w' => e = .returned (.string (dec u)) ∧ Ext w w' := by
 go_enter Tryz.func62, Tryz.ntmps62
 go_wp2_with (go_at_call 84; refine (IFormatUint_any u hu64 _ htab).mono ?_; rintro e w' ⟨rfl, he⟩; replace he := hide he)
 go_ret
 exact ⟨rfl, he.out⟩
end
section
open Go.RowKit
set_option linter.unusedVariables false
theorem wrap64_id (x : Int) (h1 : 0 ≤ x) (h2 : x < 9223372036854775808) : wrap64 x = x := by
 unfold wrap64
 omega
open Go.RowKit Go.Sort
theorem step_callN {P : Program} {ops : Array Oper} {o : Oper} {a : Act} {w : World} {K : Act → World → Prop} {Q : Exit → Act → World → Prop} {X : Prop} (hw : Region.wanted o (yielded ops a.tmps) = true) (f : FuncId) {fn : Func} (xs : Array Operand) (ts : Array TypeId)
  (hop : o.op = Op.call { callee := Callee.value (Operand.func f), args := xs, argTypes := ts }) (hf : P.funcs[f]? = some fn) (hname : (fn.name == "runtime.NumGoroutine") = false) (hb : fn.body.isNone = false) (vs : Array Value) (hx : xs.map a.eval = vs)
  {R : Ending → World → Prop} (hc : Calls P f vs w R) (hk : ∀ e w', R e w' → ∃ u, e = .returned u ∧ K (a.put o.dst u) w') : if Region.wanted o (yielded ops a.tmps) = true then Oper.wp P o a w K Q else X := by
 rw [if_pos hw]
 unfold Oper.wp
 have h1 : fn.name ≠ "runtime.NumGoroutine" := by simpa using hname
 have hev : a.eval (Operand.func f) = .func (.func f) #[] #[] := rfl
 have h2 : ¬ (fn.body = none) := by intro h; simp [h] at hb
 have hrun : (execOp a.eval o).run P w = .ok (.enter f vs) w := by
  simp [execOp, hop, resolve, hev, Deferred.ofValue, invoke, hx, callFunc, hf, h1, h2]
 rw [hrun, Oper.upon_enter]
 exact hc.mono fun e w' h => by obtain ⟨u, rfl, hK⟩ := hk e w' h; exact hK
end
section
open Go.RowKit Go.Sort
set_option linter.unusedVariables false
theorem ba_size (a : List UInt8) : (ByteArray.mk a.toArray).size = a.length := by simp [ByteArray.size]
open Go.RowKit Go.Sort
theorem okStr : ElemOk Tryz.prog 63 9 EStr.sz 16 := elemOk (z := .string ⟨#[]⟩) Tryz.underlying63 (by kernel_rfl) rfl
theorem str_new' (w : World) (s : ByteArray) (T : TypeId) : ∀ j u, [Value.string s][j]? = some u → (w.alloc (.cells #[.string s] T)).cell? ((⟨w.heap.size, 0, none⟩ : Addr).add j) = some u := cell_one_new _ _ _
theorem Join_any (a : Option Addr) (c : Nat) (xs : List ByteArray) (sep : UInt8) (w : World) (S : Nat → Prop) (hS : ∀ b, S b → b < w.heap.size) (hs : Sl EStr w S a xs) (hne : xs ≠ []) (hc : xs.length ≤ c) (hl : xs.length ≤ 16777216) (hlen : (Lib.join (xs.map (·.data.toList)) [sep]).length ≤ 140737488355328) :
  Calls Tryz.prog 76 #[.slice a xs.length c, .string ⟨#[sep]⟩] w fun e w' => e = .returned (.string ⟨(Lib.join (xs.map (·.data.toList)) [sep]).toArray⟩) ∧ Ext w w' := by
 rcases hs with hs | ⟨b, off, rfl, hb, hs⟩
 ·exact absurd hs hne
 ·refine Tryz.strings_Join b off c xs ⟨#[sep]⟩ w (fun j x hx => ?_) (hS b hb) (by omega) hc hlen
  obtain ⟨cs, ⟨rfl, _⟩, hcell⟩ := hs j x hx
  have := hcell 0 _ rfl
  simpa [EStr, Enc.flat] using this
end
section
open Go.RowKit Go.Sort
set_option linter.unusedVariables false
/-- The library's table of zeros' counts, at the place that 16 asks. -/
def Deb (w : World) : Prop := w.cell? ⟨8, 15, none⟩ = some (.int .u8 4)
theorem Deb.ext {w w' : World} (h : Deb w) (he : Ext w w') : Deb w' := he.cell h
set_option maxRecDepth 20000 in
theorem TZ64_16 (w : World) (hD : Deb w) : Calls Tryz.prog 132 #[.int .u64 16] w fun e w' => e = .returned (.int .i64 4) ∧ w = w' := by
 unfold Deb at hD
 have e1 : IntKind.u64.wrap (bits BinOp.and IntKind.u64 16 (IntKind.u64.wrap (-16)) * 285870213051353865) / 288230376151711744 = 15 := by decide +kernel
 go_enter Tryz.func132, Tryz.ntmps132
 go_wp2
 go_ret
 exact ⟨rfl, rfl⟩
set_option maxRecDepth 20000 in
theorem TZ_16 (w : World) (hD : Deb w) : Calls Tryz.prog 121 #[.int .u64 16] w fun e w' => e = .returned (.int .i64 4) ∧ w = w' := by
 have q := TZ64_16 w hD
 replace q := hide q
 go_enter Tryz.func121, Tryz.ntmps121
 go_wp2_with fail
 refine q.out.mono ?_
 rintro e w1 ⟨rfl, rfl⟩
 go_wp2
 go_ret
 exact ⟨rfl, rfl⟩
set_option maxRecDepth 20000 in
theorem Pow2_16 (w : World) : Calls Tryz.prog 120 #[.int .i64 16] w fun e w' => e = .returned (.bool true) ∧ w = w' := by
 go_enter Tryz.func120, Tryz.ntmps120
 go_wp2
 go_ret
 exact ⟨rfl, rfl⟩
def cB (L : List UInt8) : Array Value := (L.map fun b => Value.int .u8 (b.toNat : Int)).toArray
theorem cB_set (L : List UInt8) (i : Nat) (b : UInt8) : (cB L).setIfInBounds i (.int .u8 (b.toNat : Int)) = cB (L.set i b) := by
 unfold cB
 simp [List.map_set]
theorem cB_at (L : List UInt8) (i : Nat) (h : i < L.length) : (cB L)[i]? = some (.int .u8 (L[i].toNat : Int)) := by
 unfold cB
 simp [h]
def digS36 : ByteArray := ⟨#[48, 49, 50, 51, 52, 53, 54, 55, 56, 57, 97, 98, 99, 100, 101, 102, 103, 104, 105, 106, 107, 108, 109, 110, 111, 112, 113, 114, 115, 116, 117, 118, 119, 120, 121, 122]⟩
theorem dig_at : ∀ d : Fin 16, (digS36.data[d.val]'(by have := d.isLt; show _ < 36; omega)) = dgt d.val := by decide +kernel
theorem dig_index (d : Nat) (h : d < 16) (W : World) : (Instr.index 9 (.string digS36) (.int .u64 (d : Int))).run Tryz.prog W = .ok (.int .u8 ((dgt d).toNat : Int)) W := by
 have h1 := dig_at ⟨d, h⟩
 have h2 : d < digS36.size := by show d < 36; omega
 simp only [] at h1
 go_simp
 exact congrArg (fun b : UInt8 => (b.toNat : Int)) h1
theorem and_15 (u : Nat) (h : u < 65536) : bits .and .u64 (u : Int) 15 = ((u % 16 : Nat) : Int) := by
 have := (bits_nat .u64 16 (by decide) (fun n h1 h2 => by rw [IntKind.wrap_u64]; have : n < 65536 := h2; omega) u 15 h (by decide)).1
 rw [show (15 : Nat) = 2 ^ 4 - 1 by decide, Nat.and_two_pow_sub_one_eq_mod] at this
 exact this
set_option maxRecDepth 20000 in
theorem FB16 (u0 : Nat) (h0 : u0 < 65536) (w : World) (hD : Deb w) :
  Calls Tryz.prog 105 #[.slice none 0 0, .int .u64 (u0 : Int), .int .i64 16, .bool false, .bool false] w fun e w' => e = .returned (.tuple #[.slice none 0 0, .string ⟨(digS 16 u0).toArray⟩]) ∧ Ext w w' := by
 have q1 := fun W => Pow2_16 W
 have q2 := fun W hD => TZ_16 W hD
 replace q1 := hide q1
 replace q2 := hide q2
 replace hD := hide hD
 replace h0 := hide h0
 go_enter Tryz.func105, Tryz.ntmps105
 have hA : Blk (w.alloc (Obj.cells Tryz.zeroCells166 166)) w.heap.size 166 (cB (List.replicate 65 0)) := by
  rw [show cB (List.replicate 65 0) = Tryz.zeroCells166 by kernel_rfl]
  exact Blk.new _ _ _
 have hE : Ext w (w.alloc (Obj.cells Tryz.zeroCells166 166)) := (Ext.refl w).alloc _
 generalize hg : w.heap.size = g at hA
 have hgw : w.heap.size ≤ g := Nat.le_of_eq hg
 generalize hW : w.alloc (Obj.cells Tryz.zeroCells166 166) = W at hA hE
 replace hA := hide hA
 replace hE := hide hE
 replace hgw := hide hgw
 go_wp2_with fail
 refine (q1.out _).mono ?_
 rintro e w1 ⟨rfl, rfl⟩
 clear hW hg
 go_wp2_with fail
 refine (q2.out _ (hD.out.ext hE.out)).mono ?_
 rintro e w1 ⟨rfl, rfl⟩
 go_wp2
 go_loopw [1, 13] (fun v i wr => ∃ (u k : Nat) (L : List UInt8), v = .int .u64 (u : Int) ∧ i = .int .i64 (k : Int) ∧ 62 ≤ k ∧ k ≤ 65 ∧ u < 16 ^ (k - 61) ∧ L.length = 65 ∧ digS 16 u0 = digS 16 u ++ L.drop k ∧ Blk wr g 166 (cB L) ∧ Ext w wr) (fun v _ _ => (intOf v).toNat)
 case atStart => exact ⟨u0, 65, List.replicate 65 0, rfl, rfl, by decide, by decide, h0.out, rfl, by simp, hA.out, hE.out⟩
 case round =>
  clear hA hE
  obtain ⟨u, k, L, rfl, rfl, hk1, hk2, hu, hL, hdig, hA, hE⟩ := hrel
  obtain ⟨k, rfl⟩ : ∃ j, k = j + 1 := ⟨k - 1, by omega⟩
  have hd16 : u % 16 < 16 := Nat.mod_lt _ (by decide)
  have hx := fun W => dig_index (u % 16) hd16 W
  unfold digS36 at hx
  have hand := and_15 u (Nat.lt_of_lt_of_le hu (Nat.pow_le_pow_right (by decide) (show k + 1 - 61 ≤ 4 by omega)))
  have e0 : ((k + 1 : Nat) : Int) - 1 = (k : Int) := by omega
  have hkL : k < L.length := by omega
  have c1 : wr.cell? ⟨g, k, none⟩ = some (.int .u8 (L[k].toNat : Int)) := (hA.cell k).trans (cB_at L k hkL)
  have f1 := fun i => hA.frozen i
  have hA2 := hA.set_ k (.int .u8 ((dgt (u % 16)).toNat : Int))
  rw [cB_set] at hA2
  have hE2 := hE.setCell (p := ⟨g, k, none⟩) hgw.out (.int .u8 ((dgt (u % 16)).toNat : Int))
  have hbk : (k : Int) < 65 := by omega
  have hbk2 : k < 65 := by omega
  have w1 : IntKind.i64.wrap (k : Int) = (k : Int) := by rw [IntKind.wrap_i64]; omega
  by_cases hlt : 16 ≤ u
  ·have b1 : decide ((16 : Int) ≤ (u : Int)) = true := decide_eq_true (by omega)
   have hdig2 : digS 16 u0 = digS 16 (u / 16) ++ (L.set k (dgt (u % 16))).drop k := by
    rw [hdig, digS_big (by decide) hlt, List.append_assoc]
    congr 1
    rw [List.drop_eq_getElem_cons (show k < (L.set k (dgt (u % 16))).length by simp; exact hkL), List.getElem_set_self, List.drop_set_of_lt (by omega)]
    rfl
   have hu2 : u / 16 < 16 ^ (k - 61) := by
    rw [show k + 1 - 61 = (k - 61) + 1 by omega, Nat.pow_succ] at hu
    omega
   have hk62 : 62 ≤ k := by
    rcases Nat.lt_or_ge k 62 with h | h
    ·obtain rfl : k = 61 := by omega
     simp at hu; omega
    ·exact h
   have hsh : (u : Int) / 16 = ((u / 16 : Nat) : Int) := rfl
   generalize hvv : u / 16 = v at hsh hdig2 hu2
   have hvlt : v < u := by omega
   replace hvlt := hide hvlt
   replace hvv := hide hvv
   generalize u % 16 = d at hx hand hd16 hA2 hE2 hdig2
   generalize hdg : dgt d = c at hx hA2 hE2 hdig2
   replace hu := hide hu
   replace hdig := hide hdig
   replace hA := hide hA
   replace hE := hide hE
   replace hA2 := hide hA2
   replace hE2 := hide hE2
   replace hdig2 := hide hdig2
   replace hu2 := hide hu2
   replace hdg := hide hdg
   go_wp2
   exact ⟨⟨v, k, L.set k c, rfl, rfl, hk62, by omega, hu2.out, by simp [hL], hdig2.out, hA2.out, hE2.out⟩, by simp [intOf]; exact hvlt.out⟩
  ·have b1 : decide ((16 : Int) ≤ (u : Int)) = false := decide_eq_false (by omega)
   have hue : u % 16 = u := Nat.mod_eq_of_lt (by omega)
   rw [hue] at hx hA2 hE2
   clear hand hue
   have hdig2 : digS 16 u0 = (L.set k (dgt u)).drop k := by
    rw [hdig, digS_small (by omega), List.drop_eq_getElem_cons (show k < (L.set k (dgt u)).length by simp; exact hkL), List.getElem_set_self, List.drop_set_of_lt (by omega)]
    rfl
   have hal : Tryz.prog.arrayLen 166 = 65 := by simp [Program.arrayLen, Tryz.underlying166]
   have hlen : ((L.set k (dgt u)).drop k).length = 65 - k := by simp [hL]
   have hsl : ∀ W, (Instr.sliceAt 166 (.pointer (some ⟨g, 0, none⟩)) (some (.int .i64 (k : Int))) none none).run Tryz.prog W = .ok (.slice (some ⟨g, k, none⟩) (65 - k) (65 - k)) W := fun W => by
    rw [run_sliceAt_array_l W 166 ⟨g, 0, none⟩ (by simp [Program.arrayLen, Program.elem, Tryz.underlying166]) .i64 (k : Int) (by omega) (by rw [hal]; omega)]
    go_simp
    omega
   generalize hV : wr.setCell ⟨g, k, none⟩ (.int .u8 ((dgt u).toNat : Int)) = V at hA2 hE2
   have hcv : (convert 65 9 (.slice (some ⟨g, k, none⟩) (65 - k) (65 - k))).run Tryz.prog V = .ok (.string ⟨(digS 16 u0).toArray⟩) V := by
    have h := run_convert_bytes_back (P := Tryz.prog) V 65 9 5 ⟨g, k, none⟩ (65 - k) ((L.set k (dgt u)).drop k) Tryz.underlying65 Tryz.underlying5 Tryz.underlying9 (fun j hj => by
     rw [add_lit, hA2.cell, cB_at _ _ (by rw [hlen] at hj; simp [hL]; omega)]
     congr 4
     rw [List.getElem_drop])
    rw [hlen, ← hdig2] at h
    exact h
   generalize 65 - k = N at hsl hcv
   replace hdig := hide hdig
   replace hA := hide hA
   replace hE := hide hE
   replace hA2 := hide hA2
   replace hE2 := hide hE2
   replace hdig2 := hide hdig2
   replace hlen := hide hlen
   replace hu := hide hu
   clear hal
   go_wp2
   go_ret2
   exact ⟨rfl, hE2.out⟩
set_option maxRecDepth 20000 in
theorem IFormat16 (u : Nat) (h : u < 65536) (w : World) (hD : Deb w) :
  Calls Tryz.prog 84 #[.int .u64 (u : Int), .int .i64 16] w fun e w' => e = .returned (.string ⟨(digS 16 u).toArray⟩) ∧ Ext w w' := by
 have q := FB16 u h w hD
 generalize digS 16 u = r at q ⊢
 replace q := hide q
 replace h := hide h
 replace hD := hide hD
 go_enter Tryz.func84, Tryz.ntmps84
 go_wp2_with fail
 refine q.out.mono ?_
 rintro e w1 ⟨rfl, he⟩
 replace he := hide he
 go_wp2
 go_ret
 exact ⟨rfl, he.out⟩
set_option maxRecDepth 20000 in
theorem Format16 (u : Nat) (h : u < 65536) (w : World) (hD : Deb w) :
  Calls Tryz.prog 62 #[.int .u64 (u : Int), .int .i64 16] w fun e w' => e = .returned (.string ⟨(digS 16 u).toArray⟩) ∧ Ext w w' := by
 have q := IFormat16 u h w hD
 generalize digS 16 u = r at q ⊢
 replace q := hide q
 replace h := hide h
 replace hD := hide hD
 go_enter Tryz.func62, Tryz.ntmps62
 go_wp2_with fail
 refine q.out.mono ?_
 rintro e w1 ⟨rfl, he⟩
 replace he := hide he
 go_wp2
 go_ret
 exact ⟨rfl, he.out⟩
end
section
open Go.RowKit
set_option linter.unusedVariables false
/-- The library's variables that are read: a bound on lengths, the two errors of a numeral. -/
structure Vars (w : World) : Prop where
  max : ∃ m : Int, w.cell? ⟨1, 0, none⟩ = some (.int .i64 m)
  es : ∃ t p, w.cell? ⟨3, 0, none⟩ = some (.iface t p)
  er : ∃ t p, w.cell? ⟨4, 0, none⟩ = some (.iface t p)
theorem Vars.ext {w w' : World} (h : Vars w) (he : Ext w w') : Vars w' :=
 ⟨let ⟨m, hm⟩ := h.max; ⟨m, he.cell hm⟩, let ⟨t, p, hm⟩ := h.es; ⟨t, p, he.cell hm⟩, let ⟨t, p, hm⟩ := h.er; ⟨t, p, he.cell hm⟩⟩
theorem ba_list (s : ByteArray) : (⟨s.data.toList.toArray⟩ : ByteArray) = s := by cases s; simp
theorem Split_any (s : List UInt8) (c : UInt8) (w : World) (hV : Vars w) (hs : s.length ≤ 1048576) :
  Calls Tryz.prog 35 #[.string ⟨s.toArray⟩, .string ⟨#[c]⟩] w fun e w' => ∃ d, (spl c s).length ≤ d ∧ e = .returned (.slice (some ⟨w.heap.size, 0, none⟩) (spl c s).length d) ∧ Ext w w' ∧ ∀ k, (h : k < (spl c s).length) → w'.cell? ⟨w.heap.size, k, none⟩ = some (.string ⟨(spl c s)[k].toArray⟩) := by
 obtain ⟨m, hm⟩ := hV.max
 have hm2 : (Lib.splitB ⟨#[c]⟩ 0 (Lib.countB ⟨s.toArray⟩ ⟨#[c]⟩) ⟨s.toArray⟩).map (·.data.toList) = spl c s := Lib.splitB_data _ _ _ _
 have hlen : Lib.countB ⟨s.toArray⟩ ⟨#[c]⟩ + 1 = (spl c s).length := by
  rw [← hm2, List.length_map]
  exact (Lib.splitB_all ⟨#[c]⟩ (Nat.le_refl 1) _ _ _ rfl).symm
 refine (Tryz.strings_Split ⟨s.toArray⟩ ⟨#[c]⟩ m w (by simp [ByteArray.size]; omega) hm (Nat.le_refl 1)).mono ?_
 rintro e w' ⟨rfl, rfl⟩
 refine ⟨_, Nat.le_of_eq hlen.symm, by rw [hlen], (Ext.refl _).alloc _, fun k h => ?_⟩
 rw [(Blk.new w 9 _).cell k]
 have hk : k < (Lib.splitB ⟨#[c]⟩ 0 (Lib.countB ⟨s.toArray⟩ ⟨#[c]⟩) ⟨s.toArray⟩).length := by
  have := congrArg List.length hm2
  rw [List.length_map] at this
  omega
 have he := congrArg (fun l => l[k]?) hm2
 simp only [List.getElem?_map, List.getElem?_eq_getElem hk, List.getElem?_eq_getElem h, Option.map_some, Option.some.injEq] at he
 rw [List.getElem?_toArray, List.getElem?_map, List.getElem?_eq_getElem hk, ← he]
 rw [ba_list]
 rfl
theorem ext_bytes (w : World) (t : TypeId) (s : ByteArray) : Ext w (Lib.bytesWorld w t s) := ext_bytesWorld w t s
theorem PU8_ok (s : List UInt8) (u : Nat) (w : World) (hs : s.length ≤ 1048576) (hp : Lib.parseUintB 8 s = .ok u) :
  Calls Tryz.prog 85 #[.string ⟨s.toArray⟩, .int .i64 10, .int .i64 8] w fun e w' => e = .returned (.tuple #[.int .u64 u, .nilIface]) ∧ Ext w w' := by
 refine (Any.strconv_ParseUint_10_at8_ok Tryz.laysPu14 ⟨s.toArray⟩ (by simp [ByteArray.size]; omega) u hp w).mono ?_
 rintro e w' ⟨rfl, hw⟩
 refine ⟨rfl, ?_⟩
 rcases hw with rfl | rfl
 ·exact Ext.refl _
 ·exact ext_bytes _ _ _
end
section
open Go.RowKit
set_option linter.unusedVariables false
theorem okB8 : ElemOk Tryz.prog 65 5 1 1 := elemOk (z := .int .u8 0) Tryz.underlying65 (by kernel_rfl) rfl
theorem okB8z : Tryz.prog.info? 5 = none ∨ ∀ i, Tryz.prog.info? 5 = some i → i.zero = some (.int .u8 0) := by
 right; intro i hi
 have h : (Tryz.prog.info? 5).map (fun i => i.zero) = some (some (.int .u8 0)) := by kernel_rfl
 rw [hi] at h; simpa using h
end
section
open Go.RowKit Go.Sort
set_option linter.unusedVariables false
/-- A prefix as a value. -/
def valP (p : Pfx) : Value := .agg #[.int .i64 p.fam, .int .u64 (p.rd : Int), .string ⟨p.addr.toArray⟩, .int .i64 p.len]
open Go.RowKit Go.Sort
open Go.RowKit Go.Sort
/-- What a cut answers. -/
noncomputable instance (p : Pfx) (n : Int) : Decidable (cutOk p n) := Classical.propDecidable _
end
section
open Go.RowKit Go.Sort
set_option linter.unusedVariables false
theorem Itoa_any (u : Nat) (hu : u < 9223372036854775808) (w : World) (hT : Tab w) : Calls Tryz.prog 50 #[.int .i64 (u : Int)] w fun e w' => e = .returned (.string (dec u)) ∧ Ext w w' := by
 refine (Tryz.strconv_Itoa (u : Int) (by omega) (by omega) w hT).mono ?_
 rintro e w' ⟨rfl, k, os, rfl⟩
 refine ⟨by rw [Lib.itoa_nonneg]; rfl, ?_⟩
 refine ⟨rfl, rfl, rfl, by simp [grow, World.drewN], fun j hj => ?_⟩
 simp only [grow, World.drewN]
 rw [Array.getElem?_append_left hj]
def decB8 (u : UInt8) : ByteArray := dec u.toNat
theorem decB8_size (u : UInt8) : (decB8 u).size ≤ 21 := by
 have := Lib.itoa_length_le (u.toNat : Int) (by have := u.toNat_lt; omega) (by have := u.toNat_lt; omega)
 rw [Lib.itoa_nonneg] at this
 unfold decB8 dec
 simpa [ByteArray.size] using this
theorem Own.one {w : World} {B g : Nat} {T : TypeId} {x : ByteArray} (h : Blk w g T #[.string x]) (hB : B ≤ g) (hx : x.size ≤ maxLen) : Own EStr T w B (.slice (some ⟨g, 0, none⟩) 1 1) [x] := by
  refine ⟨[.string x], ⟨rfl, .inr ⟨g, 1, #[.string x], rfl, hB, h, Nat.le_refl _, by unfold maxLen; omega, rfl, rfl⟩⟩, fun k y hy => ?_⟩
  cases k with
  | zero =>
    obtain rfl : x = y := by simpa using hy
    refine ⟨[.string x], ⟨rfl, hx⟩, fun j u hu => ?_⟩
    match j, hu with
    | 0, hu => simpa using hu
  | succ k => simp at hy
set_option maxRecDepth 20000 in
set_option maxHeartbeats 2000000 in
theorem AAddrText4_any (bs : List UInt8) (h4 : bs.length = 4) (w : World) (hT : Tab w) (hlen : (Lib.join ((bs.map decB8).map (·.data.toList)) [46]).length ≤ 1048576) :
    Calls Tryz.prog 61 #[.string ⟨bs.toArray⟩] w fun e w' => e = .returned (.tuple #[.string ⟨(Lib.join ((bs.map decB8).map (·.data.toList)) [46]).toArray⟩, .int .i64 0]) ∧ Ext w w' := by
  have hz : (ByteArray.mk bs.toArray).size = 4 := by simp [ByteArray.size, h4]
  replace hT := hide hT
  go_enter Tryz.func61, Tryz.ntmps61
  go_wp2_with fail
  go_loopw [4, 13] (fun v q wr => ∃ k : Nat, k ≤ 4 ∧ q = .int .i64 k ∧ Own EStr 9 wr w.heap.size v ((bs.take k).map decB8) ∧ Ext w wr) (fun _ q _ => 4 - (intOf q).toNat)
  case atStart => exact ⟨0, by omega, rfl, by rw [List.take_zero]; exact Own.nil, Ext.refl _⟩
  case round =>
    obtain ⟨k, hk, rfl, hown, hE⟩ := hrel
    rename World => W0
    have hz0 := hE.size
    obtain ⟨vo, dd, rfl⟩ := hown.form
    have hlk : ((bs.take k).map decB8).length = k := by simp; omega
    rw [hlk] at hown ⊢
    replace hlk := hide hlk
    replace hE := hide hE
    replace hown := hide hown
    by_cases hlt : k < 4
    · have e1 : (ByteArray.mk bs.toArray)[k]'(by omega) = bs[k]'(by omega) := rfl
      have hnx : (bs.take k).map decB8 ++ [decB8 (bs[k]'(by omega))] = (bs.take (k + 1)).map decB8 := by rw [List.take_succ_eq_append_getElem (by omega), List.map_append]; rfl
      generalize bs[k]'(by omega) = u at e1 hnx
      have hu8 := u.toNat_lt
      have hsz := decB8_size u
      have hI := Itoa_any u.toNat (by omega) W0 (hT.out.ext hE.out)
      have w8 : IntKind.i64.wrap (u.toNat : Int) = (u.toNat : Int) := by rw [IntKind.wrap_i64]; omega
      replace hI := hide hI
      replace hnx := hide hnx
      replace hsz := hide hsz
      go_wp2_with fail
      refine hI.out.mono ?_
      rintro e w3 ⟨rfl, he3⟩
      have hown3 := hide (hown.out.ext he3)
      have hE3 := hide (hE.out.trans he3)
      have hz3 := he3.size
      clear he3
      go_wp2_with (at_builtin
                   have hox := hown3.out.alloc (Obj.cells #[.string (dec u.toNat)] 9)
                   refine wpList_push (E := EStr) rfl _ _ _ rfl okStr (by decide) (by decide) rfl hox (by rw [hlk.out]; omega) (by simp; omega) rfl (y := decB8 u) (cs := [.string (dec u.toNat)]) ⟨rfl, by have := hsz.out; unfold maxLen; omega⟩ (str_new' _ _ _) ?_
                   intro v' w5 hown1 hg hat)
      go_roundw
      case rel => exact ⟨k + 1, by omega, by go_num, by rw [← hnx.out]; exact hown1, (hE3.out.alloc _).push (fun j hj => (hown3.out.lt j hj).1) hg⟩
      case measure => simp [intOf]; omega
    · obtain rfl : k = 4 := by omega
      have hall : bs.take 4 = bs := List.take_of_length_le (by omega)
      rw [hall] at hown hlk
      obtain ⟨a9, c9, hv9, hc9, hs9⟩ := hown.out.slc
      injection hv9 with e1 e2 e3
      subst e1 e3
      clear e2
      have hJ := Join_any vo dd (bs.map decB8) 46 W0 _ (fun b hb => hb.2) hs9 (by intro h; have := hlk.out; rw [h] at this; exact absurd this (by simp)) hc9 (by rw [hlk.out]; omega) (by omega)
      rw [hlk.out] at hJ
      replace hJ := hide hJ
      go_wp2_with fail
      refine hJ.out.mono ?_
      rintro e w6 ⟨rfl, he6⟩
      replace he6 := hide he6
      go_wp2
      go_ret2
      exact ⟨by rw [List.map_map]; rfl, hE.out.trans he6.out⟩
end
end Go.Proofs.YtkinghadgmbhbaaGreatDoor
