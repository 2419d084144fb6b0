/- Chapter 16, walks: polc.Compile: instructions in memory. Chapter 16, walks: polc.Compile: is a set named? The row of sets is put together. -/
import Derived.Test.YtljibkfbldjgdaaGreatDoorHA
import Derived.Test.YtljibkfbldjgdaaGreatDoorKA
namespace Go.Proofs.YtljibkfbldjgdaaGreatDoor
section
open Go.RowKit Go.Sort
set_option linter.unusedVariables false

def insCs (x : InsS) : List Value := [.int .i64 x.kind, .int .i64 x.cond.kind, .bool x.cond.neg, .string ⟨x.cond.name.toArray⟩, .int .i64 x.cond.n, .int .i64 x.act.kind, .string ⟨x.act.name.toArray⟩, .int .u32 (x.act.n.toNat : Int), .string ⟨x.act.addr.toArray⟩, .int .i64 x.to, .int .i64 x.n]
structure InsIn (x : InsS) : Prop where
  kind : i64 x.kind
  cond : CondIn x.cond
  act : ActIn x.act
  too : i64 x.to
  n : i64 x.n
def EIns : Enc InsS := Enc.cells insCs InsIn 11 (fun _ => rfl) (fun x u hu => by simp only [insCs, List.mem_cons, List.not_mem_nil, or_false] at hu; rcases hu with rfl | rfl | rfl | rfl | rfl | rfl | rfl | rfl | rfl | rfl | rfl <;> rfl)
set_option maxRecDepth 20000 in
theorem okIns : ElemOk Tryz.prog 54 62 EIns.sz 112 := elemOk (z := .agg #[.int .i64 0, .int .i64 0, .bool false, .string ⟨#[]⟩, .int .i64 0, .int .i64 0, .string ⟨#[]⟩, .int .u32 0, .string ⟨#[]⟩, .int .i64 0, .int .i64 0]) Tryz.underlying54 (by kernel_rfl) rfl
theorem zeroCo_in : CondIn zeroCo := ⟨⟨by decide, by decide⟩, by decide, ⟨by decide, by decide⟩⟩
theorem zeroAc_in : ActIn zeroAc := ⟨⟨by decide, by decide⟩, by decide, by decide⟩
theorem EIns.of {w : World} {S : Nat → Prop} {x : InsS} (h : InsIn x) : EIns.R w S x (insCs x) := ⟨rfl, h⟩
/-- A row that may be written in place. -/
def RowB {α : Type} (E : Enc α) (w : World) (S : Nat → Prop) (v : Value) (l : List α) : Prop :=
  ∃ a c, v = .slice a l.length c ∧ Sl E w S a l ∧ (l = [] ∨ ∃ g, a = some ⟨g, 0, none⟩ ∧ S g ∧ w.there g 0 (l.length * E.sz))
theorem there_frame {w w' : World} {g o n : Nat} (h : w.there g o n) (hw : w'.heap[g]? = w.heap[g]?) : w'.there g o n := fun i hi => by
  obtain ⟨h1, h2⟩ := h i hi
  exact ⟨by rw [World.cell?_of_block (a := ⟨g, o + i, none⟩) hw]; exact h1, by rw [World.frozen?_of_block (a := ⟨g, o + i, none⟩) hw]; exact h2⟩
theorem RowB.frame {α : Type} {E : Enc α} {w w' : World} {S : Nat → Prop} {v : Value} {l : List α} (h : RowB E w S v l) (hw : ∀ b, S b → w'.heap[b]? = w.heap[b]?) : RowB E w' S v l := by
  obtain ⟨a, c, rfl, h1, h2⟩ := h
  refine ⟨a, c, rfl, h1.frame hw, ?_⟩
  rcases h2 with h2 | ⟨g, rfl, hg, h2⟩
  · exact .inl h2
  · exact .inr ⟨g, rfl, hg, there_frame h2 (hw g hg)⟩
theorem RowB.mono {α : Type} {E : Enc α} {w : World} {S S' : Nat → Prop} {v : Value} {l : List α} (h : RowB E w S v l) (hS : ∀ b, S b → S' b) : RowB E w S' v l := by
  obtain ⟨a, c, rfl, h1, h2⟩ := h
  refine ⟨a, c, rfl, h1.mono hS, ?_⟩
  rcases h2 with h2 | ⟨g, rfl, hg, h2⟩
  · exact .inl h2
  · exact .inr ⟨g, rfl, hS g hg, h2⟩
theorem own_thereK {α : Type} {E : Enc α} {e : TypeId} {w : World} {B g n c : Nat} {l : List α} (h : Own E e w B (.slice (some ⟨g, 0, none⟩) n c) l) : w.there g 0 (l.length * E.sz) := by
  obtain ⟨xs, ho, _⟩ := h
  have hn : n = l.length := by
    rcases ho.2 with ⟨h2, _⟩ | ⟨g', cap, cur, h2, _⟩
    · cases h2
    · injection h2
  subst hn
  intro j hj
  have hx : j < xs.length := by rw [ho.1]; exact hj
  have h3 := ho.cells (g := g) rfl j _ (List.getElem?_eq_getElem hx)
  have hadd : (⟨g, 0, none⟩ : Addr).add j = ⟨g, j, none⟩ := by unfold Addr.add; split <;> simp_all
  rw [hadd] at h3
  exact ⟨by rw [Nat.zero_add, h3]; rfl, by have := ho.frozenAt j; rw [Nat.zero_add]; exact this⟩
theorem Own.asideK {α : Type} {E : Enc α} {e : TypeId} {w : World} {B : Nat} {v : Value} {l : List α} (h : Own E e w B v l) {p : Addr} (hp : p.block < B) (u : Value) : Own E e (w.setCell p u) B v l :=
  h.kept (by simp [World.setCell]) fun b hb _ => Below.heap_setCell _ _ _ _ (show b ≠ p.block by omega)
theorem own_slK {α : Type} {E : Enc α} {e : TypeId} {w : World} {B n c : Nat} {a : Option Addr} {l : List α} (h : Own E e w B (.slice a n c) l) : Sl E w (· < w.heap.size) a l := by
  obtain ⟨x, y, he, hs⟩ := h.sl
  injection he with h1 h2 h3
  subst h1
  exact hs.mono fun _ hb => hb.2
/-- A row of the call's own may be written. -/
theorem Own.rowB {α : Type} {E : Enc α} {e : TypeId} {w : World} {B : Nat} {v : Value} {l : List α} {S : Nat → Prop} (h : Own E e w B v l) (hS : ∀ b, B ≤ b → b < w.heap.size → S b) : RowB E w S v l := by
  by_cases hl : l = []
  · subst hl
    obtain ⟨a, c, rfl⟩ := h.form
    exact ⟨a, c, rfl, .inl rfl, .inl rfl⟩
  · obtain ⟨a, c, he, hs⟩ := h.sl
    obtain ⟨g, c2, rfl, hg1, hg2⟩ := h.formNe hl
    injection he with h1 h2 h3
    subst h1
    subst h3
    exact ⟨_, _, rfl, hs.mono fun b hb => hS b hb.1 hb.2, .inr ⟨g, rfl, hS g hg1 hg2, own_thereK h⟩⟩
/-- A set of rows that may be written in place, each apart from the row of patterns. -/
structure SetB16 (w : World) (S : Nat → Prop) (x : StS) (v1 v2 v3 : Value) : Prop where
  name : x.name.length ≤ 1048576
  kind : i64 x.kind
  nItems : x.items.length ≤ 16777216
  nComms : x.comms.length ≤ 16777216
  nPaths : x.paths.length ≤ 16777216
  items : RowB EItm w S v1 x.items
  comms : RowB EU32 w S v2 x.comms
  paths : ∃ a c, v3 = .slice a x.paths.length c ∧ (x.paths = [] ∨ ∃ g, a = some ⟨g, 0, none⟩ ∧ S g ∧ w.there g 0 x.paths.length ∧ v1.ownBlock ≠ some g ∧ v2.ownBlock ≠ some g ∧
    ∀ k (hk : k < x.paths.length), ∃ u, w.cell? ⟨g, k, none⟩ = some u ∧ x.paths[k].length ≤ 16777216 ∧ RowB EAtm w (fun b => S b ∧ b ≠ g) u x.paths[k])
theorem SetB16.frame {w w' : World} {S : Nat → Prop} {x : StS} {v1 v2 v3 : Value} (h : SetB16 w S x v1 v2 v3) (hw : ∀ b, S b → w'.heap[b]? = w.heap[b]?) : SetB16 w' S x v1 v2 v3 := by
  obtain ⟨h1, h2, h3, h4, h5, h6, h7, a, c, rfl, h8⟩ := h
  refine ⟨h1, h2, h3, h4, h5, h6.frame hw, h7.frame hw, a, c, rfl, ?_⟩
  rcases h8 with h8 | ⟨g, rfl, hg, ht, n1, n2, hk⟩
  · exact .inl h8
  · refine .inr ⟨g, rfl, hg, there_frame ht (hw g hg), n1, n2, fun k hk' => ?_⟩
    obtain ⟨u, hu, hm, hr⟩ := hk k hk'
    exact ⟨u, (World.cell?_of_block (a := ⟨g, k, none⟩) (hw g hg)).trans hu, hm, hr.frame fun b hb => hw b hb.1⟩
theorem SetB16.mono {w : World} {S S' : Nat → Prop} {x : StS} {v1 v2 v3 : Value} (h : SetB16 w S x v1 v2 v3) (hS : ∀ b, S b → S' b) : SetB16 w S' x v1 v2 v3 := by
  obtain ⟨h1, h2, h3, h4, h5, h6, h7, a, c, rfl, h8⟩ := h
  refine ⟨h1, h2, h3, h4, h5, h6.mono hS, h7.mono hS, a, c, rfl, ?_⟩
  rcases h8 with h8 | ⟨g, rfl, hg, ht, n1, n2, hk⟩
  · exact .inl h8
  · refine .inr ⟨g, rfl, hS g hg, ht, n1, n2, fun k hk' => ?_⟩
    obtain ⟨u, hu, hm, hr⟩ := hk k hk'
    exact ⟨u, hu, hm, hr.mono fun b hb => ⟨hS b hb.1, hb.2⟩⟩
/-- A set whose rows lie in blocks of their own, from lo on, ahead of hi. -/
def ESetB : Enc (StS × Nat × Nat) where
  R w S x cs := ∃ v1 v2 v3, cs = [.string ⟨x.1.name.toArray⟩, .int .i64 x.1.kind, v1, v2, v3] ∧ SetB16 w (fun b => S b ∧ x.2.1 ≤ b ∧ b < x.2.2) x.1 v1 v2 v3
  sz := 5
  size := by rintro w S x cs ⟨v1, v2, v3, rfl, _⟩; rfl
  one := by
    rintro w S x cs ⟨v1, v2, v3, rfl, h⟩ u hu
    obtain ⟨a1, c1, rfl, _⟩ := h.items
    obtain ⟨a2, c2, rfl, _⟩ := h.comms
    obtain ⟨a3, c3, rfl, _⟩ := h.paths
    simp only [List.mem_cons, List.not_mem_nil, or_false] at hu
    rcases hu with rfl | rfl | rfl | rfl | rfl <;> rfl
  frame := by
    rintro w w' S x cs hw ⟨v1, v2, v3, rfl, h⟩
    exact ⟨v1, v2, v3, rfl, h.frame fun b hb => hw b hb.1⟩
  mono := by
    rintro w S S' x cs hS ⟨v1, v2, v3, rfl, h⟩
    exact ⟨v1, v2, v3, rfl, h.mono fun b hb => ⟨hS b hb.1, hb.2⟩⟩
theorem okSetB : ElemOk Tryz.prog 52 67 ESetB.sz 96 := elemOk (z := .agg #[.string ⟨#[]⟩, .int .i64 0, .slice none 0 0, .slice none 0 0, .slice none 0 0]) Tryz.underlying52 (by kernel_rfl) rfl
theorem RowB.sl {α : Type} {E : Enc α} {w : World} {S : Nat → Prop} {v : Value} {l : List α} (h : RowB E w S v l) : ∃ a c, v = .slice a l.length c ∧ Sl E w S a l := by
  obtain ⟨a, c, h1, h2, _⟩ := h
  exact ⟨a, c, h1, h2⟩
theorem SetB16.setIn {w : World} {S : Nat → Prop} {x : StS} {v1 v2 v3 : Value} (h : SetB16 w S x v1 v2 v3) : ∃ a1 c1 a2 c2 a3 c3, v1 = .slice a1 x.items.length c1 ∧ v2 = .slice a2 x.comms.length c2 ∧ v3 = .slice a3 x.paths.length c3 ∧ SetIn w S x a1 a2 a3 := by
  obtain ⟨h1, h2, h3, h4, h5, h6, h7, a, c, rfl, h8⟩ := h
  obtain ⟨a1, c1, rfl, s1⟩ := h6.sl
  obtain ⟨a2, c2, rfl, s2⟩ := h7.sl
  refine ⟨a1, c1, a2, c2, a, c, rfl, rfl, rfl, h1, h2, h3, s1, h4, s2, h5, ?_⟩
  rcases h8 with h8 | ⟨g, rfl, hg, ht, n1, n2, hk⟩
  · exact .inl h8
  · refine .inr ⟨g, 0, rfl, hg, fun k y hy => ?_⟩
    have hkl : k < x.paths.length := (List.getElem?_eq_some_iff.1 hy).1
    obtain rfl : x.paths[k] = y := by rw [List.getElem?_eq_getElem hkl] at hy; exact Option.some.inj hy
    obtain ⟨u, hu, hm, hr⟩ := hk k hkl
    obtain ⟨b, d, rfl, hs⟩ := hr.sl
    refine ⟨[_], ⟨b, d, rfl, hm, hs.mono fun b hb => hb.1⟩, fun j v hj => ?_⟩
    match j, hj with
    | 0, hj =>
      injection hj with hj
      subst hj
      rw [show 0 + k * EAtm.slice.sz + 0 = k by show 0 + k * 1 + 0 = k; omega]
      exact hu
    | j + 1, hj => cases hj
end
section
open Go.RowKit Go.Sort
set_option linter.unusedVariables false

set_option maxRecDepth 20000 in
set_option maxHeartbeats 1000000 in
theorem Comp1_any (nm0 : List UInt8) (kd : Int) (name : List UInt8) (z1 z2 z3 z4 : Value) (gp : Nat) (w : World) (hB : Blk w gp 67 #[.string ⟨name.toArray⟩, z1, z2, z3, z4]) :
    Calls Tryz.prog 58 #[.agg #[.string ⟨nm0.toArray⟩, .int .i64 kd], .pointer (some ⟨gp, 0, none⟩)] w fun e w' => e = .returned (.bool (nm0 == name)) ∧ Ext w w' := by
  have B := hB.alloc (Obj.cells #[.string ⟨nm0.toArray⟩, .int .i64 kd] 114)
  have S := Blk.new w 114 #[.string ⟨nm0.toArray⟩, .int .i64 kd]
  have E := (Ext.refl w).alloc (Obj.cells #[.string ⟨nm0.toArray⟩, .int .i64 kd] 114)
  have p0 : w.cell? ⟨gp, 0, none⟩ = some (.string ⟨name.toArray⟩) := hB.cell 0
  go_enter Tryz.func58, Tryz.ntmps58
  generalize hW0 : w.alloc (Obj.cells #[.string ⟨nm0.toArray⟩, .int .i64 kd] 114) = W0 at S E B
  generalize hg0 : w.heap.size = g0 at S
  have s0 : W0.cell? ⟨g0, 0, none⟩ = some (.string ⟨nm0.toArray⟩) := S.cell 0
  have b0 : W0.cell? ⟨gp, 0, none⟩ = some (.string ⟨name.toArray⟩) := B.cell 0
  clear S B hB
  replace E := hide E
  go_wp2
  go_ret
  exact ⟨rfl, E.out⟩
set_option maxHeartbeats 1000000 in
theorem IdxNeed_any (name : List UInt8) (z1 z2 z3 z4 : Value) (gp : Nat) (a : Option Addr) (c : Nat) (l : List (List UInt8 × Int)) (w : World) (hl : l.length ≤ 16777216) (hs : Sl ENeed w (· < w.heap.size) a l) (hB : Blk w gp 67 #[.string ⟨name.toArray⟩, z1, z2, z3, z4]) :
    Calls Tryz.prog 109 #[.slice a l.length c, .func (.func 58) #[] #[.pointer (some ⟨gp, 0, none⟩)]] w fun e w' => e = .returned (.int .i64 (idxT (fun n : List UInt8 × Int => n.1 == name) l)) ∧ Ext w w' := by
  replace hs := hide hs
  replace hB := hide hB
  go_enter Tryz.func109, Tryz.ntmps109
  go_wp2
  go_loopw [8] (fun i wr => ∃ k : Nat, k ≤ l.length ∧ i = .int .i64 k ∧ Ext w wr ∧ (l.take k).any (fun n : List UInt8 × Int => n.1 == name) = false) (fun i _ => l.length - (intOf i).toNat)
  case atStart => exact ⟨0, Nat.zero_le _, rfl, Ext.refl _, rfl⟩
  case round =>
    obtain ⟨k, hk, rfl, he, ha⟩ := hrel
    replace ha := hide ha
    replace he := hide he
    by_cases hlt : k < l.length
    · obtain ⟨b, off, rfl, _, hn1, hn2, x0, x1⟩ := ENeed.at (hs.out.ext he.out) k hlt
      have hyes := fun h => idxT_at (pr := fun n : List UInt8 × Int => n.1 == name) hlt h ha.out
      have hno := fun h => any_take (pr := fun n : List UInt8 × Int => n.1 == name) hlt h ha.out
      generalize l[k] = x at *
      obtain ⟨nm, kd⟩ := x
      dsimp only at *
      have q := Comp1_any nm kd name z1 z2 z3 z4 gp wr (hB.out.ext he.out)
      clear hn1 hn2
      generalize (nm == name) = r at q hyes hno
      replace q := hide q
      replace hyes := hide hyes
      replace hno := hide hno
      go_wp2_with fail
      (with_reducible refine (q.out).mono ?_)
      rintro e W1 ⟨rfl, he1⟩
      replace he1 := hide (he.out.trans he1)
      clear x0 x1 q
      cases r with
      | false =>
        have hn := hide (hno.out rfl)
        clear hno hyes
        go_wp2_with fail
        go_roundw
        case rel => exact ⟨k + 1, by omega, by go_num, he1.out, hn.out⟩
        case measure => simp [intOf]; omega
      | true =>
        have hy := hide (hyes.out rfl)
        clear hno hyes
        go_wp2_with fail
        go_ret
        exact ⟨ret_int hy.out.symm, he1.out⟩
    · have hend : idxT (fun n : List UInt8 × Int => n.1 == name) l = -1 := idxT_none (by
        obtain rfl : k = l.length := by omega
        have := ha.out
        rwa [List.take_length] at this)
      replace hend := hide hend
      go_wp2
      go_ret
      exact ⟨ret_int hend.out.symm, he.out⟩
theorem idxT_any16 {α : Type} (pr : α → Bool) (l : List α) : (l.any pr = true ∧ 0 ≤ idxT pr l) ∨ (l.any pr = false ∧ idxT pr l = -1) := by
  cases h : l.any pr with
  | false => exact .inr ⟨rfl, idxT_none h⟩
  | true =>
    refine .inl ⟨rfl, ?_⟩
    obtain ⟨x, hx, hp⟩ := List.any_eq_true.1 h
    have key : ∀ n : Nat, n ≤ l.length → (l.take n).any pr = true → ∃ k : Nat, ∃ hk : k < l.length, pr l[k] = true ∧ (l.take k).any pr = false := by
      intro n
      induction n with
      | zero => intro _ h0; simp at h0
      | succ n ih =>
        intro hn h1
        by_cases h2 : (l.take n).any pr = true
        · exact ih (by omega) h2
        · have h2' : (l.take n).any pr = false := by simpa using h2
          refine ⟨n, by omega, ?_, h2'⟩
          rw [List.take_succ_eq_append_getElem (by omega), List.any_append, h2'] at h1
          simpa using h1
    obtain ⟨k, hk, h1, h2⟩ := key l.length (Nat.le_refl _) (by rw [List.take_length]; exact h)
    rw [idxT_at hk h1 h2]
    omega
set_option maxHeartbeats 1000000 in
theorem HasNeed_any (name : List UInt8) (z1 z2 z3 z4 : Value) (gp : Nat) (a : Option Addr) (c : Nat) (l : List (List UInt8 × Int)) (w : World) (hl : l.length ≤ 16777216) (hs : Sl ENeed w (· < w.heap.size) a l) (hB : Blk w gp 67 #[.string ⟨name.toArray⟩, z1, z2, z3, z4]) :
    Calls Tryz.prog 57 #[.slice a l.length c, .func (.func 58) #[] #[.pointer (some ⟨gp, 0, none⟩)]] w fun e w' => e = .returned (.bool (l.any fun n : List UInt8 × Int => n.1 == name)) ∧ Ext w w' := by
  have q := IdxNeed_any name z1 z2 z3 z4 gp a c l w hl hs hB
  have hc := idxT_any16 (fun n : List UInt8 × Int => n.1 == name) l
  clear hs hl hB
  generalize (l.any fun n : List UInt8 × Int => n.1 == name) = r at *
  generalize idxT (fun n : List UInt8 × Int => n.1 == name) l = i at *
  generalize l.length = n at *
  replace q := hide q
  replace hc := hide hc
  go_enter Tryz.func57, Tryz.ntmps57
  go_wp2_with fail
  (with_reducible refine (q.out).mono ?_)
  rintro e W1 ⟨rfl, he⟩
  replace he := hide he
  rcases hc.out with ⟨rfl, h1⟩ | ⟨rfl, rfl⟩
  · clear hc
    go_wp2_with fail
    go_ret
    exact ⟨ret_bool (by simp), he.out⟩
  · clear hc
    go_wp2_with fail
    go_ret
    exact ⟨rfl, he.out⟩
/-- A copied set: its rows are the call's own, one by one. -/
theorem setB_of {wr : World} {B B0 : Nat} {e1 e2 e3 : TypeId} {v1 v2 v3 : Value} {x : StS} {hs hs' : List Head} {S : Nat → Prop} (hnm : x.name.length ≤ 1048576) (hkd : i64 x.kind) (m1 : x.items.length ≤ 16777216) (m2 : x.comms.length ≤ 16777216) (m3 : x.paths.length ≤ 16777216)
    (h1 : Own EItm e1 wr B0 v1 x.items) (h2 : Own EU32 e2 wr B0 v2 x.comms) (h : PreP wr B hs' hs x.paths x.paths.length) (ho : Own ESlv e3 wr B0 v3 hs') (hB : B0 ≤ B) (hv : ∀ b, v3.ownBlock = some b → b < B)
    (hm : ∀ i (hi : i < x.paths.length), x.paths[i].length ≤ 16777216) (hne : ∀ b, v3.ownBlock = some b → v1.ownBlock ≠ some b ∧ v2.ownBlock ≠ some b) (hS : ∀ b, B0 ≤ b → b < wr.heap.size → S b) : SetB16 wr S x v1 v2 v3 := by
  obtain ⟨p1, p2, _⟩ := h
  obtain ⟨a, c, hv3⟩ := ho.form
  refine ⟨hnm, hkd, m1, m2, m3, h1.rowB hS, h2.rowB hS, a, c, by rw [hv3, p1], ?_⟩
  by_cases hl : x.paths = []
  · exact .inl hl
  have hl0 : 0 < x.paths.length := List.length_pos_iff.2 hl
  obtain ⟨g, c2, hv4, hg1, hg2⟩ := ho.formNe (by intro e; rw [e] at p1; simp at p1; omega)
  rw [hv3] at hv4
  injection hv4 with e1 e2 e3
  subst e1
  subst e3
  subst hv3
  refine .inr ⟨g, rfl, hS g hg1 hg2, ?_, (hne g rfl).1, (hne g rfl).2, fun k hk => ?_⟩
  · have := own_thereK ho
    rw [p1, show ESlv.sz = 1 from rfl, Nat.mul_one] at this
    exact this
  · have hk' : k < hs'.length := by omega
    obtain ⟨ai, ci, q1, q2⟩ := p2 k hk hk
    have h5 := (slv_cell ho k hk').1
    rw [List.getElem?_eq_getElem hk'] at q1
    rw [Option.some.inj q1] at h5
    have hgB := hv g rfl
    exact ⟨_, h5, hm k hk, q2.rowB fun b hb1 hb2 => ⟨hS b (by omega) hb2, by omega⟩⟩
end
end Go.Proofs.YtljibkfbldjgdaaGreatDoor
