/- Walks: what comes of a neighbour that a range tells: admit.Dynamic. -/
import Derived.Test.YtmhmcdpadmimlaaGreatDoorDI
import Derived.Test.YtmhmcdpadmimlaaGreatDoorDE
import Derived.Laws.Tables
import Derived.Laws.ResultCell
namespace Go.Proofs.YtmhmcdpadmimlaaGreatDoor
open Go.RowKit
set_option linter.unusedVariables false

theorem okInt : ElemOk Tryz.prog 29 3 EI64.sz 8 := elemOk (z := .int .i64 0) Tryz.underlying29 (by kernel_rfl) rfl
theorem CloneN_any (a : Option Addr) (c : Nat) (l : List Int) (w : World) (hl : l.length ≤ 16777216) (hs : Sl EI64 w (· < w.heap.size) a l) :
    Calls Tryz.prog 28 #[.slice a l.length c] w fun e w' => ∃ v, e = .returned v ∧ Ext w w' ∧ Own EI64 3 w' w.heap.size v l := by
  replace hs := hide hs
  have q1 := fun (w : World) (a : Option Addr) (n c : Nat) => Lib.run_eql_slice_nil (P := Tryz.prog) w 29 3 a n c 0 0 Tryz.underlying29
  rcases a with _ | ad
  · have hn : l = [] := by
      rcases hs.out with h2 | ⟨_, _, h2, _⟩
      · exact h2
      · cases h2
    subst hn
    go_enter Tryz.func28, Tryz.ntmps28
    go_wp2
    go_ret
    exact ⟨_, rfl, Ext.refl _, Own.nil⟩
  · go_enter Tryz.func28, Tryz.ntmps28
    go_wp2_with (at_builtin; go_must (refine wpList_pushes (B := w.heap.size) rfl _ _ _ rfl okInt (by decide) rfl (Own.empty (Nat.le_refl _)) (by simp) rfl (by simp; omega) (hs.out.ext ((Ext.refl _).alloc _)) ?_); intro v' w1 hown hg hat)
    go_ret
    refine ⟨_, rfl, ((Ext.refl _).alloc _).push (fun j hj => ?_) hg, by rw [List.nil_append] at hown; exact hown⟩
    have : w.heap.size = j := Option.some.inj hj
    omega
def zeroA : Array Value := #[.string ⟨#[]⟩, .string ⟨#[]⟩, .int .i64 0, .int .u64 0, .string ⟨#[]⟩, .int .i64 0, .int .u32 0, .int .i64 0, .int .i64 0, .bool false, .bool false, .bool false, .slice none 0 0, .int .i64 0, .bool false, .int .i64 0, .bool false, .int .i64 0, .int .i64 0, .string ⟨#[]⟩, .string ⟨#[]⟩, .string ⟨#[]⟩, .bool false]
/-- What comes: the neighbour's other fields stay. -/
def dynN (x : Nbr) (a : List UInt8) : Nbr := { x with name := dynName x a, addr := a, range := zeroP }
def DynP (x : Nbr) (a : List UInt8) (w : World) (e : Ending) (w' : World) : Prop :=
  Ext w w' ∧ ((ofS x a = false ∧ e = .returned (.tuple #[.agg zeroA, .int .i64 2])) ∨ (ofS x a = true ∧ 16 < (dynName x a).length ∧ e = .returned (.tuple #[.agg zeroA, .int .i64 3])) ∨
    (ofS x a = true ∧ (dynName x a).length ≤ 16 ∧ ∃ f c, e = .returned (.tuple #[.agg (nbrCs (dynN x a) f c).toArray, .int .i64 0]) ∧ Own EI64 3 w' w.heap.size (.slice f x.fams.length c) x.fams))
theorem list23 (l : List Value) (h : l.length = 23) : ∃ c0 c1 c2 c3 c4 c5 c6 c7 c8 c9 c10 c11 c12 c13 c14 c15 c16 c17 c18 c19 c20 c21 c22 : Value, l = [c0, c1, c2, c3, c4, c5, c6, c7, c8, c9, c10, c11, c12, c13, c14, c15, c16, c17, c18, c19, c20, c21, c22] := by
  match l, h with
  | [c0, c1, c2, c3, c4, c5, c6, c7, c8, c9, c10, c11, c12, c13, c14, c15, c16, c17, c18, c19, c20, c21, c22], _ => exact ⟨_, _, _, _, _, _, _, _, _, _, _, _, _, _, _, _, _, _, _, _, _, _, _, rfl⟩
theorem built_come (CS : List Value) (hl : CS.length = 23) (v : ByteArray) : Tryz.prog.built 66 [(0, .agg CS.toArray), (1, .string v)] = some (CS ++ [Value.string v]).toArray := by
  obtain ⟨c0, c1, c2, c3, c4, c5, c6, c7, c8, c9, c10, c11, c12, c13, c14, c15, c16, c17, c18, c19, c20, c21, c22, rfl⟩ := list23 CS hl
  kernel_rfl
theorem built_zero : Tryz.prog.built 31 [] = some zeroA := by kernel_rfl
theorem wpList_buildC {P : Program} {ops : Array Oper} {rest : List Oper} {o : Oper} {a : Act} {w : World} {Q : Exit → Act → World → Prop} (hg : o.guard = none) (t : TypeId) (parts : Array (Nat × Operand)) (ho : o.op = .build t parts) (ps : List (Nat × Value)) (cells : Array Value)
    (hps : (parts.map fun (i, x) => (i, a.eval x)).toList = ps) (hc : P.built t ps = some cells) (h : wpList P ops Q rest (a.put o.dst (.agg cells)) w) : wpList P ops Q (o :: rest) a w := by
  refine wpList_build hg t parts ho (by rw [hps, hc]; rfl) ?_
  rw [hps, hc]
  exact h
theorem blk_range {w : World} {g : Nat} {t : TypeId} {CS : List Value} (h : Blk w g t CS.toArray) : w.rangeAt g 0 CS := fun j v hj => by
  rw [Nat.zero_add, h.cell j, List.getElem?_toArray]
  exact hj
theorem blk_there {w : World} {g : Nat} {t : TypeId} {C : Array Value} (h : Blk w g t C) {n : Nat} (hn : n ≤ C.size) : w.there g 0 n := fun i hi => by
  refine ⟨?_, h.frozen _⟩
  rw [h.cell, Nat.zero_add, Array.getElem?_eq_getElem (by omega)]
  rfl
theorem come_there (w : World) (n : Nat) (hn : n ≤ 24) : (w.alloc (.cells #[.string ⟨#[]⟩, .string ⟨#[]⟩, .int .i64 0, .int .u64 0, .string ⟨#[]⟩, .int .i64 0, .int .u32 0, .int .i64 0, .int .i64 0, .bool false, .bool false, .bool false, .slice none 0 0, .int .i64 0, .bool false, .int .i64 0, .bool false, .int .i64 0, .int .i64 0, .string ⟨#[]⟩, .string ⟨#[]⟩, .string ⟨#[]⟩, .bool false, .string ⟨#[]⟩] 66)).there w.heap.size 0 n := blk_there (Blk.new w 66 #[.string ⟨#[]⟩, .string ⟨#[]⟩, .int .i64 0, .int .u64 0, .string ⟨#[]⟩, .int .i64 0, .int .u32 0, .int .i64 0, .int .i64 0, .bool false, .bool false, .bool false, .slice none 0 0, .int .i64 0, .bool false, .int .i64 0, .bool false, .int .i64 0, .int .i64 0, .string ⟨#[]⟩, .string ⟨#[]⟩, .string ⟨#[]⟩, .bool false, .string ⟨#[]⟩]) (by show n ≤ 24; exact hn)
theorem Blk.setCells21 {w : World} {g : Nat} {t : TypeId} {C : Array Value} (h : Blk w g t C) {b : Nat} (hb : g ≠ b) : ∀ (vs : List Value) (o : Nat), Blk (w.setCells b o vs) g t C
  | vs, o => by
    induction vs generalizing w o with
    | nil => exact h
    | cons v r ih =>
      rw [World.setCells]
      exact ih (h.far (p := ⟨b, o, none⟩) hb v) (o + 1)
theorem results_pair21 {fn : Func} {p u : Tmp} {ty : TypeId} (h : fn.results = #[.cell p ty, .tmp u]) {tmps : Array Value} {P : Program} {w : World} {ad : Addr} {v x : Value} (hp : tmps.getD p undef = .pointer (some ad)) (hlv : (loadVar ty ad).run P w = .ok v w) (hu : tmps.getD u undef = x) :
    (results fn tmps).run P w = .ok (.tuple #[v, x]) w := by
  rw [results_cell_tmp h, hp, hu]
  show ((loadVar ty ad).run P w).andThen _ = _
  rw [hlv]
  rfl
theorem own_set21 {α : Type} {E : Enc α} {e : TypeId} {w : World} {B : Nat} {v : Value} {l : List α} (h : Own E e w B v l) {g : Nat} (hg : g < B) (o : Nat) (u : Value) : Own E e (w.setCell ⟨g, o, none⟩ u) B v l :=
  h.kept (by simp [World.setCell]) fun b hb _ => Below.heap_setCell _ _ _ _ (show b ≠ g by omega)
theorem own_sets21 {α : Type} {E : Enc α} {e : TypeId} {B : Nat} {v : Value} {l : List α} {g : Nat} (hg : g < B) : ∀ (vs : List Value) (o : Nat) (w : World), Own E e w B v l → Own E e (w.setCells g o vs) B v l
  | [], _, _, h => h
  | u :: r, o, w, h => by
    rw [World.setCells]
    exact own_sets21 hg r (o + 1) _ (own_set21 h hg o u)
theorem range_ext {w w' : World} {g o : Nat} {cs : List Value} (h : w.rangeAt g o cs) (he : Ext w w') : w'.rangeAt g o cs := fun j v hj => he.cell (h j v hj)
theorem loadVar21 {w : World} {g : Nat} {CS : List Value} (h : w.rangeAt g 0 CS) (hl : CS.length = 23) : (loadVar 31 ⟨g, 0, none⟩).run Tryz.prog w = .ok (.agg CS.toArray) w :=
  run_loadVar_mid w g 0 31 CS _ h Tryz.underlying31 rfl (by rw [hl]; kernel_rfl)
set_option maxRecDepth 20000 in
set_option maxHeartbeats 4000000 in
theorem Dynamic_any21 (x : Nbr) (f : Option Addr) (fc : Nat) (a : List UInt8) (ha : a.length ≤ 1048576) (w : World) (hin : NbrIn w (· < w.heap.size) x f) (hT : Tab w) (hD : Deb w) :
    Calls Tryz.prog 10 #[.agg (nbrCs x f fc).toArray, .string ⟨a.toArray⟩] w (DynP x a w) := by
  have q1 := fun W => of_any x f fc a W hin.range.addr ha
  have q2 := fun W (h : Ext w W) => name_any21 x f fc a W hin.name ha (hT.ext h) (hD.ext h)
  have q3 := fun W (h : Ext w W) => CloneN_any f fc x.fams W hin.nFams (hin.fams.ext h)
  have hp1 : ∀ w', ofS x a = false → Ext w w' → DynP x a w (.returned (.tuple #[.agg zeroA, .int .i64 2])) w' := fun w' h hE => ⟨hE, .inl ⟨h, rfl⟩⟩
  have hp2 : ∀ w', ofS x a = true → 16 < (dynName x a).length → Ext w w' → DynP x a w (.returned (.tuple #[.agg zeroA, .int .i64 3])) w' := fun w' h h2 hE => ⟨hE, .inr (.inl ⟨h, h2, rfl⟩)⟩
  have hp3 : ∀ w' f' c', ofS x a = true → (dynName x a).length ≤ 16 → Ext w w' → Own EI64 3 w' w.heap.size (.slice f' x.fams.length c') x.fams → DynP x a w (.returned (.tuple #[.agg (nbrCs (dynN x a) f' c').toArray, .int .i64 0])) w' := fun w' f' c' h h2 hE ho => ⟨hE, .inr (.inr ⟨h, h2, f', c', rfl, ho⟩)⟩
  have hCN : ∀ f' c', (((((((nbrCs x f fc).toArray.setIfInBounds 0 (.string ⟨(dynName x a).toArray⟩)).setIfInBounds 1 (.string ⟨a.toArray⟩)).setIfInBounds 2 (.int .i64 0)).setIfInBounds 3 (.int .u64 0)).setIfInBounds 4 (.string ⟨#[]⟩)).setIfInBounds 5 (.int .i64 0)).setIfInBounds 12 (.slice f' x.fams.length c') = (nbrCs (dynN x a) f' c').toArray := fun _ _ => rfl
  have hC12 : (nbrCs x f fc)[12]? = some (.slice f x.fams.length fc) := rfl
  have hCl : (nbrCs x f fc).length = 23 := rfl
  have hCo := nbr_one x f fc
  have hNo := fun f' c' => nbr_one (dynN x a) f' c'
  have hNl : ∀ f' c', (nbrCs (dynN x a) f' c').length = 23 := fun _ _ => rfl
  obtain ⟨ZA, hZA⟩ : ∃ ZA, ZA = zeroA := ⟨_, rfl⟩
  have hbz := built_zero
  have hza : ZA.size = 23 := by rw [hZA]; rfl
  have hzo : ZA.all (·.oneCell') = true := by rw [hZA]; kernel_rfl
  rw [← hZA] at hp1 hp2 hbz
  generalize nbrCs x f fc = CS at *
  have hbc := built_come CS hCl ⟨a.toArray⟩
  have hCa := all_oneCell_toArray hCo
  have hCa4 : ((CS ++ [Value.string ⟨a.toArray⟩]).toArray).all (·.oneCell') = true := all_oneCell_toArray (fun v hv => by
    rcases List.mem_append.1 hv with h | h
    · exact hCo v h
    · rw [List.mem_singleton.1 h]; rfl)
  have hi23 : (Tryz.prog.info? 31).map (·.size) = some CS.length := by rw [hCl]; kernel_rfl
  have hiza : (Tryz.prog.info? 31).map (·.size) = some ZA.size := by rw [hza]; kernel_rfl
  have hl24 : (CS ++ [Value.string ⟨a.toArray⟩]).length = 24 := by rw [List.length_append, hCl]; rfl
  have hi66 : (Tryz.prog.info? 66).map (·.size) = some (CS ++ [Value.string ⟨a.toArray⟩]).length := by rw [hl24]; kernel_rfl
  have hi67 : (Tryz.prog.info? 66).map (·.size) = some ((CS ++ [Value.string ⟨a.toArray⟩]).toArray).size := by rw [List.size_toArray, hl24]; kernel_rfl
  generalize hc4 : CS ++ [Value.string ⟨a.toArray⟩] = C4 at *
  have P := (Blk.new w 31 CS.toArray).alloc (Obj.cells #[.string ⟨#[]⟩, .string ⟨#[]⟩, .int .i64 0, .int .u64 0, .string ⟨#[]⟩, .int .i64 0, .int .u32 0, .int .i64 0, .int .i64 0, .bool false, .bool false, .bool false, .slice none 0 0, .int .i64 0, .bool false, .int .i64 0, .bool false, .int .i64 0, .int .i64 0, .string ⟨#[]⟩, .string ⟨#[]⟩, .string ⟨#[]⟩, .bool false] 31)
  have R := Blk.new (w.alloc (Obj.cells CS.toArray 31)) 31 #[.string ⟨#[]⟩, .string ⟨#[]⟩, .int .i64 0, .int .u64 0, .string ⟨#[]⟩, .int .i64 0, .int .u32 0, .int .i64 0, .int .i64 0, .bool false, .bool false, .bool false, .slice none 0 0, .int .i64 0, .bool false, .int .i64 0, .bool false, .int .i64 0, .int .i64 0, .string ⟨#[]⟩, .string ⟨#[]⟩, .string ⟨#[]⟩, .bool false]
  have E := ((Ext.refl w).alloc (Obj.cells CS.toArray 31)).alloc (Obj.cells #[.string ⟨#[]⟩, .string ⟨#[]⟩, .int .i64 0, .int .u64 0, .string ⟨#[]⟩, .int .i64 0, .int .u32 0, .int .i64 0, .int .i64 0, .bool false, .bool false, .bool false, .slice none 0 0, .int .i64 0, .bool false, .int .i64 0, .bool false, .int .i64 0, .int .i64 0, .string ⟨#[]⟩, .string ⟨#[]⟩, .string ⟨#[]⟩, .bool false] 31)
  rw [show (w.alloc (Obj.cells CS.toArray 31)).heap.size = w.heap.size + 1 by simp] at R
  have hE0 : w.heap.size + 2 = ((w.alloc (Obj.cells CS.toArray 31)).alloc (Obj.cells #[.string ⟨#[]⟩, .string ⟨#[]⟩, .int .i64 0, .int .u64 0, .string ⟨#[]⟩, .int .i64 0, .int .u32 0, .int .i64 0, .int .i64 0, .bool false, .bool false, .bool false, .slice none 0 0, .int .i64 0, .bool false, .int .i64 0, .bool false, .int .i64 0, .int .i64 0, .string ⟨#[]⟩, .string ⟨#[]⟩, .string ⟨#[]⟩, .bool false] 31)).heap.size := by simp
  generalize hdn : dynName x a = dn at *
  have hsz : (ByteArray.mk dn.toArray).size = dn.length := ba_size dn
  cases ho : ofS x a with
  | false =>
    rw [ho] at q1
    replace hp1 := fun w' => hp1 w' ho
    clear ho q2 q3 hp2 hp3 hCN hdn hsz hbc hCa4 hi66 hi67 hl24 hc4 hC12 hNo hNl hE0
    generalize DynP x a w = Post at *
    replace q1 := hide q1
    replace hp1 := hide hp1
    replace hCo := hide hCo
    replace hCa := hide hCa
    replace hCl := hide hCl
    replace hi23 := hide hi23
    replace P := hide P
    replace R := hide R
    replace E := hide E
    replace hin := hide hin
    replace hza := hide hza
    replace hiza := hide hiza
    replace hbz := hide hbz
    replace hzo := hide hzo
    replace hZA := hide hZA
    go_enter Tryz.func10, Tryz.ntmps10
    generalize hW0 : (w.alloc (Obj.cells CS.toArray 31)).alloc (Obj.cells #[.string ⟨#[]⟩, .string ⟨#[]⟩, .int .i64 0, .int .u64 0, .string ⟨#[]⟩, .int .i64 0, .int .u32 0, .int .i64 0, .int .i64 0, .bool false, .bool false, .bool false, .slice none 0 0, .int .i64 0, .bool false, .int .i64 0, .bool false, .int .i64 0, .int .i64 0, .string ⟨#[]⟩, .string ⟨#[]⟩, .string ⟨#[]⟩, .bool false] 31) = W0 at P R E
    generalize hg0 : w.heap.size = g0 at P R
    have hgw : w.heap.size ≤ g0 + 1 := by omega
    have hra := hide (blk_range P.out)
    go_wp2_with (with_reducible refine wpList_load_mid rfl 31 (.tmp 2) rfl g0 0 rfl CS _ hra.out Tryz.underlying31 rfl hi23.out ?_)
    clear hW0 hra
    refine (q1.out _).mono ?_
    rintro e W1 ⟨rfl, hE1⟩
    have R1 := R.out.ext hE1
    have E1 := E.out.trans hE1
    have hth := blk_there R1 (n := ZA.size) (by rw [hza.out]; exact Nat.le_refl 23)
    have E2 := Ext.setCells21 hgw ZA.toList 0 _ E1
    have hr := World.rangeAt_setCells_same W1 (g0 + 1) 0 ZA.toList (by rw [Array.length_toList]; exact hth)
    have hlv := loadVar21 hr (by rw [Array.length_toList]; exact hza.out)
    rw [Array.toArray_toList] at hlv
    clear hr R1 E1 hE1
    replace hth := hide hth
    replace E2 := hide E2
    go_wp2_with (first
      | (with_reducible refine wpList_buildC rfl 31 #[] rfl [] ZA (by simp) hbz.out ?_)
      | (with_reducible refine wpList_store_mid rfl 31 (.tmp 4) (.tmp 11) rfl (g0 + 1) 0 ZA rfl rfl hth.out hiza.out hzo.out ?_))
    generalize W1.setCells (g0 + 1) 0 ZA.toList = W2 at E2 hlv ⊢
    exact bodyPost_ret (v := .tuple #[.agg ZA, .int .i64 2]) (results_pair21 Tryz.results10 rfl hlv rfl) rfl (hp1.out _ E2.out)
  | true =>
    rw [ho] at q1
    replace hp2 := fun w' => hp2 w' ho
    replace hp3 := fun w' f' c' => hp3 w' f' c' ho
    obtain ⟨v0, hv0⟩ : ∃ v, CS[0]? = some v := ⟨_, List.getElem?_eq_getElem (by omega)⟩
    obtain ⟨v1, hv1⟩ : ∃ v, CS[1]? = some v := ⟨_, List.getElem?_eq_getElem (by omega)⟩
    obtain ⟨v2, hv2⟩ : ∃ v, CS[2]? = some v := ⟨_, List.getElem?_eq_getElem (by omega)⟩
    obtain ⟨v3, hv3⟩ : ∃ v, CS[3]? = some v := ⟨_, List.getElem?_eq_getElem (by omega)⟩
    obtain ⟨v4, hv4⟩ : ∃ v, CS[4]? = some v := ⟨_, List.getElem?_eq_getElem (by omega)⟩
    obtain ⟨v5, hv5⟩ : ∃ v, CS[5]? = some v := ⟨_, List.getElem?_eq_getElem (by omega)⟩
    clear ho hp1
    generalize DynP x a w = Post at *
    replace q1 := hide q1
    replace q2 := hide q2
    replace q3 := hide q3
    replace hp2 := hide hp2
    replace hp3 := hide hp3
    replace hCo := hide hCo
    replace hCa := hide hCa
    replace hCa4 := hide hCa4
    replace hCl := hide hCl
    replace hi23 := hide hi23
    replace hi66 := hide hi66
    replace hi67 := hide hi67
    replace P := hide P
    replace R := hide R
    replace E := hide E
    replace hin := hide hin
    replace hza := hide hza
    replace hiza := hide hiza
    replace hzo := hide hzo
    replace hZA := hide hZA
    replace hCN := hide hCN
    replace hC12 := hide hC12
    replace hNo := hide hNo
    replace hbc := hide hbc
    replace hl24 := hide hl24
    replace hc4 := hide hc4
    replace hE0 := hide hE0
    replace hv0 := hide hv0
    replace hv1 := hide hv1
    replace hv2 := hide hv2
    replace hv3 := hide hv3
    replace hv4 := hide hv4
    replace hv5 := hide hv5
    replace hdn := hide hdn
    replace hbz := hide hbz
    replace hNl := hide hNl
    go_enter Tryz.func10, Tryz.ntmps10
    generalize hW0 : (w.alloc (Obj.cells CS.toArray 31)).alloc (Obj.cells #[.string ⟨#[]⟩, .string ⟨#[]⟩, .int .i64 0, .int .u64 0, .string ⟨#[]⟩, .int .i64 0, .int .u32 0, .int .i64 0, .int .i64 0, .bool false, .bool false, .bool false, .slice none 0 0, .int .i64 0, .bool false, .int .i64 0, .bool false, .int .i64 0, .int .i64 0, .string ⟨#[]⟩, .string ⟨#[]⟩, .string ⟨#[]⟩, .bool false] 31) = W0 at P R E hE0
    generalize hg0 : w.heap.size = g0 at P R hE0
    have hgw0 : w.heap.size ≤ g0 := by omega
    have hgw : w.heap.size ≤ g0 + 1 := by omega
    have hra := hide (blk_range P.out)
    go_wp2_with (with_reducible refine wpList_load_mid rfl 31 (.tmp 2) rfl g0 0 rfl CS _ hra.out Tryz.underlying31 rfl hi23.out ?_)
    clear hW0 hra
    refine (q1.out _).mono ?_
    rintro e W1 ⟨rfl, hE1⟩
    clear q1
    have P1 := P.out.ext hE1
    have R1 := R.out.ext hE1
    have E1 := E.out.trans hE1
    have hs1 : g0 + 2 ≤ W1.heap.size := by have := hE1.size; have := hE0.out; omega
    clear P R E hE1 hE0
    have hra := hide (blk_range P1)
    have hth4 := come_there W1 C4.toArray.size (by rw [List.size_toArray, hl24.out]; exact Nat.le_refl _)
    have hr4 := World.rangeAt_setCells_same (W1.alloc (.cells #[.string ⟨#[]⟩, .string ⟨#[]⟩, .int .i64 0, .int .u64 0, .string ⟨#[]⟩, .int .i64 0, .int .u32 0, .int .i64 0, .int .i64 0, .bool false, .bool false, .bool false, .slice none 0 0, .int .i64 0, .bool false, .int .i64 0, .bool false, .int .i64 0, .int .i64 0, .string ⟨#[]⟩, .string ⟨#[]⟩, .string ⟨#[]⟩, .bool false, .string ⟨#[]⟩] 66)) W1.heap.size 0 C4 (come_there W1 C4.length (Nat.le_of_eq hl24.out))
    have E2 := Ext.setCells21 (a := w) (g := W1.heap.size) E1.size C4 0 _ (E1.alloc (.cells #[.string ⟨#[]⟩, .string ⟨#[]⟩, .int .i64 0, .int .u64 0, .string ⟨#[]⟩, .int .i64 0, .int .u32 0, .int .i64 0, .int .i64 0, .bool false, .bool false, .bool false, .slice none 0 0, .int .i64 0, .bool false, .int .i64 0, .bool false, .int .i64 0, .int .i64 0, .string ⟨#[]⟩, .string ⟨#[]⟩, .string ⟨#[]⟩, .bool false, .string ⟨#[]⟩] 66))
    have P2 := (P1.alloc (.cells #[.string ⟨#[]⟩, .string ⟨#[]⟩, .int .i64 0, .int .u64 0, .string ⟨#[]⟩, .int .i64 0, .int .u32 0, .int .i64 0, .int .i64 0, .bool false, .bool false, .bool false, .slice none 0 0, .int .i64 0, .bool false, .int .i64 0, .bool false, .int .i64 0, .int .i64 0, .string ⟨#[]⟩, .string ⟨#[]⟩, .string ⟨#[]⟩, .bool false, .string ⟨#[]⟩] 66)).setCells21 (b := W1.heap.size) (by omega) C4 0
    have R2 := (R1.alloc (.cells #[.string ⟨#[]⟩, .string ⟨#[]⟩, .int .i64 0, .int .u64 0, .string ⟨#[]⟩, .int .i64 0, .int .u32 0, .int .i64 0, .int .i64 0, .bool false, .bool false, .bool false, .slice none 0 0, .int .i64 0, .bool false, .int .i64 0, .bool false, .int .i64 0, .int .i64 0, .string ⟨#[]⟩, .string ⟨#[]⟩, .string ⟨#[]⟩, .bool false, .string ⟨#[]⟩] 66)).setCells21 (b := W1.heap.size) (by omega) C4 0
    replace hth4 := hide hth4
    replace hr4 := hide hr4
    replace E2 := hide E2
    replace P2 := hide P2
    replace R2 := hide R2
    replace hs1 := hide hs1
    clear P1 R1 E1
    go_upto_region 4 with (first
      | (with_reducible refine wpList_load_mid rfl 31 (.tmp 2) rfl g0 0 rfl CS _ hra.out Tryz.underlying31 rfl hi23.out ?_)
      | (with_reducible refine wpList_buildC rfl 66 #[(0, .tmp 12), (1, .tmp 13)] rfl [(0, .agg CS.toArray), (1, .string ⟨a.toArray⟩)] C4.toArray (by simp [Act.eval]) hbc.out ?_)
      | (with_reducible refine wpList_store_mid rfl 66 (.tmp 6) (.tmp 14) rfl W1.heap.size 0 C4.toArray rfl rfl hth4.out hi67.out hCa4.out ?_))
    have hs2 := (Ext.setCells21 (a := W1) (Nat.le_refl _) C4 0 _ ((Ext.refl W1).alloc (.cells #[.string ⟨#[]⟩, .string ⟨#[]⟩, .int .i64 0, .int .u64 0, .string ⟨#[]⟩, .int .i64 0, .int .u32 0, .int .i64 0, .int .i64 0, .bool false, .bool false, .bool false, .slice none 0 0, .int .i64 0, .bool false, .int .i64 0, .bool false, .int .i64 0, .int .i64 0, .string ⟨#[]⟩, .string ⟨#[]⟩, .string ⟨#[]⟩, .bool false, .string ⟨#[]⟩] 66))).size
    generalize (W1.alloc (.cells #[.string ⟨#[]⟩, .string ⟨#[]⟩, .int .i64 0, .int .u64 0, .string ⟨#[]⟩, .int .i64 0, .int .u32 0, .int .i64 0, .int .i64 0, .bool false, .bool false, .bool false, .slice none 0 0, .int .i64 0, .bool false, .int .i64 0, .bool false, .int .i64 0, .int .i64 0, .string ⟨#[]⟩, .string ⟨#[]⟩, .string ⟨#[]⟩, .bool false, .string ⟨#[]⟩] 66)).setCells W1.heap.size 0 C4 = W2 at hr4 E2 P2 R2 hs2 ⊢
    generalize hgc : W1.heap.size = gc at hr4 hs1 hs2 ⊢
    replace hs2 := hide hs2
    clear hth4 hra hgc
    go_wp2_with (with_reducible refine wpList_load_mid rfl 66 (.tmp 6) rfl gc 0 rfl C4 _ hr4.out Tryz.underlying66 rfl hi66.out ?_)
    refine (q2.out W2 E2.out).mono ?_
    rintro e W3 ⟨rfl, hE3⟩
    have P3 := P2.out.ext hE3
    have R3 := R2.out.ext hE3
    have E3 := E2.out.trans hE3
    have hr5 := range_ext hr4.out hE3
    have hs3 := hE3.size
    clear P2 R2 E2 hr4 hE3
    by_cases hlen : 16 < dn.length
    · have d1 : decide ((16 : Int) < (dn.length : Int)) = true := decide_eq_true (by omega)
      have d2 : decide (16 < dn.length) = true := decide_eq_true hlen
      have hth := blk_there R3 (n := ZA.size) (by rw [hza.out]; exact Nat.le_refl 23)
      have E4 := Ext.setCells21 hgw ZA.toList 0 _ E3
      have hr := World.rangeAt_setCells_same W3 (g0 + 1) 0 ZA.toList (by rw [Array.length_toList]; exact hth)
      have hlv := loadVar21 hr (by rw [Array.length_toList]; exact hza.out)
      rw [Array.toArray_toList] at hlv
      have hfin := hp2.out (W3.setCells (g0 + 1) 0 ZA.toList) hlen E4
      clear hr R3 E3 hr5 P3 q2 q3 hp2 hp3 hCN hbc
      replace hth := hide hth
      replace E4 := hide E4
      replace hlen := hide hlen
      replace hfin := hide hfin
      replace hlv := hide hlv
      go_wp2_with (first
        | (with_reducible refine wpList_buildC rfl 31 #[] rfl [] ZA (by simp) hbz.out ?_)
        | (with_reducible refine wpList_store_mid rfl 31 (.tmp 4) (.tmp 19) rfl (g0 + 1) 0 ZA rfl rfl hth.out hiza.out hzo.out ?_))
      exact bodyPost_ret (v := .tuple #[.agg ZA, .int .i64 3]) (results_pair21 Tryz.results10 rfl hlv.out rfl) rfl hfin.out
    · have d1 : decide ((16 : Int) < (dn.length : Int)) = false := decide_eq_false (by omega)
      have d2 : decide (16 < dn.length) = false := decide_eq_false hlen
      have hle : dn.length ≤ 16 := by omega
      clear hlen hp2
      replace P3 := hide P3
      replace R3 := hide R3
      replace E3 := hide E3
      replace hr5 := hide hr5
      replace hle := hide hle
      go_wp2_with (with_reducible refine wpList_load_mid rfl 66 (.tmp 6) rfl gc 0 rfl C4 _ hr5.out Tryz.underlying66 rfl hi66.out ?_)
      refine (q2.out W3 E3.out).mono ?_
      rintro e W4 ⟨rfl, hE4⟩
      have P4 := P3.out.ext hE4
      have R4 := R3.out.ext hE4
      have E4 := E3.out.trans hE4
      have hs4 := hE4.size
      clear P3 R3 E3 hr5 hE4 q2 d1 d2
      have p0 : W4.cell? ⟨g0, 0, none⟩ = some v0 := (P4.cell 0).trans (by rw [List.getElem?_toArray]; exact hv0.out)
      have p1 : W4.cell? ⟨g0, 1, none⟩ = some v1 := (P4.cell 1).trans (by rw [List.getElem?_toArray]; exact hv1.out)
      have p2 : W4.cell? ⟨g0, 2, none⟩ = some v2 := (P4.cell 2).trans (by rw [List.getElem?_toArray]; exact hv2.out)
      have p3 : W4.cell? ⟨g0, 3, none⟩ = some v3 := (P4.cell 3).trans (by rw [List.getElem?_toArray]; exact hv3.out)
      have p4 : W4.cell? ⟨g0, 4, none⟩ = some v4 := (P4.cell 4).trans (by rw [List.getElem?_toArray]; exact hv4.out)
      have p5 : W4.cell? ⟨g0, 5, none⟩ = some v5 := (P4.cell 5).trans (by rw [List.getElem?_toArray]; exact hv5.out)
      have pf := fun i => P4.frozen i
      have P5 := (((((P4.set_ 0 (.string ⟨dn.toArray⟩)).set_ 1 (.string ⟨a.toArray⟩)).set_ 2 (.int .i64 0)).set_ 3 (.int .u64 0)).set_ 4 (.string ⟨#[]⟩)).set_ 5 (.int .i64 0)
      have R5 : Blk ((((((W4.setCell ⟨g0, 0, none⟩ (.string ⟨dn.toArray⟩)).setCell ⟨g0, 1, none⟩ (.string ⟨a.toArray⟩)).setCell ⟨g0, 2, none⟩ (.int .i64 0)).setCell ⟨g0, 3, none⟩ (.int .u64 0)).setCell ⟨g0, 4, none⟩ (.string ⟨#[]⟩)).setCell ⟨g0, 5, none⟩ (.int .i64 0)) (g0 + 1) 31 _ := (((((R4.far (p := ⟨g0, 0, none⟩) (by show g0 + 1 ≠ g0; omega) _).far (p := ⟨g0, 1, none⟩) (by show g0 + 1 ≠ g0; omega) _).far (p := ⟨g0, 2, none⟩) (by show g0 + 1 ≠ g0; omega) _).far (p := ⟨g0, 3, none⟩) (by show g0 + 1 ≠ g0; omega) _).far (p := ⟨g0, 4, none⟩) (by show g0 + 1 ≠ g0; omega) _).far (p := ⟨g0, 5, none⟩) (by show g0 + 1 ≠ g0; omega) _
      have E5 : Ext w ((((((W4.setCell ⟨g0, 0, none⟩ (.string ⟨dn.toArray⟩)).setCell ⟨g0, 1, none⟩ (.string ⟨a.toArray⟩)).setCell ⟨g0, 2, none⟩ (.int .i64 0)).setCell ⟨g0, 3, none⟩ (.int .u64 0)).setCell ⟨g0, 4, none⟩ (.string ⟨#[]⟩)).setCell ⟨g0, 5, none⟩ (.int .i64 0)) := (((((E4.setCell (p := ⟨g0, 0, none⟩) hgw0 _).setCell (p := ⟨g0, 1, none⟩) hgw0 _).setCell (p := ⟨g0, 2, none⟩) hgw0 _).setCell (p := ⟨g0, 3, none⟩) hgw0 _).setCell (p := ⟨g0, 4, none⟩) hgw0 _).setCell (p := ⟨g0, 5, none⟩) hgw0 _
      have hs5 : W4.heap.size = ((((((W4.setCell ⟨g0, 0, none⟩ (.string ⟨dn.toArray⟩)).setCell ⟨g0, 1, none⟩ (.string ⟨a.toArray⟩)).setCell ⟨g0, 2, none⟩ (.int .i64 0)).setCell ⟨g0, 3, none⟩ (.int .u64 0)).setCell ⟨g0, 4, none⟩ (.string ⟨#[]⟩)).setCell ⟨g0, 5, none⟩ (.int .i64 0)).heap.size := by simp [World.setCell]
      have c12 := P5.cell 12
      rw [Array.getElem?_setIfInBounds_ne (by decide), Array.getElem?_setIfInBounds_ne (by decide), Array.getElem?_setIfInBounds_ne (by decide), Array.getElem?_setIfInBounds_ne (by decide), Array.getElem?_setIfInBounds_ne (by decide), Array.getElem?_setIfInBounds_ne (by decide), List.getElem?_toArray, hC12.out] at c12
      clear P4 R4 E4
      replace P5 := hide P5
      replace R5 := hide R5
      replace E5 := hide E5
      replace hs5 := hide hs5
      go_upto_region 7 with fail
      clear p0 p1 p2 p3 p4 p5 pf
      generalize ((((((W4.setCell ⟨g0, 0, none⟩ (.string ⟨dn.toArray⟩)).setCell ⟨g0, 1, none⟩ (.string ⟨a.toArray⟩)).setCell ⟨g0, 2, none⟩ (.int .i64 0)).setCell ⟨g0, 3, none⟩ (.int .u64 0)).setCell ⟨g0, 4, none⟩ (.string ⟨#[]⟩)).setCell ⟨g0, 5, none⟩ (.int .i64 0)) = W5 at P5 R5 E5 hs5 c12 ⊢
      go_wp2_with fail
      refine (q3.out W5 E5.out).mono ?_
      rintro e W6 ⟨vv, rfl, hE6, hown⟩
      clear q3 c12
      obtain ⟨f', c', rfl⟩ := hown.form
      have P6 := P5.out.ext hE6
      have R6 := R5.out.ext hE6
      have E6 := E5.out.trans hE6
      have c12 := P6.cell 12
      rw [Array.getElem?_setIfInBounds_ne (by decide), Array.getElem?_setIfInBounds_ne (by decide), Array.getElem?_setIfInBounds_ne (by decide), Array.getElem?_setIfInBounds_ne (by decide), Array.getElem?_setIfInBounds_ne (by decide), Array.getElem?_setIfInBounds_ne (by decide), List.getElem?_toArray, hC12.out] at c12
      have cf := fun i => P6.frozen i
      have P7 := P6.set_ 12 (.slice f' x.fams.length c')
      rw [hCN.out f' c'] at P7
      have R7 := R6.far (p := ⟨g0, 12, none⟩) (by show g0 + 1 ≠ g0; omega) (.slice f' x.fams.length c')
      have E7 := E6.setCell (p := ⟨g0, 12, none⟩) hgw0 (.slice f' x.fams.length c')
      have hB : g0 + 2 ≤ W5.heap.size := by have := hs1.out; have := hs5.out; have := hs2.out; omega
      have o7 := own_set21 hown (g := g0) (by omega) 12 (.slice f' x.fams.length c')
      have hCNl := hNl.out f' c'
      have hCNo := all_oneCell_toArray (hNo.out f' c')
      have hfin := fun w' hE ho => hp3.out w' f' c' hle.out hE ho
      clear P5 R5 E5 P6 R6 E6 hCN hC12 hp3 hown hE6
      generalize nbrCs (dynN x a) f' c' = CN at *
      have hiCN : (Tryz.prog.info? 31).map (·.size) = some CN.length := by rw [hCNl]; kernel_rfl
      have hiCA : (Tryz.prog.info? 31).map (·.size) = some CN.toArray.size := by rw [List.size_toArray, hCNl]; kernel_rfl
      have hth := blk_there R7 (n := CN.toArray.size) (by rw [List.size_toArray, hCNl]; exact Nat.le_refl 23)
      have hra := blk_range P7
      have hr := World.rangeAt_setCells_same _ (g0 + 1) 0 CN (by have := hth; rwa [List.size_toArray] at this)
      have hlv := loadVar21 hr hCNl
      have E8 := Ext.setCells21 hgw CN 0 _ E7
      have o8 := (own_sets21 (g := g0 + 1) (by omega) CN 0 _ o7).low (B' := w.heap.size) (by omega)
      have hfn := hfin _ E8 o8
      clear hr P7 R7 E7 o7 E8 o8 hfin
      replace hth := hide hth
      replace hra := hide hra
      replace hiCN := hide hiCN
      replace hiCA := hide hiCA
      replace hCNl := hide hCNl
      replace hCNo := hide hCNo
      replace hlv := hide hlv
      replace hfn := hide hfn
      replace hB := hide hB
      go_wp2_with (first
        | (with_reducible refine wpList_load_mid rfl 31 (.tmp 2) rfl g0 0 rfl CN _ hra.out Tryz.underlying31 rfl hiCN.out ?_)
        | (with_reducible refine wpList_store_mid rfl 31 (.tmp 4) (.tmp 31) rfl (g0 + 1) 0 CN.toArray rfl rfl hth.out hiCA.out hCNo.out ?_))
      exact bodyPost_ret (v := .tuple #[.agg CN.toArray, .int .i64 0]) (results_pair21 Tryz.results10 rfl hlv.out rfl) rfl hfn.out
end Go.Proofs.YtmhmcdpadmimlaaGreatDoor
