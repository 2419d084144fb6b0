/- Rows of bytes of the call's own: made by []byte(s) (whose row bears a mark behind its end) or by append. Rows of the call's own whose elements have two cells: an element stored, the tail cleared, a part cut off. -/
import Derived.Test.YtiappobhljiknaaGreatDoorBase
import Derived.Lib.ConvBytes
import Derived.Laws.OwnMore
namespace Go.Proofs.YtiappobhljiknaaGreatDoor
open Go.RowKit
set_option linter.unusedVariables false

/-- Of the cells below n none is frozen. -/
def Thawed (fz : Nat × Nat) (n : Nat) : Prop := n ≤ fz.1 ∨ fz.2 = 0
theorem Thawed.at {fz : Nat × Nat} {n : Nat} (h : Thawed fz n) {w : World} {g : Nat} {cur : Array Value} {t : TypeId} (hg : w.heap[g]? = some (.cells cur t fz)) (j : Nat) (hj : j < n) : w.frozen? ⟨g, j, none⟩ = false := by
  obtain ⟨lo, hi⟩ := fz
  simp only [World.frozen?, hg, Bool.and_eq_false_iff, decide_eq_false_iff_not]
  rcases h with h | h
  · left; simp only at h; omega
  · right; simp only at h; omega

theorem run_stores_thawed (P : Program) (g o : Nat) (t : TypeId) (fz : Nat × Nat) : ∀ (vs : List Value) (i : Nat) (cur : Array Value) (w : World), w.heap[g]? = some (.cells cur t fz) → Thawed fz cur.size → o + i + vs.length ≤ cur.size → (∀ v ∈ vs, v.oneCell' = true) →
    (storeCells ⟨g, o, none⟩ vs i).run P w = .ok () (w.setRow g (cur.toList.take (o + i) ++ vs ++ cur.toList.drop (o + i + vs.length)).toArray)
  | [], i, cur, w, hg, _, _, _ => by
    simp only [storeCells, List.append_nil, List.length_nil, Nat.add_zero, List.take_append_drop, Array.toArray_toList]
    rw [setRow_self w g cur t fz hg]
    rfl
  | v :: rest, i, cur, w, hg, hfz, hl, h1 => by
    have hi : o + i < cur.size := by simp at hl; omega
    have hadd : (⟨g, o, none⟩ : Addr).add i = ⟨g, o + i, none⟩ := by unfold Addr.add; split <;> simp_all
    have hcell : w.cell? ⟨g, o + i, none⟩ = some cur[o + i] := by simp [World.cell?, hg, hi]
    have hfro : w.frozen? ⟨g, o + i, none⟩ = false := hfz.at hg _ hi
    have hst : (store ((⟨g, o, none⟩ : Addr).add i) v).run P w = .ok () (w.setRow g (cur.setIfInBounds (o + i) v)) := by
      rw [hadd, run_store P w _ v _ (h1 v (by simp)), hcell]
      simp [hfro, setCell_eq_setRow w g (o + i) cur t fz v hg]
    have ih := run_stores_thawed P g o t fz rest (i + 1) (cur.setIfInBounds (o + i) v) (w.setRow g (cur.setIfInBounds (o + i) v)) (setRow_heap w g cur _ t _ hg) (by simpa using hfz) (by simp at hl ⊢; omega) (fun x hx => h1 x (by simp [hx]))
    simp only [storeCells, Sem.run_bind, hst, Result.andThen_ok, ih, setRow_setRow]
    congr 3
    have e := list_seg_step cur.toList (o + i) v rest (by simp at hl ⊢; omega)
    simpa [Array.toList_setIfInBounds, Nat.add_assoc] using e

def encB (l : List UInt8) : List Value := l.map fun b => .int .u8 (b.toNat : Int)
@[simp] theorem encB_length (l : List UInt8) : (encB l).length = l.length := by simp [encB]
theorem encB_one (l : List UInt8) : ∀ u ∈ encB l, u.oneCell' = true := by
  intro u hu
  obtain ⟨x, _, rfl⟩ := List.mem_map.1 hu
  rfl
theorem encB_append (l m : List UInt8) : encB (l ++ m) = encB l ++ encB m := by simp [encB]

/-- A slice of bytes of the call's own. -/
def OwnB (e : TypeId) (w : World) (B : Nat) (v : Value) (l : List UInt8) : Prop :=
  (v = .slice none 0 0 ∧ l = []) ∨
  ∃ g cap cur fz, v = .slice (some ⟨g, 0, none⟩) l.length cap ∧ B ≤ g ∧ w.heap[g]? = some (.cells cur e fz) ∧ Thawed fz cap ∧ l.length ≤ cap ∧ cap ≤ maxLen ∧ cur.size = cap ∧ cur.toList.take l.length = encB l

section
variable {w w' : World} {B : Nat} {v : Value} {l : List UInt8} {e : TypeId}
theorem OwnB.nil : OwnB e w B (.slice none 0 0) [] := .inl ⟨rfl, rfl⟩
theorem OwnB.lt (h : OwnB e w B v l) : ∀ k, v.ownBlock = some k → B ≤ k ∧ k < w.heap.size := by
  intro k hk
  rcases h with ⟨rfl, _⟩ | ⟨g, cap, cur, fz, rfl, hb, hg, _⟩
  · cases hk
  · obtain rfl : g = k := Option.some.inj hk
    exact ⟨hb, (Array.getElem?_eq_some_iff.1 hg).1⟩
theorem OwnB.form (h : OwnB e w B v l) : ∃ a c, v = .slice a l.length c := by
  rcases h with ⟨rfl, rfl⟩ | ⟨g, cap, cur, fz, rfl, _⟩
  · exact ⟨_, _, rfl⟩
  · exact ⟨_, _, rfl⟩
theorem OwnB.kept (h : OwnB e w B v l) (hw : ∀ b, v.ownBlock = some b → w'.heap[b]? = w.heap[b]?) : OwnB e w' B v l := by
  rcases h with h | ⟨g, cap, cur, fz, rfl, hb, hg, r⟩
  · exact .inl h
  · exact .inr ⟨g, cap, cur, fz, rfl, hb, by rw [hw g rfl]; exact hg, r⟩
theorem OwnB.alloc (h : OwnB e w B v l) (o : Obj) : OwnB e (w.alloc o) B v l := h.kept fun b hb => Below.heap_alloc w o b (h.lt b hb).2
theorem OwnB.ext (h : OwnB e w B v l) (he : Ext w w') : OwnB e w' B v l := h.kept fun b hb => he.block b (h.lt b hb).2
theorem OwnB.drewN (h : OwnB e w B v l) (n : Nat) : OwnB e (w.drewN n) B v l := h.kept fun _ _ => rfl
theorem OwnB.cell (h : OwnB e w B v l) {g : Nat} {c n : Nat} {off : Nat} {sp : Option Nat} (hv : v = .slice (some ⟨g, off, sp⟩) n c) (j : Nat) (hj : j < l.length) : w.cell? ⟨g, j, none⟩ = some (.int .u8 (l[j].toNat : Int)) ∧ w.frozen? ⟨g, j, none⟩ = false := by
  rcases h with ⟨rfl, rfl⟩ | ⟨g', cap, cur, fz, rfl, hb, hg, hfz, hlc, _, hcs, htk⟩
  · simp at hj
  · injection hv with hv
    injection hv with hv
    injection hv with hv
    subst hv
    refine ⟨?_, hfz.at hg j (by omega)⟩
    rw [cell_of_row w g' j cur e fz hg]
    have : (cur.toList.take l.length)[j]? = (encB l)[j]? := by rw [htk]
    rw [List.getElem?_take, if_pos hj] at this
    simpa [encB, hj] using this
theorem OwnB.cellAdd (h : OwnB e w B v l) {g : Nat} {c n : Nat} {off : Nat} {sp : Option Nat} (hv : v = .slice (some ⟨g, off, sp⟩) n c) (hoff : off = 0) (hsp : sp = none) (j : Nat) (hj : j < l.length) : w.cell? ((⟨g, off, sp⟩ : Addr).add j) = some (.int .u8 (l[j].toNat : Int)) := by
  subst hoff hsp
  rw [add_lit, Nat.zero_add]
  exact (h.cell hv j hj).1
theorem OwnB.addr (h : OwnB e w B v l) {ad : Addr} {n c : Nat} (hv : v = .slice (some ad) n c) : ∃ g, ad = ⟨g, 0, none⟩ := by
  rcases h with ⟨rfl, _⟩ | ⟨g, cap, cur, fz, rfl, _⟩
  · cases hv
  · injection hv with hv; injection hv with hv; exact ⟨g, hv.symm⟩

theorem run_appendB {P : Program} {t ty : TypeId} (hok : ElemOk P t e 1 1) (h : OwnB e w B v l) (hB : B ≤ w.heap.size) {a : Addr} {m : List UInt8} (c : Nat) (hl : l.length + m.length ≤ 35184372088832)
    (hm : ∀ j (hj : j < m.length), w.cell? (a.add j) = some (.int .u8 (m[j].toNat : Int))) (hz : P.info? e = none ∨ ∀ i, P.info? e = some i → i.zero = some (.int .u8 0)) :
    ∃ v' w', (Builtin.append_ #[t, t] ty #[v, .slice (some a) m.length c]).run P w = .ok v' w' ∧ OwnB e w' B v' (l ++ m) ∧ w.grownBy w' v.ownBlock ∧ (v'.ownBlock = v.ownBlock ∨ v'.ownBlock = some w.heap.size) := by
  obtain ⟨ht, i, z, hi, hz', h1, hb, h3⟩ := hok
  have hz0 : i.zero = some (.int .u8 0) := by
    rcases hz with hz | hz
    · rw [hi] at hz; cases hz
    · exact hz i hi
  have hnews : ∀ j u, (encB m)[j]? = some u → w.cell? (a.add j) = some u := by
    intro j u hu
    have hj : j < m.length := by
      rcases Nat.lt_or_ge j m.length with h | h
      · exact h
      · rw [List.getElem?_eq_none (by simpa using h)] at hu; cases hu
    rw [hm j hj]
    simpa [encB, hj] using hu
  have hml : maxLen = 9223372036854775807 := by unfold maxLen; omega
  rcases h with ⟨rfl, rfl⟩ | ⟨g, cap, cur, fz, rfl, hbg, hg, hfz, hlc, hcm, hcs, htk⟩
  · obtain ⟨v', w', hrun, hown, hgr, _, hat⟩ := run_append_own_at (P := P) w B t ty e i z 1 1 ht hi hz' h1 hb h3 (by omega) (.slice none 0 0) 0 [] (World.ownsRow_nil w B e 1) a m.length c (encB m) (by simp) hnews (encB_one m) (by simp at hl; omega) (by simp at hl; omega) hB
    refine ⟨v', w', hrun, ?_, hgr, hat⟩
    simp only [Nat.zero_add, List.nil_append] at hown ⊢
    rcases hown.2 with ⟨rfl, h0⟩ | ⟨g, cap, cur, rfl, hbg, hg, hnc, hcm, hcs, htk⟩
    · exact .inl ⟨rfl, List.eq_nil_of_length_eq_zero h0⟩
    · exact .inr ⟨g, cap, cur, (0, 0), rfl, hbg, hg, .inr rfl, hnc, hcm, by simpa using hcs, by simpa using htk⟩
  · by_cases hroom : l.length + m.length ≤ cap
    · have hf := run_firstCells_some (P := P) w i.size m.length a m.length c (encB m) (by simp [h1]) hnews
      have hst := run_stores_thawed P g (l.length * i.size) e fz (encB m) 0 cur w hg (by rw [hcs]; exact hfz) (by simp [h1]; omega) (encB_one m)
      simp only [Nat.add_zero, h1, Nat.mul_one] at hst
      have hr : (Builtin.append_ #[t, t] ty #[.slice (some ⟨g, 0, none⟩) l.length cap, .slice (some a) m.length c]).run P w = .ok (.slice (some ⟨g, 0, none⟩) (l.length + m.length) cap) (w.setRow g (cur.toList.take l.length ++ encB m ++ cur.toList.drop (l.length + (encB m).length)).toArray) := by
        rw [h1] at hf
        simp [Builtin.append_, run_underlying ht, sizeOf, typeInfo, hi, Builtin.lenOf, hroom, h1, hf, Addr.add_lit, hst]
      refine ⟨_, _, hr, .inr ⟨g, cap, _, fz, by simp, hbg, setRow_heap w g cur _ e _ hg, hfz, by simpa using hroom, hcm, ?_, ?_⟩, ⟨rfl, rfl, rfl, by simp, fun k _ hk => setRow_other w g k _ (fun e => hk (by simp [Value.ownBlock, e]))⟩, .inl rfl⟩
      · simp only [List.size_toArray, List.length_append, List.length_take, List.length_drop, Array.length_toList, encB_length]
        omega
      · rw [htk, encB_append, List.length_append, ← encB_length l, ← encB_length m, ← List.length_append]
        exact List.take_left
    · have holds : ∀ j u, (encB l)[j]? = some u → w.cell? ((⟨g, 0, none⟩ : Addr).add j) = some u := by
        intro j u hu
        have hj : j < l.length := by
          rcases Nat.lt_or_ge j l.length with h | h
          · exact h
          · rw [List.getElem?_eq_none (by simpa using h)] at hu; cases hu
        rw [add_lit, Nat.zero_add, cell_of_row w g j cur e fz hg, ← hu, ← htk, List.getElem?_take, if_pos hj]
        simp
      have hr := run_append_grow (P := P) w t ty e i z ht hi hz' ⟨g, 0, none⟩ l.length cap (encB l) (by simp [h1]) holds a m.length c (encB m) (by simp [h1]) hnews (by omega) (by omega) (growslice_fits (by omega) (by rw [hb]; omega))
      have hge := grownCap_ge w (l.length + m.length) cap e
      have hcm2 : grownCap w (l.length + m.length) cap e ≤ maxLen := grownCap_le_maxLen w _ cap e (by omega)
      refine ⟨_, _, hr, .inr ⟨w.heap.size, _, _, (0, 0), by simp, hB, heap_alloc_new w.drew _, .inr rfl, by simpa using hge, hcm2, ?_, ?_⟩, ⟨rfl, rfl, rfl, by simp, fun k hk _ => Below.heap_alloc w.drew _ k hk⟩, .inr rfl⟩
      · simp only [Array.size_append, List.size_toArray, size_zeroCells, h3, encB_length]
        omega
      · simp only [Array.toList_append, List.append_assoc]
        rw [← List.append_assoc, encB_append, List.length_append, ← encB_length l, ← encB_length m, ← List.length_append]
        exact List.take_left
theorem wp_appendB {P : Program} {o : Oper} {ac : Act} {K : Act → World → Prop} {R : Exit → Act → World → Prop} (s x : Operand) (t : TypeId)
    (ho : o.op = .call { callee := .builtin .append, args := #[s, x], argTypes := #[t, t] }) (hok : ElemOk P t e 1 1) (hz : P.info? e = none ∨ ∀ i, P.info? e = some i → i.zero = some (.int .u8 0))
    (hs : ac.eval s = v) (h : OwnB e w B v l) (hB : B ≤ w.heap.size) {a : Addr} {c : Nat} (m : List UInt8) (hx : ac.eval x = .slice (some a) m.length c) (hl : l.length + m.length ≤ 35184372088832)
    (hm : ∀ j (hj : j < m.length), w.cell? (a.add j) = some (.int .u8 (m[j].toNat : Int)))
    (hk : ∀ v' w', OwnB e w' B v' (l ++ m) → w.grownBy w' v.ownBlock → (v'.ownBlock = v.ownBlock ∨ v'.ownBlock = some w.heap.size) → K (ac.put o.dst v') w') : o.wp P ac w K R := by
  obtain ⟨v', w', hrun, h3, h4, h5⟩ := run_appendB (P := P) (ty := o.type) hok h hB c hl hm hz
  unfold Oper.wp execOp
  simp only [ho, resolve, invoke, builtin, Sem.run_bind, Sem.run_pure, Result.andThen_ok, List.map_toArray, List.map_cons, List.map_nil, hs, hx, hrun]
  exact hk v' w' h3 h4 h5
theorem wpList_appendB {P : Program} {ops : Array Oper} {rest : List Oper} {o : Oper} {ac : Act} {R : Exit → Act → World → Prop} (hgd : o.guard = none) (s x : Operand) (t : TypeId)
    (ho : o.op = .call { callee := .builtin .append, args := #[s, x], argTypes := #[t, t] }) (hok : ElemOk P t e 1 1) (hz : P.info? e = none ∨ ∀ i, P.info? e = some i → i.zero = some (.int .u8 0))
    (hs : ac.eval s = v) (h : OwnB e w B v l) (hB : B ≤ w.heap.size) {a : Addr} {c : Nat} (m : List UInt8) (hx : ac.eval x = .slice (some a) m.length c) (hl : l.length + m.length ≤ 35184372088832)
    (hm : ∀ j (hj : j < m.length), w.cell? (a.add j) = some (.int .u8 (m[j].toNat : Int)))
    (hk : ∀ v' w', OwnB e w' B v' (l ++ m) → w.grownBy w' v.ownBlock → (v'.ownBlock = v.ownBlock ∨ v'.ownBlock = some w.heap.size) → wpList P ops R rest (ac.put o.dst v') w') : wpList P ops R (o :: rest) ac w :=
  wpList_plain hgd fun _ hK => wp_appendB s x t ho hok hz hs h hB m hx hl hm fun v' w' h3 h4 h5 => hK _ _ (hk v' w' h3 h4 h5)
/-- One new byte, laid in a block of its own. -/
theorem byte_new (w : World) (b : UInt8) (t : TypeId) : ∀ j (hj : j < [b].length), (w.alloc (.cells #[.int .u8 (b.toNat : Int)] t)).cell? ((⟨w.heap.size, 0, none⟩ : Addr).add j) = some (.int .u8 ([b][j].toNat : Int)) := by
  intro j hj
  obtain rfl : j = 0 := by simpa using hj
  exact cell_one_new w _ t 0 _ rfl
/-- []byte(s). -/
theorem OwnB.conv (s : ByteArray) (hs : s.size ≤ maxLen) : OwnB e (Lib.bytesWorld w e s) w.heap.size (.slice (some ⟨w.heap.size, 0, none⟩) s.size (grownCap w s.size 0 e)) s.data.toList := by
  have hge := grownCap_ge w s.size 0 e
  have hlen : s.data.toList.length = s.size := by simp
  have hcs : (Lib.bytesCells w e s).size = grownCap w s.size 0 e := by
    simp only [Lib.bytesCells, Array.size_append, Array.size_map, Array.size_replicate]
    have : s.data.size = s.size := rfl
    omega
  refine .inr ⟨w.heap.size, _, _, _, by rw [hlen], Nat.le_refl _, Lib.bytesWorld_at_new w e s, .inl ?_, by omega, grownCap_le_maxLen w _ _ e hs, hcs, ?_⟩
  · rw [hcs]; exact Nat.le_refl _
  · simp only [Lib.bytesCells, Array.toList_append, Array.toList_map]
    rw [show s.data.toList.length = (s.data.toList.map fun b => Value.int .u8 b.toNat).length by simp]
    exact List.take_left
theorem ext_bytesWorld (w : World) (e : TypeId) (s : ByteArray) : Ext w (Lib.bytesWorld w e s) := by
  refine ⟨?_, ?_, ?_, by rw [Lib.bytesWorld_size]; omega, fun j hj => Lib.bytesWorld_at_old w e s j hj⟩
  all_goals
    unfold Lib.bytesWorld World.freeze
    split <;> rfl
/-- string(b), b of the call's own. -/
theorem run_stringB {P : Program} {src dst : TypeId} (hs : P.underlying src = some (.slice e)) (he : P.underlying e = some (.int .u8)) (hd : P.underlying dst = some .string) (h : OwnB e w B v l) :
    (convert src dst v).run P w = .ok (.string ⟨l.toArray⟩) w := by
  rcases h with ⟨rfl, rfl⟩ | ⟨g, cap, cur, fz, rfl, hb, hg, hfz, hlc, hcm, hcs, htk⟩
  · rw [run_convert_bytes_string w src dst e none 0 0 hs he hd]
    simp [Conv.bytesToString]; rfl
  · refine run_convert_bytes_back (P := P) w src dst e ⟨g, 0, none⟩ cap l hs he hd fun j hj => ?_
    exact OwnB.cellAdd (e := e) (w := w) (B := B) (l := l) (.inr ⟨g, cap, cur, fz, rfl, hb, hg, hfz, hlc, hcm, hcs, htk⟩) rfl rfl rfl j hj
end

section
variable {α : Type} {E : Enc α} {e : TypeId} {w w' : World} {B g n c : Nat} {l : List α}
theorem Own.lenEq (h : Own E e w B (.slice (some ⟨g, 0, none⟩) n c) l) : n = l.length := by
  obtain ⟨a, d, hv⟩ := h.form
  injection hv
theorem Own.at0 (h : Own E e w B (.slice (some ⟨g, 0, none⟩) n c) l) (k : Nat) (hk : k < l.length) :
    ∃ cs, E.R w (fun b => B ≤ b ∧ b < w.heap.size ∧ b ≠ g) l[k] cs ∧ ∀ j u, cs[j]? = some u → w.cell? ⟨g, k * E.sz + j, none⟩ = some u := by
  have hn := h.lenEq
  obtain ⟨xs, ho, hr⟩ := h
  obtain ⟨cs, h1, h2⟩ := hr k l[k] (List.getElem?_eq_getElem hk)
  refine ⟨cs, E.mono (fun b hb => ⟨hb.1, hb.2.1, fun he => hb.2.2 (by rw [he]; rfl)⟩) h1, fun j u hu => ?_⟩
  have h3 := h2 j u hu
  have hj := (List.getElem?_eq_some_iff.1 h3).1
  have := ho.cells (g := g) rfl (k * E.sz + j) u h3
  rw [add_lit, Nat.zero_add] at this
  exact this
theorem Own.thaw (h : Own E e w B (.slice (some ⟨g, 0, none⟩) n c) l) (j : Nat) : w.frozen? ⟨g, j, none⟩ = false := by
  have hn := h.lenEq
  obtain ⟨xs, ho, _⟩ := h
  subst hn
  exact ho.frozenAt j
theorem Own.blockLt (h : Own E e w B (.slice (some ⟨g, 0, none⟩) n c) l) : B ≤ g ∧ g < w.heap.size := h.lt g rfl
/-- Element i is stored: its two cells. -/
theorem Own.set2 (h : Own E e w B (.slice (some ⟨g, 0, none⟩) n c) l) (hsz : E.sz = 2) {i : Nat} (hi : i < l.length) {x : α} {c0 c1 : Value} (hx : E.R w (fun b => B ≤ b ∧ b < w.heap.size ∧ b ≠ g) x [c0, c1]) :
    Own E e ((w.setCell ⟨g, i * 2, none⟩ c0).setCell ⟨g, i * 2 + 1, none⟩ c1) B (.slice (some ⟨g, 0, none⟩) n c) (l.set i x) := by
  have hn := h.lenEq
  subst hn
  obtain ⟨xs, ho, hr⟩ := h
  obtain ⟨o1, g1⟩ := ho.stored (i * 2) c0
  obtain ⟨o2, g2⟩ := o1.stored (i * 2 + 1) c1
  have hxl : xs.length = l.length * 2 := by rw [ho.1, hsz]
  have hfr : ∀ b, (B ≤ b ∧ b < w.heap.size ∧ b ≠ g) → ((w.setCell ⟨g, i * 2, none⟩ c0).setCell ⟨g, i * 2 + 1, none⟩ c1).heap[b]? = w.heap[b]? := fun b hb => by
    rw [Below.heap_setCell _ _ _ _ (by exact hb.2.2), Below.heap_setCell _ _ _ _ (by exact hb.2.2)]
  have hmo : ∀ b, (B ≤ b ∧ b < w.heap.size ∧ b ≠ g) → (B ≤ b ∧ b < ((w.setCell ⟨g, i * 2, none⟩ c0).setCell ⟨g, i * 2 + 1, none⟩ c1).heap.size ∧ some b ≠ (Value.slice (some ⟨g, 0, none⟩) l.length c).ownBlock) := fun b hb =>
    ⟨hb.1, by simpa [World.setCell] using hb.2.1, fun he => hb.2.2 (Option.some.inj he)⟩
  refine ⟨(xs.set (i * 2) c0).set (i * 2 + 1) c1, by rw [List.length_set]; exact o2, fun k y hy => ?_⟩
  by_cases hk : k = i
  · subst hk
    rw [List.getElem?_set_self hi] at hy
    obtain rfl : x = y := Option.some.inj hy
    refine ⟨[c0, c1], E.mono hmo (E.frame hfr hx), fun j u hu => ?_⟩
    rw [hsz]
    match j, hu with
    | 0, hu =>
      simp at hu
      subst hu
      rw [List.getElem?_set_ne (by omega), Nat.add_zero, List.getElem?_set_self (by omega)]
    | 1, hu =>
      simp at hu
      subst hu
      rw [List.getElem?_set_self (by rw [List.length_set]; omega)]
  · rw [List.getElem?_set_ne (Ne.symm hk)] at hy
    obtain ⟨cs, h1, h2⟩ := hr k y hy
    refine ⟨cs, E.mono hmo (E.frame hfr (E.mono (fun b hb => ⟨hb.1, hb.2.1, fun he => hb.2.2 (by rw [he]; rfl)⟩) h1)), fun j u hu => ?_⟩
    have hj : j < 2 := by
      have := E.size h1
      rcases Nat.lt_or_ge j 2 with h | h
      · exact h
      · rw [List.getElem?_eq_none (by omega)] at hu; cases hu
    have h3 := h2 j u hu
    rw [hsz] at h3 ⊢
    rw [List.getElem?_set_ne (by omega), List.getElem?_set_ne (by omega)]
    exact h3
theorem ext_set2 {a : World} (h : Ext a w) (hg : a.heap.size ≤ g) (i j : Nat) (u v : Value) : Ext a ((w.setCell ⟨g, i, none⟩ u).setCell ⟨g, j, none⟩ v) := (h.setCell hg u).setCell hg v

/-- The first k elements of a row. -/
theorem Own.cutTo (h : Own E e w B (.slice (some ⟨g, 0, none⟩) n c) l) (k : Nat) (hk : k ≤ l.length) : Own E e w B (.slice (some ⟨g, 0, none⟩) k c) (l.take k) := by
  have hn := h.lenEq
  subst hn
  obtain ⟨xs, ho, hr⟩ := h
  have hl : (l.take k).length = k := by simp; omega
  refine ⟨xs.take (k * E.sz), ?_, fun j y hy => ?_⟩
  · rcases ho.2 with ⟨hv, _⟩ | ⟨g', cap, cur, hv, hb, hg, hn, hm, hcs, ht⟩
    · cases hv
    · rw [hl]
      injection hv with h1 h2 h3
      injection h1 with h1
      injection h1 with h1
      subst h1 h3
      have hle : k * E.sz ≤ l.length * E.sz := Nat.mul_le_mul_right _ hk
      refine ⟨by rw [List.length_take, ho.1]; omega, .inr ⟨g, c, cur, rfl, hb, hg, by omega, hm, hcs, ?_⟩⟩
      rw [← ht, List.take_take, Nat.min_eq_left hle]
  · rw [List.getElem?_take] at hy
    split at hy
    · rename_i hjk
      obtain ⟨cs, h1, h2⟩ := hr j y hy
      refine ⟨cs, h1, fun i u hu => ?_⟩
      have hi : i < E.sz := by
        have := E.size h1
        rcases Nat.lt_or_ge i E.sz with h | h
        · exact h
        · rw [List.getElem?_eq_none (by omega)] at hu; cases hu
      rw [List.getElem?_take, if_pos]
      · exact h2 i u hu
      · have : (j + 1) * E.sz ≤ k * E.sz := Nat.mul_le_mul_right _ hjk
        rw [Nat.add_mul] at this
        omega
    · cases hy
end

/-- clear of a row's tail: what is ahead of it stands. -/
theorem run_clear_tail {P : Program} {t e ty : TypeId} {z : Value} {sz : Nat} (ht : P.underlying t = some (.slice e)) (hv : ∀ w, (zeroValue e).run P w = .ok z w) (hz : z.cells.size = sz) (h1 : ∀ u ∈ z.cells.toList, u.oneCell' = true)
    {w : World} {B g n c m k : Nat} {xs : List Value} (h : w.ownsRow B e sz (.slice (some ⟨g, 0, none⟩) n c) n xs) (hk : k + m = n) (hm : 0 < m) (c' : Nat) :
    ∃ w', (Builtin.clear_ #[t] ty #[.slice (some ⟨g, k * sz, none⟩) m c']).run P w = .ok (.tuple #[]) w' ∧ w.grownBy w' (some g) ∧ w'.heap.size = w.heap.size ∧ w'.ownsRow B e sz (.slice (some ⟨g, 0, none⟩) k c) k (xs.take (k * sz)) := by
  rcases h.2 with ⟨hv', _⟩ | ⟨g', cap, cur, hv', hb, hg, hn, hmx, hcs, htk⟩
  · cases hv'
  · injection hv' with e1 e2 e3
    injection e1 with e1
    injection e1 with e1
    subst e1 e3
    have hzl : (Builtin.zeroCells z.cells m).toList.length = m * sz := by rw [Array.length_toList, size_zeroCells, hz]
    have hone : ∀ v ∈ (Builtin.zeroCells z.cells m).toList, v.oneCell' = true := by
      intro v hv2
      rw [Array.mem_toList_iff] at hv2
      simp only [Builtin.zeroCells, Array.mem_map, Array.mem_range] at hv2
      obtain ⟨i, hi, rfl⟩ := hv2
      have h0 : 0 < z.cells.size := by
        rcases Nat.eq_zero_or_pos z.cells.size with h0 | h0
        · rw [h0] at hi; omega
        · exact h0
      have hi2 : i % z.cells.size < z.cells.size := Nat.mod_lt _ h0
      rw [getElem!_pos z.cells (i % z.cells.size) hi2]
      exact h1 _ (by simp)
    have hle : k * sz + m * sz ≤ cur.size := by
      rw [hcs, ← Nat.add_mul]
      exact Nat.mul_le_mul_right _ (by omega)
    have hst := run_storeCells_at P g (k * sz) e (Builtin.zeroCells z.cells m).toList 0 cur w hg (by rw [hzl]; omega) hone
    simp only [Nat.add_zero] at hst
    obtain ⟨q, rfl⟩ : ∃ q, m = q + 1 := ⟨m - 1, by omega⟩
    have hr : (Builtin.clear_ #[t] ty #[.slice (some ⟨g, k * sz, none⟩) (q + 1) c']).run P w = .ok (.tuple #[]) (w.setRow g (cur.toList.take (k * sz) ++ (Builtin.zeroCells z.cells (q + 1)).toList ++ cur.toList.drop (k * sz + (Builtin.zeroCells z.cells (q + 1)).toList.length)).toArray) := by
      simp [Builtin.clear_, run_underlying ht, hv, hst]
    refine ⟨_, hr, ⟨rfl, rfl, rfl, by simp, fun j _ hj => setRow_other w g j _ (fun e => hj (by rw [e]))⟩, by simp, ?_⟩
    have hlx : (xs.take (k * sz)).length = k * sz := by
      rw [List.length_take, h.1]
      have : k * sz ≤ n * sz := Nat.mul_le_mul_right _ (by omega)
      omega
    refine ⟨hlx, .inr ⟨g, c, _, rfl, hb, setRow_heap w g cur _ e _ hg, by omega, hmx, ?_, ?_⟩⟩
    · simp only [List.size_toArray, List.length_append, List.length_take, List.length_drop, Array.length_toList, hzl]
      omega
    · have hk2 : k * sz ≤ n * sz := Nat.mul_le_mul_right _ (by omega)
      rw [← htk, List.take_take, Nat.min_eq_left hk2, List.append_assoc, List.take_append_of_le_length (by rw [List.length_take, Array.length_toList]; omega)]
      rw [List.take_take, Nat.min_self]
end Go.Proofs.YtiappobhljiknaaGreatDoor
