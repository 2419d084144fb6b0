/- Walks: slices.Clone at items, at atoms. Walks: IndexFunc over sets; sets.Find's function. Walks: the set of a name, by the document (heraldref15.Find). -/
import Derived.Test.YtoghdmoldcjedaaGreatDoorVQ
import Derived.Test.YtoghdmoldcjedaaGreatDoorVF
namespace Go.Proofs.YtoghdmoldcjedaaGreatDoor
open Go.RowKit Go.Sort
set_option linter.unusedVariables false

theorem EItm_one : ∀ x : Itm, ∀ u ∈ itmCs x, u.oneCell' = true := fun x u hu => by
  simp only [itmCs, List.mem_cons, List.not_mem_nil, or_false] at hu
  rcases hu with rfl | rfl | rfl | rfl | rfl | rfl <;> rfl
set_option maxRecDepth 20000 in
theorem okItmV : ElemOk Tryz.prog 23 36 EItm.sz 56 := elemOk (z := .agg #[.int .i64 0, .int .u64 0, .string ⟨#[]⟩, .int .i64 0, .int .i64 0, .int .i64 0]) Tryz.underlying23 (by kernel_rfl) rfl
theorem CloneI_any (a : Option Addr) (c : Nat) (l : List Itm) (w : World) (hl : l.length ≤ 16777216) (hs : Sl EItm w (· < w.heap.size) a l) :
    Calls Tryz.prog 37 #[.slice a l.length c] w fun e w' => ∃ v, e = .returned v ∧ Ext w w' ∧ Own EItm 36 w' w.heap.size v l := by
  replace hs := hide hs
  have q1 := fun (w : World) (a : Option Addr) (n c : Nat) => Lib.run_eql_slice_nil (P := Tryz.prog) w 23 36 a n c 0 0 Tryz.underlying23
  rcases a with _ | ad
  · have hn : l = [] := by
      rcases hs.out with h2 | ⟨_, _, h2, _⟩
      · exact h2
      · cases h2
    subst hn
    go_enter Tryz.func37, Tryz.ntmps37
    go_wp2
    go_ret
    exact ⟨_, rfl, Ext.refl _, Own.nil⟩
  · go_enter Tryz.func37, Tryz.ntmps37
    go_wp2_with (at_builtin; go_must (refine wpList_pushesC (f := itmCs) (P := ItmIn) (n := 6) (hn := fun _ => rfl) (h1 := EItm_one) (B := w.heap.size) rfl _ _ _ rfl (by decide) okItmV (by decide) rfl (Own.empty (Nat.le_refl _)) (by simp) rfl (by simp; omega) (hs.out.ext ((Ext.refl _).alloc _)) ?_); intro v' w1 hown hg hat)
    go_ret
    refine ⟨_, rfl, ((Ext.refl _).alloc _).push (fun j hj => ?_) hg, by rw [List.nil_append] at hown; exact hown⟩
    have : w.heap.size = j := Option.some.inj hj
    omega
theorem CloneA_any (a : Option Addr) (c : Nat) (l : List Atm) (w : World) (hl : l.length ≤ 16777216) (hs : Sl EAtm w (· < w.heap.size) a l) :
    Calls Tryz.prog 40 #[.slice a l.length c] w fun e w' => ∃ v, e = .returned v ∧ Ext w w' ∧ Own EAtm 40 w' w.heap.size v l := by
  replace hs := hide hs
  have q1 := fun (w : World) (a : Option Addr) (n c : Nat) => Lib.run_eql_slice_nil (P := Tryz.prog) w 38 40 a n c 0 0 Tryz.underlying38
  rcases a with _ | ad
  · have hn : l = [] := by
      rcases hs.out with h2 | ⟨_, _, h2, _⟩
      · exact h2
      · cases h2
    subst hn
    go_enter Tryz.func40, Tryz.ntmps40
    go_wp2
    go_ret
    exact ⟨_, rfl, Ext.refl _, Own.nil⟩
  · go_enter Tryz.func40, Tryz.ntmps40
    go_wp2_with (at_builtin; go_must (refine wpList_pushesC (f := atmCs) (P := fun a => i64 a.1) (n := 2) (hn := fun _ => rfl) (h1 := EAtm_one) (B := w.heap.size) rfl _ _ _ rfl (by decide) okAtm (by decide) rfl (Own.empty (Nat.le_refl _)) (by simp) rfl (by simp; omega) (hs.out.ext ((Ext.refl _).alloc _)) ?_); intro v' w1 hown hg hat)
    go_ret
    refine ⟨_, rfl, ((Ext.refl _).alloc _).push (fun j hj => ?_) hg, by rw [List.nil_append] at hown; exact hown⟩
    have : w.heap.size = j := Option.some.inj hj
    omega
open Go.RowKit Go.Sort

theorem ESet.at {w : World} {S : Nat → Prop} {a : Option Addr} {l : List StS} (h : Sl ESet w S a l) (k : Nat) (hk : k < l.length) :
    ∃ b off a1 c1 a2 c2 a3 c3, a = some ⟨b, off, none⟩ ∧ S b ∧ SetIn w S l[k] a1 a2 a3 ∧ ∀ j u, (setCs l[k] a1 c1 a2 c2 a3 c3)[j]? = some u → w.cell? ⟨b, off + k * 5 + j, none⟩ = some u := by
  obtain ⟨b, off, cs, rfl, hb, hr, hc⟩ := h.at k hk
  obtain ⟨a1, c1, a2, c2, a3, c3, rfl, hi⟩ := ESet.iff.1 hr
  exact ⟨b, off, a1, c1, a2, c2, a3, c3, rfl, hb, hi, hc⟩
set_option maxRecDepth 20000 in
set_option maxHeartbeats 1000000 in
theorem Find1_any (nm0 : List UInt8) (kd : Int) (a1 : Option Addr) (n1 c1 : Nat) (a2 : Option Addr) (n2 c2 : Nat) (a3 : Option Addr) (n3 c3 : Nat) (name : List UInt8) (gp : Nat) (w : World) (hB : Blk w gp 9 #[.string ⟨name.toArray⟩]) :
    Calls Tryz.prog 36 #[.agg #[.string ⟨nm0.toArray⟩, .int .i64 kd, .slice a1 n1 c1, .slice a2 n2 c2, .slice a3 n3 c3], .pointer (some ⟨gp, 0, none⟩)] w fun e w' => e = .returned (.bool (nm0 == name)) ∧ Ext w w' := by
  have B := hB.alloc (Obj.cells #[.string ⟨nm0.toArray⟩, .int .i64 kd, .slice a1 n1 c1, .slice a2 n2 c2, .slice a3 n3 c3] 27)
  have S := Blk.new w 27 #[.string ⟨nm0.toArray⟩, .int .i64 kd, .slice a1 n1 c1, .slice a2 n2 c2, .slice a3 n3 c3]
  have E := (Ext.refl w).alloc (Obj.cells #[.string ⟨nm0.toArray⟩, .int .i64 kd, .slice a1 n1 c1, .slice a2 n2 c2, .slice a3 n3 c3] 27)
  have p0 : w.cell? ⟨gp, 0, none⟩ = some (.string ⟨name.toArray⟩) := hB.cell 0
  go_enter Tryz.func36, Tryz.ntmps36
  generalize hW0 : w.alloc (Obj.cells #[.string ⟨nm0.toArray⟩, .int .i64 kd, .slice a1 n1 c1, .slice a2 n2 c2, .slice a3 n3 c3] 27) = W0 at S E B
  generalize hg0 : w.heap.size = g0 at S
  have s0 : W0.cell? ⟨g0, 0, none⟩ = some (.string ⟨nm0.toArray⟩) := S.cell 0
  have b0 : W0.cell? ⟨gp, 0, none⟩ = some (.string ⟨name.toArray⟩) := B.cell 0
  clear S B hB
  replace E := hide E
  go_wp2
  go_ret
  exact ⟨rfl, E.out⟩
set_option maxHeartbeats 1000000 in
theorem IdxSet_any (g : Nat) (lb : Array Value) (eg : ∀ args w, (callFunc g args).run Tryz.prog w = .ok (.enter g args) w) (pr : StS → Bool) (a : Option Addr) (c : Nat) (l : List StS) (w : World) (hl : l.length ≤ 16777216) (hs : Sl ESet w (· < w.heap.size) a l)
    (hq : ∀ x ∈ l, ∀ W a1 c1 a2 c2 a3 c3, Ext w W → Calls Tryz.prog g (#[.agg #[.string ⟨x.name.toArray⟩, .int .i64 x.kind, .slice a1 x.items.length c1, .slice a2 x.comms.length c2, .slice a3 x.paths.length c3]] ++ lb) W fun e w' => e = .returned (.bool (pr x)) ∧ Ext W w') :
    Calls Tryz.prog 35 #[.slice a l.length c, .func (.func g) #[] lb] w fun e w' => e = .returned (.int .i64 (idxT pr l)) ∧ Ext w w' := by
  replace hs := hide hs
  replace hq := hide hq
  go_enter Tryz.func35, Tryz.ntmps35
  go_wp2
  go_loopw [8] (fun i wr => ∃ k : Nat, k ≤ l.length ∧ i = .int .i64 k ∧ Ext w wr ∧ (l.take k).any pr = false) (fun i _ => l.length - (intOf i).toNat)
  case atStart => exact ⟨0, Nat.zero_le _, rfl, Ext.refl _, rfl⟩
  case round =>
    obtain ⟨k, hk, rfl, he, ha⟩ := hrel
    replace ha := hide ha
    replace he := hide he
    by_cases hlt : k < l.length
    · obtain ⟨b, off, a1, c1, a2, c2, a3, c3, rfl, _, _, hc⟩ := ESet.at (hs.out.ext he.out) k hlt
      have x0 : wr.cell? ⟨b, off + k * 5, none⟩ = some (.string ⟨l[k].name.toArray⟩) := hc 0 _ rfl
      have x1 : wr.cell? ⟨b, off + k * 5 + 1, none⟩ = some (.int .i64 l[k].kind) := hc 1 _ rfl
      have x2 : wr.cell? ⟨b, off + k * 5 + 2, none⟩ = some (.slice a1 l[k].items.length c1) := hc 2 _ rfl
      have x3 : wr.cell? ⟨b, off + k * 5 + 3, none⟩ = some (.slice a2 l[k].comms.length c2) := hc 3 _ rfl
      have x4 : wr.cell? ⟨b, off + k * 5 + 4, none⟩ = some (.slice a3 l[k].paths.length c3) := hc 4 _ rfl
      have q := hq.out l[k] (List.getElem_mem hlt) wr a1 c1 a2 c2 a3 c3 he.out
      have hyes := fun h => idxT_at (pr := pr) hlt h ha.out
      have hno := fun h => any_take (pr := pr) hlt h ha.out
      clear hc
      generalize pr l[k] = r at q hyes hno
      generalize l[k].name = nm at *
      generalize l[k].kind = kd at *
      generalize l[k].items.length = n1 at *
      generalize l[k].comms.length = n2 at *
      generalize l[k].paths.length = n3 at *
      replace q := hide q
      replace hyes := hide hyes
      replace hno := hide hno
      go_wp2_with (go_at_fn g; refine q.out.mono ?_; rintro e W1 ⟨rfl, he1⟩; replace he1 := hide (he.out.trans he1); cases r)
      case roundEnd =>
        go_roundw
        case rel => exact ⟨k + 1, by omega, by go_num, he1.out, hno.out (by trivial)⟩
        case measure => simp [intOf]; omega
      all_goals
        go_ret
        exact ⟨ret_int (hyes.out (by trivial)).symm, he1.out⟩
    · have hend : idxT pr l = -1 := idxT_none (by
        obtain rfl : k = l.length := by omega
        have := ha.out
        rwa [List.take_length] at this)
      replace hend := hide hend
      go_wp2
      go_ret
      exact ⟨ret_int hend.out.symm, he.out⟩
open Go.RowKit Go.Sort

theorem Blk.set5v {w : World} {g : Nat} {T : TypeId} {a b c d e : Value} (h : Blk w g T #[a, b, c, d, e]) (u0 u1 u2 u3 u4 : Value) :
    Blk (((((w.setCell ⟨g, 0, none⟩ u0).setCell ⟨g, 1, none⟩ u1).setCell ⟨g, 2, none⟩ u2).setCell ⟨g, 3, none⟩ u3).setCell ⟨g, 4, none⟩ u4) g T #[u0, u1, u2, u3, u4] := by
  simpa using ((((h.set_ 0 u0).set_ 1 u1).set_ 2 u2).set_ 3 u3).set_ 4 u4
theorem Ext.set5v {a w : World} (h : Ext a w) {g : Nat} (hg : a.heap.size ≤ g) (u0 u1 u2 u3 u4 : Value) :
    Ext a (((((w.setCell ⟨g, 0, none⟩ u0).setCell ⟨g, 1, none⟩ u1).setCell ⟨g, 2, none⟩ u2).setCell ⟨g, 3, none⟩ u3).setCell ⟨g, 4, none⟩ u4) :=
  ((((h.setCell hg _).setCell hg _).setCell hg _).setCell hg _).setCell hg _
/-- What is found: the first of a name. -/
def findS (l : List StS) (name : List UInt8) : Option StS := l.find? fun s => s.name == name
/-- How it is told. -/
def FndP (l : List StS) (name : List UInt8) (w : World) (e : Ending) (w' : World) : Prop :=
  Ext w w' ∧ match findS l name with
    | some x => ∃ a1 c1 a2 c2 a3 c3, e = .returned (.tuple #[.agg #[.string ⟨x.name.toArray⟩, .int .i64 x.kind, .slice a1 x.items.length c1, .slice a2 x.comms.length c2, .slice a3 x.paths.length c3], .bool true]) ∧ SetIn w (· < w.heap.size) x a1 a2 a3
    | none => e = .returned (.tuple #[.agg #[.string ⟨#[]⟩, .int .i64 0, .slice none 0 0, .slice none 0 0, .slice none 0 0], .bool false])
set_option maxRecDepth 20000 in
set_option maxHeartbeats 2000000 in
theorem RFind15_any (a : Option Addr) (c : Nat) (l : List StS) (name : List UInt8) (w : World) (hl : l.length ≤ 16777216) (hs : Sl ESet w (· < w.heap.size) a l) :
    Calls Tryz.prog 10 #[.slice a l.length c, .string ⟨name.toArray⟩] w (FndP l name w) := by
  have hfin := fun e w' (h : FndP l name w e w') => h
  have hno : findS l name = none → ∀ w', Ext w w' → FndP l name w (.returned (.tuple #[.agg #[.string ⟨#[]⟩, .int .i64 0, .slice none 0 0, .slice none 0 0, .slice none 0 0], .bool false])) w' := fun h w' hE => ⟨hE, by rw [h]⟩
  have hyes : ∀ x, findS l name = some x → ∀ a1 c1 a2 c2 a3 c3 w', Ext w w' → SetIn w (· < w.heap.size) x a1 a2 a3 → FndP l name w (.returned (.tuple #[.agg #[.string ⟨x.name.toArray⟩, .int .i64 x.kind, .slice a1 x.items.length c1, .slice a2 x.comms.length c2, .slice a3 x.paths.length c3], .bool true])) w' := fun x h a1 c1 a2 c2 a3 c3 w' hE hi => ⟨hE, by rw [h]; exact ⟨a1, c1, a2, c2, a3, c3, rfl, hi⟩⟩
  generalize FndP l name w = Post at *
  clear hfin
  replace hs := hide hs
  replace hno := hide hno
  replace hyes := hide hyes
  go_enter Tryz.func10, Tryz.ntmps10
  have R := Blk.new w 27 #[.string ⟨#[]⟩, .int .i64 0, .slice none 0 0, .slice none 0 0, .slice none 0 0]
  have E := (Ext.refl w).alloc (Obj.cells #[.string ⟨#[]⟩, .int .i64 0, .slice none 0 0, .slice none 0 0, .slice none 0 0] 27)
  generalize hW0 : w.alloc (Obj.cells #[.string ⟨#[]⟩, .int .i64 0, .slice none 0 0, .slice none 0 0, .slice none 0 0] 27) = W0 at R E
  generalize hg0 : w.heap.size = g0 at R
  have hgw : w.heap.size ≤ g0 := Nat.le_of_eq hg0
  replace R := hide R
  replace E := hide E
  replace hgw := hide hgw
  go_wp2_with fail
  clear hW0 hg0
  go_loopw [6] (fun i wr => ∃ k : Nat, k ≤ l.length ∧ i = .int .i64 k ∧ wr = W0 ∧ ∀ x ∈ l.take k, (x.name == name) = false) (fun i _ => l.length - (intOf i).toNat)
  case atStart => exact ⟨0, Nat.zero_le _, rfl, rfl, fun x hx => by simp at hx⟩
  case round =>
    obtain ⟨k, hk, rfl, rfl, ha⟩ := hrel
    by_cases hlt : k < l.length
    · obtain ⟨b, off, a1, c1, a2, c2, a3, c3, rfl, _, hin, hc⟩ := ESet.at hs.out k hlt
      have x0 : wr.cell? ⟨b, off + k * 5, none⟩ = some (.string ⟨l[k].name.toArray⟩) := E.out.cell (hc 0 _ rfl)
      have x1 := E.out.cell (hc 1 _ rfl)
      have x2 := E.out.cell (hc 2 _ rfl)
      have x3 := E.out.cell (hc 3 _ rfl)
      have x4 := E.out.cell (hc 4 _ rfl)
      clear hc
      have hf : (l[k].name == name) = true → findS l name = some l[k] := fun h => List.find?_eq_some_iff_getElem.2 ⟨h, k, hlt, rfl, fun j hj => by
        have := ha l[j] (List.mem_take_iff_getElem.2 ⟨j, by omega, rfl⟩)
        rw [this]; rfl⟩
      have hn : (l[k].name == name) = false → ∀ x ∈ l.take (k + 1), (x.name == name) = false := fun h x hx => by
        rw [List.take_succ_eq_append_getElem hlt, List.mem_append, List.mem_singleton] at hx
        rcases hx with hx | rfl
        · exact ha x hx
        · exact h
      have hy := fun h => hyes.out _ (hf h) a1 c1 a2 c2 a3 c3
      clear hf ha hyes
      generalize l[k] = x at *
      obtain ⟨nm, kd, items, comms, paths⟩ := x
      dsimp only [setCs] at *
      generalize items.length = n1 at *
      generalize comms.length = n2 at *
      generalize paths.length = n3 at *
      cases hnm : (nm == name) with
      | true =>
        replace hy := hy hnm
        have r0 : wr.cell? ⟨g0, 0, none⟩ = some (.string ⟨#[]⟩) := R.out.cell 0
        have r1 : wr.cell? ⟨g0, 1, none⟩ = some (.int .i64 0) := R.out.cell 1
        have r2 : wr.cell? ⟨g0, 2, none⟩ = some (.slice none 0 0) := R.out.cell 2
        have r3 : wr.cell? ⟨g0, 3, none⟩ = some (.slice none 0 0) := R.out.cell 3
        have r4 : wr.cell? ⟨g0, 4, none⟩ = some (.slice none 0 0) := R.out.cell 4
        have rf := fun i => R.out.frozen i
        have hZ := R.out.set5v (.string ⟨nm.toArray⟩) (.int .i64 kd) (.slice a1 n1 c1) (.slice a2 n2 c2) (.slice a3 n3 c3)
        have hEZ := E.out.set5v hgw.out (.string ⟨nm.toArray⟩) (.int .i64 kd) (.slice a1 n1 c1) (.slice a2 n2 c2) (.slice a3 n3 c3)
        clear hn
        replace hy := hide hy
        replace hZ := hide hZ
        replace hEZ := hide hEZ
        replace hin := hide hin
        go_wp2
        replace hZ := hZ.out
        replace hEZ := hEZ.out
        generalize (((((wr.setCell ⟨g0, 0, none⟩ (.string ⟨nm.toArray⟩)).setCell ⟨g0, 1, none⟩ (.int .i64 kd)).setCell ⟨g0, 2, none⟩ (.slice a1 n1 c1)).setCell ⟨g0, 3, none⟩ (.slice a2 n2 c2)).setCell ⟨g0, 4, none⟩ (.slice a3 n3 c3)) = W3 at hZ hEZ ⊢
        have z0 : W3.cell? ⟨g0, 0, none⟩ = some (.string ⟨nm.toArray⟩) := hZ.cell 0
        have z1 : W3.cell? ⟨g0, 1, none⟩ = some (.int .i64 kd) := hZ.cell 1
        have z2 : W3.cell? ⟨g0, 2, none⟩ = some (.slice a1 n1 c1) := hZ.cell 2
        have z3 : W3.cell? ⟨g0, 3, none⟩ = some (.slice a2 n2 c2) := hZ.cell 3
        have z4 : W3.cell? ⟨g0, 4, none⟩ = some (.slice a3 n3 c3) := hZ.cell 4
        exact bodyPost_ret (v := .tuple #[.agg #[.string ⟨nm.toArray⟩, .int .i64 kd, .slice a1 n1 c1, .slice a2 n2 c2, .slice a3 n3 c3], .bool true]) (by simp [results, Tryz.results10, go_sem, z0, z1, z2, z3, z4]) rfl (hy.out _ hEZ hin.out)
      | false =>
        replace hn := hide (hn hnm)
        clear hy hin
        go_wp2
        go_roundw
        case rel => exact ⟨k + 1, by omega, by go_num, by trivial, hn.out⟩
        case measure => simp [intOf]; omega
    · have hf : findS l name = none := List.find?_eq_none.2 fun x hx => by
        obtain rfl : k = l.length := by omega
        rw [List.take_length] at ha
        rw [ha x hx]
        decide
      have r0 : wr.cell? ⟨g0, 0, none⟩ = some (.string ⟨#[]⟩) := R.out.cell 0
      have r1 : wr.cell? ⟨g0, 1, none⟩ = some (.int .i64 0) := R.out.cell 1
      have r2 : wr.cell? ⟨g0, 2, none⟩ = some (.slice none 0 0) := R.out.cell 2
      have r3 : wr.cell? ⟨g0, 3, none⟩ = some (.slice none 0 0) := R.out.cell 3
      have r4 : wr.cell? ⟨g0, 4, none⟩ = some (.slice none 0 0) := R.out.cell 4
      have rf := fun i => R.out.frozen i
      have hy := hide (hno.out hf)
      clear ha hf
      have hZ := R.out.set5v (.string ⟨#[]⟩) (.int .i64 0) (.slice none 0 0) (.slice none 0 0) (.slice none 0 0)
      have hEZ := E.out.set5v hgw.out (.string ⟨#[]⟩) (.int .i64 0) (.slice none 0 0) (.slice none 0 0) (.slice none 0 0)
      replace hZ := hide hZ
      replace hEZ := hide hEZ
      go_wp2
      replace hZ := hZ.out
      replace hEZ := hEZ.out
      generalize (((((wr.setCell ⟨g0, 0, none⟩ (.string ⟨#[]⟩)).setCell ⟨g0, 1, none⟩ (.int .i64 0)).setCell ⟨g0, 2, none⟩ (.slice none 0 0)).setCell ⟨g0, 3, none⟩ (.slice none 0 0)).setCell ⟨g0, 4, none⟩ (.slice none 0 0)) = W3 at hZ hEZ ⊢
      have z0 : W3.cell? ⟨g0, 0, none⟩ = some (.string ⟨#[]⟩) := hZ.cell 0
      have z1 : W3.cell? ⟨g0, 1, none⟩ = some (.int .i64 0) := hZ.cell 1
      have z2 : W3.cell? ⟨g0, 2, none⟩ = some (.slice none 0 0) := hZ.cell 2
      have z3 : W3.cell? ⟨g0, 3, none⟩ = some (.slice none 0 0) := hZ.cell 3
      have z4 : W3.cell? ⟨g0, 4, none⟩ = some (.slice none 0 0) := hZ.cell 4
      exact bodyPost_ret (v := .tuple #[.agg #[.string ⟨#[]⟩, .int .i64 0, .slice none 0 0, .slice none 0 0, .slice none 0 0], .bool false]) (by simp [results, Tryz.results10, go_sem, z0, z1, z2, z3, z4]) rfl (hy.out _ hEZ)
end Go.Proofs.YtoghdmoldcjedaaGreatDoor
