/- Chapter 16, walks: polc.Compile. Chapter 16, walks: are two terms the same, by the document (heraldref16.SameTerm)? Chapter 16, walks: may a condition, an action be, by the document? Printed by genfb.py. Chapter 16, walks: may a term be, by the document (heraldref16.MayTerm)? Walks: may a set be, has it a community, by the document; sets.Comm. Chapter 16, walks: the document's Compile. Chapter 16, walks: the document's SameSet of any two sets. Chapter 16, walks: the document's SameProgram of two programs alike; the law's sameSets of two alike. Chapter 16, walks: a term in memory of its own (heraldref16.OwnTerm). Chapter 16, walks: a condition as a text, by the document. Printed by genff.py. Chapter 16, walks: an action as a text, by the document. Printed by genfg.py. Chapter 16, walks: a term's text, by the document (heraldref16.TermText). The law PolcTells, walked. -/
import Derived.Lib.SplitLaws
import Derived.Lib.ParseIntB
import Derived.Lib.ParseIntBCases
import Derived.Lib.ItoaNum
import Derived.Lib.Join
import Derived.WalkKit
import Derived.Below
import Derived.Outline
import Derived.LoopTactic
import Derived.Laws.OwnMore
import Derived.Deep.AppendLies
import Derived.Deep.Draws
import Derived.Lib.Hide
import Derived.BigQuiet
import Derived.Deep.QuietTactic
import Derived.WalkSpells
import Derived.WalkLawsBesides
import Derived.Deep.RegionHeld3
import Derived.Deep.DrawnRows
import Derived.Deep.RegionLaw
import Derived.Lib.ConvBytes
import Derived.Lib.Bytealg
import Derived.Lib.Small
import Derived.Test.YtljibkfbldjgdaaGreatDoorRows
import Derived.ProofKit
import Derived.Deep.Slices
import Derived.Shelf.GgClosure.StringsRunes
import Derived.Test.YtljibkfbldjgdaaGreatDoorProg
import Derived.Test.YtljibkfbldjgdaaGreatDoorShelf
import Derived.Test.YtljibkfbldjgdaaGreatDoorShelf2
import Derived.Lib.UnsafeStr
import Derived.Shelf.RegionOpenPlain
import Derived.Laws.StructEq
import Derived.Lib.QuietBelow
import Derived.Lib.ItoaMem
import Derived.Lib.ItoaLen
import Derived.Deep.DeepCutAuto
import Derived.Orders
import Derived.StillTail
import Derived.Defers
import Derived.Recover
import Derived.Maps.OwnSet
import Derived.Maps.Views
import Derived.Maps.Range
import Derived.DeepKeys5
import Derived.Deep.Cut
import Derived.Deep.MidRow
import Derived.Test.YtljibkfbldjgdaaGreatDoorPY01
import Derived.Test.YtljibkfbldjgdaaGreatDoorPY02
import Derived.Test.YtljibkfbldjgdaaGreatDoorPY03
import Derived.Test.YtljibkfbldjgdaaGreatDoorPY04
import Derived.Test.YtljibkfbldjgdaaGreatDoorPY05
import Derived.Test.YtljibkfbldjgdaaGreatDoorPY06
import Derived.Test.YtljibkfbldjgdaaGreatDoorPY07
import Derived.Test.YtljibkfbldjgdaaGreatDoorPY08
import Derived.Test.YtljibkfbldjgdaaGreatDoorPY09
namespace Go.Proofs.YtljibkfbldjgdaaGreatDoor
section
open Go.RowKit Go.Sort
set_option linter.unusedVariables false
theorem Blk.set2 {w : World} {g : Nat} {T : TypeId} {a b : Value} (h : Blk w g T #[a, b]) (u0 u1 : Value) : Blk ((w.setCell ⟨g, 0, none⟩ u0).setCell ⟨g, 1, none⟩ u1) g T #[u0, u1] := by
 simpa using (h.set_ 0 u0).set_ 1 u1
theorem OnlyAt.set2 {g : Nat} {w : World} (u0 u1 : Value) : OnlyAt g w ((w.setCell ⟨g, 0, none⟩ u0).setCell ⟨g, 1, none⟩ u1) := ((OnlyAt.refl g w).setCell 0 u0).setCell 1 u1
theorem insL_step (l : List TermS) {k : Nat} (h : k < l.length) : insL 0 (l.take (k + 1)) = insL 0 (l.take k) ++ ((l[k].conds.map fun c => ⟨1, c, zeroAc, ((insL 0 (l.take k)).length : Int) + (l[k].conds.length : Int) + (l[k].acts.length : Int), 0⟩) ++ l[k].acts.map fun a => ⟨2, zeroCo, a, 0, 0⟩) := by
 rw [List.take_succ_eq_append_getElem h, insL_snoc, Nat.zero_add]
 unfold insT
 simp only [Int.natCast_add]
theorem map_step {α β : Type} (f : α → β) {l : List α} {j : Nat} (h : j < l.length) : (l.take (j + 1)).map f = (l.take j).map f ++ [f l[j]] := by
 rw [List.take_succ_eq_append_getElem h, List.map_append]
 rfl
/-- What polc.Compile answers. -/
def CompP (p : PolS) (l : List StS) (w : World) (e : Ending) (w' : World) : Prop :=
 Ext w w' ∧ ((checkP p l ≠ 0 ∧ e = .returned (.tuple #[.agg #[.slice none 0 0, .slice none 0 0], .int .i64 (checkP p l)])) ∨
  (checkP p l = 0 ∧ ∃ v1 v2 ls m, e = .returned (.tuple #[.agg #[v1, v2], .int .i64 0]) ∧ w.heap.size ≤ m ∧ (∀ b, v1.ownBlock = some b → b < m) ∧ Own EIns 62 w' w.heap.size v1 (insP p) ∧ Own ESetB 67 w' m v2 ls ∧
   ls.map (·.1) = setsP p l ∧ ls.Pairwise fun x y => x.2.2 ≤ y.2.1))
theorem But.grown {g : Nat} {a b c : World} {row : Option Nat} (h : But g a b) (hg : b.grownBy c row) (hr : ∀ k, row = some k → a.heap.size ≤ k) : But g a c :=
 ⟨hg.os.trans h.os, hg.tape.trans h.tape, hg.output.trans h.output, Nat.le_trans h.size hg.size, fun x hx hxg => (hg.block x (Nat.lt_of_lt_of_le hx h.size) fun e => by have := hr x e.symm; omega).trans (h.block x hx hxg)⟩
theorem filter_step {α : Type} (f : α → Bool) {l : List α} {j : Nat} (h : j < l.length) : (l.take (j + 1)).filter f = (l.take j).filter f ++ if f l[j] = true then [l[j]] else [] := by
 rw [List.take_succ_eq_append_getElem h, List.filter_append]
 cases hf : f l[j] <;> simp [hf]
set_option maxRecDepth 20000 in
set_option maxHeartbeats 8000000 in
theorem PCompile_any (p : PolS) (a : Option Addr) (ca : Nat) (l : List StS) (b : Option Addr) (cb : Nat) (w : World) (hl : p.terms.length ≤ 16777216) (hm : l.length ≤ 16777216)
    (s1 : Sl ETermC w (· < w.heap.size) a p.terms) (s2 : Sl ESet w (· < w.heap.size) b l) :
    Calls Tryz.prog 25 #[.agg #[.string ⟨p.name.toArray⟩, .slice a p.terms.length ca, .bool p.els], .slice b l.length cb] w (CompP p l w) := by
  have mixed : Tryz.prog.follows Departure.mixedOrders = true := by kernel_rfl
  have qc := fun W (h : Ext w W) => PCheck_any p a ca l b cb W hl hm (s1.ext h) (s2.ext h)
  have hno : checkP p l ≠ 0 → ∀ w', Ext w w' → CompP p l w (.returned (.tuple #[.agg #[.slice none 0 0, .slice none 0 0], .int .i64 (checkP p l)])) w' := fun h w' hE => ⟨hE, .inl ⟨h, rfl⟩⟩
  have hyes : checkP p l = 0 → ∀ v1 v2 ls m w', Ext w w' → w.heap.size ≤ m → (∀ b, v1.ownBlock = some b → b < m) → Own EIns 62 w' w.heap.size v1 (insP p) → Own ESetB 67 w' m v2 ls → ls.map (·.1) = setsP p l → (ls.Pairwise fun x y => x.2.2 ≤ y.2.1) → CompP p l w (.returned (.tuple #[.agg #[v1, v2], .int .i64 0])) w' := fun h v1 v2 ls m w' hE h1 h2 h3 h4 h5 h6 => ⟨hE, .inr ⟨h, v1, v2, ls, m, rfl, h1, h2, h3, h4, h5, h6⟩⟩
  have qn := fun hb W (h : Ext w W) => PNeeds_any p a ca W hb (s1.ext h).weakT
  have hNl := needs_len (p := p)
  have hpb : checkP p l = 0 → PolB p := fun h => PolB.of (by
    cases hp : polOk p with
    | true => rfl
    | false => rw [checkP_bad hp] at h; cases h)
  generalize CompP p l w = Post at *
  unfold setsP at hyes
  generalize needsP p = N at *
  generalize checkP p l = r at *
  have S := (Blk.new w 35 #[.string ⟨p.name.toArray⟩, .slice a p.terms.length ca, .bool p.els]).alloc (Obj.cells #[.slice none 0 0, .slice none 0 0] 56)
  have R := Blk.new (w.alloc (Obj.cells #[.string ⟨p.name.toArray⟩, .slice a p.terms.length ca, .bool p.els] 35)) 56 #[.slice none 0 0, .slice none 0 0]
  have E := ((Ext.refl w).alloc (Obj.cells #[.string ⟨p.name.toArray⟩, .slice a p.terms.length ca, .bool p.els] 35)).alloc (Obj.cells #[.slice none 0 0, .slice none 0 0] 56)
  rw [show (w.alloc (Obj.cells #[.string ⟨p.name.toArray⟩, .slice a p.terms.length ca, .bool p.els] 35)).heap.size = w.heap.size + 1 by simp] at R
  generalize hW0 : (w.alloc (Obj.cells #[.string ⟨p.name.toArray⟩, .slice a p.terms.length ca, .bool p.els] 35)).alloc (Obj.cells #[.slice none 0 0, .slice none 0 0] 56) = W0 at S R E
  generalize hg0 : w.heap.size = g0 at S R
  replace qc := hide qc
  replace hno := hide hno
  replace hyes := hide hyes
  replace hpb := hide hpb
  replace s1 := hide s1
  replace s2 := hide s2
  replace S := hide S
  replace R := hide R
  replace E := hide E
  replace qn := hide qn
  replace hNl := hide hNl
  go_enter Tryz.func25, Tryz.ntmps25
  have S_0 : W0.cell? ⟨g0, 0, none⟩ = some (.string ⟨p.name.toArray⟩) := S.out.cell 0
  have S_1 : W0.cell? ⟨g0, 1, none⟩ = some (.slice a p.terms.length ca) := S.out.cell 1
  have S_2 : W0.cell? ⟨g0, 2, none⟩ = some (.bool p.els) := S.out.cell 2
  go_wp2_with fail
  (with_reducible refine (qc.out _ E.out).mono ?_)
  rintro e W1 ⟨rfl, he⟩
  clear S_0 S_1 S_2
  replace E := hide (E.out.trans he)
  replace S := hide (S.out.ext he)
  replace R := hide (R.out.ext he)
  have hgw : w.heap.size ≤ g0 + 1 := by omega
  clear he qc hW0
  generalize hgr : g0 + 1 = gr at R hgw ⊢
  replace hgw := hide hgw
  by_cases hr : r = 0
  case neg =>
    have hno' := hno.out hr
    have d1 : (r == 0) = false := beq_eq_false_iff_ne.2 hr
    have d2 : (r != 0) = true := by simp [bne, d1]
    have hZ := R.out.set2 (.slice none 0 0) (.slice none 0 0)
    have hEZ := (OnlyAt.set2 (g := gr) (w := W1) (.slice none 0 0) (.slice none 0 0)).ext E.out hgw.out
    have r0 : W1.cell? ⟨gr, 0, none⟩ = some (.slice none 0 0) := R.out.cell 0
    have r1 : W1.cell? ⟨gr, 1, none⟩ = some (.slice none 0 0) := R.out.cell 1
    have rf := fun i => R.out.frozen i
    clear hno hyes hpb hr R S E s1 s2 qn hNl
    replace hZ := hide hZ
    replace hEZ := hide hEZ
    replace hno' := hide hno'
    go_wp2
    replace hZ := hZ.out
    replace hEZ := hEZ.out
    generalize (W1.setCell ⟨gr, 0, none⟩ (.slice none 0 0)).setCell ⟨gr, 1, none⟩ (.slice none 0 0) = W3 at hZ hEZ ⊢
    have z0 : W3.cell? ⟨gr, 0, none⟩ = some (.slice none 0 0) := hZ.cell 0
    have z1 : W3.cell? ⟨gr, 1, none⟩ = some (.slice none 0 0) := hZ.cell 1
    exact bodyPost_ret (v := .tuple #[.agg #[.slice none 0 0, .slice none 0 0], .int .i64 r]) (by simp [results, Tryz.results25, go_sem, z0, z1]) rfl (hno'.out _ hEZ)
  subst hr
  have hyes' := hyes.out rfl
  have qn' := qn.out (hpb.out rfl)
  have hN8 := hNl.out (hpb.out rfl)
  obtain ⟨hbn, hbc⟩ := hpb.out rfl
  clear hno hyes hpb qn hNl
  replace hyes' := hide hyes'
  replace hbc := hide hbc
  replace qn' := hide qn'
  replace hN8 := hide hN8
  go_upto_region 5 with fail
  have O := Blk.new W1 56 #[.slice none 0 0, .slice none 0 0]
  have F := (Ext.refl W1).alloc (Obj.cells #[.slice none 0 0, .slice none 0 0] 56)
  obtain ⟨g7, hg7e⟩ : ∃ g7, W1.heap.size = g7 := ⟨_, rfl⟩
  have hg7 : W1.heap.size ≤ g7 := Nat.le_of_eq hg7e
  have hg7l : W1.heap.size < (W1.alloc (Obj.cells #[.slice none 0 0, .slice none 0 0] 56)).heap.size := by simp
  generalize hW2 : W1.alloc (Obj.cells #[.slice none 0 0, .slice none 0 0] 56) = W2 at O F hg7l ⊢
  rw [hg7e] at O hg7l ⊢
  clear hW2 hg7e
  replace s1 := hide (s1.out.weakT)
  have S2 := hide (S.out.ext F)
  replace O := hide O
  replace F := hide F
  replace hg7 := hide hg7
  replace hg7l := hide hg7l
  unfold insP at hyes'
  generalize hT : p.terms = T at *
  generalize hels : p.els = els at *
  have S2_0 : W2.cell? ⟨g0, 0, none⟩ = some (.string ⟨p.name.toArray⟩) := S2.out.cell 0
  have S2_1 : W2.cell? ⟨g0, 1, none⟩ = some (.slice a T.length ca) := S2.out.cell 1
  have S2_2 : W2.cell? ⟨g0, 2, none⟩ = some (.bool els) := S2.out.cell 2
  go_wp2_with fail
  clear S2_0 S2_1 S2_2
  clear S2
  have E0 := E
  clear E
  go_loopw [30] (fun i wr => ∃ k : Nat, ∃ v : Value, k ≤ T.length ∧ i = .int .i64 k ∧ Blk wr g7 56 #[v, .slice none 0 0] ∧ Own EIns 62 wr (g7 + 1) v (insL 0 (T.take k)) ∧ (insL 0 (T.take k)).length ≤ 128 * k ∧ Ext W1 wr) (fun i _ => T.length - (intOf i).toNat)
  case atStart => exact ⟨0, _, Nat.zero_le _, rfl, O.out, Own.nil, Nat.le_refl _, F.out⟩
  case round =>
    clear O F
    obtain ⟨k, vi, hk, rfl, O, hown, hln, F⟩ := hrel
    by_cases hlt : k < T.length
    · obtain ⟨b1, o1, x1, p1, x2, p2, ha, _, i1, i2, n3, r1, n4, r2⟩ := ETerm.at (s1.out.ext E0.out) k hlt
      subst ha
      obtain ⟨hc1, hc2⟩ := hbc.out _ (List.getElem_mem hlt)
      have hst := insL_step T hlt
      generalize T[k] = t at *
      generalize hL : insL 0 (T.take k) = L at *
      replace i1 := F.cell i1
      replace i2 := F.cell i2
      have Tb := Blk.new wr 25 #[.slice x1 t.conds.length p1, .slice x2 t.acts.length p2]
      have ET := (Ext.refl wr).alloc (Obj.cells #[.slice x1 t.conds.length p1, .slice x2 t.acts.length p2] 25)
      have hgt : g7 < wr.heap.size := O.lt
      have hlb0 : ∀ q, vi.ownBlock = some q → q ≠ wr.heap.size := fun q hq => by have := (hown.lt q hq).2; omega
      replace hown := hown.ext ET
      replace O := O.ext ET
      replace F := F.trans ET
      clear ET n3 n4 hL
      replace Tb := hide Tb
      replace hown := hide hown
      replace r1 := hide r1
      replace r2 := hide r2
      replace F := hide F
      replace O := hide O
      replace hst := hide hst
      replace hln := hide hln
      go_upto_region 8 with fail
      generalize wr.alloc (Obj.cells #[.slice x1 t.conds.length p1, .slice x2 t.acts.length p2] 25) = W3 at Tb hown F O ⊢
      generalize hbt : wr.heap.size = bt at Tb hgt hlb0 ⊢
      clear i1 i2 hbt
      obtain ⟨va, vc, rfl⟩ := hown.out.form
      have hlL := hln.out
      have m1 : IntKind.i64.wrap ((L.length : Int) + (t.conds.length : Int)) = (L.length : Int) + (t.conds.length : Int) := by
        rw [IntKind.wrap_i64]; omega
      have m2 : IntKind.i64.wrap ((L.length : Int) + (t.conds.length : Int) + (t.acts.length : Int)) = (L.length : Int) + (t.conds.length : Int) + (t.acts.length : Int) := by
        rw [IntKind.wrap_i64]; omega
      have Tb_0 : W3.cell? ⟨bt, 0, none⟩ = some (.slice x1 t.conds.length p1) := Tb.out.cell 0
      have Tb_1 : W3.cell? ⟨bt, 1, none⟩ = some (.slice x2 t.acts.length p2) := Tb.out.cell 1
      have O_0 : W3.cell? ⟨g7, 0, none⟩ = some (.slice va L.length vc) := O.out.cell 0
      have O_1 : W3.cell? ⟨g7, 1, none⟩ = some (.slice none 0 0) := O.out.cell 1
      go_wp2_with fail
      clear Tb_0 Tb_1 O_0 O_1
      clear m1 m2 hlL
      have hbg : bt ≠ g7 := by omega
      replace hbg := hide hbg
      have hlb : ∀ q, (Value.slice va L.length vc).ownBlock = some q → q ≠ bt := fun q hq => hlb0 q hq
      generalize hTO : (L.length : Int) + (t.conds.length : Int) + (t.acts.length : Int) = TO at *
      have hTi : i64 TO := by subst hTO; exact ⟨by omega, by have := hln.out; omega⟩
      replace O := hide O
      replace hown := hide hown
      replace F := hide F
      replace hlb := hide hlb
      replace hTi := hide hTi
      replace Tb := hide Tb
      clear hTO
      go_loopw [48] (fun i wq => ∃ j : Nat, ∃ v : Value, j ≤ t.conds.length ∧ i = .int .i64 j ∧ Blk wq g7 56 #[v, .slice none 0 0] ∧ Own EIns 62 wq (g7 + 1) v (L ++ (t.conds.take j).map fun c => ⟨1, c, zeroAc, TO, 0⟩) ∧ Ext W1 wq ∧ Blk wq bt 25 #[.slice x1 t.conds.length p1, .slice x2 t.acts.length p2] ∧ ∀ q, v.ownBlock = some q → q ≠ bt) (fun i _ => t.conds.length - (intOf i).toNat)
      case atStart => exact ⟨0, _, Nat.zero_le _, rfl, O.out.out, by simpa using hown.out.out, F.out, Tb.out.out, hlb.out⟩
      case round =>
        rename World => wq
        clear hown hlb Tb F O
        obtain ⟨j, vj, hj, rfl, O, hown, F, Tb, hlb⟩ := hrel
        by_cases hlj : j < t.conds.length
        · obtain ⟨bc, oc, rfl, _, hin, c0, c1, c2, c3⟩ := ECond.atC (r1.out.ext F) j hlj
          have hms := map_step (fun c : CondS => (⟨1, c, zeroAc, TO, 0⟩ : InsS)) hlj
          have hll : (L ++ (t.conds.take j).map fun c => (⟨1, c, zeroAc, TO, 0⟩ : InsS)).length ≤ 128 * k + 64 := by
            rw [List.length_append, List.length_map, List.length_take]
            have := hln.out
            omega
          generalize t.conds[j] = cc at *
          have hER : ∀ W S, EIns.R W S ⟨1, cc, zeroAc, TO, 0⟩ (insCs ⟨1, cc, zeroAc, TO, 0⟩) := fun W S => EIns.of ⟨(⟨by decide, by decide⟩ : i64 1), hin, zeroAc_in, hTi.out, (⟨by decide, by decide⟩ : i64 0)⟩
          obtain ⟨ck, cn, cm, cv⟩ := cc
          dsimp only [insCs, zeroAc] at c0 c1 c2 c3 hER
          have hgq : g7 < wq.heap.size := O.lt
          have hbq : bt < wq.heap.size := Tb.lt
          generalize hM : L ++ (t.conds.take j).map (fun c => (⟨1, c, zeroAc, TO, 0⟩ : InsS)) = M at *
          have hnd : L ++ (t.conds.take (j + 1)).map (fun c => (⟨1, c, zeroAc, TO, 0⟩ : InsS)) = M ++ [⟨1, ⟨ck, cn, cm, cv⟩, ⟨0, [], 0, []⟩, TO, 0⟩] := by rw [hms, ← hM, List.append_assoc]; rfl
          obtain ⟨va, vc, rfl⟩ := hown.form
          have hox := (hown.alloc (Obj.cells #[.int .i64 ck, .bool cn, .string ⟨cm.toArray⟩, .int .i64 cv] 48)).alloc (Obj.cells #[.int .i64 1, .int .i64 ck, .bool cn, .string ⟨cm.toArray⟩, .int .i64 cv, .int .i64 0, .string ⟨#[]⟩, .int .u32 0, .string ⟨#[]⟩, .int .i64 TO, .int .i64 0] 62)
          have F5 := (F.alloc (Obj.cells #[.int .i64 ck, .bool cn, .string ⟨cm.toArray⟩, .int .i64 cv] 48)).alloc (Obj.cells #[.int .i64 1, .int .i64 ck, .bool cn, .string ⟨cm.toArray⟩, .int .i64 cv, .int .i64 0, .string ⟨#[]⟩, .int .u32 0, .string ⟨#[]⟩, .int .i64 TO, .int .i64 0] 62)
          have O4 := O.alloc (Obj.cells #[.int .i64 ck, .bool cn, .string ⟨cm.toArray⟩, .int .i64 cv] 48)
          have O5 := O4.alloc (Obj.cells #[.int .i64 1, .int .i64 ck, .bool cn, .string ⟨cm.toArray⟩, .int .i64 cv, .int .i64 0, .string ⟨#[]⟩, .int .u32 0, .string ⟨#[]⟩, .int .i64 TO, .int .i64 0] 62)
          have T5 := (Tb.alloc (Obj.cells #[.int .i64 ck, .bool cn, .string ⟨cm.toArray⟩, .int .i64 cv] 48)).alloc (Obj.cells #[.int .i64 1, .int .i64 ck, .bool cn, .string ⟨cm.toArray⟩, .int .i64 cv, .int .i64 0, .string ⟨#[]⟩, .int .u32 0, .string ⟨#[]⟩, .int .i64 TO, .int .i64 0] 62)
          have hcell := cells_new (wq.alloc (Obj.cells #[.int .i64 ck, .bool cn, .string ⟨cm.toArray⟩, .int .i64 cv] 48)) #[.int .i64 1, .int .i64 ck, .bool cn, .string ⟨cm.toArray⟩, .int .i64 cv, .int .i64 0, .string ⟨#[]⟩, .int .u32 0, .string ⟨#[]⟩, .int .i64 TO, .int .i64 0] 62
          rw [show (wq.alloc (Obj.cells #[.int .i64 ck, .bool cn, .string ⟨cm.toArray⟩, .int .i64 cv] 48)).heap.size = wq.heap.size + 1 by simp] at hcell
          replace hcell : ∀ (j : Nat) (u : Value), ([.int .i64 1, .int .i64 ck, .bool cn, .string ⟨cm.toArray⟩, .int .i64 cv, .int .i64 0, .string ⟨#[]⟩, .int .u32 0, .string ⟨#[]⟩, .int .i64 TO, .int .i64 0] : List Value)[j]? = some u → _ := hcell
          have hW5 : g7 + 1 ≤ ((wq.alloc (Obj.cells #[.int .i64 ck, .bool cn, .string ⟨cm.toArray⟩, .int .i64 cv] 48)).alloc (Obj.cells #[.int .i64 1, .int .i64 ck, .bool cn, .string ⟨cm.toArray⟩, .int .i64 cv, .int .i64 0, .string ⟨#[]⟩, .int .u32 0, .string ⟨#[]⟩, .int .i64 TO, .int .i64 0] 62)).heap.size := by simp; omega
          have hb5 : bt < ((wq.alloc (Obj.cells #[.int .i64 ck, .bool cn, .string ⟨cm.toArray⟩, .int .i64 cv] 48)).alloc (Obj.cells #[.int .i64 1, .int .i64 ck, .bool cn, .string ⟨cm.toArray⟩, .int .i64 cv, .int .i64 0, .string ⟨#[]⟩, .int .u32 0, .string ⟨#[]⟩, .int .i64 TO, .int .i64 0] 62)).heap.size := by simp; omega
          have o0 : (wq.alloc (Obj.cells #[.int .i64 ck, .bool cn, .string ⟨cm.toArray⟩, .int .i64 cv] 48)).cell? ⟨g7, 0, none⟩ = some (.slice va M.length vc) := O4.cell 0
          clear hown hM hms hin F Tb O O4 hgq hbq
          replace hox := hide hox
          replace F5 := hide F5
          replace T5 := hide T5
          replace O5 := hide O5
          replace hcell := hide hcell
          replace hW5 := hide hW5
          replace hb5 := hide hb5
          replace hER := hide hER
          replace hnd := hide hnd
          replace hlb := hide hlb
          go_wp2_with (
            at_builtin
            go_must (refine wpList_push (E := EIns) rfl _ _ _ rfl okIns (by decide) (by decide) rfl hox.out (by omega) hW5.out rfl (hER.out _ _) hcell.out ?_)
            intro v' w5 hown1 hg5 hat5
            obtain ⟨va1, vc1, hv1⟩ := hown1.form
            rw [List.length_append, List.length_singleton] at hv1
            subst hv1
            have hng : some g7 ≠ (Value.slice va M.length vc).ownBlock := fun h => by have := (hox.out.lt g7 h.symm).1; omega
            have O6 := O5.out.grown hg5 hng
            have o6 := O6.cell 0
            have f6 := fun i => O6.frozen i
            replace O6 := hide O6
            replace hown1 := hide hown1)
          clear c0 c1 c2 c3 o0 hcell hER
          have hlb2 : ∀ q, (Value.slice va1 (M.length + 1) vc1).ownBlock = some q → q ≠ bt := fun q hq => by
            rcases hat5 with h | h
            · exact hlb.out q (h ▸ hq)
            · rw [h] at hq
              injection hq with hq
              have := hb5.out
              omega
          have F6 := (F5.out.push (fun q hq => by have := (hox.out.lt q hq).1; have := hg7.out; omega) hg5).setCell (p := ⟨g7, 0, none⟩) hg7.out (.slice va1 (M.length + 1) vc1)
          have T6 := (T5.out.grown hg5 (fun h => hlb.out bt h.symm rfl)).far (p := ⟨g7, 0, none⟩) (fun h => hbg.out h) (.slice va1 (M.length + 1) vc1)
          have O7 := O6.out.set_ 0 (.slice va1 (M.length + 1) vc1)
          have H6 := hown1.out.asideK (p := ⟨g7, 0, none⟩) (show g7 < g7 + 1 by omega) (.slice va1 (M.length + 1) vc1)
          go_roundw
          case rel => exact ⟨j + 1, _, by omega, by go_num, by simpa using O7, by rw [hnd.out]; exact H6, F6, T6, hlb2⟩
          case measure => simp [intOf]; omega
        · obtain rfl : j = t.conds.length := by omega
          rw [List.take_length] at hown
          have hll : (L ++ t.conds.map fun c => (⟨1, c, zeroAc, TO, 0⟩ : InsS)).length ≤ 128 * k + 64 := by
            rw [List.length_append, List.length_map]
            have := hln.out
            omega
          have hst2 := hst.out
          rw [← List.append_assoc] at hst2
          clear hst
          generalize L ++ t.conds.map (fun c => (⟨1, c, zeroAc, TO, 0⟩ : InsS)) = N at *
          clear hlj hj hlb hTi
          replace hown := hide hown
          replace F := hide F
          replace Tb := hide Tb
          replace O := hide O
          replace hll := hide hll
          replace hst2 := hide hst2
          have Tb_0 : wq.cell? ⟨bt, 0, none⟩ = some (.slice x1 t.conds.length p1) := Tb.out.cell 0
          have Tb_1 : wq.cell? ⟨bt, 1, none⟩ = some (.slice x2 t.acts.length p2) := Tb.out.cell 1
          go_wp2_with fail
          clear Tb_0 Tb_1
          clear Tb
          go_loopw [64] (fun i wx => ∃ j : Nat, ∃ v : Value, j ≤ t.acts.length ∧ i = .int .i64 j ∧ Blk wx g7 56 #[v, .slice none 0 0] ∧ Own EIns 62 wx (g7 + 1) v (N ++ (t.acts.take j).map fun c => ⟨2, zeroCo, c, 0, 0⟩) ∧ Ext W1 wx) (fun i _ => t.acts.length - (intOf i).toNat)
          case atStart => exact ⟨0, _, Nat.zero_le _, rfl, O.out, by simpa using hown.out, F.out⟩
          case round =>
            rename World => wx
            clear hown F O
            obtain ⟨j, vk, hj, rfl, O, hown, F⟩ := hrel
            by_cases hlj : j < t.acts.length
            · obtain ⟨bc, oc, rfl, _, hin, c0, c1, c2, c3⟩ := EAct.atC (r2.out.ext F) j hlj
              have hms := map_step (fun c : ActS => (⟨2, zeroCo, c, 0, 0⟩ : InsS)) hlj
              have hll2 : (N ++ (t.acts.take j).map fun c => (⟨2, zeroCo, c, 0, 0⟩ : InsS)).length ≤ 128 * k + 128 := by
                rw [List.length_append, List.length_map, List.length_take]
                have := hll.out
                omega
              generalize t.acts[j] = cc at *
              have hER : ∀ W S, EIns.R W S ⟨2, zeroCo, cc, 0, 0⟩ (insCs ⟨2, zeroCo, cc, 0, 0⟩) := fun W S => EIns.of ⟨(⟨by decide, by decide⟩ : i64 2), zeroCo_in, hin, (⟨by decide, by decide⟩ : i64 0), (⟨by decide, by decide⟩ : i64 0)⟩
              obtain ⟨ck, cm, cn, cv⟩ := cc
              dsimp only [insCs, zeroCo] at c0 c1 c2 c3 hER
              have hgq : g7 < wx.heap.size := O.lt
              generalize hM : N ++ (t.acts.take j).map (fun c => (⟨2, zeroCo, c, 0, 0⟩ : InsS)) = M at *
              have hnd : N ++ (t.acts.take (j + 1)).map (fun c => (⟨2, zeroCo, c, 0, 0⟩ : InsS)) = M ++ [⟨2, ⟨0, false, [], 0⟩, ⟨ck, cm, cn, cv⟩, 0, 0⟩] := by rw [hms, ← hM, List.append_assoc]; rfl
              obtain ⟨va, vc, rfl⟩ := hown.form
              have hox := (hown.alloc (Obj.cells #[.int .i64 ck, .string ⟨cm.toArray⟩, .int .u32 (cn.toNat : Int), .string ⟨cv.toArray⟩] 51)).alloc (Obj.cells #[.int .i64 2, .int .i64 0, .bool false, .string ⟨#[]⟩, .int .i64 0, .int .i64 ck, .string ⟨cm.toArray⟩, .int .u32 (cn.toNat : Int), .string ⟨cv.toArray⟩, .int .i64 0, .int .i64 0] 62)
              have F5 := (F.alloc (Obj.cells #[.int .i64 ck, .string ⟨cm.toArray⟩, .int .u32 (cn.toNat : Int), .string ⟨cv.toArray⟩] 51)).alloc (Obj.cells #[.int .i64 2, .int .i64 0, .bool false, .string ⟨#[]⟩, .int .i64 0, .int .i64 ck, .string ⟨cm.toArray⟩, .int .u32 (cn.toNat : Int), .string ⟨cv.toArray⟩, .int .i64 0, .int .i64 0] 62)
              have O4 := O.alloc (Obj.cells #[.int .i64 ck, .string ⟨cm.toArray⟩, .int .u32 (cn.toNat : Int), .string ⟨cv.toArray⟩] 51)
              have O5 := O4.alloc (Obj.cells #[.int .i64 2, .int .i64 0, .bool false, .string ⟨#[]⟩, .int .i64 0, .int .i64 ck, .string ⟨cm.toArray⟩, .int .u32 (cn.toNat : Int), .string ⟨cv.toArray⟩, .int .i64 0, .int .i64 0] 62)
              have hcell := cells_new (wx.alloc (Obj.cells #[.int .i64 ck, .string ⟨cm.toArray⟩, .int .u32 (cn.toNat : Int), .string ⟨cv.toArray⟩] 51)) #[.int .i64 2, .int .i64 0, .bool false, .string ⟨#[]⟩, .int .i64 0, .int .i64 ck, .string ⟨cm.toArray⟩, .int .u32 (cn.toNat : Int), .string ⟨cv.toArray⟩, .int .i64 0, .int .i64 0] 62
              rw [show (wx.alloc (Obj.cells #[.int .i64 ck, .string ⟨cm.toArray⟩, .int .u32 (cn.toNat : Int), .string ⟨cv.toArray⟩] 51)).heap.size = wx.heap.size + 1 by simp] at hcell
              replace hcell : ∀ (j : Nat) (u : Value), ([.int .i64 2, .int .i64 0, .bool false, .string ⟨#[]⟩, .int .i64 0, .int .i64 ck, .string ⟨cm.toArray⟩, .int .u32 (cn.toNat : Int), .string ⟨cv.toArray⟩, .int .i64 0, .int .i64 0] : List Value)[j]? = some u → _ := hcell
              have hW5 : g7 + 1 ≤ ((wx.alloc (Obj.cells #[.int .i64 ck, .string ⟨cm.toArray⟩, .int .u32 (cn.toNat : Int), .string ⟨cv.toArray⟩] 51)).alloc (Obj.cells #[.int .i64 2, .int .i64 0, .bool false, .string ⟨#[]⟩, .int .i64 0, .int .i64 ck, .string ⟨cm.toArray⟩, .int .u32 (cn.toNat : Int), .string ⟨cv.toArray⟩, .int .i64 0, .int .i64 0] 62)).heap.size := by simp; omega
              have o0 : (wx.alloc (Obj.cells #[.int .i64 ck, .string ⟨cm.toArray⟩, .int .u32 (cn.toNat : Int), .string ⟨cv.toArray⟩] 51)).cell? ⟨g7, 0, none⟩ = some (.slice va M.length vc) := O4.cell 0
              clear hown hM hms hin F O O4 hgq
              replace hox := hide hox
              replace F5 := hide F5
              replace O5 := hide O5
              replace hcell := hide hcell
              replace hW5 := hide hW5
              replace hER := hide hER
              replace hnd := hide hnd
              go_wp2_with (
                at_builtin
                go_must (refine wpList_push (E := EIns) rfl _ _ _ rfl okIns (by decide) (by decide) rfl hox.out (by omega) hW5.out rfl (hER.out _ _) hcell.out ?_)
                intro v' w5 hown1 hg5 hat5
                obtain ⟨va1, vc1, hv1⟩ := hown1.form
                rw [List.length_append, List.length_singleton] at hv1
                subst hv1
                have hng : some g7 ≠ (Value.slice va M.length vc).ownBlock := fun h => by have := (hox.out.lt g7 h.symm).1; omega
                have O6 := O5.out.grown hg5 hng
                have o6 := O6.cell 0
                have f6 := fun i => O6.frozen i
                replace O6 := hide O6
                replace hown1 := hide hown1)
              clear c0 c1 c2 c3 o0 hcell hER
              have F6 := (F5.out.push (fun q hq => by have := (hox.out.lt q hq).1; have := hg7.out; omega) hg5).setCell (p := ⟨g7, 0, none⟩) hg7.out (.slice va1 (M.length + 1) vc1)
              have O7 := O6.out.set_ 0 (.slice va1 (M.length + 1) vc1)
              have H6 := hown1.out.asideK (p := ⟨g7, 0, none⟩) (show g7 < g7 + 1 by omega) (.slice va1 (M.length + 1) vc1)
              go_roundw
              case rel => exact ⟨j + 1, _, by omega, by go_num, by simpa using O7, by rw [hnd.out]; exact H6, F6⟩
              case measure => simp [intOf]; omega
            · obtain rfl : j = t.acts.length := by omega
              rw [List.take_length] at hown
              have hll2 : (N ++ t.acts.map fun c => (⟨2, zeroCo, c, 0, 0⟩ : InsS)).length ≤ 128 * (k + 1) := by
                rw [List.length_append, List.length_map]
                have := hll.out
                omega
              rw [← hst2.out] at hll2 hown
              clear hlj hj hst2
              replace hown := hide hown
              replace F := hide F
              replace hll2 := hide hll2
              replace O := hide O
              go_wp2_with fail
              go_roundw
              case rel => exact ⟨k + 1, _, by omega, by go_num, O.out, hown.out, hll2.out, F.out⟩
              case measure => simp [intOf]; omega
    · obtain rfl : k = T.length := by omega
      rw [List.take_length] at hown hln
      generalize insL 0 T = L at *
      have hlL : L.length ≤ 8192 := by omega
      obtain ⟨va, vc, rfl⟩ := hown.form
      have hgr7 : g7 < wr.heap.size := O.lt
      have X := Blk.new wr 62 #[.int .i64 3, .int .i64 0, .bool false, .string ⟨#[]⟩, .int .i64 0, .int .i64 0, .string ⟨#[]⟩, .int .u32 0, .string ⟨#[]⟩, .int .i64 0, .int .i64 0]
      have S5 := (S.out.ext F).alloc (Obj.cells #[.int .i64 3, .int .i64 0, .bool false, .string ⟨#[]⟩, .int .i64 0, .int .i64 0, .string ⟨#[]⟩, .int .u32 0, .string ⟨#[]⟩, .int .i64 0, .int .i64 0] 62)
      have hX : Ext wr (wr.alloc (Obj.cells #[.int .i64 3, .int .i64 0, .bool false, .string ⟨#[]⟩, .int .i64 0, .int .i64 0, .string ⟨#[]⟩, .int .u32 0, .string ⟨#[]⟩, .int .i64 0, .int .i64 0] 62)) := (Ext.refl _).alloc _
      clear hlt hk hln hbc s1
      replace X := hide X
      replace hX := hide hX
      replace O := hide O
      replace hown := hide hown
      replace F := hide F
      replace S5 := hide S5
      go_upto_region 21 with fail
      generalize wr.alloc (Obj.cells #[.int .i64 3, .int .i64 0, .bool false, .string ⟨#[]⟩, .int .i64 0, .int .i64 0, .string ⟨#[]⟩, .int .u32 0, .string ⟨#[]⟩, .int .i64 0, .int .i64 0] 62) = W5 at X hX S5 ⊢
      generalize hbX : wr.heap.size = bX at X hgr7 ⊢
      have hXlt : wr.heap.size ≤ bX := Nat.le_of_eq hbX
      clear hbX
      have S5_0 : W5.cell? ⟨g0, 0, none⟩ = some (.string ⟨p.name.toArray⟩) := S5.out.cell 0
      have S5_1 : W5.cell? ⟨g0, 1, none⟩ = some (.slice a T.length ca) := S5.out.cell 1
      have S5_2 : W5.cell? ⟨g0, 2, none⟩ = some (.bool els) := S5.out.cell 2
      go_upto_if 79 with fail
      clear S5_0 S5_1 S5_2
      clear S5
      replace hXlt := hide hXlt
      replace hgr7 := hide hgr7
      go_cut [80] from 80 to 80 (fun _ wx => ∃ nv : Int, nv = (if els = true then 1 else 0) ∧ Blk wx bX 62 #[.int .i64 3, .int .i64 0, .bool false, .string ⟨#[]⟩, .int .i64 0, .int .i64 0, .string ⟨#[]⟩, .int .u32 0, .string ⟨#[]⟩, .int .i64 0, .int .i64 nv] ∧ OnlyAt bX W5 wx)
      case first =>
        have g7n : ∀ n : Nat, n < 11 → True := fun _ _ => trivial
        clear g7n
        have x4 : W5.cell? ⟨bX, 10, none⟩ = some (.int .i64 0) := X.out.cell 10
        have xf := fun i => X.out.frozen i
        cases els with
        | true =>
          go_wp2_with fail
          go_meet
          case rel => exact ⟨1, rfl, by simpa using X.out.set_ 10 (.int .i64 1), (OnlyAt.refl bX W5).setCell 10 (.int .i64 1)⟩
        | false =>
          go_wp2_with fail
          go_meet
          case rel => exact ⟨0, rfl, X.out, OnlyAt.refl bX W5⟩
      case rest =>
        obtain ⟨nv, hnv, X2, hon⟩ := hcut
        have hg8 := hgr7.out
        have hXl := hXlt.out
        have F2 : Ext W1 wc := hon.ext (F.out.trans hX.out) (by have := F.out.size; omega)
        have O2 : Blk wc g7 56 #[.slice va L.length vc, .slice none 0 0] := (hon.block g7 (by omega)).trans (O.out.ext hX.out)
        have H2 : Own EIns 62 wc (g7 + 1) (.slice va L.length vc) L := own_kept (fun h => h) (hown.out.ext hX.out) (row := some bX) ⟨hon.os, hon.tape, hon.output, Nat.le_of_eq hon.size.symm, fun k hk hne => hon.block k (fun e => hne (by rw [e]))⟩ (.inr fun e => by have := (hown.out.lt bX e).2; omega)
        clear hon X hX hown O F hgr7 hXlt hXl hg8
        have hER : ∀ W S, EIns.R W S ⟨3, zeroCo, zeroAc, 0, nv⟩ (insCs ⟨3, zeroCo, zeroAc, 0, nv⟩) := fun W S => EIns.of ⟨(⟨by decide, by decide⟩ : i64 3), zeroCo_in, zeroAc_in, (⟨by decide, by decide⟩ : i64 0), by
          subst hnv
          by_cases h : els = true
          · rw [if_pos h]; exact (⟨by decide, by decide⟩ : i64 1)
          · rw [if_neg h]; exact (⟨by decide, by decide⟩ : i64 0)⟩
        dsimp only [insCs, zeroCo, zeroAc] at hER
        rw [← hnv] at hyes'
        clear hnv
        have hox := H2.alloc (Obj.cells #[.int .i64 3, .int .i64 0, .bool false, .string ⟨#[]⟩, .int .i64 0, .int .i64 0, .string ⟨#[]⟩, .int .u32 0, .string ⟨#[]⟩, .int .i64 0, .int .i64 nv] 62)
        have F3 := F2.alloc (Obj.cells #[.int .i64 3, .int .i64 0, .bool false, .string ⟨#[]⟩, .int .i64 0, .int .i64 0, .string ⟨#[]⟩, .int .u32 0, .string ⟨#[]⟩, .int .i64 0, .int .i64 nv] 62)
        have O3 := O2.alloc (Obj.cells #[.int .i64 3, .int .i64 0, .bool false, .string ⟨#[]⟩, .int .i64 0, .int .i64 0, .string ⟨#[]⟩, .int .u32 0, .string ⟨#[]⟩, .int .i64 0, .int .i64 nv] 62)
        have S3 := (S.out.ext F2).alloc (Obj.cells #[.int .i64 3, .int .i64 0, .bool false, .string ⟨#[]⟩, .int .i64 0, .int .i64 0, .string ⟨#[]⟩, .int .u32 0, .string ⟨#[]⟩, .int .i64 0, .int .i64 nv] 62)
        have hcell := cells_new wc #[.int .i64 3, .int .i64 0, .bool false, .string ⟨#[]⟩, .int .i64 0, .int .i64 0, .string ⟨#[]⟩, .int .u32 0, .string ⟨#[]⟩, .int .i64 0, .int .i64 nv] 62
        replace hcell : ∀ (j : Nat) (u : Value), ([.int .i64 3, .int .i64 0, .bool false, .string ⟨#[]⟩, .int .i64 0, .int .i64 0, .string ⟨#[]⟩, .int .u32 0, .string ⟨#[]⟩, .int .i64 0, .int .i64 nv] : List Value)[j]? = some u → _ := hcell
        have hW3 : g7 + 1 ≤ (wc.alloc (Obj.cells #[.int .i64 3, .int .i64 0, .bool false, .string ⟨#[]⟩, .int .i64 0, .int .i64 0, .string ⟨#[]⟩, .int .u32 0, .string ⟨#[]⟩, .int .i64 0, .int .i64 nv] 62)).heap.size := O3.lt
        clear F2 H2
        replace hox := hide hox
        replace F3 := hide F3
        replace O3 := hide O3
        replace S3 := hide S3
        replace hcell := hide hcell
        replace hW3 := hide hW3
        replace hER := hide hER
        replace X2 := hide X2
        replace O2 := hide O2
        have X2_0 : wc.cell? ⟨bX, 0, none⟩ = some (.int .i64 3) := X2.out.cell 0
        have X2_1 : wc.cell? ⟨bX, 1, none⟩ = some (.int .i64 0) := X2.out.cell 1
        have X2_2 : wc.cell? ⟨bX, 2, none⟩ = some (.bool false) := X2.out.cell 2
        have X2_3 : wc.cell? ⟨bX, 3, none⟩ = some (.string ⟨#[]⟩) := X2.out.cell 3
        have X2_4 : wc.cell? ⟨bX, 4, none⟩ = some (.int .i64 0) := X2.out.cell 4
        have X2_5 : wc.cell? ⟨bX, 5, none⟩ = some (.int .i64 0) := X2.out.cell 5
        have X2_6 : wc.cell? ⟨bX, 6, none⟩ = some (.string ⟨#[]⟩) := X2.out.cell 6
        have X2_7 : wc.cell? ⟨bX, 7, none⟩ = some (.int .u32 0) := X2.out.cell 7
        have X2_8 : wc.cell? ⟨bX, 8, none⟩ = some (.string ⟨#[]⟩) := X2.out.cell 8
        have X2_9 : wc.cell? ⟨bX, 9, none⟩ = some (.int .i64 0) := X2.out.cell 9
        have X2_10 : wc.cell? ⟨bX, 10, none⟩ = some (.int .i64 nv) := X2.out.cell 10
        have O2_0 : wc.cell? ⟨g7, 0, none⟩ = some (.slice va L.length vc) := O2.out.cell 0
        have O2_1 : wc.cell? ⟨g7, 1, none⟩ = some (.slice none 0 0) := O2.out.cell 1
        go_upto_region 24 with (
          at_builtin
          go_must (refine wpList_push (E := EIns) rfl _ _ _ rfl okIns (by decide) (by decide) rfl hox.out (by omega) hW3.out rfl (hER.out _ _) hcell.out ?_)
          intro v' w5 hown1 hg5 hat5
          obtain ⟨va1, vc1, hv1⟩ := hown1.form
          rw [List.length_append, List.length_singleton] at hv1
          subst hv1
          have hng : some g7 ≠ (Value.slice va L.length vc).ownBlock := fun h => by have := (hox.out.lt g7 h.symm).1; omega
          have O6 := O3.out.grown hg5 hng
          have o6 := O6.cell 0
          have f6 := fun i => O6.frozen i
          replace O6 := hide O6
          replace hown1 := hide hown1)
        clear X2_0 X2_1 X2_2 X2_3 X2_4 X2_5 X2_6 X2_7 X2_8 X2_9 X2_10 O2_0 O2_1
        have F6 := (F3.out.push (fun q hq => by have := (hox.out.lt q hq).1; have := hg7.out; omega) hg5).setCell (p := ⟨g7, 0, none⟩) hg7.out (.slice va1 (L.length + 1) vc1)
        have O7 : Blk (w5.setCell ⟨g7, 0, none⟩ (.slice va1 (L.length + 1) vc1)) g7 56 #[.slice va1 (L.length + 1) vc1, .slice none 0 0] := by simpa using O6.out.set_ 0 (.slice va1 (L.length + 1) vc1)
        have H6 := hown1.out.asideK (p := ⟨g7, 0, none⟩) (show g7 < g7 + 1 by omega) (.slice va1 (L.length + 1) vc1)
        have S6 : Blk (w5.setCell ⟨g7, 0, none⟩ (.slice va1 (L.length + 1) vc1)) g0 35 #[.string ⟨p.name.toArray⟩, .slice a T.length ca, .bool els] := S.out.ext F6
        clear hox F3 O3 S3 hcell hW3 hER X2 O2 O6 hown1 o6 f6 hng hat5 hg5
        generalize w5.setCell ⟨g7, 0, none⟩ (.slice va1 (L.length + 1) vc1) = W6 at F6 O7 H6 S6 ⊢
        have q := qn'.out W6 (E0.out.trans F6)
        replace q := hide q
        replace F6 := hide F6
        replace O7 := hide O7
        replace H6 := hide H6
        replace S6 := hide S6
        have S6_0 : W6.cell? ⟨g0, 0, none⟩ = some (.string ⟨p.name.toArray⟩) := S6.out.cell 0
        have S6_1 : W6.cell? ⟨g0, 1, none⟩ = some (.slice a T.length ca) := S6.out.cell 1
        have S6_2 : W6.cell? ⟨g0, 2, none⟩ = some (.bool els) := S6.out.cell 2
        go_wp2_with fail
        clear S6_0 S6_1 S6_2
        (with_reducible refine q.out.mono ?_)
        rintro e W7 ⟨vN, rfl, he, ON⟩
        have hg6 : g7 < W6.heap.size := O7.out.lt
        have F7 := F6.out.trans he
        replace O7 := O7.out.ext he
        have H7 := H6.out.ext he
        have hg7m : g7 < W7.heap.size := O7.lt
        have hv1 : ∀ b, (Value.slice va1 (L.length + 1) vc1).ownBlock = some b → b < W7.heap.size := fun b hb => (H7.lt b hb).2
        obtain ⟨ba, bc, rfl, sN⟩ := ON.sl
        replace sN : ∀ wr, But g7 W7 wr → Sl ENeed wr (· < wr.heap.size) ba N := fun wr h => (sN.frame fun b hb => h.block b hb.2 (by omega)).mono fun b hb => Nat.lt_of_lt_of_le hb.2 h.size
        clear ON he q S6 F6 H6 qn' S hg6
        replace F7 := hide F7
        replace O7 := hide O7
        replace H7 := hide H7
        replace hv1 := hide hv1
        replace sN := hide sN
        replace hg7m := hide hg7m
        go_wp2_with fail
        go_loopw [91] (fun i wr => ∃ k : Nat, ∃ v2 : Value, ∃ ls : List (StS × Nat × Nat), k ≤ l.length ∧ i = .int .i64 k ∧ But g7 W7 wr ∧ Blk wr g7 56 #[.slice va1 (L.length + 1) vc1, v2] ∧ Own ESetB 67 wr W7.heap.size v2 ls ∧ ls.map (·.1) = (l.take k).filter (fun s => N.any fun n => n.1 == s.name) ∧ ls.length ≤ k ∧ (ls.Pairwise fun x y => x.2.2 ≤ y.2.1) ∧ ∀ x ∈ ls, x.2.2 ≤ wr.heap.size) (fun i _ => l.length - (intOf i).toNat)
        case atStart => exact ⟨0, _, [], Nat.zero_le _, rfl, But.refl _ _, O7.out, Own.nil, rfl, Nat.le_refl _, List.Pairwise.nil, fun x hx => by cases hx⟩
        case round =>
          clear O7
          obtain ⟨k, v2, ls, hk, rfl, hbut, O, hown, hmap, hlen, hpw, hhi⟩ := hrel
          have EW : Ext W1 wr := hbut.ext F7.out hg7.out
          by_cases hlt : k < l.length
          · obtain ⟨bs, os, a1, c1, a2, c2, a3, c3, rfl, hi, i0, i1, i2, i3, i4⟩ := ESet.at16 (s2.out.ext (E0.out.trans EW)) k hlt
            have hst := filter_step (fun s : StS => N.any fun n => n.1 == s.name) hlt
            generalize l[k] = X at *
            obtain ⟨nm, kd, I, C, P⟩ := X
            dsimp only at *
            have hnm := hi.name
            have hkd := hi.kind
            have nI := hi.nItems
            have nC := hi.nComms
            have nP := hi.nPaths
            obtain ⟨hs, hhl, hsl, hhd⟩ := heads_sl hi.paths
            dsimp only at nI nC nP hhl hnm hkd
            have hI := hi.items
            have hC := hi.comms
            dsimp only at hI hC
            clear hi
            have X := Blk.new wr 67 #[.string ⟨nm.toArray⟩, .int .i64 kd, .slice a1 I.length c1, .slice a2 C.length c2, .slice a3 P.length c3]
            have eX := (Ext.refl wr).alloc (Obj.cells #[.string ⟨nm.toArray⟩, .int .i64 kd, .slice a1 I.length c1, .slice a2 C.length c2, .slice a3 P.length c3] 67)
            obtain ⟨gs, hgs⟩ : ∃ gs, wr.heap.size = gs := ⟨_, rfl⟩
            have hgle : wr.heap.size ≤ gs := Nat.le_of_eq hgs
            rw [hgs] at X
            have qf := HasNeed_any nm (.int .i64 kd) (.slice a1 I.length c1) (.slice a2 C.length c2) (.slice a3 P.length c3) gs ba bc N (wr.alloc (Obj.cells #[.string ⟨nm.toArray⟩, .int .i64 kd, .slice a1 I.length c1, .slice a2 C.length c2, .slice a3 P.length c3] 67)) (by have := hN8.out; omega) (sN.out _ (hbut.trans (But.of eX))) X
            replace hst := hide hst
            replace hnm := hide hnm
            replace hkd := hide hkd
            replace hsl := hide hsl
            replace hhd := hide hhd
            replace hI := hide hI
            replace hC := hide hC
            replace hhl := hide hhl
            replace X := hide X
            replace eX := hide eX
            replace qf := hide qf
            replace hbut := hide hbut
            replace O := hide O
            replace hown := hide hown
            replace hmap := hide hmap
            replace hpw := hide hpw
            replace hhi := hide hhi
            replace EW := hide EW
            go_upto_region 28 with fail
            try rw [hgs]
            generalize wr.alloc (Obj.cells #[.string ⟨nm.toArray⟩, .int .i64 kd, .slice a1 I.length c1, .slice a2 C.length c2, .slice a3 P.length c3] 67) = W8 at X eX qf ⊢
            clear hgs i0 i1 i2 i3 i4
            replace hgle := hide hgle
            go_wp2_with fail
            (with_reducible refine qf.out.mono ?_)
            rintro e W9 ⟨rfl, he⟩
            have hS := X.out.ext he
            have E3 := eX.out.trans he
            clear he qf eX X
            generalize hr : (N.any fun n => n.1 == nm) = r at *
            cases r with
            | false =>
              have hst2 := hst.out
              rw [if_neg (by decide), List.append_nil] at hst2
              clear hst hr hI hC hsl hhd hhl hnm hkd
              replace hst2 := hide hst2
              replace E3 := hide E3
              replace hS := hide hS
              go_wp2_with fail
              go_roundw
              case rel => exact ⟨k + 1, v2, ls, by omega, by go_num, hbut.out.trans (But.of E3.out), O.out.ext E3.out, hown.out.ext E3.out, by rw [hst2.out]; exact hmap.out, by omega, hpw.out, fun x hx => Nat.le_trans (hhi.out x hx) E3.out.size⟩
              case measure => simp [intOf]; omega
            | true =>
              have hst2 := hst.out
              rw [if_pos rfl] at hst2
              clear hst hr
              replace hst2 := hide hst2
              have qi : ∀ W, Ext W9 W → Calls Tryz.prog 59 #[.slice a1 I.length c1] W fun e w' => ∃ v, e = .returned v ∧ Ext W w' ∧ OwnR EItm 72 I W.heap.size w'.heap.size v w' := fun W h => (CloneI_any a1 c1 I W nI (hI.out.ext (E3.trans h))).mono fun e w' ⟨v, he, hE, ho⟩ => ⟨v, he, hE, OwnR.of ho⟩
              have qu : ∀ W, Ext W9 W → Calls Tryz.prog 60 #[.slice a2 C.length c2] W fun e w' => ∃ v, e = .returned v ∧ Ext W w' ∧ OwnR EU32 49 C W.heap.size w'.heap.size v w' := fun W h => (CloneU_any a2 c2 C W nC (hC.out.ext (E3.trans h))).mono fun e w' ⟨v, he, hE, ho⟩ => ⟨v, he, hE, OwnR.of ho⟩
              have qh : ∀ W, Ext W9 W → Calls Tryz.prog 61 #[.slice a3 P.length c3] W fun e w' => ∃ v, e = .returned v ∧ Ext W w' ∧ OwnR ESlv 73 hs W.heap.size w'.heap.size v w' := fun W h => by
                have q := CloneH_any a3 c3 hs W (by rw [hhl.out]; exact nP) (hsl.out.ext (E3.trans h))
                rw [hhl.out] at q
                exact q.mono fun e w' ⟨v, he, hE, ho⟩ => ⟨v, he, hE, OwnR.of ho⟩
              have s2c : W9.cell? ⟨gs, 2, none⟩ = some (.slice a1 I.length c1) := hS.cell 2
              have s3c : W9.cell? ⟨gs, 3, none⟩ = some (.slice a2 C.length c2) := hS.cell 3
              have s4c : W9.cell? ⟨gs, 4, none⟩ = some (.slice a3 P.length c3) := hS.cell 4
              have hlt7 := hS.lt
              have hw19 := E3.size
              replace hS := hide hS
              replace E3 := hide E3
              replace qi := hide qi
              replace qu := hide qu
              replace qh := hide qh
              replace hlt7 := hide hlt7
              replace hw19 := hide hw19
              clear hI hC hsl
              go_upto_region 29 with fail
              refine wp_region_JT 10 (J := JN W9 10 _ (fun i => match i with | 0 => .val (.pointer (some ⟨gs, 2, none⟩)) | 1 => .val (.slice a1 I.length c1) | 2 => .any (OwnR EItm 72 I) | 3 => .val (.pointer (some ⟨gs, 3, none⟩)) | 4 => .val (.slice a2 C.length c2) | 5 => .any (OwnR EU32 49 C) | 6 => .val (.pointer (some ⟨gs, 4, none⟩)) | 7 => .val (.slice a3 P.length c3) | 8 => .any (OwnR ESlv 73 hs) | 9 => .val (.pointer (some ⟨gs, 2, none⟩)) | _ => .val undef)) mixed (by kernel_rfl) (by kernel_rfl) (by kernel_rfl) (fun _ => undef) (JN.start _ _ _ _ _) (JN.keeps (by kernel_rfl) ?anys ?fill ?box ?steps) ?restN
              case anys =>
                intro i R hi hR
                replace hi : i < 10 := hi
                match i, hi, hR with
                | 0, _, hR => cases hR
                | 1, _, hR => cases hR
                | 2, _, hR => injection hR with hR; subst hR; exact OwnR.stays fun h => h
                | 3, _, hR => cases hR
                | 4, _, hR => cases hR
                | 5, _, hR => injection hR with hR; subst hR; exact OwnR.stays fun h => h
                | 6, _, hR => cases hR
                | 7, _, hR => cases hR
                | 8, _, hR => injection hR with hR; subst hR; exact OwnR.stays fun h => h
                | 9, _, hR => cases hR
                | i + 10, h, _ => exact absurd h (by omega)
              case fill =>
                intro i b hi hb
                replace hi : i < 10 := hi
                match i, hi, hb with
                | 0, _, hb => cases hb
                | 1, _, hb => cases hb
                | 2, _, hb => cases hb
                | 3, _, hb => cases hb
                | 4, _, hb => cases hb
                | 5, _, hb => cases hb
                | 6, _, hb => cases hb
                | 7, _, hb => cases hb
                | 8, _, hb => cases hb
                | 9, _, hb => cases hb
                | i + 10, h, _ => exact absurd h (by omega)
              case box =>
                intro b st t z cs hi hb
                replace hi : b < 10 := hi
                match b, hi, hb with
                | 0, _, hb => cases hb
                | 1, _, hb => cases hb
                | 2, _, hb => cases hb
                | 3, _, hb => cases hb
                | 4, _, hb => cases hb
                | 5, _, hb => cases hb
                | 6, _, hb => cases hb
                | 7, _, hb => cases hb
                | 8, _, hb => cases hb
                | 9, _, hb => cases hb
                | i + 10, h, _ => exact absurd h (by omega)
              case steps =>
                intro i hi
                replace hi : i < 10 := hi
                match i, hi with
                | 0, _ =>
                  refine ⟨_, rfl, rfl, ?_⟩
                  intro a w9 done val G H hdn hdep hev hout hE9 hok hge9
                  refine ⟨(fun v b hb => by cases hb), ?_⟩
                  have u18 : a.eval (.tmp 18) = .pointer (some ⟨gs, 0, none⟩) := (hout 18 (by kernel_rfl)).trans rfl
                  simp [Act.eval] at u18
                  clear hdep hev hout hok hge9
                  refine step_val (w'' := w9) ?_ (Ext.refl _)
                  go_simp
                | 1, _ =>
                  refine ⟨_, rfl, rfl, ?_⟩
                  intro a w9 done val G H hdn hdep hev hout hE9 hok hge9
                  refine ⟨(fun v b hb => by cases hb), ?_⟩
                  have d0 : done 0 = true := by first | exact hdep ⟨0, .data⟩ (by simp) rfl | exact hdep ⟨0, .phase⟩ (by simp) rfl
                  have e0 := hev 0 _ 98 rfl rfl (by simp) d0
                  have k0 := hok 0 (by decide) d0
                  replace k0 : val 0 = (.pointer (some ⟨gs, 2, none⟩)) := k0
                  rw [k0] at e0
                  clear k0
                  simp [Act.eval] at e0
                  clear d0
                  clear hdep hev hout hok hge9
                  have y2 := hE9.cell s2c
                  refine step_val (w'' := w9) ?_ (Ext.refl _)
                  go_simp
                | 2, _ =>
                  refine ⟨_, rfl, rfl, ?_⟩
                  intro a w9 done val G H hdn hdep hev hout hE9 hok hge9
                  refine ⟨(fun v b hb => by cases hb), ?_⟩
                  have d1 : done 1 = true := by first | exact hdep ⟨1, .data⟩ (by simp) rfl | exact hdep ⟨1, .phase⟩ (by simp) rfl
                  have e1 := hev 1 _ 99 rfl rfl (by simp) d1
                  have k1 := hok 1 (by decide) d1
                  replace k1 : val 1 = (.slice a1 I.length c1) := k1
                  rw [k1] at e1
                  clear k1
                  simp [Act.eval] at e1
                  clear d1
                  clear hdep hev hout hok hge9
                  exact step_goB 59 #[.tmp 99] #[63] rfl Tryz.func59 (by kernel_rfl) (by kernel_rfl) _ (by simp [Act.eval, e1]; try rfl) (qi.out w9 hE9)
                | 3, _ =>
                  refine ⟨_, rfl, rfl, ?_⟩
                  intro a w9 done val G H hdn hdep hev hout hE9 hok hge9
                  refine ⟨(fun v b hb => by cases hb), ?_⟩
                  have u18 : a.eval (.tmp 18) = .pointer (some ⟨gs, 0, none⟩) := (hout 18 (by kernel_rfl)).trans rfl
                  simp [Act.eval] at u18
                  clear hdep hev hout hok hge9
                  refine step_val (w'' := w9) ?_ (Ext.refl _)
                  go_simp
                | 4, _ =>
                  refine ⟨_, rfl, rfl, ?_⟩
                  intro a w9 done val G H hdn hdep hev hout hE9 hok hge9
                  refine ⟨(fun v b hb => by cases hb), ?_⟩
                  have d3 : done 3 = true := by first | exact hdep ⟨3, .data⟩ (by simp) rfl | exact hdep ⟨3, .phase⟩ (by simp) rfl
                  have e3 := hev 3 _ 101 rfl rfl (by simp) d3
                  have k3 := hok 3 (by decide) d3
                  replace k3 : val 3 = (.pointer (some ⟨gs, 3, none⟩)) := k3
                  rw [k3] at e3
                  clear k3
                  simp [Act.eval] at e3
                  clear d3
                  clear hdep hev hout hok hge9
                  have y3 := hE9.cell s3c
                  refine step_val (w'' := w9) ?_ (Ext.refl _)
                  go_simp
                | 5, _ =>
                  refine ⟨_, rfl, rfl, ?_⟩
                  intro a w9 done val G H hdn hdep hev hout hE9 hok hge9
                  refine ⟨(fun v b hb => by cases hb), ?_⟩
                  have d4 : done 4 = true := by first | exact hdep ⟨4, .data⟩ (by simp) rfl | exact hdep ⟨4, .phase⟩ (by simp) rfl
                  have e4 := hev 4 _ 102 rfl rfl (by simp) d4
                  have k4 := hok 4 (by decide) d4
                  replace k4 : val 4 = (.slice a2 C.length c2) := k4
                  rw [k4] at e4
                  clear k4
                  simp [Act.eval] at e4
                  clear d4
                  clear hdep hev hout hok hge9
                  exact step_goB 60 #[.tmp 102] #[64] rfl Tryz.func60 (by kernel_rfl) (by kernel_rfl) _ (by simp [Act.eval, e4]; try rfl) (qu.out w9 hE9)
                | 6, _ =>
                  refine ⟨_, rfl, rfl, ?_⟩
                  intro a w9 done val G H hdn hdep hev hout hE9 hok hge9
                  refine ⟨(fun v b hb => by cases hb), ?_⟩
                  have u18 : a.eval (.tmp 18) = .pointer (some ⟨gs, 0, none⟩) := (hout 18 (by kernel_rfl)).trans rfl
                  simp [Act.eval] at u18
                  clear hdep hev hout hok hge9
                  refine step_val (w'' := w9) ?_ (Ext.refl _)
                  go_simp
                | 7, _ =>
                  refine ⟨_, rfl, rfl, ?_⟩
                  intro a w9 done val G H hdn hdep hev hout hE9 hok hge9
                  refine ⟨(fun v b hb => by cases hb), ?_⟩
                  have d6 : done 6 = true := by first | exact hdep ⟨6, .data⟩ (by simp) rfl | exact hdep ⟨6, .phase⟩ (by simp) rfl
                  have e6 := hev 6 _ 104 rfl rfl (by simp) d6
                  have k6 := hok 6 (by decide) d6
                  replace k6 : val 6 = (.pointer (some ⟨gs, 4, none⟩)) := k6
                  rw [k6] at e6
                  clear k6
                  simp [Act.eval] at e6
                  clear d6
                  clear hdep hev hout hok hge9
                  have y4 := hE9.cell s4c
                  refine step_val (w'' := w9) ?_ (Ext.refl _)
                  go_simp
                | 8, _ =>
                  refine ⟨_, rfl, rfl, ?_⟩
                  intro a w9 done val G H hdn hdep hev hout hE9 hok hge9
                  refine ⟨(fun v b hb => by cases hb), ?_⟩
                  have d7 : done 7 = true := by first | exact hdep ⟨7, .data⟩ (by simp) rfl | exact hdep ⟨7, .phase⟩ (by simp) rfl
                  have e7 := hev 7 _ 105 rfl rfl (by simp) d7
                  have k7 := hok 7 (by decide) d7
                  replace k7 : val 7 = (.slice a3 P.length c3) := k7
                  rw [k7] at e7
                  clear k7
                  simp [Act.eval] at e7
                  clear d7
                  clear hdep hev hout hok hge9
                  exact step_goB 61 #[.tmp 105] #[65] rfl Tryz.func61 (by kernel_rfl) (by kernel_rfl) _ (by simp [Act.eval, e7]; try rfl) (qh.out w9 hE9)
                | 9, _ =>
                  refine ⟨_, rfl, rfl, ?_⟩
                  intro a w9 done val G H hdn hdep hev hout hE9 hok hge9
                  refine ⟨(fun v b hb => by cases hb), ?_⟩
                  have u18 : a.eval (.tmp 18) = .pointer (some ⟨gs, 0, none⟩) := (hout 18 (by kernel_rfl)).trans rfl
                  simp [Act.eval] at u18
                  clear hdep hev hout hok hge9
                  refine step_val (w'' := w9) ?_ (Ext.refl _)
                  go_simp
                | i + 10, h => exact absurd h (by omega)
              case restN =>
                rintro done val w4 hall htl ⟨⟨hE4, G, H, hok, hge, hdis, _⟩, _⟩
                have e0 : done 0 = true := hall 0 (by decide)
                have e1 : done 1 = true := hall 1 (by decide)
                have e2 : done 2 = true := hall 2 (by decide)
                have e3 : done 3 = true := hall 3 (by decide)
                have e4 : done 4 = true := hall 4 (by decide)
                have e5 : done 5 = true := hall 5 (by decide)
                have e6 : done 6 = true := hall 6 (by decide)
                have e7 : done 7 = true := hall 7 (by decide)
                have e8 : done 8 = true := hall 8 (by decide)
                have e9 : done 9 = true := hall 9 (by decide)
                have e10 : done 10 = false := htl 10 (by decide)
                have e11 : done 11 = false := htl 11 (by decide)
                have e12 : done 12 = false := htl 12 (by decide)
                have e13 : done 13 = false := htl 13 (by decide)
                have e14 : done 14 = false := htl 14 (by decide)
                have k0 := hok 0 (by decide) e0
                replace k0 : val 0 = (.pointer (some ⟨gs, 2, none⟩)) := k0
                have k1 := hok 1 (by decide) e1
                replace k1 : val 1 = (.slice a1 I.length c1) := k1
                have k2 := hok 2 (by decide) e2
                replace k2 : OwnR EItm 72 I (G 2) (H 2) (val 2) w4 := k2
                have G2 := hge 2 (by decide) e2 rfl
                have k3 := hok 3 (by decide) e3
                replace k3 : val 3 = (.pointer (some ⟨gs, 3, none⟩)) := k3
                have k4 := hok 4 (by decide) e4
                replace k4 : val 4 = (.slice a2 C.length c2) := k4
                have k5 := hok 5 (by decide) e5
                replace k5 : OwnR EU32 49 C (G 5) (H 5) (val 5) w4 := k5
                have G5 := hge 5 (by decide) e5 rfl
                have k6 := hok 6 (by decide) e6
                replace k6 : val 6 = (.pointer (some ⟨gs, 4, none⟩)) := k6
                have k7 := hok 7 (by decide) e7
                replace k7 : val 7 = (.slice a3 P.length c3) := k7
                have k8 := hok 8 (by decide) e8
                replace k8 : OwnR ESlv 73 hs (G 8) (H 8) (val 8) w4 := k8
                have G8 := hge 8 (by decide) e8 rfl
                have k9 := hok 9 (by decide) e9
                replace k9 : val 9 = (.pointer (some ⟨gs, 2, none⟩)) := k9
                have N2_5 := hdis 2 5 (by decide) (by decide) (by decide) e2 e5 rfl rfl
                have N2_8 := hdis 2 8 (by decide) (by decide) (by decide) e2 e8 rfl rfl
                have N5_8 := hdis 5 8 (by decide) (by decide) (by decide) e5 e8 rfl rfl
                clear hok hge hdis hall htl
                simp only [putD, e0, e1, e2, e3, e4, e5, e6, e7, e8, e9, e10, e11, e12, e13, e14, if_true, if_false, Bool.false_eq_true, Nat.zero_add, Nat.reduceAdd, k0, k1, k3, k4, k6, k7, k9]
                clear e0 e1 e2 e3 e4 e5 e6 e7 e8 e9 e10 e11 e12 e13 e14 k0 k1 k3 k4 k6 k7 k9
                generalize val 2 = v2' at *
                generalize G 2 = lo2 at *
                generalize H 2 = hi2 at *
                generalize val 5 = v5 at *
                generalize G 5 = lo5 at *
                generalize H 5 = hi5 at *
                generalize val 8 = v8 at *
                generalize G 8 = lo8 at *
                generalize H 8 = hi8 at *
                simp only [List.drop_succ_cons, List.drop_zero]
                obtain ⟨a8, c8, hv8⟩ := k8.1.form
                rw [hhl.out] at hv8
                subst hv8
                have hB4 := hS.out.ext hE4
                have t2 : w4.cell? ⟨gs, 2, none⟩ = some (.slice a1 I.length c1) := hB4.cell 2
                have t3 : w4.cell? ⟨gs, 3, none⟩ = some (.slice a2 C.length c2) := hB4.cell 3
                have t4 : w4.cell? ⟨gs, 4, none⟩ = some (.slice a3 P.length c3) := hB4.cell 4
                have tf := fun i => hB4.frozen i
                have hB5 : Blk (((w4.setCell ⟨gs, 2, none⟩ v2').setCell ⟨gs, 3, none⟩ v5).setCell ⟨gs, 4, none⟩ (.slice a8 P.length c8)) gs 67 #[.string ⟨nm.toArray⟩, .int .i64 kd, v2', v5, .slice a8 P.length c8] := by
                  simpa using ((hB4.set_ 2 v2').set_ 3 v5).set_ 4 (.slice a8 P.length c8)
                have hon5 : OnlyAt gs w4 (((w4.setCell ⟨gs, 2, none⟩ v2').setCell ⟨gs, 3, none⟩ v5).setCell ⟨gs, 4, none⟩ (.slice a8 P.length c8)) := (((OnlyAt.refl gs w4).setCell 2 v2').setCell 3 v5).setCell 4 (.slice a8 P.length c8)
                have o2 : v2'.oneCell' = true := by obtain ⟨_, _, rfl⟩ := k2.1.form; rfl
                have o5 : v5.oneCell' = true := by obtain ⟨_, _, rfl⟩ := k5.1.form; rfl
                obtain ⟨b2, d2, rfl⟩ := k2.1.form
                obtain ⟨b5, d5, rfl⟩ := k5.1.form
                clear s2c s3c s4c hB4
                replace hB5 := hide hB5
                replace hon5 := hide hon5
                replace k2 := hide k2
                replace k5 := hide k5
                replace k8 := hide k8
                replace G2 := hide G2
                replace G5 := hide G5
                replace G8 := hide G8
                replace N2_5 := hide N2_5
                replace N2_8 := hide N2_8
                replace N5_8 := hide N5_8
                replace hE4 := hide hE4
                go_upto_region 30 with fail
                replace hB5 := hB5.out
                replace hon5 := hon5.out
                generalize (((w4.setCell ⟨gs, 2, none⟩ (.slice b2 I.length d2)).setCell ⟨gs, 3, none⟩ (.slice b5 C.length d5)).setCell ⟨gs, 4, none⟩ (.slice a8 P.length c8)) = W5 at hB5 hon5 ⊢
                clear t2 t3 t4 tf o2 o5
                have hg2 := G2.out.1
                have hg5 := G5.out.1
                have hg8 := G8.out.1
                have hlt7' := hlt7.out
                have hw34 := hE4.out.size
                have hw5 : W5.heap.size = w4.heap.size := hon5.size
                have r2 := k2.out.1.only hon5 (show gs < lo2 by omega)
                have r5 := k5.out.1.only hon5 (show gs < lo5 by omega)
                have r8 := k8.out.1.only hon5 (show gs < lo8 by omega)
                have hlo8 : lo8 ≤ W5.heap.size := by have := G8.out; omega
                have hw1 := hw19.out
                have E5 := hon5.ext (E3.out.trans hE4.out) hgle.out
                have hv8 : ∀ b, (Value.slice a8 P.length c8).ownBlock = some b → lo8 ≤ b ∧ b < W5.heap.size := r8.lt
                have n2 : (Value.slice b2 I.length d2).ownBlock = none ∨ (Value.slice b2 I.length d2).ownBlock ≠ (Value.slice a8 P.length c8).ownBlock := by
                  cases h : (Value.slice b2 I.length d2).ownBlock with
                  | none => exact .inl rfl
                  | some b => exact .inr fun e => by have h1 := r2.lt b h; have h2 := k2.out.2 b h; have h3 := r8.lt b e.symm; have h4 := k8.out.2 b e.symm; have h5 := N2_8.out; omega
                have n5 : (Value.slice b5 C.length d5).ownBlock = none ∨ (Value.slice b5 C.length d5).ownBlock ≠ (Value.slice a8 P.length c8).ownBlock := by
                  cases h : (Value.slice b5 C.length d5).ownBlock with
                  | none => exact .inl rfl
                  | some b => exact .inr fun e => by have h1 := r5.lt b h; have h2 := k5.out.2 b h; have h3 := r8.lt b e.symm; have h4 := k8.out.2 b e.symm; have h5 := N5_8.out; omega
                clear k2 k5 k8 G2 G5 G8 N2_5 N2_8 N5_8 hE4 hon5 hS E3 qi qu qh hlt7 hw19
                have y4c : W5.cell? ⟨gs, 4, none⟩ = some (.slice a8 P.length c8) := hB5.cell 4
                replace hB5 := hide hB5
                replace r2 := hide r2
                replace r5 := hide r5
                replace r8 := hide r8
                replace E5 := hide E5
                replace hv8 := hide hv8
                replace n2 := hide n2
                replace n5 := hide n5
                replace hlo8 := hide hlo8
                replace hg2 := hide hg2
                replace hg5 := hide hg5
                replace hg8 := hide hg8
                replace hlt7' := hide hlt7'
                replace hw34 := hide hw34
                replace hw5 := hide hw5
                replace hw1 := hide hw1
                go_wp2_with fail
                clear y4c
                go_loopw [113] (fun q wy => ∃ m : Nat, m ≤ P.length ∧ q = .int .i64 (m : Int) ∧ ∃ hs', PreP wy W5.heap.size hs' hs P m ∧ Own ESlv 73 wy lo8 (.slice a8 P.length c8) hs' ∧ W5.grownBy wy (Value.slice a8 P.length c8).ownBlock) (fun q _ => P.length - (intOf q).toNat)
                case atStart => exact ⟨0, Nat.zero_le _, rfl, hs, ⟨hhl.out, fun i _ h => absurd h (Nat.not_lt_zero _), fun _ _ => rfl⟩, r8.out, World.grownBy.refl _ _⟩
                case round =>
                  obtain ⟨m, hm9, rfl, hs', hp, hrow, hgrow⟩ := hrel
                  rename World => wy
                  have hneg7 : some gs ≠ (Value.slice a8 P.length c8).ownBlock := fun e => by have h1 := hv8.out gs e.symm; have h2 := hlt7'.out; have h3 := hg8.out; omega
                  have hB := hB5.out.grown hgrow hneg7
                  have y4 : wy.cell? ⟨gs, 4, none⟩ = some (.slice a8 P.length c8) := hB.cell 4
                  by_cases hltm : m < P.length
                  · obtain ⟨g8, ca8, hv, hga, hga'⟩ := hrow.formNe (by intro e; have := hp.1; rw [e] at this; simp at this; omega)
                    injection hv with ha hn hc'
                    subst ha hc'
                    have hlm : m < hs'.length := by have := hp.1; omega
                    obtain ⟨hcell, hfz⟩ := slv_cell hrow m hlm
                    obtain ⟨x, hx, hx1, hx2, hx3⟩ := hhd.out m hltm
                    have hxm : hs'[m] = x := by have h1 := hp.2.2 m (Nat.le_refl _); rw [hx, List.getElem?_eq_getElem hlm] at h1; exact Option.some.inj h1
                    rw [hxm] at hcell
                    clear hxm hx
                    obtain ⟨ax, nx, cx⟩ := x
                    dsimp only at hx1 hx2 hx3 hcell
                    subst hx1
                    have hg8W : g8 < W5.heap.size := (hv8.out g8 rfl).2
                    have hold : ∀ b, b < wr.heap.size → W5.heap[b]? = wr.heap[b]? := fun b hb => E5.out.block b hb
                    have qa : ∀ W, Ext wy W → Calls Tryz.prog 62 #[.slice ax P[m].length cx] W fun e w' => ∃ v, e = .returned v ∧ Ext W w' ∧ OwnR EAtm 75 P[m] W.heap.size w'.heap.size v w' := fun W h => by
                      have h1 := hw1.out; have h2 := hw34.out; have h3 := hw5.out; have h4 := hgrow.size; have h5 := h.size; have h6 := hg8.out
                      refine (CloneA_any ax cx P[m] W hx2 ((hx3.frame fun b hb => ?_).mono fun b hb => ?_)).mono fun e w' ⟨v, he, hE, ho⟩ => ⟨v, he, hE, OwnR.of ho⟩
                      · exact (h.block b (by omega)).trans ((hgrow.block b (by omega) fun e => by have := (hv8.out b e.symm).1; omega).trans (hold b hb))
                      · omega
                    obtain ⟨Q, hQ⟩ : ∃ Q, P[m] = Q := ⟨_, rfl⟩
                    rw [hQ] at qa hcell
                    clear hx2 hx3 hold
                    have hmi : (m : Int) < (P.length : Int) := by omega
                    replace hB := hide hB
                    replace hcell := hide hcell
                    replace hfz := hide hfz
                    replace hp := hide hp
                    replace hrow := hide hrow
                    replace hgrow := hide hgrow
                    replace qa := hide qa
                    replace hg8W := hide hg8W
                    replace hneg7 := hide hneg7
                    replace hga := hide hga
                    replace hga' := hide hga'
                    replace hn := hide hn
                    replace hQ := hide hQ
                    go_upto_region 33 with fail
                    refine wp_region_JT 10 (J := JN wy 10 _ (fun i => match i with | 0 => .val (.pointer (some ⟨gs, 4, none⟩)) | 1 => .val (.slice (some ⟨g8, 0, none⟩) P.length c8) | 2 => .val (.int .i64 (m : Int)) | 3 => .val (.pointer (some ⟨gs, 4, none⟩)) | 4 => .val (.slice (some ⟨g8, 0, none⟩) P.length c8) | 5 => .val (.int .i64 (m : Int)) | 6 => .val (.pointer (some ⟨g8, m, none⟩)) | 7 => .val (.slice ax Q.length cx) | 8 => .any (OwnR EAtm 75 Q) | 9 => .val (.pointer (some ⟨g8, m, none⟩)) | _ => .val undef)) mixed (by kernel_rfl) (by kernel_rfl) (by kernel_rfl) (fun _ => undef) (JN.start _ _ _ _ _) (JN.keeps (by kernel_rfl) ?anys ?fill ?box ?steps) ?restN
                    case anys =>
                      intro i R hi hR
                      replace hi : i < 10 := hi
                      match i, hi, hR with
                      | 0, _, hR => cases hR
                      | 1, _, hR => cases hR
                      | 2, _, hR => cases hR
                      | 3, _, hR => cases hR
                      | 4, _, hR => cases hR
                      | 5, _, hR => cases hR
                      | 6, _, hR => cases hR
                      | 7, _, hR => cases hR
                      | 8, _, hR => injection hR with hR; subst hR; exact OwnR.stays fun h => h
                      | 9, _, hR => cases hR
                      | i + 10, h, _ => exact absurd h (by omega)
                    case fill =>
                      intro i b hi hb
                      replace hi : i < 10 := hi
                      match i, hi, hb with
                      | 0, _, hb => cases hb
                      | 1, _, hb => cases hb
                      | 2, _, hb => cases hb
                      | 3, _, hb => cases hb
                      | 4, _, hb => cases hb
                      | 5, _, hb => cases hb
                      | 6, _, hb => cases hb
                      | 7, _, hb => cases hb
                      | 8, _, hb => cases hb
                      | 9, _, hb => cases hb
                      | i + 10, h, _ => exact absurd h (by omega)
                    case box =>
                      intro b st t z cs hi hb
                      replace hi : b < 10 := hi
                      match b, hi, hb with
                      | 0, _, hb => cases hb
                      | 1, _, hb => cases hb
                      | 2, _, hb => cases hb
                      | 3, _, hb => cases hb
                      | 4, _, hb => cases hb
                      | 5, _, hb => cases hb
                      | 6, _, hb => cases hb
                      | 7, _, hb => cases hb
                      | 8, _, hb => cases hb
                      | 9, _, hb => cases hb
                      | i + 10, h, _ => exact absurd h (by omega)
                    case steps =>
                      intro i hi
                      replace hi : i < 10 := hi
                      match i, hi with
                      | 0, _ =>
                        refine ⟨_, rfl, rfl, ?_⟩
                        intro a w9 done val G H hdn hdep hev hout hE9 hok hge9
                        refine ⟨(fun v b hb => by cases hb), ?_⟩
                        have u18 : a.eval (.tmp 18) = .pointer (some ⟨gs, 0, none⟩) := (hout 18 (by kernel_rfl)).trans rfl
                        simp [Act.eval] at u18
                        clear hdep hev hout hok hge9
                        refine step_val (w'' := w9) ?_ (Ext.refl _)
                        go_simp
                      | 1, _ =>
                        refine ⟨_, rfl, rfl, ?_⟩
                        intro a w9 done val G H hdn hdep hev hout hE9 hok hge9
                        refine ⟨(fun v b hb => by cases hb), ?_⟩
                        have d0 : done 0 = true := by first | exact hdep ⟨0, .data⟩ (by simp) rfl | exact hdep ⟨0, .phase⟩ (by simp) rfl
                        have e0 := hev 0 _ 116 rfl rfl (by simp) d0
                        have k0 := hok 0 (by decide) d0
                        replace k0 : val 0 = (.pointer (some ⟨gs, 4, none⟩)) := k0
                        rw [k0] at e0
                        clear k0
                        simp [Act.eval] at e0
                        clear d0
                        clear hdep hev hout hok hge9
                        have y := hE9.cell y4
                        refine step_val (w'' := w9) ?_ (Ext.refl _)
                        go_simp
                      | 2, _ =>
                        refine ⟨_, rfl, rfl, ?_⟩
                        intro a w9 done val G H hdn hdep hev hout hE9 hok hge9
                        refine ⟨(fun v b hb => by cases hb), ?_⟩
                        have u19 : a.eval (.tmp 19) = .int .i64 (m : Int) := (hout 19 (by kernel_rfl)).trans rfl
                        simp [Act.eval] at u19
                        clear hdep hev hout hok hge9
                        refine step_val (w'' := w9) ?_ (Ext.refl _)
                        go_simp
                      | 3, _ =>
                        refine ⟨_, rfl, rfl, ?_⟩
                        intro a w9 done val G H hdn hdep hev hout hE9 hok hge9
                        refine ⟨(fun v b hb => by cases hb), ?_⟩
                        have u18 : a.eval (.tmp 18) = .pointer (some ⟨gs, 0, none⟩) := (hout 18 (by kernel_rfl)).trans rfl
                        simp [Act.eval] at u18
                        clear hdep hev hout hok hge9
                        refine step_val (w'' := w9) ?_ (Ext.refl _)
                        go_simp
                      | 4, _ =>
                        refine ⟨_, rfl, rfl, ?_⟩
                        intro a w9 done val G H hdn hdep hev hout hE9 hok hge9
                        refine ⟨(fun v b hb => by cases hb), ?_⟩
                        have d3 : done 3 = true := by first | exact hdep ⟨3, .data⟩ (by simp) rfl | exact hdep ⟨3, .phase⟩ (by simp) rfl
                        have e3 := hev 3 _ 119 rfl rfl (by simp) d3
                        have k3 := hok 3 (by decide) d3
                        replace k3 : val 3 = (.pointer (some ⟨gs, 4, none⟩)) := k3
                        rw [k3] at e3
                        clear k3
                        simp [Act.eval] at e3
                        clear d3
                        clear hdep hev hout hok hge9
                        have y := hE9.cell y4
                        refine step_val (w'' := w9) ?_ (Ext.refl _)
                        go_simp
                      | 5, _ =>
                        refine ⟨_, rfl, rfl, ?_⟩
                        intro a w9 done val G H hdn hdep hev hout hE9 hok hge9
                        refine ⟨(fun v b hb => by cases hb), ?_⟩
                        have u19 : a.eval (.tmp 19) = .int .i64 (m : Int) := (hout 19 (by kernel_rfl)).trans rfl
                        simp [Act.eval] at u19
                        clear hdep hev hout hok hge9
                        refine step_val (w'' := w9) ?_ (Ext.refl _)
                        go_simp
                      | 6, _ =>
                        refine ⟨_, rfl, rfl, ?_⟩
                        intro a w9 done val G H hdn hdep hev hout hE9 hok hge9
                        refine ⟨(fun v b hb => by cases hb), ?_⟩
                        have d4 : done 4 = true := by first | exact hdep ⟨4, .data⟩ (by simp) rfl | exact hdep ⟨4, .phase⟩ (by simp) rfl
                        have e4 := hev 4 _ 120 rfl rfl (by simp) d4
                        have k4 := hok 4 (by decide) d4
                        replace k4 : val 4 = (.slice (some ⟨g8, 0, none⟩) P.length c8) := k4
                        rw [k4] at e4
                        clear k4
                        simp [Act.eval] at e4
                        clear d4
                        have d5 : done 5 = true := by first | exact hdep ⟨5, .data⟩ (by simp) rfl | exact hdep ⟨5, .phase⟩ (by simp) rfl
                        have e5 := hev 5 _ 121 rfl rfl (by simp) d5
                        have k5 := hok 5 (by decide) d5
                        replace k5 : val 5 = (.int .i64 (m : Int)) := k5
                        rw [k5] at e5
                        clear k5
                        simp [Act.eval] at e5
                        clear d5
                        clear hdep hev hout hok hge9
                        refine step_val (w'' := w9) ?_ (Ext.refl _)
                        go_simp
                      | 7, _ =>
                        refine ⟨_, rfl, rfl, ?_⟩
                        intro a w9 done val G H hdn hdep hev hout hE9 hok hge9
                        refine ⟨(fun v b hb => by cases hb), ?_⟩
                        have d6 : done 6 = true := by first | exact hdep ⟨6, .data⟩ (by simp) rfl | exact hdep ⟨6, .phase⟩ (by simp) rfl
                        have e6 := hev 6 _ 122 rfl rfl (by simp) d6
                        have k6 := hok 6 (by decide) d6
                        replace k6 : val 6 = (.pointer (some ⟨g8, m, none⟩)) := k6
                        rw [k6] at e6
                        clear k6
                        simp [Act.eval] at e6
                        clear d6
                        clear hdep hev hout hok hge9
                        have y := hE9.cell hcell.out
                        refine step_val (w'' := w9) ?_ (Ext.refl _)
                        go_simp
                      | 8, _ =>
                        refine ⟨_, rfl, rfl, ?_⟩
                        intro a w9 done val G H hdn hdep hev hout hE9 hok hge9
                        refine ⟨(fun v b hb => by cases hb), ?_⟩
                        have d7 : done 7 = true := by first | exact hdep ⟨7, .data⟩ (by simp) rfl | exact hdep ⟨7, .phase⟩ (by simp) rfl
                        have e7 := hev 7 _ 123 rfl rfl (by simp) d7
                        have k7 := hok 7 (by decide) d7
                        replace k7 : val 7 = (.slice ax Q.length cx) := k7
                        rw [k7] at e7
                        clear k7
                        simp [Act.eval] at e7
                        clear d7
                        clear hdep hev hout hok hge9
                        exact step_goB 62 #[.tmp 123] #[73] rfl Tryz.func62 (by kernel_rfl) (by kernel_rfl) _ (by simp [Act.eval, e7]; try rfl) (qa.out w9 hE9)
                      | 9, _ =>
                        refine ⟨_, rfl, rfl, ?_⟩
                        intro a w9 done val G H hdn hdep hev hout hE9 hok hge9
                        refine ⟨(fun v b hb => by cases hb), ?_⟩
                        have d1 : done 1 = true := by first | exact hdep ⟨1, .data⟩ (by simp) rfl | exact hdep ⟨1, .phase⟩ (by simp) rfl
                        have e1 := hev 1 _ 117 rfl rfl (by simp) d1
                        have k1 := hok 1 (by decide) d1
                        replace k1 : val 1 = (.slice (some ⟨g8, 0, none⟩) P.length c8) := k1
                        rw [k1] at e1
                        clear k1
                        simp [Act.eval] at e1
                        clear d1
                        have d2 : done 2 = true := by first | exact hdep ⟨2, .data⟩ (by simp) rfl | exact hdep ⟨2, .phase⟩ (by simp) rfl
                        have e2 := hev 2 _ 118 rfl rfl (by simp) d2
                        have k2 := hok 2 (by decide) d2
                        replace k2 : val 2 = (.int .i64 (m : Int)) := k2
                        rw [k2] at e2
                        clear k2
                        simp [Act.eval] at e2
                        clear d2
                        clear hdep hev hout hok hge9
                        refine step_val (w'' := w9) ?_ (Ext.refl _)
                        go_simp
                      | i + 10, h => exact absurd h (by omega)
                    case restN =>
                      rintro done val w5x hall htl ⟨⟨hE5, G, H, hok, hge, hdis, _⟩, _⟩
                      have e0 : done 0 = true := hall 0 (by decide)
                      have e1 : done 1 = true := hall 1 (by decide)
                      have e2 : done 2 = true := hall 2 (by decide)
                      have e3 : done 3 = true := hall 3 (by decide)
                      have e4 : done 4 = true := hall 4 (by decide)
                      have e5 : done 5 = true := hall 5 (by decide)
                      have e6 : done 6 = true := hall 6 (by decide)
                      have e7 : done 7 = true := hall 7 (by decide)
                      have e8 : done 8 = true := hall 8 (by decide)
                      have e9 : done 9 = true := hall 9 (by decide)
                      have e10 : done 10 = false := htl 10 (by decide)
                      have k0 := hok 0 (by decide) e0
                      replace k0 : val 0 = (.pointer (some ⟨gs, 4, none⟩)) := k0
                      have k1 := hok 1 (by decide) e1
                      replace k1 : val 1 = (.slice (some ⟨g8, 0, none⟩) P.length c8) := k1
                      have k2 := hok 2 (by decide) e2
                      replace k2 : val 2 = (.int .i64 (m : Int)) := k2
                      have k3 := hok 3 (by decide) e3
                      replace k3 : val 3 = (.pointer (some ⟨gs, 4, none⟩)) := k3
                      have k4 := hok 4 (by decide) e4
                      replace k4 : val 4 = (.slice (some ⟨g8, 0, none⟩) P.length c8) := k4
                      have k5 := hok 5 (by decide) e5
                      replace k5 : val 5 = (.int .i64 (m : Int)) := k5
                      have k6 := hok 6 (by decide) e6
                      replace k6 : val 6 = (.pointer (some ⟨g8, m, none⟩)) := k6
                      have k7 := hok 7 (by decide) e7
                      replace k7 : val 7 = (.slice ax Q.length cx) := k7
                      have k8 := hok 8 (by decide) e8
                      replace k8 : OwnR EAtm 75 Q (G 8) (H 8) (val 8) w5x := k8
                      have G8 := hge 8 (by decide) e8 rfl
                      have k9 := hok 9 (by decide) e9
                      replace k9 : val 9 = (.pointer (some ⟨g8, m, none⟩)) := k9
                      clear hok hge hdis hall htl
                      simp only [putD, e0, e1, e2, e3, e4, e5, e6, e7, e8, e9, e10, if_true, if_false, Bool.false_eq_true, Nat.zero_add, Nat.reduceAdd, k0, k1, k2, k3, k4, k5, k6, k7, k9]
                      clear e0 e1 e2 e3 e4 e5 e6 e7 e8 e9 e10 k0 k1 k2 k3 k4 k5 k6 k7 k9
                      generalize val 8 = v8n at *
                      generalize G 8 = lo8n at *
                      generalize H 8 = hi8n at *
                      simp only [List.drop_succ_cons, List.drop_zero]
                      obtain ⟨ai, ci, hv⟩ := k8.1.form
                      subst hv
                      have hc5 : w5x.cell? ⟨g8, m, none⟩ = some (.slice ax Q.length cx) := hE5.cell hcell.out
                      have hf5 : w5x.frozen? ⟨g8, m, none⟩ = false := (World.frozen?_of_block (a := ⟨g8, m, none⟩) (hE5.block g8 hga'.out)).trans hfz.out
                      have hst3 := slv_set (hrow.out.ext hE5) m hlm (ai, Q.length, ci)
                      have hq9 : Own EAtm 75 w5x W5.heap.size (.slice ai P[m].length ci) P[m] := by
                        rw [hQ.out]
                        exact k8.1.low (by have := G8.1; have := hgrow.out.size; omega)
                      have hpp := hp.out.step hltm hE5 hq9 hg8W.out m (.slice ai P[m].length ci)
                      rw [hQ.out] at hpp
                      have hgg : W5.grownBy (w5x.setCell ⟨g8, m, none⟩ (.slice ai Q.length ci)) (some g8) := (hgrow.out.trans ⟨hE5.os, hE5.tape, hE5.output, hE5.size, fun k hk _ => hE5.block k hk⟩).trans (grown_cellZ w5x g8 m _)
                      clear hq9 k8 G8 hE5 hcell hfz hp hrow hgrow qa y4 hB hmi
                      replace hst3 := hide hst3
                      replace hpp := hide hpp
                      replace hgg := hide hgg
                      go_wp2_with fail
                      go_roundw
                      case rel => exact ⟨m + 1, by omega, by go_num, _, hpp.out, hst3.out, hgg.out⟩
                      case measure => simp [intOf]; omega
                  · obtain rfl : m = P.length := by omega
                    have hmm : ∀ i (hi : i < P.length), P[i].length ≤ 16777216 := fun i hi => by
                      obtain ⟨x, _, _, h2, _⟩ := hhd.out i hi
                      exact h2
                    have hEw := E5.out.grown hgrow (fun b hb => by have h1 := (hv8.out b hb).1; have h2 := hg8.out; have h3 := hw1.out; omega)
                    have q2 := own_kept (fun h => h) r2.out hgrow n2.out
                    have q5 := own_kept (fun h => h) r5.out hgrow n5.out
                    have hne2 : ∀ b, (Value.slice a8 P.length c8).ownBlock = some b → (Value.slice b2 I.length d2).ownBlock ≠ some b ∧ (Value.slice b5 C.length d5).ownBlock ≠ some b := fun b hb =>
                      ⟨fun e => by
                        rcases n2.out with h | h
                        · rw [h] at e; cases e
                        · exact h (e.trans hb.symm), fun e => by
                        rcases n5.out with h | h
                        · rw [h] at e; cases e
                        · exact h (e.trans hb.symm)⟩
                    have hSB : SetB16 wy (fun b => W9.heap.size ≤ b ∧ b < wy.heap.size) ⟨nm, kd, I, C, P⟩ (.slice b2 I.length d2) (.slice b5 C.length d5) (.slice a8 P.length c8) :=
                      setB_of (x := ⟨nm, kd, I, C, P⟩) (B0 := W9.heap.size) hnm.out hkd.out nI nC nP (q2.low hg2.out) (q5.low hg5.out) hp (hrow.low hg8.out) (by have := hw34.out; have := hw5.out; omega) (fun b hb => (hv8.out b hb).2) hmm hne2 fun b h1 h2 => ⟨h1, h2⟩
                    have y0 : wy.cell? ⟨gs, 0, none⟩ = some (.string ⟨nm.toArray⟩) := hB.cell 0
                    have y1 : wy.cell? ⟨gs, 1, none⟩ = some (.int .i64 kd) := hB.cell 1
                    have y2 : wy.cell? ⟨gs, 2, none⟩ = some (.slice b2 I.length d2) := hB.cell 2
                    have y3 : wy.cell? ⟨gs, 3, none⟩ = some (.slice b5 C.length d5) := hB.cell 3
                    obtain ⟨va2, vc2, rfl⟩ := hown.out.form
                    have Ow := O.out.ext hEw
                    have hbw := hbut.out.trans (But.of hEw)
                    have hown' := hown.out
                    have hlow : W7.heap.size ≤ wr.heap.size := hbut.out.size
                    have hw1' := hw1.out
                    have hwy : wr.heap.size ≤ wy.heap.size := hEw.size
                    have hox := (hown'.ext hEw).alloc (Obj.cells #[.string ⟨nm.toArray⟩, .int .i64 kd, .slice b2 I.length d2, .slice b5 C.length d5, .slice a8 P.length c8] 67)
                    have O5 := Ow.alloc (Obj.cells #[.string ⟨nm.toArray⟩, .int .i64 kd, .slice b2 I.length d2, .slice b5 C.length d5, .slice a8 P.length c8] 67)
                    have B5 := hbw.trans (But.of ((Ext.refl wy).alloc (Obj.cells #[.string ⟨nm.toArray⟩, .int .i64 kd, .slice b2 I.length d2, .slice b5 C.length d5, .slice a8 P.length c8] 67)))
                    have hcell := cells_new wy #[.string ⟨nm.toArray⟩, .int .i64 kd, .slice b2 I.length d2, .slice b5 C.length d5, .slice a8 P.length c8] 67
                    replace hcell : ∀ (j : Nat) (u : Value), ([.string ⟨nm.toArray⟩, .int .i64 kd, .slice b2 I.length d2, .slice b5 C.length d5, .slice a8 P.length c8] : List Value)[j]? = some u → _ := hcell
                    have hsz : (wy.alloc (Obj.cells #[.string ⟨nm.toArray⟩, .int .i64 kd, .slice b2 I.length d2, .slice b5 C.length d5, .slice a8 P.length c8] 67)).heap.size = wy.heap.size + 1 := by simp
                    have hW5 : W7.heap.size ≤ (wy.alloc (Obj.cells #[.string ⟨nm.toArray⟩, .int .i64 kd, .slice b2 I.length d2, .slice b5 C.length d5, .slice a8 P.length c8] 67)).heap.size := by omega
                    have hSb : SetB16 (wy.alloc (Obj.cells #[.string ⟨nm.toArray⟩, .int .i64 kd, .slice b2 I.length d2, .slice b5 C.length d5, .slice a8 P.length c8] 67)) (fun b => (W7.heap.size ≤ b ∧ b < (wy.alloc (Obj.cells #[.string ⟨nm.toArray⟩, .int .i64 kd, .slice b2 I.length d2, .slice b5 C.length d5, .slice a8 P.length c8] 67)).heap.size ∧ some b ≠ (Value.slice va2 ls.length vc2).ownBlock) ∧ W9.heap.size ≤ b ∧ b < wy.heap.size) ⟨nm, kd, I, C, P⟩ (.slice b2 I.length d2) (.slice b5 C.length d5) (.slice a8 P.length c8) :=
                      (hSB.frame (w' := wy.alloc (Obj.cells #[.string ⟨nm.toArray⟩, .int .i64 kd, .slice b2 I.length d2, .slice b5 C.length d5, .slice a8 P.length c8] 67)) fun b hb => Below.heap_alloc wy _ b hb.2).mono fun b hb => ⟨⟨by omega, by omega, fun e => by have := (hown'.lt b e.symm).2; omega⟩, hb.1, hb.2⟩
                    have hER : ESetB.R (wy.alloc (Obj.cells #[.string ⟨nm.toArray⟩, .int .i64 kd, .slice b2 I.length d2, .slice b5 C.length d5, .slice a8 P.length c8] 67)) (fun b => W7.heap.size ≤ b ∧ b < (wy.alloc (Obj.cells #[.string ⟨nm.toArray⟩, .int .i64 kd, .slice b2 I.length d2, .slice b5 C.length d5, .slice a8 P.length c8] 67)).heap.size ∧ some b ≠ (Value.slice va2 ls.length vc2).ownBlock) ((⟨nm, kd, I, C, P⟩ : StS), W9.heap.size, wy.heap.size) [.string ⟨nm.toArray⟩, .int .i64 kd, .slice b2 I.length d2, .slice b5 C.length d5, .slice a8 P.length c8] := ⟨_, _, _, rfl, hSb⟩
                    have o1 : wy.cell? ⟨g7, 1, none⟩ = some (.slice va2 ls.length vc2) := Ow.cell 1
                    have hpw2 : (ls ++ [((⟨nm, kd, I, C, P⟩ : StS), W9.heap.size, wy.heap.size)]).Pairwise fun x y => x.2.2 ≤ y.2.1 := List.pairwise_append.2 ⟨hpw.out, List.pairwise_singleton _ _, fun x hx y hy => by
                      rw [List.mem_singleton] at hy
                      subst hy
                      exact Nat.le_trans (hhi.out x hx) hw1'⟩
                    have hhi2 : ∀ x ∈ ls ++ [((⟨nm, kd, I, C, P⟩ : StS), W9.heap.size, wy.heap.size)], x.2.2 ≤ wy.heap.size := fun x hx => by
                      rw [List.mem_append, List.mem_singleton] at hx
                      rcases hx with hx | rfl
                      · exact Nat.le_trans (hhi.out x hx) hwy
                      · exact Nat.le_refl _
                    have hmap2 : (ls ++ [((⟨nm, kd, I, C, P⟩ : StS), W9.heap.size, wy.heap.size)]).map (·.1) = (l.take (k + 1)).filter (fun s => N.any fun n => n.1 == s.name) := by rw [hst2.out, List.map_append, hmap.out]; rfl
                    clear hSb hSB hne2 q2 q5 hEw hmm hp hrow hgrow hneg7 hB Ow hbw hown hown' hbut O hhi hpw hmap hst2 hB5 r2 r5 r8 E5 hv8 n2 n5 hlo8 hg2 hg5 hg8 hlt7' hw34 hw5 hhd hhl hnm hkd EW
                    replace hox := hide hox
                    replace O5 := hide O5
                    replace B5 := hide B5
                    replace hcell := hide hcell
                    replace hsz := hide hsz
                    replace hW5 := hide hW5
                    replace hER := hide hER
                    replace hpw2 := hide hpw2
                    replace hhi2 := hide hhi2
                    replace hmap2 := hide hmap2
                    replace hlow := hide hlow
                    replace hw1' := hide hw1'
                    replace hwy := hide hwy
                    go_wp2_with (
                      at_builtin
                      go_must (refine wpList_push (E := ESetB) rfl _ _ _ rfl okSetB (by decide) (by decide) rfl hox.out (by omega) hW5.out rfl hER.out hcell.out ?_)
                      intro v' w6 hown1 hg6 hat6
                      obtain ⟨va3, vc3, hv3⟩ := hown1.form
                      rw [List.length_append, List.length_singleton] at hv3
                      subst hv3
                      have hng : some g7 ≠ (Value.slice va2 ls.length vc2).ownBlock := fun h => by have := (hox.out.lt g7 h.symm).1; have := hg7m.out; omega
                      have O6 := O5.out.grown hg6 hng
                      have o6 := O6.cell 1
                      have f6 := fun i => O6.frozen i
                      replace O6 := hide O6
                      replace hown1 := hide hown1)
                    have B6 := (B5.out.grown hg6 (fun q hq => (hox.out.lt q hq).1)).set 1 (.slice va3 (ls.length + 1) vc3)
                    have O7 : Blk (w6.setCell ⟨g7, 1, none⟩ (.slice va3 (ls.length + 1) vc3)) g7 56 #[.slice va1 (L.length + 1) vc1, .slice va3 (ls.length + 1) vc3] := by simpa using O6.out.set_ 1 (.slice va3 (ls.length + 1) vc3)
                    have H8 := hown1.out.asideK (p := ⟨g7, 1, none⟩) (show g7 < W7.heap.size from hg7m.out) (.slice va3 (ls.length + 1) vc3)
                    have hsz2 : wy.heap.size ≤ (w6.setCell ⟨g7, 1, none⟩ (.slice va3 (ls.length + 1) vc3)).heap.size := by
                      have h1 := hg6.size
                      have h2 := hsz.out
                      have h3 : (w6.setCell ⟨g7, 1, none⟩ (.slice va3 (ls.length + 1) vc3)).heap.size = w6.heap.size := by simp [World.setCell]
                      omega
                    go_roundw
                    case rel => exact ⟨k + 1, _, _, by omega, by go_num, B6, O7, H8, hmap2.out, by rw [List.length_append, List.length_singleton]; omega, hpw2.out, fun x hx => Nat.le_trans (hhi2.out x hx) hsz2⟩
                    case measure => simp [intOf]; omega
          · obtain rfl : k = l.length := by omega
            have hmap' := hmap
            rw [List.take_length] at hmap'
            obtain ⟨va2, vc2, rfl⟩ := hown.form
            have Rr := R.out.ext EW
            have EE := E0.out.trans EW
            have hgr1 : gr < W1.heap.size := R.out.lt
            have hg7' := hg7.out
            have hg7m' := hg7m.out
            have hw0 := E0.out.size
            have H8 := H7.out.kept hbut.size fun b hb hlt => hbut.block b hlt (by omega)
            have c0 : wr.cell? ⟨g7, 0, none⟩ = some (.slice va1 (L.length + 1) vc1) := O.cell 0
            have c1 : wr.cell? ⟨g7, 1, none⟩ = some (.slice va2 ls.length vc2) := O.cell 1
            have r0 : wr.cell? ⟨gr, 0, none⟩ = some (.slice none 0 0) := Rr.cell 0
            have r1 : wr.cell? ⟨gr, 1, none⟩ = some (.slice none 0 0) := Rr.cell 1
            have rf := fun i => Rr.frozen i
            have hZ := Rr.set2 (.slice va1 (L.length + 1) vc1) (.slice va2 ls.length vc2)
            have hon := OnlyAt.set2 (g := gr) (w := wr) (.slice va1 (L.length + 1) vc1) (.slice va2 ls.length vc2)
            have hEZ := hon.ext EE hgw.out
            have z1 := (H8.only hon (show gr < g7 + 1 by omega)).low (show w.heap.size ≤ g7 + 1 by omega)
            have z2 := hown.only hon (show gr < W7.heap.size by omega)
            have hfin := hyes'.out _ _ ls W7.heap.size _ hEZ (by omega) hv1.out z1 z2 hmap' hpw
            clear Rr EE H8 hon hEZ z1 z2 hmap hmap' hpw hhi hown O hbut EW H7 hv1 sN hyes' s2 R E0 F7 hN8 hw0 hg7' hg7m' hgr1 hlt
            replace hZ := hide hZ
            replace hfin := hide hfin
            go_wp2
            replace hZ := hZ.out
            replace hfin := hfin.out
            generalize (wr.setCell ⟨gr, 0, none⟩ (.slice va1 (L.length + 1) vc1)).setCell ⟨gr, 1, none⟩ (.slice va2 ls.length vc2) = W3 at hZ hfin ⊢
            have z0 : W3.cell? ⟨gr, 0, none⟩ = some (.slice va1 (L.length + 1) vc1) := hZ.cell 0
            have z1 : W3.cell? ⟨gr, 1, none⟩ = some (.slice va2 ls.length vc2) := hZ.cell 1
            exact bodyPost_ret (v := .tuple #[.agg #[.slice va1 (L.length + 1) vc1, .slice va2 ls.length vc2], .int .i64 0]) (by simp [results, Tryz.results25, go_sem, z0, z1]) rfl hfin
end
section
section
open Go.RowKit
set_option linter.unusedVariables false
deriving instance DecidableEq for CondS, ActS, TermS
theorem run_neq_ofB {P : Program} {T : TypeId} {xs ys : Array Value} {W : World} {b : Bool} (h1 : (binOp .eql T (.agg xs) (.agg ys)).run P W = .ok (.bool b) W) :
    (binOp .neq T (.agg xs) (.agg ys)).run P W = .ok (.bool (!b)) W := by
  rw [run_eql_struct] at h1
  rw [run_neq_struct]
  generalize (Op.equalIn 10000 T (.agg xs) (.agg ys)).run P W = q at h1 ⊢
  cases q with
  | ok b w' =>
    simp only [Result.andThen] at h1 ⊢
    injection h1 with e1 e2
    injection e1 with e1
    subst e1
    subst e2
    rfl
  | halt x w' => simp only [Result.andThen] at h1; cases h1
end
section
open Go.RowKit
set_option linter.unusedVariables false
set_option maxRecDepth 20000 in
attribute [local go_sem ↓] Go.wp_at_zero Go.wp_at_succ
end
section
open Go.RowKit
set_option linter.unusedVariables false
attribute [local go_sem ↓] Go.wp_at_zero Go.wp_at_succ
end
end
section
open Go.RowKit Go.Sort
set_option linter.unusedVariables false
/-! ### functions over lists of numbers -/
end
section
open Go.RowKit Go.Sort
set_option linter.unusedVariables false
/-- A set by where its rows lie. -/
structure HdS where
  s : StS
  a1 : Option Addr
  c1 : Nat
  a2 : Option Addr
  c2 : Nat
  a3 : Option Addr
  c3 : Nat
def hdCs (x : HdS) : List Value := [.string ⟨x.s.name.toArray⟩, .int .i64 x.s.kind, .slice x.a1 x.s.items.length x.c1, .slice x.a2 x.s.comms.length x.c2, .slice x.a3 x.s.paths.length x.c3]
def EHd : Enc HdS := Enc.cells hdCs (fun _ => True) 5 (fun _ => rfl) (fun x u hu => by simp only [hdCs, List.mem_cons, List.not_mem_nil, or_false] at hu; rcases hu with rfl | rfl | rfl | rfl | rfl <;> rfl)
theorem okHd : ElemOk Tryz.prog 52 67 EHd.sz 96 := elemOk (z := .agg #[.string ⟨#[]⟩, .int .i64 0, .slice none 0 0, .slice none 0 0, .slice none 0 0]) Tryz.underlying52 (by kernel_rfl) rfl
theorem EHd.at {w : World} {S : Nat → Prop} {a : Option Addr} {l : List HdS} (h : Sl EHd w S a l) (k : Nat) (hk : k < l.length) :
  ∃ b off, a = some ⟨b, off, none⟩ ∧ S b ∧ w.cell? ⟨b, off + k * 5, none⟩ = some (.string ⟨l[k].s.name.toArray⟩) ∧ w.cell? ⟨b, off + k * 5 + 1, none⟩ = some (.int .i64 l[k].s.kind) ∧ w.cell? ⟨b, off + k * 5 + 2, none⟩ = some (.slice l[k].a1 l[k].s.items.length l[k].c1) ∧ w.cell? ⟨b, off + k * 5 + 3, none⟩ = some (.slice l[k].a2 l[k].s.comms.length l[k].c2) ∧ w.cell? ⟨b, off + k * 5 + 4, none⟩ = some (.slice l[k].a3 l[k].s.paths.length l[k].c3) := by
 obtain ⟨b, off, cs, rfl, hb, ⟨rfl, _⟩, hc⟩ := h.at k hk
 exact ⟨b, off, rfl, hb, hc 0 _ rfl, hc 1 _ rfl, hc 2 _ rfl, hc 3 _ rfl, hc 4 _ rfl⟩
end
section
open Go.RowKit Go.Sort
set_option linter.unusedVariables false
noncomputable instance decItm : DecidableEq Itm := fun _ _ => Classical.propDecidable _
noncomputable instance decSt : DecidableEq StS := fun _ _ => Classical.propDecidable _
end
section
open Go.RowKit Go.Sort
set_option linter.unusedVariables false
set_option maxRecDepth 20000 in
theorem run_neqIns (W : World) (x : InsS) : (binOp .neq 62 (.agg #[.int .i64 x.kind, .int .i64 x.cond.kind, .bool x.cond.neg, .string ⟨x.cond.name.toArray⟩, .int .i64 x.cond.n, .int .i64 x.act.kind, .string ⟨x.act.name.toArray⟩, .int .u32 (x.act.n.toNat : Int), .string ⟨x.act.addr.toArray⟩, .int .i64 x.to, .int .i64 x.n]) (.agg #[.int .i64 x.kind, .int .i64 x.cond.kind, .bool x.cond.neg, .string ⟨x.cond.name.toArray⟩, .int .i64 x.cond.n, .int .i64 x.act.kind, .string ⟨x.act.name.toArray⟩, .int .u32 (x.act.n.toNat : Int), .string ⟨x.act.addr.toArray⟩, .int .i64 x.to, .int .i64 x.n])).run Tryz.prog W = .ok (.bool false) W := by
 have hS : Tryz.prog.underlying 62 = some (.struct (Tryz.prog.fieldsOf 62)) := by kernel_rfl
 have hC : Tryz.prog.underlying 48 = some (.struct (Tryz.prog.fieldsOf 48)) := by kernel_rfl
 have hA : Tryz.prog.underlying 51 = some (.struct (Tryz.prog.fieldsOf 51)) := by kernel_rfl
 have key : (binOp .eql 62 (.agg #[.int .i64 x.kind, .int .i64 x.cond.kind, .bool x.cond.neg, .string ⟨x.cond.name.toArray⟩, .int .i64 x.cond.n, .int .i64 x.act.kind, .string ⟨x.act.name.toArray⟩, .int .u32 (x.act.n.toNat : Int), .string ⟨x.act.addr.toArray⟩, .int .i64 x.to, .int .i64 x.n]) (.agg #[.int .i64 x.kind, .int .i64 x.cond.kind, .bool x.cond.neg, .string ⟨x.cond.name.toArray⟩, .int .i64 x.cond.n, .int .i64 x.act.kind, .string ⟨x.act.name.toArray⟩, .int .u32 (x.act.n.toNat : Int), .string ⟨x.act.addr.toArray⟩, .int .i64 x.to, .int .i64 x.n])).run Tryz.prog W = .ok (.bool true) W := by
  rw [run_eql_struct, run_equalIn_agg W 9999 _ _ _ hS Tryz.stoodInHeld62]
  have eC : ∀ (k n : Int) (g : Bool) (s : List UInt8) (w : World), (Op.equalIn 9999 48 (.agg #[.int .i64 k, .bool g, .string ⟨s.toArray⟩, .int .i64 n]) (.agg #[.int .i64 k, .bool g, .string ⟨s.toArray⟩, .int .i64 n])).run Tryz.prog w = .ok true w := fun k n g s w => by
   rw [run_equalIn_agg w 9998 _ _ _ hC Tryz.stoodInHeld48]
   simp only [Program.fieldsOf, Tryz.underlying48]
   have e1 : ∀ (a b : Int) (w : World), (Op.equalIn 9998 3 (.int .i64 a) (.int .i64 b)).run Tryz.prog w = .ok (a == b) w := fun a b w => run_equalIn_int w 9997 _ .i64 .i64 a b Tryz.underlying3
   have e2 : ∀ (a b : Bool) (w : World), (Op.equalIn 9998 4 (.bool a) (.bool b)).run Tryz.prog w = .ok (a == b) w := fun a b w => run_equalIn_bool' w 9997 _ a b Tryz.underlying4
   have e3 : ∀ (a b : List UInt8) (w : World), (Op.equalIn 9998 9 (.string ⟨a.toArray⟩) (.string ⟨b.toArray⟩)).run Tryz.prog w = .ok (a == b) w := fun a b w => by
    rw [run_equalIn_string w 9997 _ _ _ Tryz.underlying9, ByteArray.toList_eq, ByteArray.toList_eq]
   simp [Op.eqFields, part, e1, e2, e3]
  have eA : ∀ (k n : Int) (s q : List UInt8) (w : World), (Op.equalIn 9999 51 (.agg #[.int .i64 k, .string ⟨s.toArray⟩, .int .u32 n, .string ⟨q.toArray⟩]) (.agg #[.int .i64 k, .string ⟨s.toArray⟩, .int .u32 n, .string ⟨q.toArray⟩])).run Tryz.prog w = .ok true w := fun k n s q w => by
   rw [run_equalIn_agg w 9998 _ _ _ hA Tryz.stoodInHeld51]
   simp only [Program.fieldsOf, Tryz.underlying51]
   have e1 : ∀ (a b : Int) (w : World), (Op.equalIn 9998 3 (.int .i64 a) (.int .i64 b)).run Tryz.prog w = .ok (a == b) w := fun a b w => run_equalIn_int w 9997 _ .i64 .i64 a b Tryz.underlying3
   have e2 : ∀ (a b : Int) (w : World), (Op.equalIn 9998 49 (.int .u32 a) (.int .u32 b)).run Tryz.prog w = .ok (a == b) w := fun a b w => run_equalIn_int w 9997 _ .u32 .u32 a b Tryz.underlying49
   have e3 : ∀ (a b : List UInt8) (w : World), (Op.equalIn 9998 9 (.string ⟨a.toArray⟩) (.string ⟨b.toArray⟩)).run Tryz.prog w = .ok (a == b) w := fun a b w => by
    rw [run_equalIn_string w 9997 _ _ _ Tryz.underlying9, ByteArray.toList_eq, ByteArray.toList_eq]
   simp [Op.eqFields, part, e1, e2, e3]
  simp only [Program.fieldsOf, Tryz.underlying62]
  have e1 : ∀ (a b : Int) (w : World), (Op.equalIn 9999 3 (.int .i64 a) (.int .i64 b)).run Tryz.prog w = .ok (a == b) w := fun a b w => run_equalIn_int w 9998 _ .i64 .i64 a b Tryz.underlying3
  simp [Op.eqFields, part, e1, eC, eA]
 exact run_neq_ofB key
end
section
section
open Go.RowKit
set_option linter.unusedVariables false
theorem Own.asideS {α : Type} {E : Enc α} {e : TypeId} {w : World} {B : Nat} {v : Value} {l : List α} (h : Own E e w B v l) {p : Addr} (hp : p.block < B) (u : Value) : Own E e (w.setCell p u) B v l :=
 h.kept (Nat.le_of_eq (by simp)) fun b hb _ => Below.heap_setCell w p u b (by omega)
end
section
open Go.RowKit
set_option linter.unusedVariables false
attribute [local go_sem ↓] Go.wp_at_zero Go.wp_at_succ
end
section
open Go.RowKit
set_option linter.unusedVariables false
attribute [local go_sem ↓] Go.wp_at_zero Go.wp_at_succ
end
section
open Go.RowKit
set_option linter.unusedVariables false
set_option linter.unusedSimpArgs false
attribute [local go_sem ↓] Go.wp_at_zero Go.wp_at_succ
end
section
open Go.RowKit
set_option linter.unusedVariables false
end
end
end Go.Proofs.YtljibkfbldjgdaaGreatDoor
