/- Chapter 16, walks: polc.Check's parts: all terms may be; what a policy needs. Chapter 16, walks: what a policy needs. Chapter 16: a map of the call's own from texts to numbers, by what it holds at each text; which kinds sets have, plain. Chapter 16, walks: polc.Check. slices.Clone at items, at atoms, at numbers, at patterns (shallow). Rows of slices by their heads; rows of slices whose elements are replaced one by one by rows of the call's own. Chapter 16, walks: polc.Compile: instructions in memory. Chapter 16, walks: polc.Compile: is a set named? The row of sets is put together. -/
import Derived.Lib.SplitLaws
import Derived.Lib.ParseIntB
import Derived.Lib.ParseIntBCases
import Derived.Lib.ItoaNum
import Derived.Lib.Join
import Derived.WalkKit
import Derived.Below
import Derived.Outline
import Derived.LoopTactic
import Derived.Laws.OwnMore
import Derived.Deep.AppendLies
import Derived.Deep.Draws
import Derived.Lib.Hide
import Derived.BigQuiet
import Derived.Deep.QuietTactic
import Derived.WalkSpells
import Derived.WalkLawsBesides
import Derived.Deep.RegionHeld3
import Derived.Deep.DrawnRows
import Derived.Deep.RegionLaw
import Derived.Lib.ConvBytes
import Derived.Lib.Bytealg
import Derived.Lib.Small
import Derived.Test.YtljibkfbldjgdaaGreatDoorRows
import Derived.ProofKit
import Derived.Deep.Slices
import Derived.Shelf.GgClosure.StringsRunes
import Derived.Test.YtljibkfbldjgdaaGreatDoorProg
import Derived.Test.YtljibkfbldjgdaaGreatDoorShelf
import Derived.Test.YtljibkfbldjgdaaGreatDoorShelf2
import Derived.Lib.UnsafeStr
import Derived.Shelf.RegionOpenPlain
import Derived.Laws.StructEq
import Derived.Lib.QuietBelow
import Derived.Lib.ItoaMem
import Derived.Lib.ItoaLen
import Derived.Deep.DeepCutAuto
import Derived.Orders
import Derived.StillTail
import Derived.Defers
import Derived.Recover
import Derived.Maps.OwnSet
import Derived.Maps.Views
import Derived.Maps.Range
import Derived.DeepKeys5
import Derived.Deep.Cut
import Derived.Deep.MidRow
import Derived.Test.YtljibkfbldjgdaaGreatDoorPY01
import Derived.Test.YtljibkfbldjgdaaGreatDoorPY02
import Derived.Test.YtljibkfbldjgdaaGreatDoorPY03
import Derived.Test.YtljibkfbldjgdaaGreatDoorPY04
import Derived.Test.YtljibkfbldjgdaaGreatDoorPY05
import Derived.Test.YtljibkfbldjgdaaGreatDoorPY06
import Derived.Test.YtljibkfbldjgdaaGreatDoorPY07
import Derived.Test.YtljibkfbldjgdaaGreatDoorPY08
namespace Go.Proofs.YtljibkfbldjgdaaGreatDoor
section
section
open Go.RowKit Go.Sort
set_option linter.unusedVariables false
set_option maxRecDepth 20000 in
set_option maxHeartbeats 4000000 in
theorem PChk1_any (a1 : Option Addr) (c1 : Nat) (a2 : Option Addr) (c2 : Nat) (t : TermS) (w : World) (h1 : t.conds.length ≤ 16777216) (h2 : t.acts.length ≤ 16777216) (hc2 : t.acts.length ≤ c2) (s1 : Sl ECond w (· < w.heap.size) a1 t.conds) (s2 : Sl EAct w (· < w.heap.size) a2 t.acts) :
  Calls Tryz.prog 67 #[.agg #[.slice a1 t.conds.length c1, .slice a2 t.acts.length c2]] w fun e w' => e = .returned (.bool (!termOk t)) ∧ Ext w w' := by
 have q := fun W (h : Ext w W) => PMayTerm_any a1 c1 a2 c2 t W h1 h2 hc2 (s1.ext h) (s2.ext h)
 generalize termOk t = r at *
 have E := (Ext.refl w).alloc (Obj.cells #[.slice a1 t.conds.length c1, .slice a2 t.acts.length c2] 25)
 clear s1 s2 h1 h2 hc2
 generalize t.conds.length = n1 at *
 generalize t.acts.length = n2 at *
 replace q := hide q
 replace E := hide E
 go_enter Tryz.func67, Tryz.ntmps67
 go_wp2_with fail
 (with_reducible refine (q.out _ E.out).mono ?_)
 rintro e W1 ⟨rfl, he⟩
 replace E := hide (E.out.trans he)
 clear he
 go_wp2_with fail
 go_ret
 exact ⟨rfl, E.out⟩
def badT (l : List TermS) : Bool := l.any fun t => !termOk t
theorem badT_take {l : List TermS} {k : Nat} (h : k < l.length) (h1 : badT (l.take k) = false) (h2 : termOk l[k] = true) : badT (l.take (k + 1)) = false := by
 unfold badT at *
 rw [List.take_succ_eq_append_getElem h, List.any_append, h1]
 simp [h2]
theorem badT_at {l : List TermS} {k : Nat} (h : k < l.length) (h2 : termOk l[k] = false) : badT l = true := by
 unfold badT
 exact List.any_eq_true.2 ⟨l[k], List.getElem_mem h, by rw [h2]; rfl⟩
set_option maxRecDepth 20000 in
set_option maxHeartbeats 4000000 in
theorem IdxTerm_any (a : Option Addr) (c : Nat) (l : List TermS) (w : World) (hl : l.length ≤ 16777216) (s1 : Sl ETermC w (· < w.heap.size) a l) :
    Calls Tryz.prog 112 #[.slice a l.length c, .func (.func 67) #[] #[]] w fun e w' => (∃ i : Int, e = .returned (.int .i64 i) ∧ ((badT l = true ∧ 0 ≤ i ∧ i ≤ 16777216) ∨ (badT l = false ∧ i = -1))) ∧ Ext w w' := by
  replace s1 := hide s1
  go_enter Tryz.func112, Tryz.ntmps112
  go_wp2_with fail
  go_loopw [8] (fun i wr => ∃ k : Nat, k ≤ l.length ∧ i = .int .i64 k ∧ Ext w wr ∧ badT (l.take k) = false) (fun i _ => l.length - (intOf i).toNat)
  case atStart => exact ⟨0, Nat.zero_le _, rfl, Ext.refl _, rfl⟩
  case round =>
    obtain ⟨k, hk, rfl, hE, htk⟩ := hrel
    by_cases hlt : k < l.length
    · obtain ⟨b1, o1, x1, p1, x2, p2, rfl, _, e1, e2, n1, r1, n2, r2, u1, u2⟩ := ETermC.at (s1.out.ext hE) k hlt
      have hst := badT_take hlt htk
      have hne := badT_at (l := l) hlt
      generalize l[k] = x at *
      have qs := fun W (h : Ext wr W) => PChk1_any x1 p1 x2 p2 x W n1 n2 u2 (r1.ext h) (r2.ext h)
      generalize termOk x = bb at *
      clear n1 n2 r1 r2 u1 u2
      replace hE := hide hE
      replace hst := hide hst
      replace hne := hide hne
      replace htk := hide htk
      replace qs := hide qs
      go_wp2_with fail
      (with_reducible refine (qs.out _ (Ext.refl _)).mono ?_)
      rintro e W2 ⟨rfl, he⟩
      replace hE := hide (hE.out.trans he)
      clear he qs e1 e2
      cases bb with
      | false =>
        have hr := hide (hne.out rfl)
        clear hst hne
        go_wp2_with fail
        go_ret
        exact ⟨⟨_, rfl, .inl ⟨hr.out, by omega, by omega⟩⟩, hE.out⟩
      | true =>
        have hs := hide (hst.out rfl)
        clear hst hne
        go_wp2_with fail
        go_roundw
        case rel => exact ⟨k + 1, by omega, by go_num, hE.out, hs.out⟩
        case measure => simp [intOf]; omega
    · obtain rfl : k = l.length := by omega
      rw [List.take_length] at htk
      clear hlt hk
      replace hE := hide hE
      replace htk := hide htk
      go_wp2_with fail
      go_ret
      exact ⟨⟨_, rfl, .inr ⟨htk.out, rfl⟩⟩, hE.out⟩
set_option maxRecDepth 20000 in
set_option maxHeartbeats 4000000 in
theorem HasTerm_any (a : Option Addr) (c : Nat) (l : List TermS) (w : World) (hl : l.length ≤ 16777216) (s1 : Sl ETermC w (· < w.heap.size) a l) :
  Calls Tryz.prog 66 #[.slice a l.length c, .func (.func 67) #[] #[]] w fun e w' => e = .returned (.bool (badT l)) ∧ Ext w w' := by
 have q := IdxTerm_any a c l w hl s1
 clear s1 hl
 generalize badT l = r at *
 generalize l.length = n at *
 replace q := hide q
 go_enter Tryz.func66, Tryz.ntmps66
 go_wp2_with fail
 (with_reducible refine (q.out).mono ?_)
 rintro e W1 ⟨⟨i, rfl, hi⟩, he⟩
 replace he := hide he
 rcases hi with ⟨rfl, h1, h2⟩ | ⟨rfl, rfl⟩
 ·go_wp2_with fail
  go_ret
  exact ⟨ret_bool (by simp), he.out⟩
 ·go_wp2_with fail
  go_ret
  exact ⟨rfl, he.out⟩
/-- A need: a name, and of which kind. -/
def ENeed : Enc (List UInt8 × Int) := EByt.pair EI64
theorem ENeed.of {w : World} {S : Nat → Prop} {x : List UInt8} {k : Int} (h : x.length ≤ 1048576) (hk : i64 k) : ENeed.R w S (x, k) [.string ⟨x.toArray⟩, .int .i64 k] := ⟨[_], [_], rfl, ⟨rfl, h⟩, ⟨rfl, hk⟩⟩
theorem okNeed : ElemOk Tryz.prog 110 114 ENeed.sz 24 := elemOk (z := .agg #[.string ⟨#[]⟩, .int .i64 0]) Tryz.underlying110 (by kernel_rfl) rfl
theorem ENeed.at {w : World} {S : Nat → Prop} {a : Option Addr} {l : List (List UInt8 × Int)} (h : Sl ENeed w S a l) (k : Nat) (hk : k < l.length) :
  ∃ b off, a = some ⟨b, off, none⟩ ∧ S b ∧ l[k].1.length ≤ 1048576 ∧ i64 l[k].2 ∧ w.cell? ⟨b, off + k * 2, none⟩ = some (.string ⟨l[k].1.toArray⟩) ∧ w.cell? ⟨b, off + k * 2 + 1, none⟩ = some (.int .i64 l[k].2) := by
 obtain ⟨b, off, cs, rfl, hb, ⟨c, d, rfl, ⟨rfl, h1⟩, ⟨rfl, h2⟩⟩, hc⟩ := h.at k hk
 exact ⟨b, off, rfl, hb, h1, h2, hc 0 _ rfl, hc 1 _ rfl⟩
theorem ECond.atC {w : World} {S : Nat → Prop} {a : Option Addr} {l : List CondS} (h : Sl ECond w S a l) (k : Nat) (hk : k < l.length) :
  ∃ b off, a = some ⟨b, off, none⟩ ∧ S b ∧ CondIn l[k] ∧ w.cell? ⟨b, off + k * 4, none⟩ = some (.int .i64 l[k].kind) ∧ w.cell? ⟨b, off + k * 4 + 1, none⟩ = some (.bool l[k].neg) ∧ w.cell? ⟨b, off + k * 4 + 2, none⟩ = some (.string ⟨l[k].name.toArray⟩) ∧ w.cell? ⟨b, off + k * 4 + 3, none⟩ = some (.int .i64 l[k].n) := by
 obtain ⟨b, off, rfl, hb, hin, hx⟩ := ECond.at h k hk
 exact ⟨b, off, rfl, hb, hin, hx 0 _ rfl, hx 1 _ rfl, hx 2 _ rfl, hx 3 _ rfl⟩
theorem EAct.atC {w : World} {S : Nat → Prop} {a : Option Addr} {l : List ActS} (h : Sl EAct w S a l) (k : Nat) (hk : k < l.length) :
  ∃ b off, a = some ⟨b, off, none⟩ ∧ S b ∧ ActIn l[k] ∧ w.cell? ⟨b, off + k * 4, none⟩ = some (.int .i64 l[k].kind) ∧ w.cell? ⟨b, off + k * 4 + 1, none⟩ = some (.string ⟨l[k].name.toArray⟩) ∧ w.cell? ⟨b, off + k * 4 + 2, none⟩ = some (.int .u32 (l[k].n.toNat : Int)) ∧ w.cell? ⟨b, off + k * 4 + 3, none⟩ = some (.string ⟨l[k].addr.toArray⟩) := by
 obtain ⟨b, off, rfl, hb, hin, hx⟩ := EAct.at h k hk
 exact ⟨b, off, rfl, hb, hin, hx 0 _ rfl, hx 1 _ rfl, hx 2 _ rfl, hx 3 _ rfl⟩
end
section
open Go.RowKit Go.Sort
set_option linter.unusedVariables false
theorem fm_step {α β : Type} (f : α → Option β) {l : List α} {j : Nat} (h : j < l.length) : (l.take (j + 1)).filterMap f = (l.take j).filterMap f ++ (f l[j]).toList := by
 rw [List.take_succ_eq_append_getElem h, List.filterMap_append]
 cases hf : f l[j] <;> simp [hf]
theorem fm_len {α β : Type} (f : α → Option β) (l : List α) : (l.filterMap f).length ≤ l.length := List.length_filterMap_le f l
theorem fl_step (l : List TermS) {k : Nat} (h : k < l.length) : (l.take (k + 1)).flatMap needsT = (l.take k).flatMap needsT ++ (l[k].conds.filterMap needC ++ l[k].acts.filterMap needA) := by
 rw [List.take_succ_eq_append_getElem h, List.flatMap_append]
 simp [needsT]
structure PolB (p : PolS) : Prop where
  n : p.terms.length ≤ 64
  c : ∀ t ∈ p.terms, t.conds.length ≤ 64 ∧ t.acts.length ≤ 64
theorem PolB.of {p : PolS} (h : polOk p = true) : PolB p := by
 unfold polOk at h
 simp only [Bool.and_eq_true, decide_eq_true_eq, List.all_eq_true] at h
 refine ⟨h.2.1, fun t ht => ?_⟩
 have h2 := h.2.2 t ht
 unfold termOk at h2
 simp only [Bool.and_eq_true, decide_eq_true_eq] at h2
 exact ⟨h2.1, h2.2.1.2⟩
set_option maxRecDepth 20000 in
set_option maxHeartbeats 8000000 in
theorem PNeeds_any (p : PolS) (a : Option Addr) (ca : Nat) (w : World) (hb : PolB p) (s1 : Sl ETerm w (· < w.heap.size) a p.terms) :
  Calls Tryz.prog 56 #[.agg #[.string ⟨p.name.toArray⟩, .slice a p.terms.length ca, .bool p.els]] w fun e w' => ∃ v, e = .returned v ∧ Ext w w' ∧ Own ENeed 114 w' w.heap.size v (needsP p) := by
 have S := Blk.new w 35 #[.string ⟨p.name.toArray⟩, .slice a p.terms.length ca, .bool p.els]
 have E := (Ext.refl w).alloc (Obj.cells #[.string ⟨p.name.toArray⟩, .slice a p.terms.length ca, .bool p.els] 35)
 have hbc := hb.c
 have hbn := hb.n
 unfold needsP
 generalize p.terms = l at *
 generalize hW0 : w.alloc (Obj.cells #[.string ⟨p.name.toArray⟩, .slice a l.length ca, .bool p.els] 35) = W0 at S E
 have s2 := s1.ext E
 generalize hg0 : w.heap.size = g0 at S ⊢
 have hgw : g0 ≤ w.heap.size := by omega
 clear s1 hb
 replace S := hide S
 replace E := hide E
 replace s2 := hide s2
 replace hbc := hide hbc
 replace hgw := hide hgw
 go_enter Tryz.func56, Tryz.ntmps56
 have S_0 : W0.cell? ⟨g0, 0, none⟩ = some (.string ⟨p.name.toArray⟩) := S.out.cell 0
 have S_1 : W0.cell? ⟨g0, 1, none⟩ = some (.slice a l.length ca) := S.out.cell 1
 have S_2 : W0.cell? ⟨g0, 2, none⟩ = some (.bool p.els) := S.out.cell 2
 go_wp2_with fail
 clear S_0 S_1 S_2
 clear hW0 hg0 S
 go_loopw [3, 13] (fun v i wr => ∃ k : Nat, k ≤ l.length ∧ i = .int .i64 k ∧ Own ENeed 114 wr W0.heap.size v ((l.take k).flatMap needsT) ∧ ((l.take k).flatMap needsT).length ≤ 128 * k ∧ Ext W0 wr) (fun _ i _ => l.length - (intOf i).toNat)
 case atStart => exact ⟨0, Nat.zero_le _, rfl, Own.nil, Nat.le_refl _, Ext.refl _⟩
 case round =>
  obtain ⟨k, hk, rfl, hown, hln, hE⟩ := hrel
  by_cases hlt : k < l.length
  ·obtain ⟨b1, o1, x1, p1, x2, p2, ha, _, i1, i2, n3, r1, n4, r2⟩ := ETerm.at s2.out k hlt
   subst ha
   obtain ⟨hc1, hc2⟩ := hbc.out _ (List.getElem_mem hlt)
   have hfs := fl_step l hlt
   generalize l[k] = t at *
   generalize hL : (l.take k).flatMap needsT = L at *
   replace i1 := hE.cell i1
   replace i2 := hE.cell i2
   have T := Blk.new wr 25 #[.slice x1 t.conds.length p1, .slice x2 t.acts.length p2]
   have ET := (Ext.refl wr).alloc (Obj.cells #[.slice x1 t.conds.length p1, .slice x2 t.acts.length p2] 25)
   have hlb : ∀ q, u3.ownBlock = some q → q ≠ wr.heap.size := fun q hq => by have := (hown.lt q hq).2; omega
   replace hown := hown.ext ET
   replace hE := hE.trans ET
   clear ET n3 n4 hL
   replace T := hide T
   replace hown := hide hown
   replace r1 := hide r1
   replace r2 := hide r2
   replace hE := hide hE
   replace hfs := hide hfs
   replace hln := hide hln
   replace hlb := hide hlb
   go_upto_region 5 with fail
   generalize wr.alloc (Obj.cells #[.slice x1 t.conds.length p1, .slice x2 t.acts.length p2] 25) = W2 at T hown hE ⊢
   generalize wr.heap.size = bt at T hlb ⊢
   clear i1 i2
   have T_0 : W2.cell? ⟨bt, 0, none⟩ = some (.slice x1 t.conds.length p1) := T.out.cell 0
   have T_1 : W2.cell? ⟨bt, 1, none⟩ = some (.slice x2 t.acts.length p2) := T.out.cell 1
   go_wp2_with fail
   clear T_0 T_1
   go_loopw [3, 20] (fun v i wq => ∃ j : Nat, j ≤ t.conds.length ∧ i = .int .i64 j ∧ Own ENeed 114 wq W0.heap.size v (L ++ (t.conds.take j).filterMap needC) ∧ Ext W0 wq ∧ Blk wq bt 25 #[.slice x1 t.conds.length p1, .slice x2 t.acts.length p2] ∧ ∀ q, v.ownBlock = some q → q ≠ bt) (fun _ i _ => t.conds.length - (intOf i).toNat)
   case atStart => exact ⟨0, Nat.zero_le _, rfl, by simpa using hown.out, hE.out, T.out, hlb.out⟩
   case round =>
    rename World => wq
    clear hown hlb T hE
    obtain ⟨j, hj, rfl, hown, hF, T, hlb⟩ := hrel
    by_cases hlj : j < t.conds.length
    ·obtain ⟨bc, oc, rfl, _, hin, c0, c1, c2, c3⟩ := ECond.atC (r1.out.ext hF) j hlj
     have hst := fm_step needC hlj
     have hll : (L ++ (t.conds.take j).filterMap needC).length ≤ 128 * k + 64 := by
      have := fm_len needC (t.conds.take j)
      rw [List.length_append]
      rw [List.length_take] at this
      have := hln.out
      omega
     generalize t.conds[j] = cc at *
     obtain ⟨ck, cn, cm, cv⟩ := cc
     dsimp only at c0 c1 c2 c3
     have hnm : cm.length ≤ 1048576 := hin.name
     have hkd : i64 ck := hin.kind
     have hB0 : W0.heap.size ≤ wq.heap.size := hF.size
     have hbt := T.lt
     generalize hM : L ++ (t.conds.take j).filterMap needC = M at *
     clear hin
     by_cases hk1 : ck = 1
     ·subst hk1
      have hnd : L ++ (t.conds.take (j + 1)).filterMap needC = M ++ [(cm, 1)] := by rw [hst, ← hM, List.append_assoc]; rfl
      have hox := (hown.alloc (Obj.cells #[.int .i64 1, .bool cn, .string ⟨cm.toArray⟩, .int .i64 cv] 48)).alloc (Obj.cells #[.string ⟨cm.toArray⟩, .int .i64 1] 114)
      have F5 := (hF.alloc (Obj.cells #[.int .i64 1, .bool cn, .string ⟨cm.toArray⟩, .int .i64 cv] 48)).alloc (Obj.cells #[.string ⟨cm.toArray⟩, .int .i64 1] 114)
      have T5 := (T.alloc (Obj.cells #[.int .i64 1, .bool cn, .string ⟨cm.toArray⟩, .int .i64 cv] 48)).alloc (Obj.cells #[.string ⟨cm.toArray⟩, .int .i64 1] 114)
      have hcell := cells_new (wq.alloc (Obj.cells #[.int .i64 1, .bool cn, .string ⟨cm.toArray⟩, .int .i64 cv] 48)) #[.string ⟨cm.toArray⟩, .int .i64 1] 114
      rw [show (wq.alloc (Obj.cells #[.int .i64 1, .bool cn, .string ⟨cm.toArray⟩, .int .i64 cv] 48)).heap.size = wq.heap.size + 1 by simp] at hcell
      replace hcell : ∀ (j : Nat) (u : Value), ([.string ⟨cm.toArray⟩, .int .i64 1] : List Value)[j]? = some u → _ := hcell
      have hW5 : W0.heap.size ≤ ((wq.alloc (Obj.cells #[.int .i64 1, .bool cn, .string ⟨cm.toArray⟩, .int .i64 cv] 48)).alloc (Obj.cells #[.string ⟨cm.toArray⟩, .int .i64 1] 114)).heap.size := by simp; omega
      have hbt5 : bt < ((wq.alloc (Obj.cells #[.int .i64 1, .bool cn, .string ⟨cm.toArray⟩, .int .i64 cv] 48)).alloc (Obj.cells #[.string ⟨cm.toArray⟩, .int .i64 1] 114)).heap.size := by simp; omega
      have hER : ENeed.R ((wq.alloc (Obj.cells #[.int .i64 1, .bool cn, .string ⟨cm.toArray⟩, .int .i64 cv] 48)).alloc (Obj.cells #[.string ⟨cm.toArray⟩, .int .i64 1] 114)) (fun b => W0.heap.size ≤ b ∧ b < ((wq.alloc (Obj.cells #[.int .i64 1, .bool cn, .string ⟨cm.toArray⟩, .int .i64 cv] 48)).alloc (Obj.cells #[.string ⟨cm.toArray⟩, .int .i64 1] 114)).heap.size ∧ some b ≠ u3.ownBlock) (cm, 1) [.string ⟨cm.toArray⟩, .int .i64 1] := ENeed.of hnm (⟨by decide, by decide⟩ : i64 1)
      clear hown hM hst hnm hkd hF T hbt
      replace hox := hide hox
      replace F5 := hide F5
      replace T5 := hide T5
      replace hcell := hide hcell
      replace hW5 := hide hW5
      replace hbt5 := hide hbt5
      replace hER := hide hER
      replace hnd := hide hnd
      replace hlb := hide hlb
      go_wp2_with (
       at_builtin
       go_must (refine wpList_push (E := ENeed) rfl _ _ _ rfl okNeed (by decide) (by decide) rfl hox.out (by omega) hW5.out rfl hER.out hcell.out ?_)
       intro v' w5 hown1 hg5 hat5)
      clear c0 c1 c2 c3
      have hlb2 : ∀ q, v'.ownBlock = some q → q ≠ bt := fun q hq => by
       rcases hat5 with h | h
       ·exact hlb.out q (h ▸ hq)
       ·rw [h] at hq
        injection hq with hq
        have := hbt5.out
        omega
      go_roundw
      case rel => exact ⟨j + 1, by omega, by go_num, by rw [hnd.out]; exact hown1, F5.out.push (fun q hq => (hox.out.lt q hq).1) hg5, T5.out.grown hg5 (fun h => hlb.out bt h.symm rfl), hlb2⟩
      case measure => simp [intOf]; omega
     by_cases hk2 : ck = 2
     ·subst hk2
      have hnd : L ++ (t.conds.take (j + 1)).filterMap needC = M ++ [(cm, 2)] := by rw [hst, ← hM, List.append_assoc]; rfl
      have hox := (hown.alloc (Obj.cells #[.int .i64 2, .bool cn, .string ⟨cm.toArray⟩, .int .i64 cv] 48)).alloc (Obj.cells #[.string ⟨cm.toArray⟩, .int .i64 2] 114)
      have F5 := (hF.alloc (Obj.cells #[.int .i64 2, .bool cn, .string ⟨cm.toArray⟩, .int .i64 cv] 48)).alloc (Obj.cells #[.string ⟨cm.toArray⟩, .int .i64 2] 114)
      have T5 := (T.alloc (Obj.cells #[.int .i64 2, .bool cn, .string ⟨cm.toArray⟩, .int .i64 cv] 48)).alloc (Obj.cells #[.string ⟨cm.toArray⟩, .int .i64 2] 114)
      have hcell := cells_new (wq.alloc (Obj.cells #[.int .i64 2, .bool cn, .string ⟨cm.toArray⟩, .int .i64 cv] 48)) #[.string ⟨cm.toArray⟩, .int .i64 2] 114
      rw [show (wq.alloc (Obj.cells #[.int .i64 2, .bool cn, .string ⟨cm.toArray⟩, .int .i64 cv] 48)).heap.size = wq.heap.size + 1 by simp] at hcell
      replace hcell : ∀ (j : Nat) (u : Value), ([.string ⟨cm.toArray⟩, .int .i64 2] : List Value)[j]? = some u → _ := hcell
      have hW5 : W0.heap.size ≤ ((wq.alloc (Obj.cells #[.int .i64 2, .bool cn, .string ⟨cm.toArray⟩, .int .i64 cv] 48)).alloc (Obj.cells #[.string ⟨cm.toArray⟩, .int .i64 2] 114)).heap.size := by simp; omega
      have hbt5 : bt < ((wq.alloc (Obj.cells #[.int .i64 2, .bool cn, .string ⟨cm.toArray⟩, .int .i64 cv] 48)).alloc (Obj.cells #[.string ⟨cm.toArray⟩, .int .i64 2] 114)).heap.size := by simp; omega
      have hER : ENeed.R ((wq.alloc (Obj.cells #[.int .i64 2, .bool cn, .string ⟨cm.toArray⟩, .int .i64 cv] 48)).alloc (Obj.cells #[.string ⟨cm.toArray⟩, .int .i64 2] 114)) (fun b => W0.heap.size ≤ b ∧ b < ((wq.alloc (Obj.cells #[.int .i64 2, .bool cn, .string ⟨cm.toArray⟩, .int .i64 cv] 48)).alloc (Obj.cells #[.string ⟨cm.toArray⟩, .int .i64 2] 114)).heap.size ∧ some b ≠ u3.ownBlock) (cm, 2) [.string ⟨cm.toArray⟩, .int .i64 2] := ENeed.of hnm (⟨by decide, by decide⟩ : i64 2)
      clear hown hM hst hnm hkd hF T hbt
      replace hox := hide hox
      replace F5 := hide F5
      replace T5 := hide T5
      replace hcell := hide hcell
      replace hW5 := hide hW5
      replace hbt5 := hide hbt5
      replace hER := hide hER
      replace hnd := hide hnd
      replace hlb := hide hlb
      go_wp2_with (
       at_builtin
       go_must (refine wpList_push (E := ENeed) rfl _ _ _ rfl okNeed (by decide) (by decide) rfl hox.out (by omega) hW5.out rfl hER.out hcell.out ?_)
       intro v' w5 hown1 hg5 hat5)
      clear c0 c1 c2 c3
      have hlb2 : ∀ q, v'.ownBlock = some q → q ≠ bt := fun q hq => by
       rcases hat5 with h | h
       ·exact hlb.out q (h ▸ hq)
       ·rw [h] at hq
        injection hq with hq
        have := hbt5.out
        omega
      go_roundw
      case rel => exact ⟨j + 1, by omega, by go_num, by rw [hnd.out]; exact hown1, F5.out.push (fun q hq => (hox.out.lt q hq).1) hg5, T5.out.grown hg5 (fun h => hlb.out bt h.symm rfl), hlb2⟩
      case measure => simp [intOf]; omega
     by_cases hk3 : ck = 3
     ·subst hk3
      have hnd : L ++ (t.conds.take (j + 1)).filterMap needC = M ++ [(cm, 3)] := by rw [hst, ← hM, List.append_assoc]; rfl
      have hox := (hown.alloc (Obj.cells #[.int .i64 3, .bool cn, .string ⟨cm.toArray⟩, .int .i64 cv] 48)).alloc (Obj.cells #[.string ⟨cm.toArray⟩, .int .i64 3] 114)
      have F5 := (hF.alloc (Obj.cells #[.int .i64 3, .bool cn, .string ⟨cm.toArray⟩, .int .i64 cv] 48)).alloc (Obj.cells #[.string ⟨cm.toArray⟩, .int .i64 3] 114)
      have T5 := (T.alloc (Obj.cells #[.int .i64 3, .bool cn, .string ⟨cm.toArray⟩, .int .i64 cv] 48)).alloc (Obj.cells #[.string ⟨cm.toArray⟩, .int .i64 3] 114)
      have hcell := cells_new (wq.alloc (Obj.cells #[.int .i64 3, .bool cn, .string ⟨cm.toArray⟩, .int .i64 cv] 48)) #[.string ⟨cm.toArray⟩, .int .i64 3] 114
      rw [show (wq.alloc (Obj.cells #[.int .i64 3, .bool cn, .string ⟨cm.toArray⟩, .int .i64 cv] 48)).heap.size = wq.heap.size + 1 by simp] at hcell
      replace hcell : ∀ (j : Nat) (u : Value), ([.string ⟨cm.toArray⟩, .int .i64 3] : List Value)[j]? = some u → _ := hcell
      have hW5 : W0.heap.size ≤ ((wq.alloc (Obj.cells #[.int .i64 3, .bool cn, .string ⟨cm.toArray⟩, .int .i64 cv] 48)).alloc (Obj.cells #[.string ⟨cm.toArray⟩, .int .i64 3] 114)).heap.size := by simp; omega
      have hbt5 : bt < ((wq.alloc (Obj.cells #[.int .i64 3, .bool cn, .string ⟨cm.toArray⟩, .int .i64 cv] 48)).alloc (Obj.cells #[.string ⟨cm.toArray⟩, .int .i64 3] 114)).heap.size := by simp; omega
      have hER : ENeed.R ((wq.alloc (Obj.cells #[.int .i64 3, .bool cn, .string ⟨cm.toArray⟩, .int .i64 cv] 48)).alloc (Obj.cells #[.string ⟨cm.toArray⟩, .int .i64 3] 114)) (fun b => W0.heap.size ≤ b ∧ b < ((wq.alloc (Obj.cells #[.int .i64 3, .bool cn, .string ⟨cm.toArray⟩, .int .i64 cv] 48)).alloc (Obj.cells #[.string ⟨cm.toArray⟩, .int .i64 3] 114)).heap.size ∧ some b ≠ u3.ownBlock) (cm, 3) [.string ⟨cm.toArray⟩, .int .i64 3] := ENeed.of hnm (⟨by decide, by decide⟩ : i64 3)
      clear hown hM hst hnm hkd hF T hbt
      replace hox := hide hox
      replace F5 := hide F5
      replace T5 := hide T5
      replace hcell := hide hcell
      replace hW5 := hide hW5
      replace hbt5 := hide hbt5
      replace hER := hide hER
      replace hnd := hide hnd
      replace hlb := hide hlb
      go_wp2_with (
       at_builtin
       go_must (refine wpList_push (E := ENeed) rfl _ _ _ rfl okNeed (by decide) (by decide) rfl hox.out (by omega) hW5.out rfl hER.out hcell.out ?_)
       intro v' w5 hown1 hg5 hat5)
      clear c0 c1 c2 c3
      have hlb2 : ∀ q, v'.ownBlock = some q → q ≠ bt := fun q hq => by
       rcases hat5 with h | h
       ·exact hlb.out q (h ▸ hq)
       ·rw [h] at hq
        injection hq with hq
        have := hbt5.out
        omega
      go_roundw
      case rel => exact ⟨j + 1, by omega, by go_num, by rw [hnd.out]; exact hown1, F5.out.push (fun q hq => (hox.out.lt q hq).1) hg5, T5.out.grown hg5 (fun h => hlb.out bt h.symm rfl), hlb2⟩
      case measure => simp [intOf]; omega
     ·have hnd : L ++ (t.conds.take (j + 1)).filterMap needC = M := by
       rw [hst, ← hM]
       have : needC ⟨ck, cn, cm, cv⟩ = none := if_neg (by rintro (h | h | h); exact hk1 h; exact hk2 h; exact hk3 h)
       rw [this]
       simp
      have d1 : (ck == 1) = false := beq_eq_false_iff_ne.2 hk1
      have d2 : (ck == 2) = false := beq_eq_false_iff_ne.2 hk2
      have d3 : (ck == 3) = false := beq_eq_false_iff_ne.2 hk3
      have hox := hown.alloc (Obj.cells #[.int .i64 ck, .bool cn, .string ⟨cm.toArray⟩, .int .i64 cv] 48)
      have F5 := hF.alloc (Obj.cells #[.int .i64 ck, .bool cn, .string ⟨cm.toArray⟩, .int .i64 cv] 48)
      have T5 := T.alloc (Obj.cells #[.int .i64 ck, .bool cn, .string ⟨cm.toArray⟩, .int .i64 cv] 48)
      clear hown hM hst hnm hkd hF T hbt hk1 hk2 hk3
      replace hox := hide hox
      replace F5 := hide F5
      replace T5 := hide T5
      replace hnd := hide hnd
      replace hlb := hide hlb
      go_wp2_with fail
      go_roundw
      case rel => exact ⟨j + 1, by omega, by go_num, by rw [hnd.out]; exact hox.out, F5.out, T5.out, hlb.out⟩
      case measure => simp [intOf]; omega
    ·obtain rfl : j = t.conds.length := by omega
     rw [List.take_length] at hown
     have hll : (L ++ t.conds.filterMap needC).length ≤ 128 * k + 64 := by
      have := fm_len needC t.conds
      rw [List.length_append]
      have := hln.out
      omega
     have hfs2 := hfs.out
     rw [← List.append_assoc] at hfs2
     clear hfs
     generalize L ++ t.conds.filterMap needC = N at *
     clear hlj hj
     replace hown := hide hown
     replace hF := hide hF
     replace T := hide T
     replace hlb := hide hlb
     replace hll := hide hll
     replace hfs2 := hide hfs2
     have T_0 : wq.cell? ⟨bt, 0, none⟩ = some (.slice x1 t.conds.length p1) := T.out.cell 0
     have T_1 : wq.cell? ⟨bt, 1, none⟩ = some (.slice x2 t.acts.length p2) := T.out.cell 1
     go_wp2_with fail
     clear T_0 T_1
     go_loopw [3, 54] (fun v i wq => ∃ j : Nat, j ≤ t.acts.length ∧ i = .int .i64 j ∧ Own ENeed 114 wq W0.heap.size v (N ++ (t.acts.take j).filterMap needA) ∧ Ext W0 wq) (fun _ i _ => t.acts.length - (intOf i).toNat)
     case atStart => exact ⟨0, Nat.zero_le _, rfl, by simpa using hown.out, hF.out⟩
     case round =>
      clear hown hlb T hF
      obtain ⟨j, hj, rfl, hown, hF⟩ := hrel
      rename World => wx
      by_cases hlj : j < t.acts.length
      ·obtain ⟨bc, oc, rfl, _, hin, c0, c1, c2, c3⟩ := EAct.atC (r2.out.ext hF) j hlj
       have hst := fm_step needA hlj
       have hll2 : (N ++ (t.acts.take j).filterMap needA).length ≤ 128 * k + 128 := by
        have := fm_len needA (t.acts.take j)
        rw [List.length_append]
        rw [List.length_take] at this
        have := hll.out
        omega
       generalize t.acts[j] = cc at *
       obtain ⟨ck, cm, cn, cv⟩ := cc
       dsimp only at c0 c1 c2 c3
       have hnm : cm.length ≤ 1048576 := hin.name
       have hB0 : W0.heap.size ≤ wx.heap.size := hF.size
       generalize hM : N ++ (t.acts.take j).filterMap needA = M at *
       clear hin
       by_cases hk7 : ck = 7
       ·subst hk7
        have hnd : N ++ (t.acts.take (j + 1)).filterMap needA = M ++ [(cm, 2)] := by rw [hst, ← hM, List.append_assoc]; rfl
        have hox := (hown.alloc (Obj.cells #[.int .i64 7, .string ⟨cm.toArray⟩, .int .u32 (cn.toNat : Int), .string ⟨cv.toArray⟩] 51)).alloc (Obj.cells #[.string ⟨cm.toArray⟩, .int .i64 2] 114)
        have F5 := (hF.alloc (Obj.cells #[.int .i64 7, .string ⟨cm.toArray⟩, .int .u32 (cn.toNat : Int), .string ⟨cv.toArray⟩] 51)).alloc (Obj.cells #[.string ⟨cm.toArray⟩, .int .i64 2] 114)
        have hcell := cells_new (wx.alloc (Obj.cells #[.int .i64 7, .string ⟨cm.toArray⟩, .int .u32 (cn.toNat : Int), .string ⟨cv.toArray⟩] 51)) #[.string ⟨cm.toArray⟩, .int .i64 2] 114
        rw [show (wx.alloc (Obj.cells #[.int .i64 7, .string ⟨cm.toArray⟩, .int .u32 (cn.toNat : Int), .string ⟨cv.toArray⟩] 51)).heap.size = wx.heap.size + 1 by simp] at hcell
        replace hcell : ∀ (j : Nat) (u : Value), ([.string ⟨cm.toArray⟩, .int .i64 2] : List Value)[j]? = some u → _ := hcell
        have hW5 : W0.heap.size ≤ ((wx.alloc (Obj.cells #[.int .i64 7, .string ⟨cm.toArray⟩, .int .u32 (cn.toNat : Int), .string ⟨cv.toArray⟩] 51)).alloc (Obj.cells #[.string ⟨cm.toArray⟩, .int .i64 2] 114)).heap.size := by simp; omega
        have hER : ENeed.R ((wx.alloc (Obj.cells #[.int .i64 7, .string ⟨cm.toArray⟩, .int .u32 (cn.toNat : Int), .string ⟨cv.toArray⟩] 51)).alloc (Obj.cells #[.string ⟨cm.toArray⟩, .int .i64 2] 114)) (fun b => W0.heap.size ≤ b ∧ b < ((wx.alloc (Obj.cells #[.int .i64 7, .string ⟨cm.toArray⟩, .int .u32 (cn.toNat : Int), .string ⟨cv.toArray⟩] 51)).alloc (Obj.cells #[.string ⟨cm.toArray⟩, .int .i64 2] 114)).heap.size ∧ some b ≠ u3.ownBlock) (cm, 2) [.string ⟨cm.toArray⟩, .int .i64 2] := ENeed.of hnm (⟨by decide, by decide⟩ : i64 2)
        clear hown hM hst hnm hF
        replace hox := hide hox
        replace F5 := hide F5
        replace hcell := hide hcell
        replace hW5 := hide hW5
        replace hER := hide hER
        replace hnd := hide hnd
        go_wp2_with (
         at_builtin
         go_must (refine wpList_push (E := ENeed) rfl _ _ _ rfl okNeed (by decide) (by decide) rfl hox.out (by omega) hW5.out rfl hER.out hcell.out ?_)
         intro v' w5 hown1 hg5 hat5)
        clear c0 c1 c2 c3
        go_roundw
        case rel => exact ⟨j + 1, by omega, by go_num, by rw [hnd.out]; exact hown1, F5.out.push (fun q hq => (hox.out.lt q hq).1) hg5⟩
        case measure => simp [intOf]; omega
       ·have hnd : N ++ (t.acts.take (j + 1)).filterMap needA = M := by
         rw [hst, ← hM]
         have : needA ⟨ck, cm, cn, cv⟩ = none := if_neg hk7
         rw [this]
         simp
        have d1 : (ck == 7) = false := beq_eq_false_iff_ne.2 hk7
        have hox := hown.alloc (Obj.cells #[.int .i64 ck, .string ⟨cm.toArray⟩, .int .u32 (cn.toNat : Int), .string ⟨cv.toArray⟩] 51)
        have F5 := hF.alloc (Obj.cells #[.int .i64 ck, .string ⟨cm.toArray⟩, .int .u32 (cn.toNat : Int), .string ⟨cv.toArray⟩] 51)
        clear hown hM hst hnm hF hk7
        replace hox := hide hox
        replace F5 := hide F5
        replace hnd := hide hnd
        go_wp2_with fail
        go_roundw
        case rel => exact ⟨j + 1, by omega, by go_num, by rw [hnd.out]; exact hox.out, F5.out⟩
        case measure => simp [intOf]; omega
      ·obtain rfl : j = t.acts.length := by omega
       rw [List.take_length] at hown
       have hll2 : (N ++ t.acts.filterMap needA).length ≤ 128 * (k + 1) := by
        have := fm_len needA t.acts
        rw [List.length_append]
        have := hll.out
        omega
       clear hlj hj
       replace hown := hide hown
       replace hF := hide hF
       replace hll2 := hide hll2
       go_wp2_with fail
       go_roundw
       case rel => exact ⟨k + 1, by omega, by go_num, by rw [hfs2.out]; exact hown.out, by rw [hfs2.out]; exact hll2.out, hF.out⟩
       case measure => simp [intOf]; omega
  ·obtain rfl : k = l.length := by omega
   rw [List.take_length] at hown
   have EE := E.out.trans hE
   have hfin := hown.low (B' := g0) (by have := hgw.out; have := E.out.size; omega)
   clear hlt hk hown hE
   replace EE := hide EE
   replace hfin := hide hfin
   go_wp2_with fail
   go_ret
   exact ⟨_, rfl, EE.out, hfin.out⟩
end
section
open Go.RowKit Go.WideMaps Go.Maps
set_option linter.unusedVariables false
theorem keyedS : Keyed Tryz.prog 9 := string_keyed Tryz.underlying9
theorem zeroI (w : World) : (zeroValue 3).run Tryz.prog w = .ok (.int .i64 0) w := by kernel_rfl
/-- The map at block b holds f. -/
def MapIs (w : World) (b n : Nat) (f : List UInt8 → Int) : Prop :=
 ∃ D : DataW Unit, w.ownsMap Tryz.prog 9 (plainElem Tryz.prog 3) b n D ∧ ∀ s : List UInt8, D.atKey (.string s) (.lit (.int .i64 0)) = .lit (.int .i64 (f s))
theorem MapIs.made (w : World) : MapIs (w.alloc (.map #[] 0)) w.heap.size 0 (fun _ => 0) := ⟨_, World.ownsMap_made _ _ _ _, fun _ => rfl⟩
theorem MapIs.lt {w : World} {b n : Nat} {f : List UInt8 → Int} (h : MapIs w b n f) : b < w.heap.size := by
 obtain ⟨D, h, _⟩ := h
 exact h.lt
theorem MapIs.grown {w w' : World} {b n : Nat} {f : List UInt8 → Int} (h : MapIs w b n f) {row : Option Nat} (hg : w.grownBy w' row) (hne : some b ≠ row) : MapIs w' b n f := by
 obtain ⟨D, h, hf⟩ := h
 exact ⟨D, h.kept hg hne, hf⟩
theorem MapIs.ext {w w' : World} {b n : Nat} {f : List UInt8 → Int} (h : MapIs w b n f) (he : Ext w w') : MapIs w' b n f := by
 have hlt := h.lt
 obtain ⟨D, ⟨es, clock, hb, F, hs, hD⟩, hf⟩ := h
 exact ⟨D, ⟨es, clock, (he.block b hlt).trans hb, F, hs, hD⟩, hf⟩
set_option maxRecDepth 20000 in
theorem MapIs.look {w : World} {b n : Nat} {f : List UInt8 → Int} (h : MapIs w b n f) (s : List UInt8) (hs : s.length ≤ 1048576) :
  (Instr.lookup 123 (.map (some b)) (.string ⟨s.toArray⟩) false).run Tryz.prog w = .ok (.int .i64 (f s)) w := by
 obtain ⟨D, h, hf⟩ := h
 have hk : keyOf Tryz.prog 9 (.string ⟨s.toArray⟩) = some (.string s) := by
  have := keyOf_string_mk (P := Tryz.prog) Tryz.underlying9 (s := ⟨s.toArray⟩) (by unfold maxLen; simp [ByteArray.size]; omega)
  simpa using this
 obtain ⟨c, h1, h2, _⟩ := h.lookup_int keyedS Tryz.underlying123 Tryz.underlying3 (zeroI w) hk
 rw [hf] at h2
 injection h2 with h2
 injection h2 with _ h2
 rw [h1, h2]
def updM (f : List UInt8 → Int) (s : List UInt8) (k : Int) : List UInt8 → Int := fun x => if x = s then k else f x
set_option maxRecDepth 20000 in
theorem MapIs.put {w : World} {b n : Nat} {f : List UInt8 → Int} (h : MapIs w b n f) (hn : n ≤ 16777216) (s : List UInt8) (hs : s.length ≤ 1048576) (k : Int) (hk : i64 k) :
  ∃ w', (Instr.mapUpdate 123 (.map (some b)) (.string ⟨s.toArray⟩) (.int .i64 k)).run Tryz.prog w = .ok () w' ∧ MapIs w' b (n + 1) (updM f s k) ∧ w.grownBy w' (some b) := by
 obtain ⟨D, h, hf⟩ := h
 have hkey : keyOf Tryz.prog 9 (.string ⟨s.toArray⟩) = some (.string s) := by
  have := keyOf_string_mk (P := Tryz.prog) Tryz.underlying9 (s := ⟨s.toArray⟩) (by unfold maxLen; simp [ByteArray.size]; omega)
  simpa using this
 have hval : plainElem (H := Unit) Tryz.prog 3 (.int .i64 k) = some (.lit (.int .i64 k), []) := plainElem_int Tryz.underlying3 (by obtain ⟨h1, h2⟩ := hk; simp [Lit.wf, IntKind.min, IntKind.max, IntKind.signed, IntKind.bits]; omega)
 obtain ⟨w', h1, h2, h3⟩ := h.update keyedS Tryz.underlying123 (by unfold maxLen; omega) hkey hval
 refine ⟨w', h1, ⟨_, h2, fun x => ?_⟩, h3⟩
 unfold updM
 by_cases hx : x = s
 ·subst hx
  rw [if_pos rfl]
  exact atKey_put_same (k := .string x) h.isMap (show WideAt.IsKeyLit (.string x) from trivial) _ _
 ·rw [if_neg hx, atKey_put_other (fun e => hx (by injection e)), hf]
/-- The kind of the last set of a name; 0: there is none. -/
def kindL (l : List StS) : List UInt8 → Int := l.foldl (fun f s => updM f s.name s.kind) fun _ => 0
theorem kindL_snoc (l : List StS) (s : StS) : kindL (l ++ [s]) = updM (kindL l) s.name s.kind := by unfold kindL; rw [List.foldl_append]; rfl
theorem setOk_kind {s : StS} (h : setOk s = true) : s.kind = 1 ∨ s.kind = 2 ∨ s.kind = 3 := by
 unfold setOk at h
 rw [Bool.and_eq_true] at h
 obtain ⟨_, h⟩ := h
 by_cases h1 : s.kind = 1
 ·exact .inl h1
 ·rw [if_neg h1] at h
  by_cases h2 : s.kind = 2
  ·exact .inr (.inl h2)
  ·rw [if_neg h2] at h
   by_cases h3 : s.kind = 3
   ·exact .inr (.inr h3)
   ·rw [if_neg h3] at h; cases h
theorem setsOk_app (l m : List StS) (seen : List (List UInt8)) : setsOk (l ++ m) seen = (setsOk l seen && setsOk m ((l.map (·.name)).reverse ++ seen)) := by
  induction l generalizing seen with
  | nil => simp [setsOk]
  | cons x r ih =>
    show (setOk x && (!seen.contains x.name && setsOk (r ++ m) (x.name :: seen))) = ((setOk x && (!seen.contains x.name && setsOk r (x.name :: seen))) && _)
    rw [ih, List.map_cons, List.reverse_cons, List.append_assoc, Bool.and_assoc, Bool.and_assoc]
    rfl
theorem setsOk_step {l : List StS} {k : Nat} (h : k < l.length) (h1 : setsOk (l.take k) [] = true) : setsOk (l.take (k + 1)) [] = (setOk l[k] && !((l.take k).map (·.name)).contains l[k].name) := by
 rw [List.take_succ_eq_append_getElem h, setsOk_app, h1, Bool.true_and]
 simp [setsOk]
theorem setsOk_bad {l : List StS} {k : Nat} (h1 : setsOk (l.take k) [] = false) : setsOk l [] = false := by
 have := setsOk_app (l.take k) (l.drop k) []
 rw [List.take_append_drop, h1, Bool.false_and] at this
 exact this
theorem setsOk_all : ∀ (l : List StS) (seen : List (List UInt8)), setsOk l seen = true → ∀ s ∈ l, setOk s = true
  | [], _, _, s, h => by cases h
  | x :: r, seen, h, s, hs => by
    unfold setsOk at h
    simp only [Bool.and_eq_true] at h
    rcases List.mem_cons.1 hs with rfl | hs
    · exact h.1
    · exact setsOk_all r _ h.2.2 s hs
theorem rev_ind {α : Type} {P : List α → Prop} (h0 : P []) (h1 : ∀ l x, P l → P (l ++ [x])) (l : List α) : P l := by
 have h : ∀ m : List α, P m.reverse := fun m => by
  induction m with
  | nil => exact h0
  | cons x m ih => rw [List.reverse_cons]; exact h1 _ _ ih
 have := h l.reverse
 rwa [List.reverse_reverse] at this
/-- Of sets that may be: no name has kind 0; a name has the kind of its set. -/
theorem kindL_zero : ∀ (l : List StS) (n : List UInt8), (∀ s ∈ l, setOk s = true) → ((kindL l n = 0) ↔ (l.map (·.name)).contains n = false) := by
 intro l
 refine rev_ind (P := fun l => ∀ n, (∀ s ∈ l, setOk s = true) → ((kindL l n = 0) ↔ (l.map (·.name)).contains n = false)) ?_ ?_ l
 ·intro n _; simp [kindL]
 ·intro l x ih n h
  rw [kindL_snoc, List.map_append]
  unfold updM
  have hx := setOk_kind (h x (by simp))
  have ih := ih n fun s hs => h s (by simp [hs])
  by_cases hn : n = x.name
  ·subst hn
   rw [if_pos rfl]
   constructor
   ·intro h0; omega
   ·intro hc; simp at hc
  ·rw [if_neg hn, ih]
   simp [hn]
theorem kindL_there : ∀ (l : List StS) (n : List UInt8) (k : Int), setsOk l [] = true → k ≠ 0 → ((kindL l n = k) ↔ thereS l (n, k) = true) := by
 intro l
 refine rev_ind (P := fun l => ∀ (n : List UInt8) (k : Int), setsOk l [] = true → k ≠ 0 → ((kindL l n = k) ↔ thereS l (n, k) = true)) ?_ ?_ l
 ·intro n k _ hk
  simp [kindL, thereS]
  omega
 ·intro l x ih n k h hk
  rw [setsOk_app, Bool.and_eq_true] at h
  obtain ⟨h1, h2⟩ := h
  have hx : setOk x = true ∧ ((l.map (·.name))).contains x.name = false := by
   unfold setsOk at h2
   simp only [Bool.and_eq_true, Bool.not_eq_true', List.append_nil] at h2
   refine ⟨h2.1, ?_⟩
   have h3 := h2.2.1
   rw [Bool.eq_false_iff] at h3 ⊢
   intro hc
   exact h3 (by simpa using hc)
  have ih := ih n k h1 hk
  rw [kindL_snoc]
  unfold updM
  by_cases hn : n = x.name
  ·subst hn
   rw [if_pos rfl]
   unfold thereS
   rw [List.any_append]
   have hno : (l.any fun s => s.name == x.name && decide (s.kind = k)) = false := by
    rw [List.any_eq_false]
    intro s hs
    have : (s.name == x.name) = false := by
     rw [beq_eq_false_iff_ne]
     intro e
     have : ((l.map (·.name))).contains x.name = true := List.contains_iff_mem.2 (List.mem_map.2 ⟨s, hs, e⟩)
     rw [this] at hx
     exact Bool.noConfusion hx.2
    rw [this]; simp
   rw [hno]
   simp
  ·rw [if_neg hn, ih]
   unfold thereS
   rw [List.any_append]
   have : (x.name == n) = false := beq_eq_false_iff_ne.2 fun e => hn e.symm
   simp [this]
theorem needs_kind {p : PolS} {n : List UInt8 × Int} (h : n ∈ needsP p) : n.2 ≠ 0 := by
 unfold needsP at h
 obtain ⟨t, _, h⟩ := List.mem_flatMap.1 h
 unfold needsT at h
 rcases List.mem_append.1 h with h | h
 ·obtain ⟨c, _, h⟩ := List.mem_filterMap.1 h
  unfold needC at h
  split at h
  ·injection h with h
   subst h
   rename_i h1
   show c.kind ≠ 0
   omega
  ·cases h
 ·obtain ⟨a, _, h⟩ := List.mem_filterMap.1 h
  unfold needA at h
  split at h
  ·injection h with h
   subst h
   show (2 : Int) ≠ 0
   decide
  ·cases h
end
section
open Go.RowKit Go.Sort
set_option linter.unusedVariables false
theorem ESet.at16 {w : World} {S : Nat → Prop} {a : Option Addr} {l : List StS} (h : Sl ESet w S a l) (k : Nat) (hk : k < l.length) :
  ∃ b off a1 c1 a2 c2 a3 c3, a = some ⟨b, off, none⟩ ∧ SetIn w S l[k] a1 a2 a3 ∧ w.cell? ⟨b, off + k * 5, none⟩ = some (.string ⟨l[k].name.toArray⟩) ∧ w.cell? ⟨b, off + k * 5 + 1, none⟩ = some (.int .i64 l[k].kind) ∧ w.cell? ⟨b, off + k * 5 + 2, none⟩ = some (.slice a1 l[k].items.length c1) ∧ w.cell? ⟨b, off + k * 5 + 3, none⟩ = some (.slice a2 l[k].comms.length c2) ∧ w.cell? ⟨b, off + k * 5 + 4, none⟩ = some (.slice a3 l[k].paths.length c3) := by
 obtain ⟨b, off, cs, rfl, hb, hr, hc⟩ := h.at k hk
 obtain ⟨a1, c1, a2, c2, a3, c3, rfl, hi⟩ := ESet.iff.1 hr
 exact ⟨b, off, a1, c1, a2, c2, a3, c3, rfl, hi, hc 0 _ rfl, hc 1 _ rfl, hc 2 _ rfl, hc 3 _ rfl, hc 4 _ rfl⟩
theorem needs_len' : ∀ (l : List TermS), (∀ t ∈ l, t.conds.length ≤ 64 ∧ t.acts.length ≤ 64) → (l.flatMap needsT).length ≤ 128 * l.length
  | [], _ => Nat.le_refl _
  | t :: l, h => by
    have ih := needs_len' l fun x hx => h x (by simp [hx])
    have h1 := h t (by simp)
    have h2 := fm_len needC t.conds
    have h3 := fm_len needA t.acts
    rw [List.flatMap_cons, List.length_append]
    unfold needsT at *
    rw [List.length_append, List.length_cons]
    omega
theorem needs_len {p : PolS} (h : PolB p) : (needsP p).length ≤ 8192 := by
 have h1 := needs_len' p.terms h.c
 have h2 := h.n
 unfold needsP
 omega
theorem polOk_bad {p : PolS} : polOk p = (nameOk p.name && (decide (p.terms.length ≤ 64) && !badT p.terms)) := by
 unfold polOk badT
 congr 2
 induction p.terms with
 | nil => rfl
 | cons t r ih => rw [List.all_cons, List.any_cons, ih]; simp
theorem checkP_bad {p : PolS} {l : List StS} (h : polOk p = false) : checkP p l = 2 := if_pos h
theorem checkP_sets {p : PolS} {l : List StS} (h : polOk p = true) (h2 : setsOk l [] = false) : checkP p l = 2 := by
 unfold checkP
 rw [if_neg (by rw [h]; decide), if_pos h2]
theorem checkP_need {p : PolS} {l : List StS} (h : polOk p = true) (h2 : setsOk l [] = true) (h3 : (needsP p).all (thereS l) = false) : checkP p l = 8 := by
 unfold checkP
 rw [if_neg (by rw [h]; decide), if_neg (by rw [h2]; decide), if_pos h3]
theorem checkP_ok {p : PolS} {l : List StS} (h : polOk p = true) (h2 : setsOk l [] = true) (h3 : (needsP p).all (thereS l) = true) : checkP p l = 0 := by
 unfold checkP
 rw [if_neg (by rw [h]; decide), if_neg (by rw [h2]; decide), if_neg (by rw [h3]; decide)]
theorem all_step {α : Type} {f : α → Bool} {l : List α} {k : Nat} (h : k < l.length) (h1 : (l.take k).all f = true) (h2 : f l[k] = true) : (l.take (k + 1)).all f = true := by
 rw [List.take_succ_eq_append_getElem h, List.all_append, h1]
 simp [h2]
theorem all_bad {α : Type} {f : α → Bool} {l : List α} {k : Nat} (h : k < l.length) (h2 : f l[k] = false) : l.all f = false := by
 rw [List.all_eq_false]
 exact ⟨l[k], List.getElem_mem h, by rw [h2]; decide⟩
set_option maxRecDepth 20000 in
set_option maxHeartbeats 8000000 in
theorem PCheck_any (p : PolS) (a : Option Addr) (ca : Nat) (l : List StS) (b : Option Addr) (cb : Nat) (w : World) (hl : p.terms.length ≤ 16777216) (hm : l.length ≤ 16777216)
    (s1 : Sl ETermC w (· < w.heap.size) a p.terms) (s2 : Sl ESet w (· < w.heap.size) b l) :
    Calls Tryz.prog 28 #[.agg #[.string ⟨p.name.toArray⟩, .slice a p.terms.length ca, .bool p.els], .slice b l.length cb] w fun e w' => e = .returned (.int .i64 (checkP p l)) ∧ Ext w w' := by
  have S := Blk.new w 35 #[.string ⟨p.name.toArray⟩, .slice a p.terms.length ca, .bool p.els]
  have E := (Ext.refl w).alloc (Obj.cells #[.string ⟨p.name.toArray⟩, .slice a p.terms.length ca, .bool p.els] 35)
  have hmm := @run_makeMap Tryz.prog
  have qn := IsName_any p.name
  have qh := fun W (h : Ext w W) => HasTerm_any a ca p.terms W hl (s1.ext h)
  have qe := fun hb W (h : Ext w W) => PNeeds_any p a ca W hb (s1.ext h).weakT
  have hpo := polOk_bad (p := p)
  have hbad := checkP_bad (p := p) (l := l)
  have hset := checkP_sets (p := p) (l := l)
  have hned := checkP_need (p := p) (l := l)
  have hfin := checkP_ok (p := p) (l := l)
  have hnk := fun n (h : n ∈ needsP p) => needs_kind h
  have hpb := PolB.of (p := p)
  have hNl := needs_len (p := p)
  generalize needsP p = N at *
  generalize checkP p l = r at *
  generalize polOk p = po at *
  generalize hW0 : w.alloc (Obj.cells #[.string ⟨p.name.toArray⟩, .slice a p.terms.length ca, .bool p.els] 35) = W0 at S E
  generalize hg0 : w.heap.size = g0 at S
  clear s1
  generalize nameOk p.name = bn at *
  replace qn := hide qn
  replace qh := hide qh
  replace qe := hide qe
  replace hbad := hide hbad
  replace hset := hide hset
  replace hned := hide hned
  replace hfin := hide hfin
  replace hnk := hide hnk
  replace hpb := hide hpb
  replace hmm := hide hmm
  replace s2 := hide s2
  replace S := hide S
  replace E := hide E
  cases bn with
  | false =>
    rw [Bool.false_and] at hpo
    obtain rfl := hbad.out hpo
    clear hpo hbad hset hned hfin hpb qe hNl
    go_enter Tryz.func28, Tryz.ntmps28
    have S_0 : W0.cell? ⟨g0, 0, none⟩ = some (.string ⟨p.name.toArray⟩) := S.out.cell 0
    have S_1 : W0.cell? ⟨g0, 1, none⟩ = some (.slice a p.terms.length ca) := S.out.cell 1
    have S_2 : W0.cell? ⟨g0, 2, none⟩ = some (.bool p.els) := S.out.cell 2
    go_wp2_with fail
    (with_reducible refine (qn.out _).mono ?_)
    rintro e W1 ⟨rfl, he⟩
    replace E := hide (E.out.trans he)
    clear S_0 S_1 S_2
    clear he
    go_wp2_with fail
    go_ret
    exact ⟨rfl, E.out⟩
  | true =>
    rw [Bool.true_and] at hpo
    by_cases h64 : p.terms.length ≤ 64
    case neg =>
      rw [decide_eq_false h64, Bool.false_and] at hpo
      obtain rfl := hbad.out hpo
      have hd := decide_eq_true (show (p.terms.length : Int) > 64 by omega)
      clear hpo hbad hset hned hfin hpb qe hNl
      go_enter Tryz.func28, Tryz.ntmps28
      have S_0 : W0.cell? ⟨g0, 0, none⟩ = some (.string ⟨p.name.toArray⟩) := S.out.cell 0
      have S_1 : W0.cell? ⟨g0, 1, none⟩ = some (.slice a p.terms.length ca) := S.out.cell 1
      have S_2 : W0.cell? ⟨g0, 2, none⟩ = some (.bool p.els) := S.out.cell 2
      go_wp2_with fail
      (with_reducible refine (qn.out _).mono ?_)
      rintro e W1 ⟨rfl, he⟩
      replace E := hide (E.out.trans he)
      replace S := hide (S.out.ext he)
      clear he hW0 hg0
      clear S_0 S_1 S_2
      have S_0 : W1.cell? ⟨g0, 0, none⟩ = some (.string ⟨p.name.toArray⟩) := S.out.cell 0
      have S_1 : W1.cell? ⟨g0, 1, none⟩ = some (.slice a p.terms.length ca) := S.out.cell 1
      have S_2 : W1.cell? ⟨g0, 2, none⟩ = some (.bool p.els) := S.out.cell 2
      go_wp2_with fail
      clear S_0 S_1 S_2
      go_ret
      exact ⟨rfl, E.out⟩
    rw [decide_eq_true h64, Bool.true_and] at hpo
    generalize badT p.terms = bt at *
    cases bt with
    | true =>
      obtain rfl := hbad.out hpo
      clear hpo hbad hset hned hfin hpb qe hNl
      go_enter Tryz.func28, Tryz.ntmps28
      have S_0 : W0.cell? ⟨g0, 0, none⟩ = some (.string ⟨p.name.toArray⟩) := S.out.cell 0
      have S_1 : W0.cell? ⟨g0, 1, none⟩ = some (.slice a p.terms.length ca) := S.out.cell 1
      have S_2 : W0.cell? ⟨g0, 2, none⟩ = some (.bool p.els) := S.out.cell 2
      go_wp2_with fail
      (with_reducible refine (qn.out _).mono ?_)
      rintro e W1 ⟨rfl, he⟩
      replace E := hide (E.out.trans he)
      replace S := hide (S.out.ext he)
      clear he hW0 hg0
      clear S_0 S_1 S_2
      have S_0 : W1.cell? ⟨g0, 0, none⟩ = some (.string ⟨p.name.toArray⟩) := S.out.cell 0
      have S_1 : W1.cell? ⟨g0, 1, none⟩ = some (.slice a p.terms.length ca) := S.out.cell 1
      have S_2 : W1.cell? ⟨g0, 2, none⟩ = some (.bool p.els) := S.out.cell 2
      go_wp2_with fail
      (with_reducible refine (qh.out _ E.out).mono ?_)
      rintro e W2 ⟨rfl, he⟩
      replace E := hide (E.out.trans he)
      clear he
      clear S_0 S_1 S_2
      go_wp2_with fail
      go_ret
      exact ⟨rfl, E.out⟩
    | false =>
      have hpo1 : po = true := hpo
      subst hpo1
      have hset' := hset.out rfl
      have hned' := hned.out rfl
      have hfin' := hfin.out rfl
      have qe' := qe.out (hpb.out rfl)
      have hN := hNl (hpb.out rfl)
      clear hpo hbad hset hned hfin hpb qe hNl
      replace hset' := hide hset'
      replace hned' := hide hned'
      replace hfin' := hide hfin'
      replace qe' := hide qe'
      go_enter Tryz.func28, Tryz.ntmps28
      have S_0 : W0.cell? ⟨g0, 0, none⟩ = some (.string ⟨p.name.toArray⟩) := S.out.cell 0
      have S_1 : W0.cell? ⟨g0, 1, none⟩ = some (.slice a p.terms.length ca) := S.out.cell 1
      have S_2 : W0.cell? ⟨g0, 2, none⟩ = some (.bool p.els) := S.out.cell 2
      go_wp2_with fail
      (with_reducible refine (qn.out _).mono ?_)
      rintro e W1 ⟨rfl, he⟩
      replace E := hide (E.out.trans he)
      replace S := hide (S.out.ext he)
      clear he hW0 hg0 qn
      clear S_0 S_1 S_2
      have S_0 : W1.cell? ⟨g0, 0, none⟩ = some (.string ⟨p.name.toArray⟩) := S.out.cell 0
      have S_1 : W1.cell? ⟨g0, 1, none⟩ = some (.slice a p.terms.length ca) := S.out.cell 1
      have S_2 : W1.cell? ⟨g0, 2, none⟩ = some (.bool p.els) := S.out.cell 2
      go_wp2_with fail
      (with_reducible refine (qh.out _ E.out).mono ?_)
      rintro e W2 ⟨rfl, he⟩
      replace E := hide (E.out.trans he)
      replace S := hide (S.out.ext he)
      clear he qh
      clear S_0 S_1 S_2
      have hmk := hmm.out
      go_wp2_with fail
      clear hmk
      have M := MapIs.made W2
      have F := (Ext.refl W2).alloc (.map #[] 0)
      generalize W2.alloc (.map #[] 0) = W3 at M F ⊢
      have hmb : W2.heap.size ≤ W2.heap.size := Nat.le_refl _
      generalize hmbe : W2.heap.size = mb at M hmb ⊢
      replace hmb : W2.heap.size ≤ mb := by omega
      clear hmbe
      replace M := hide M
      replace F := hide F
      replace hmb := hide hmb
      go_loopw [28] (fun i wr => ∃ k : Nat, k ≤ l.length ∧ i = .int .i64 k ∧ Ext W2 wr ∧ MapIs wr mb k (kindL (l.take k)) ∧ setsOk (l.take k) [] = true) (fun i _ => l.length - (intOf i).toNat)
      case atStart => exact ⟨0, Nat.zero_le _, rfl, F.out, M.out, rfl⟩
      case round =>
        clear M F
        obtain ⟨k, hk, rfl, F, M, hso⟩ := hrel
        by_cases hlt : k < l.length
        · obtain ⟨bs, os, a1, c1, a2, c2, a3, c3, rfl, hi, i0, i1, i2, i3, i4⟩ := ESet.at16 (s2.out.ext (E.out.trans F)) k hlt
          have hstep := setsOk_step hlt hso
          have hbd := fun h => hset'.out (setsOk_bad (k := k + 1) h)
          have hkz := kindL_zero (l.take k) l[k].name fun x hx => setsOk_all _ _ hso x hx
          have hkn : kindL (l.take (k + 1)) = updM (kindL (l.take k)) l[k].name l[k].kind := by rw [List.take_succ_eq_append_getElem hlt, kindL_snoc]
          generalize hso1 : setsOk (l.take (k + 1)) [] = so1 at *
          replace hso1 := hide hso1
          generalize l[k] = x at *
          have qc := fun W (h : Ext wr W) => SCheck_any x a1 c1 a2 c2 a3 c3 W (hi.ext h)
          have hnm : x.name.length ≤ 1048576 := hi.name
          have hkd : i64 x.kind := hi.kind
          generalize setOk x = sx at *
          generalize x.name = nm at *
          generalize x.kind = kd at *
          generalize x.items.length = z1 at *
          generalize x.comms.length = z2 at *
          generalize x.paths.length = z3 at *
          have X := Blk.new wr 67 #[.string ⟨nm.toArray⟩, .int .i64 kd, .slice a1 z1 c1, .slice a2 z2 c2, .slice a3 z3 c3]
          have eX := (Ext.refl wr).alloc (Obj.cells #[.string ⟨nm.toArray⟩, .int .i64 kd, .slice a1 z1 c1, .slice a2 z2 c2, .slice a3 z3 c3] 67)
          replace M := M.ext eX
          have F1 := F.trans eX
          replace X := hide X
          replace eX := hide eX
          replace M := hide M
          replace F1 := hide F1
          replace hstep := hide hstep
          replace hbd := hide hbd
          replace hkz := hide hkz
          replace hkn := hide hkn
          replace qc := hide qc
          go_upto_region 7 with fail
          generalize wr.alloc (Obj.cells #[.string ⟨nm.toArray⟩, .int .i64 kd, .slice a1 z1 c1, .slice a2 z2 c2, .slice a3 z3 c3] 67) = W4 at X eX M F1 ⊢
          generalize wr.heap.size = xb at X ⊢
          clear i0 i1 i2 i3 i4
          have X_0 : W4.cell? ⟨xb, 0, none⟩ = some (.string ⟨nm.toArray⟩) := X.out.cell 0
          have X_1 : W4.cell? ⟨xb, 1, none⟩ = some (.int .i64 kd) := X.out.cell 1
          have X_2 : W4.cell? ⟨xb, 2, none⟩ = some (.slice a1 z1 c1) := X.out.cell 2
          have X_3 : W4.cell? ⟨xb, 3, none⟩ = some (.slice a2 z2 c2) := X.out.cell 3
          have X_4 : W4.cell? ⟨xb, 4, none⟩ = some (.slice a3 z3 c3) := X.out.cell 4
          go_wp2_with fail
          (with_reducible refine (qc.out _ eX.out).mono ?_)
          rintro e W5 ⟨rfl, he⟩
          clear X_0 X_1 X_2 X_3 X_4
          replace X := hide (X.out.ext he)
          have M5 := M.out.ext he
          replace F1 := hide (F1.out.trans he)
          clear he qc eX M
          cases sx with
          | false =>
            have h2 := hbd.out (by rw [hstep.out]; rfl)
            subst h2
            clear M5
            simp only [errOf, Bool.false_eq_true, if_false]
            go_wp2_with fail
            go_ret
            exact ⟨rfl, E.out.trans F1.out⟩
          | true =>
            simp only [errOf, if_true]
            have hlook := M5.look nm hnm
            have hst := hstep.out
            rw [Bool.true_and] at hst
            by_cases hz : kindL (l.take k) nm = 0
            · rw [hz] at hlook
              have hs1 : so1 = true := by rw [hst, hkz.out.1 hz]; rfl
              obtain ⟨w6, hrun, M6, hg6⟩ := M5.put (by omega) nm hnm kd hkd
              have F6 := F1.out.grown hg6 (fun q hq => by injection hq with hq; subst hq; exact hmb.out)
              rw [← hkn.out] at M6
              subst hs1
              clear M5 hz hst hkz hstep hbd hkd hnm hg6
              replace M6 := hide M6
              replace F6 := hide F6
              have X_0 : W5.cell? ⟨xb, 0, none⟩ = some (.string ⟨nm.toArray⟩) := X.out.cell 0
              have X_1 : W5.cell? ⟨xb, 1, none⟩ = some (.int .i64 kd) := X.out.cell 1
              have X_2 : W5.cell? ⟨xb, 2, none⟩ = some (.slice a1 z1 c1) := X.out.cell 2
              have X_3 : W5.cell? ⟨xb, 3, none⟩ = some (.slice a2 z2 c2) := X.out.cell 3
              have X_4 : W5.cell? ⟨xb, 4, none⟩ = some (.slice a3 z3 c3) := X.out.cell 4
              go_wp2_with fail
              clear X_0 X_1 X_2 X_3 X_4
              go_roundw
              case rel => exact ⟨k + 1, by omega, by go_num, F6.out, M6.out, hso1.out⟩
              case measure => simp [intOf]; omega
            · have hs1 : so1 = false := by
                rw [hst]
                have : ((l.take k).map (·.name)).contains nm = true := by
                  rw [← Bool.not_eq_false]
                  exact fun h => hz (hkz.out.2 h)
                rw [this]; rfl
              have h2 := hbd.out hs1
              subst h2
              have hzz : (kindL (l.take k) nm == 0) = false := beq_eq_false_iff_ne.2 hz
              have hzn : (kindL (l.take k) nm != 0) = true := by simp [bne, hzz]
              clear hz hst hkz hstep hbd M5 hs1
              generalize kindL (l.take k) nm = zz at *
              have X_0 : W5.cell? ⟨xb, 0, none⟩ = some (.string ⟨nm.toArray⟩) := X.out.cell 0
              have X_1 : W5.cell? ⟨xb, 1, none⟩ = some (.int .i64 kd) := X.out.cell 1
              have X_2 : W5.cell? ⟨xb, 2, none⟩ = some (.slice a1 z1 c1) := X.out.cell 2
              have X_3 : W5.cell? ⟨xb, 3, none⟩ = some (.slice a2 z2 c2) := X.out.cell 3
              have X_4 : W5.cell? ⟨xb, 4, none⟩ = some (.slice a3 z3 c3) := X.out.cell 4
              go_wp2_with fail
              clear X_0 X_1 X_2 X_3 X_4
              go_ret
              exact ⟨rfl, E.out.trans F1.out⟩
        · obtain rfl : k = l.length := by omega
          rw [List.take_length] at hso M
          have S5 := S.out.ext F
          have EF := E.out.trans F
          have q := qe'.out wr EF
          have hth := fun n k hn => kindL_there l n k hso hn
          have hn8 := hned'.out hso
          have hf8 := hfin'.out hso
          clear hlt hk hso F qe' hned' hfin' S s2 hset'
          replace S5 := hide S5
          replace M := hide M
          replace EF := hide EF
          replace q := hide q
          replace hth := hide hth
          replace hn8 := hide hn8
          replace hf8 := hide hf8
          have S5_0 : wr.cell? ⟨g0, 0, none⟩ = some (.string ⟨p.name.toArray⟩) := S5.out.cell 0
          have S5_1 : wr.cell? ⟨g0, 1, none⟩ = some (.slice a p.terms.length ca) := S5.out.cell 1
          have S5_2 : wr.cell? ⟨g0, 2, none⟩ = some (.bool p.els) := S5.out.cell 2
          go_wp2_with fail
          clear S5_0 S5_1 S5_2
          (with_reducible refine q.out.mono ?_)
          rintro e W6 ⟨v, rfl, he, O⟩
          obtain ⟨ba, bc, rfl, O2⟩ := O.sl
          replace O2 := O2.mono (S' := (· < W6.heap.size)) fun _ h => h.2
          replace EF := hide (EF.out.trans he)
          replace M := hide (M.out.ext he)
          clear he q O S5
          replace O2 := hide O2
          go_wp2_with fail
          go_loopw [51] (fun i wx => ∃ k : Nat, k ≤ N.length ∧ i = .int .i64 k ∧ Ext W6 wx ∧ (N.take k).all (thereS l) = true) (fun i _ => N.length - (intOf i).toNat)
          case atStart => exact ⟨0, Nat.zero_le _, rfl, Ext.refl _, rfl⟩
          case round =>
            rename World => wx
            obtain ⟨k, hk, rfl, G, hal⟩ := hrel
            by_cases hlt : k < N.length
            · obtain ⟨bb, ob, rfl, _, hn1, hn2, i0, i1⟩ := ENeed.at (O2.out.ext G) k hlt
              have hst := all_step (f := thereS l) hlt hal
              have hbd := all_bad (f := thereS l) hlt
              have hne := hnk.out N[k] (List.getElem_mem hlt)
              have htt := hth.out N[k].1 N[k].2 hne
              generalize N[k] = x at *
              obtain ⟨nm, kd⟩ := x
              dsimp only at hn1 hn2 i0 i1 hne htt
              have X := Blk.new wx 114 #[.string ⟨nm.toArray⟩, .int .i64 kd]
              have G1 := G.alloc (Obj.cells #[.string ⟨nm.toArray⟩, .int .i64 kd] 114)
              have hlook := (M.out.ext G1).look nm hn1
              replace X := hide X
              replace G1 := hide G1
              replace hst := hide hst
              replace hbd := hide hbd
              replace htt := hide htt
              go_upto_region 14 with fail
              generalize wx.alloc (Obj.cells #[.string ⟨nm.toArray⟩, .int .i64 kd] 114) = W7 at X G1 hlook ⊢
              generalize wx.heap.size = xb at X ⊢
              clear i0 i1 hn2
              have X_0 : W7.cell? ⟨xb, 0, none⟩ = some (.string ⟨nm.toArray⟩) := X.out.cell 0
              have X_1 : W7.cell? ⟨xb, 1, none⟩ = some (.int .i64 kd) := X.out.cell 1
              by_cases hz : kindL l nm = kd
              · rw [hz] at hlook
                have h1 := htt.out.1 hz
                have h2 := hide (hst.out h1)
                have hkk : (kd != kd) = false := by simp
                clear hz hst hbd htt hal
                go_wp2_with fail
                clear X_0 X_1
                go_roundw
                case rel => exact ⟨k + 1, by omega, by go_num, G1.out, h2.out⟩
                case measure => simp [intOf]; omega
              · have h1 : thereS l (nm, kd) = false := by
                  rw [← Bool.not_eq_true]
                  exact fun h => hz (htt.out.2 h)
                have h2 := hn8.out (hbd.out h1)
                subst h2
                have hzz : (kindL l nm == kd) = false := beq_eq_false_iff_ne.2 hz
                have hzn : (kindL l nm != kd) = true := by simp [bne, hzz]
                clear hz hst hbd htt hal h1
                generalize kindL l nm = zz at *
                go_wp2_with fail
                go_ret
                exact ⟨rfl, EF.out.trans G1.out⟩
            · obtain rfl : k = N.length := by omega
              rw [List.take_length] at hal
              have h2 := hf8.out hal
              subst h2
              clear hlt hk hal
              replace G := hide G
              go_wp2_with fail
              go_ret
              exact ⟨rfl, EF.out.trans G.out⟩
end
end
section
open Go.RowKit Go.Sort
set_option linter.unusedVariables false
theorem okU32K : ElemOk Tryz.prog 64 49 EU32.sz 4 := elemOk (z := .int .u32 0) Tryz.underlying64 (by kernel_rfl) rfl
theorem EItm_one : ∀ x : Itm, ∀ u ∈ itmCs x, u.oneCell' = true := fun x u hu => by
 simp only [itmCs, List.mem_cons, List.not_mem_nil, or_false] at hu
 rcases hu with rfl | rfl | rfl | rfl | rfl | rfl <;> rfl
set_option maxRecDepth 20000 in
theorem okItmV : ElemOk Tryz.prog 63 72 EItm.sz 56 := elemOk (z := .agg #[.int .i64 0, .int .u64 0, .string ⟨#[]⟩, .int .i64 0, .int .i64 0, .int .i64 0]) Tryz.underlying63 (by kernel_rfl) rfl
theorem CloneI_any (a : Option Addr) (c : Nat) (l : List Itm) (w : World) (hl : l.length ≤ 16777216) (hs : Sl EItm w (· < w.heap.size) a l) :
  Calls Tryz.prog 59 #[.slice a l.length c] w fun e w' => ∃ v, e = .returned v ∧ Ext w w' ∧ Own EItm 72 w' w.heap.size v l := by
 replace hs := hide hs
 have q1 := fun (w : World) (a : Option Addr) (n c : Nat) => Lib.run_eql_slice_nil (P := Tryz.prog) w 63 72 a n c 0 0 Tryz.underlying63
 rcases a with _ | ad
 ·have hn : l = [] := by
   rcases hs.out with h2 | ⟨_, _, h2, _⟩
   ·exact h2
   ·cases h2
  subst hn
  go_enter Tryz.func59, Tryz.ntmps59
  go_wp2
  go_ret
  exact ⟨_, rfl, Ext.refl _, Own.nil⟩
 ·go_enter Tryz.func59, Tryz.ntmps59
  go_wp2_with (at_builtin; go_must (refine wpList_pushesC (f := itmCs) (P := ItmIn) (n := 6) (hn := fun _ => rfl) (h1 := EItm_one) (B := w.heap.size) rfl _ _ _ rfl (by decide) okItmV (by decide) rfl (Own.empty (Nat.le_refl _)) (by simp) rfl (by simp; omega) (hs.out.ext ((Ext.refl _).alloc _)) ?_); intro v' w1 hown hg hat)
  go_ret
  refine ⟨_, rfl, ((Ext.refl _).alloc _).push (fun j hj => ?_) hg, by rw [List.nil_append] at hown; exact hown⟩
  have : w.heap.size = j := Option.some.inj hj
  omega
theorem CloneA_any (a : Option Addr) (c : Nat) (l : List Atm) (w : World) (hl : l.length ≤ 16777216) (hs : Sl EAtm w (· < w.heap.size) a l) :
  Calls Tryz.prog 62 #[.slice a l.length c] w fun e w' => ∃ v, e = .returned v ∧ Ext w w' ∧ Own EAtm 75 w' w.heap.size v l := by
 replace hs := hide hs
 have q1 := fun (w : World) (a : Option Addr) (n c : Nat) => Lib.run_eql_slice_nil (P := Tryz.prog) w 73 75 a n c 0 0 Tryz.underlying73
 rcases a with _ | ad
 ·have hn : l = [] := by
   rcases hs.out with h2 | ⟨_, _, h2, _⟩
   ·exact h2
   ·cases h2
  subst hn
  go_enter Tryz.func62, Tryz.ntmps62
  go_wp2
  go_ret
  exact ⟨_, rfl, Ext.refl _, Own.nil⟩
 ·go_enter Tryz.func62, Tryz.ntmps62
  go_wp2_with (at_builtin; go_must (refine wpList_pushesC (f := atmCs) (P := fun a => i64 a.1) (n := 2) (hn := fun _ => rfl) (h1 := EAtm_oneZ) (B := w.heap.size) rfl _ _ _ rfl (by decide) okAtmZ (by decide) rfl (Own.empty (Nat.le_refl _)) (by simp) rfl (by simp; omega) (hs.out.ext ((Ext.refl _).alloc _)) ?_); intro v' w1 hown hg hat)
  go_ret
  refine ⟨_, rfl, ((Ext.refl _).alloc _).push (fun j hj => ?_) hg, by rw [List.nil_append] at hown; exact hown⟩
  have : w.heap.size = j := Option.some.inj hj
  omega
open Go.RowKit Go.Sort
theorem ESet.at {w : World} {S : Nat → Prop} {a : Option Addr} {l : List StS} (h : Sl ESet w S a l) (k : Nat) (hk : k < l.length) :
  ∃ b off a1 c1 a2 c2 a3 c3, a = some ⟨b, off, none⟩ ∧ S b ∧ SetIn w S l[k] a1 a2 a3 ∧ ∀ j u, (setCs l[k] a1 c1 a2 c2 a3 c3)[j]? = some u → w.cell? ⟨b, off + k * 5 + j, none⟩ = some u := by
 obtain ⟨b, off, cs, rfl, hb, hr, hc⟩ := h.at k hk
 obtain ⟨a1, c1, a2, c2, a3, c3, rfl, hi⟩ := ESet.iff.1 hr
 exact ⟨b, off, a1, c1, a2, c2, a3, c3, rfl, hb, hi, hc⟩
abbrev Head := Option Addr × Nat × Nat
/-- A slice as a value alone. -/
def ESlv : Enc Head := Enc.flat (fun x => .slice x.1 x.2.1 x.2.2) (fun _ => True) (fun _ => rfl)
theorem okSlv : ElemOk Tryz.prog 65 73 ESlv.sz 24 := elemOk (z := .slice none 0 0) Tryz.underlying65 (by kernel_rfl) rfl
/-- A slice's head tells a list. -/
def HeadIs (w : World) (S : Nat → Prop) (h : Head) (x : List Atm) : Prop := h.2.1 = x.length ∧ x.length ≤ 16777216 ∧ Sl EAtm w S h.1 x
theorem heads_sl {w : World} {S : Nat → Prop} {a : Option Addr} {l : List (List Atm)} (h : Sl EAtm.slice w S a l) : ∃ hs : List Head, hs.length = l.length ∧ Sl ESlv w S a hs ∧ ∀ k (hk : k < l.length), ∃ x, hs[k]? = some x ∧ HeadIs w S x l[k] := by
  have hq : ∀ k (hk : k < l.length), ∃ x : Head, HeadIs w S x l[k] ∧ ∀ b off, a = some ⟨b, off, none⟩ → w.cell? ⟨b, off + k, none⟩ = some (.slice x.1 x.2.1 x.2.2) := fun k hk => by
    obtain ⟨b, off, ak, ck, rfl, _, h0, hm, hs⟩ := EPat.at h k hk
    refine ⟨(ak, l[k].length, ck), ⟨rfl, hm, hs⟩, fun b' off' he => ?_⟩
    injection he with he
    injection he with h1 h2
    subst h1 h2
    exact h0
  obtain ⟨f, hf⟩ : ∃ f : Nat → Head, ∀ k (hk : k < l.length), HeadIs w S (f k) l[k] ∧ ∀ b off, a = some ⟨b, off, none⟩ → w.cell? ⟨b, off + k, none⟩ = some (.slice (f k).1 (f k).2.1 (f k).2.2) := by
    refine ⟨fun k => if hk : k < l.length then (hq k hk).choose else (none, 0, 0), fun k hk => ?_⟩
    simp only [dif_pos hk]
    exact (hq k hk).choose_spec
  refine ⟨(List.range l.length).map f, by simp, ?_, fun k hk => ⟨f k, by simp [hk], (hf k hk).1⟩⟩
  rcases h with h | ⟨b, off, rfl, hb, hc⟩
  · subst h
    exact .inl rfl
  · refine .inr ⟨b, off, rfl, hb, fun k y hy => ?_⟩
    have hk : k < l.length := by
      have := (List.getElem?_eq_some_iff.1 hy).1
      simpa using this
    have hy' : y = f k := by
      simp [hk] at hy
      exact hy.symm
    subst hy'
    refine ⟨_, ⟨rfl, trivial⟩, fun j u hu => ?_⟩
    match j, hu with
    | 0, hu =>
      injection hu with hu
      rw [← hu]
      have := (hf k hk).2 b off rfl
      rw [show off + k * ESlv.sz + 0 = off + k by show off + k * 1 + 0 = off + k; omega]
      exact this
    | j + 1, hu => cases hu
theorem CloneU_any (a : Option Addr) (c : Nat) (l : List UInt32) (w : World) (hl : l.length ≤ 16777216) (hs : Sl EU32 w (· < w.heap.size) a l) :
  Calls Tryz.prog 60 #[.slice a l.length c] w fun e w' => ∃ v, e = .returned v ∧ Ext w w' ∧ Own EU32 49 w' w.heap.size v l := by
 replace hs := hide hs
 have q1 := fun (w : World) (a : Option Addr) (n c : Nat) => Lib.run_eql_slice_nil (P := Tryz.prog) w 64 49 a n c 0 0 Tryz.underlying64
 rcases a with _ | ad
 ·have hn : l = [] := by
   rcases hs.out with h2 | ⟨_, _, h2, _⟩
   ·exact h2
   ·cases h2
  subst hn
  go_enter Tryz.func60, Tryz.ntmps60
  go_wp2
  go_ret
  exact ⟨_, rfl, Ext.refl _, Own.nil⟩
 ·go_enter Tryz.func60, Tryz.ntmps60
  go_wp2_with (at_builtin; go_must (refine wpList_pushes (B := w.heap.size) rfl _ _ _ rfl okU32K (by decide) rfl (Own.empty (Nat.le_refl _)) (by simp) rfl (by simp; omega) (hs.out.ext ((Ext.refl _).alloc _)) ?_); intro v' w1 hown hg hat)
  go_ret
  refine ⟨_, rfl, ((Ext.refl _).alloc _).push (fun j hj => ?_) hg, by rw [List.nil_append] at hown; exact hown⟩
  have : w.heap.size = j := Option.some.inj hj
  omega
theorem CloneH_any (a : Option Addr) (c : Nat) (l : List Head) (w : World) (hl : l.length ≤ 16777216) (hs : Sl ESlv w (· < w.heap.size) a l) :
  Calls Tryz.prog 61 #[.slice a l.length c] w fun e w' => ∃ v, e = .returned v ∧ Ext w w' ∧ Own ESlv 73 w' w.heap.size v l := by
 replace hs := hide hs
 have q1 := fun (w : World) (a : Option Addr) (n c : Nat) => Lib.run_eql_slice_nil (P := Tryz.prog) w 65 73 a n c 0 0 Tryz.underlying65
 rcases a with _ | ad
 ·have hn : l = [] := by
   rcases hs.out with h2 | ⟨_, _, h2, _⟩
   ·exact h2
   ·cases h2
  subst hn
  go_enter Tryz.func61, Tryz.ntmps61
  go_wp2
  go_ret
  exact ⟨_, rfl, Ext.refl _, Own.nil⟩
 ·go_enter Tryz.func61, Tryz.ntmps61
  go_wp2_with (at_builtin; go_must (refine wpList_pushes (B := w.heap.size) rfl _ _ _ rfl okSlv (by decide) rfl (Own.empty (Nat.le_refl _)) (by simp) rfl (by simp; omega) (hs.out.ext ((Ext.refl _).alloc _)) ?_); intro v' w1 hown hg hat)
  go_ret
  refine ⟨_, rfl, ((Ext.refl _).alloc _).push (fun j hj => ?_) hg, by rw [List.nil_append] at hown; exact hown⟩
  have : w.heap.size = j := Option.some.inj hj
  omega
open Go.RowKit Go.Sort
theorem slv_cell {w : World} {e : TypeId} {B g n c : Nat} {l : List Head} (h : Own ESlv e w B (.slice (some ⟨g, 0, none⟩) n c) l) (k : Nat) (hk : k < l.length) :
  w.cell? ⟨g, k, none⟩ = some (.slice l[k].1 l[k].2.1 l[k].2.2) ∧ w.frozen? ⟨g, k, none⟩ = false := by
 obtain ⟨xs, ho, hr⟩ := h
 obtain ⟨cs, ⟨rfl, _⟩, hc⟩ := hr k l[k] (List.getElem?_eq_getElem hk)
 have hn : n = l.length := by
  rcases ho.2 with ⟨h2, _⟩ | ⟨g', cap, cur, h2, _⟩
  ·cases h2
  ·injection h2
 subst hn
 have h0 := hc 0 _ rfl
 have hz : ESlv.sz = 1 := rfl
 rw [hz, Nat.mul_one, Nat.add_zero] at h0
 have h3 := ho.cells (g := g) rfl k _ h0
 rw [add_lit, Nat.zero_add] at h3
 exact ⟨h3, ho.frozenAt k⟩
theorem slv_set {w : World} {e : TypeId} {B g n c : Nat} {l : List Head} (h : Own ESlv e w B (.slice (some ⟨g, 0, none⟩) n c) l) (k : Nat) (hk : k < l.length) (x : Head) :
  Own ESlv e (w.setCell ⟨g, k, none⟩ (.slice x.1 x.2.1 x.2.2)) B (.slice (some ⟨g, 0, none⟩) n c) (l.set k x) := by
 have := h.setC k 0 hk (by decide) (x := x) (u := .slice x.1 x.2.1 x.2.2) (fun cs hr => by
  obtain ⟨rfl, _⟩ := hr
  exact ⟨rfl, trivial⟩)
 rwa [show k * ESlv.sz + 0 = k by show k * 1 + 0 = k; omega] at this
/-- The first k heads tell rows of the call's own, the others are as they were. -/
def PreP (wr : World) (B : Nat) (hs' hs : List Head) (P : List (List Atm)) (k : Nat) : Prop :=
 hs'.length = P.length ∧ (∀ i (hi : i < P.length), i < k → ∃ ai ci, hs'[i]? = some (ai, P[i].length, ci) ∧ Own EAtm 75 wr B (.slice ai P[i].length ci) P[i]) ∧ ∀ i, k ≤ i → hs'[i]? = hs[i]?
theorem PreP.step {wr w5 : World} {B : Nat} {hs' hs : List Head} {P : List (List Atm)} {k : Nat} (h : PreP wr B hs' hs P k) (hk : k < P.length) (hE : Ext wr w5) {ai : Option Addr} {ci : Nat}
  (ho : Own EAtm 75 w5 B (.slice ai P[k].length ci) P[k]) {g8 : Nat} (hg : g8 < B) (o : Nat) (u : Value) : PreP (w5.setCell ⟨g8, o, none⟩ u) B (hs'.set k (ai, P[k].length, ci)) hs P (k + 1) := by
 have hfar : ∀ {v : Value} {l : List Atm}, Own EAtm 75 w5 B v l → Own EAtm 75 (w5.setCell ⟨g8, o, none⟩ u) B v l := fun hh =>
  hh.kept (by simp [World.setCell]) fun b hb _ => Below.heap_setCell _ _ _ _ (show b ≠ g8 by omega)
 obtain ⟨h1, h2, h3⟩ := h
 refine ⟨by rw [List.length_set, h1], fun i hi hik => ?_, fun i hik => ?_⟩
 ·by_cases e : i = k
  ·subst e
   exact ⟨ai, ci, by rw [List.getElem?_set_self (by omega)], hfar ho⟩
  ·obtain ⟨a, c, h4, h5⟩ := h2 i hi (by omega)
   exact ⟨a, c, by rw [List.getElem?_set_ne (fun x => e x.symm)]; exact h4, hfar (h5.ext hE)⟩
 ·rw [List.getElem?_set_ne (by omega)]
  exact h3 i (by omega)
theorem step_goB {P : Program} {Q : Exit → Act → World → Prop} {o : Oper} {a : Act} {w : World} {R : Nat → Nat → Value → World → Prop} (f : FuncId) {fn : Func} (xs : Array Operand) (ts : Array TypeId)
  (hop : o.op = Op.call { callee := Callee.value (Operand.func f), args := xs, argTypes := ts }) (hf : P.funcs[f]? = some fn) (hname : (fn.name == "runtime.NumGoroutine") = false) (hb : fn.body.isNone = false) (vs : Array Value) (hx : xs.map a.eval = vs)
  (hc : Calls P f vs w fun e w' => ∃ v, e = .returned v ∧ Ext w w' ∧ R w.heap.size w'.heap.size v w') : Oper.wp P o a w (fun a' w'' => ∃ v, a' = a.put o.dst v ∧ Ext w w'' ∧ R w.heap.size w''.heap.size v w'') Q := by
 unfold Oper.wp
 have h1 : fn.name ≠ "runtime.NumGoroutine" := by simpa using hname
 have hev : a.eval (Operand.func f) = .func (.func f) #[] #[] := rfl
 have h2 : ¬ (fn.body = none) := by intro h; simp [h] at hb
 have hrun : (execOp a.eval o).run P w = .ok (.enter f vs) w := by
  simp [execOp, hop, resolve, hev, Deferred.ofValue, invoke, hx, callFunc, hf, h1, h2]
 rw [hrun, Oper.upon_enter]
 exact hc.mono fun e w' h => by obtain ⟨v, rfl, hE, hR⟩ := h; exact ⟨v, rfl, hE, hR⟩
/-- A row that a step has made. -/
def OwnR {α : Type} (E : Enc α) (e : TypeId) (l : List α) (lo hi : Nat) (v : Value) (w : World) : Prop := Own E e w lo v l ∧ ∀ b, v.ownBlock = some b → b < hi
theorem OwnR.stays {α : Type} {E : Enc α} {e : TypeId} {l : List α} {W : World} (hE : ∀ {w w' : World} {S S' : Nat → Prop} {x : α} {cs : List Value}, E.R w S x cs → E.R w' S' x cs) : Stays W (OwnR E e l) := by
 rintro lo hi v w w' ⟨⟨xs, ⟨hl, h3⟩, h2⟩, hlt⟩ hw hs
 refine ⟨⟨xs, ⟨hl, ?_⟩, fun k x hx => ?_⟩, hlt⟩
 ·rcases h3 with h3 | ⟨g, cap, cur, rfl, hg, hh, r⟩
  ·exact .inl h3
  ·exact .inr ⟨g, cap, cur, rfl, hg, by rw [hw g (.inr ⟨hg, hlt g rfl⟩)]; exact hh, r⟩
 ·obtain ⟨cs, hr, hc⟩ := h2 k x hx
  exact ⟨cs, hE hr, hc⟩
theorem OwnR.of {α : Type} {E : Enc α} {e : TypeId} {l : List α} {w w' : World} {v : Value} (h : Own E e w' w.heap.size v l) : OwnR E e l w.heap.size w'.heap.size v w' := ⟨h, fun b hb => (h.lt b hb).2⟩
theorem own_kept {α : Type} {E : Enc α} {e : TypeId} {l : List α} {w w' : World} {B : Nat} {v : Value} {row : Option Nat} (hE : ∀ {w w' : World} {S S' : Nat → Prop} {x : α} {cs : List Value}, E.R w S x cs → E.R w' S' x cs) (h : Own E e w B v l) (hg : w.grownBy w' row) (hn : v.ownBlock = none ∨ v.ownBlock ≠ row) : Own E e w' B v l := by
 obtain ⟨xs, ho, hr⟩ := h
 exact ⟨xs, ho.kept hg hn, fun k x hx => let ⟨cs, h1, h2⟩ := hr k x hx; ⟨cs, hE h1, h2⟩⟩
end
section
section
open Go.RowKit Go.Sort
set_option linter.unusedVariables false
def insCs (x : InsS) : List Value := [.int .i64 x.kind, .int .i64 x.cond.kind, .bool x.cond.neg, .string ⟨x.cond.name.toArray⟩, .int .i64 x.cond.n, .int .i64 x.act.kind, .string ⟨x.act.name.toArray⟩, .int .u32 (x.act.n.toNat : Int), .string ⟨x.act.addr.toArray⟩, .int .i64 x.to, .int .i64 x.n]
structure InsIn (x : InsS) : Prop where
  kind : i64 x.kind
  cond : CondIn x.cond
  act : ActIn x.act
  too : i64 x.to
  n : i64 x.n
def EIns : Enc InsS := Enc.cells insCs InsIn 11 (fun _ => rfl) (fun x u hu => by simp only [insCs, List.mem_cons, List.not_mem_nil, or_false] at hu; rcases hu with rfl | rfl | rfl | rfl | rfl | rfl | rfl | rfl | rfl | rfl | rfl <;> rfl)
set_option maxRecDepth 20000 in
theorem okIns : ElemOk Tryz.prog 54 62 EIns.sz 112 := elemOk (z := .agg #[.int .i64 0, .int .i64 0, .bool false, .string ⟨#[]⟩, .int .i64 0, .int .i64 0, .string ⟨#[]⟩, .int .u32 0, .string ⟨#[]⟩, .int .i64 0, .int .i64 0]) Tryz.underlying54 (by kernel_rfl) rfl
theorem zeroCo_in : CondIn zeroCo := ⟨⟨by decide, by decide⟩, by decide, ⟨by decide, by decide⟩⟩
theorem zeroAc_in : ActIn zeroAc := ⟨⟨by decide, by decide⟩, by decide, by decide⟩
theorem EIns.of {w : World} {S : Nat → Prop} {x : InsS} (h : InsIn x) : EIns.R w S x (insCs x) := ⟨rfl, h⟩
/-- A row that may be written in place. -/
def RowB {α : Type} (E : Enc α) (w : World) (S : Nat → Prop) (v : Value) (l : List α) : Prop :=
 ∃ a c, v = .slice a l.length c ∧ Sl E w S a l ∧ (l = [] ∨ ∃ g, a = some ⟨g, 0, none⟩ ∧ S g ∧ w.there g 0 (l.length * E.sz))
theorem there_frame {w w' : World} {g o n : Nat} (h : w.there g o n) (hw : w'.heap[g]? = w.heap[g]?) : w'.there g o n := fun i hi => by
 obtain ⟨h1, h2⟩ := h i hi
 exact ⟨by rw [World.cell?_of_block (a := ⟨g, o + i, none⟩) hw]; exact h1, by rw [World.frozen?_of_block (a := ⟨g, o + i, none⟩) hw]; exact h2⟩
theorem RowB.frame {α : Type} {E : Enc α} {w w' : World} {S : Nat → Prop} {v : Value} {l : List α} (h : RowB E w S v l) (hw : ∀ b, S b → w'.heap[b]? = w.heap[b]?) : RowB E w' S v l := by
 obtain ⟨a, c, rfl, h1, h2⟩ := h
 refine ⟨a, c, rfl, h1.frame hw, ?_⟩
 rcases h2 with h2 | ⟨g, rfl, hg, h2⟩
 ·exact .inl h2
 ·exact .inr ⟨g, rfl, hg, there_frame h2 (hw g hg)⟩
theorem RowB.mono {α : Type} {E : Enc α} {w : World} {S S' : Nat → Prop} {v : Value} {l : List α} (h : RowB E w S v l) (hS : ∀ b, S b → S' b) : RowB E w S' v l := by
 obtain ⟨a, c, rfl, h1, h2⟩ := h
 refine ⟨a, c, rfl, h1.mono hS, ?_⟩
 rcases h2 with h2 | ⟨g, rfl, hg, h2⟩
 ·exact .inl h2
 ·exact .inr ⟨g, rfl, hS g hg, h2⟩
theorem own_thereK {α : Type} {E : Enc α} {e : TypeId} {w : World} {B g n c : Nat} {l : List α} (h : Own E e w B (.slice (some ⟨g, 0, none⟩) n c) l) : w.there g 0 (l.length * E.sz) := by
 obtain ⟨xs, ho, _⟩ := h
 have hn : n = l.length := by
  rcases ho.2 with ⟨h2, _⟩ | ⟨g', cap, cur, h2, _⟩
  ·cases h2
  ·injection h2
 subst hn
 intro j hj
 have hx : j < xs.length := by rw [ho.1]; exact hj
 have h3 := ho.cells (g := g) rfl j _ (List.getElem?_eq_getElem hx)
 have hadd : (⟨g, 0, none⟩ : Addr).add j = ⟨g, j, none⟩ := by unfold Addr.add; split <;> simp_all
 rw [hadd] at h3
 exact ⟨by rw [Nat.zero_add, h3]; rfl, by have := ho.frozenAt j; rw [Nat.zero_add]; exact this⟩
theorem Own.asideK {α : Type} {E : Enc α} {e : TypeId} {w : World} {B : Nat} {v : Value} {l : List α} (h : Own E e w B v l) {p : Addr} (hp : p.block < B) (u : Value) : Own E e (w.setCell p u) B v l :=
 h.kept (by simp [World.setCell]) fun b hb _ => Below.heap_setCell _ _ _ _ (show b ≠ p.block by omega)
theorem own_slK {α : Type} {E : Enc α} {e : TypeId} {w : World} {B n c : Nat} {a : Option Addr} {l : List α} (h : Own E e w B (.slice a n c) l) : Sl E w (· < w.heap.size) a l := by
 obtain ⟨x, y, he, hs⟩ := h.sl
 injection he with h1 h2 h3
 subst h1
 exact hs.mono fun _ hb => hb.2
/-- A row of the call's own may be written. -/
theorem Own.rowB {α : Type} {E : Enc α} {e : TypeId} {w : World} {B : Nat} {v : Value} {l : List α} {S : Nat → Prop} (h : Own E e w B v l) (hS : ∀ b, B ≤ b → b < w.heap.size → S b) : RowB E w S v l := by
 by_cases hl : l = []
 ·subst hl
  obtain ⟨a, c, rfl⟩ := h.form
  exact ⟨a, c, rfl, .inl rfl, .inl rfl⟩
 ·obtain ⟨a, c, he, hs⟩ := h.sl
  obtain ⟨g, c2, rfl, hg1, hg2⟩ := h.formNe hl
  injection he with h1 h2 h3
  subst h1
  subst h3
  exact ⟨_, _, rfl, hs.mono fun b hb => hS b hb.1 hb.2, .inr ⟨g, rfl, hS g hg1 hg2, own_thereK h⟩⟩
/-- A set of rows that may be written in place, each apart from the row of patterns. -/
structure SetB16 (w : World) (S : Nat → Prop) (x : StS) (v1 v2 v3 : Value) : Prop where
  name : x.name.length ≤ 1048576
  kind : i64 x.kind
  nItems : x.items.length ≤ 16777216
  nComms : x.comms.length ≤ 16777216
  nPaths : x.paths.length ≤ 16777216
  items : RowB EItm w S v1 x.items
  comms : RowB EU32 w S v2 x.comms
  paths : ∃ a c, v3 = .slice a x.paths.length c ∧ (x.paths = [] ∨ ∃ g, a = some ⟨g, 0, none⟩ ∧ S g ∧ w.there g 0 x.paths.length ∧ v1.ownBlock ≠ some g ∧ v2.ownBlock ≠ some g ∧
    ∀ k (hk : k < x.paths.length), ∃ u, w.cell? ⟨g, k, none⟩ = some u ∧ x.paths[k].length ≤ 16777216 ∧ RowB EAtm w (fun b => S b ∧ b ≠ g) u x.paths[k])
theorem SetB16.frame {w w' : World} {S : Nat → Prop} {x : StS} {v1 v2 v3 : Value} (h : SetB16 w S x v1 v2 v3) (hw : ∀ b, S b → w'.heap[b]? = w.heap[b]?) : SetB16 w' S x v1 v2 v3 := by
 obtain ⟨h1, h2, h3, h4, h5, h6, h7, a, c, rfl, h8⟩ := h
 refine ⟨h1, h2, h3, h4, h5, h6.frame hw, h7.frame hw, a, c, rfl, ?_⟩
 rcases h8 with h8 | ⟨g, rfl, hg, ht, n1, n2, hk⟩
 ·exact .inl h8
 ·refine .inr ⟨g, rfl, hg, there_frame ht (hw g hg), n1, n2, fun k hk' => ?_⟩
  obtain ⟨u, hu, hm, hr⟩ := hk k hk'
  exact ⟨u, (World.cell?_of_block (a := ⟨g, k, none⟩) (hw g hg)).trans hu, hm, hr.frame fun b hb => hw b hb.1⟩
theorem SetB16.mono {w : World} {S S' : Nat → Prop} {x : StS} {v1 v2 v3 : Value} (h : SetB16 w S x v1 v2 v3) (hS : ∀ b, S b → S' b) : SetB16 w S' x v1 v2 v3 := by
 obtain ⟨h1, h2, h3, h4, h5, h6, h7, a, c, rfl, h8⟩ := h
 refine ⟨h1, h2, h3, h4, h5, h6.mono hS, h7.mono hS, a, c, rfl, ?_⟩
 rcases h8 with h8 | ⟨g, rfl, hg, ht, n1, n2, hk⟩
 ·exact .inl h8
 ·refine .inr ⟨g, rfl, hS g hg, ht, n1, n2, fun k hk' => ?_⟩
  obtain ⟨u, hu, hm, hr⟩ := hk k hk'
  exact ⟨u, hu, hm, hr.mono fun b hb => ⟨hS b hb.1, hb.2⟩⟩
/-- A set whose rows lie in blocks of their own, from lo on, ahead of hi. -/
def ESetB : Enc (StS × Nat × Nat) where
 R w S x cs := ∃ v1 v2 v3, cs = [.string ⟨x.1.name.toArray⟩, .int .i64 x.1.kind, v1, v2, v3] ∧ SetB16 w (fun b => S b ∧ x.2.1 ≤ b ∧ b < x.2.2) x.1 v1 v2 v3
 sz := 5
 size := by rintro w S x cs ⟨v1, v2, v3, rfl, _⟩; rfl
 one := by
  rintro w S x cs ⟨v1, v2, v3, rfl, h⟩ u hu
  obtain ⟨a1, c1, rfl, _⟩ := h.items
  obtain ⟨a2, c2, rfl, _⟩ := h.comms
  obtain ⟨a3, c3, rfl, _⟩ := h.paths
  simp only [List.mem_cons, List.not_mem_nil, or_false] at hu
  rcases hu with rfl | rfl | rfl | rfl | rfl <;> rfl
 frame := by
  rintro w w' S x cs hw ⟨v1, v2, v3, rfl, h⟩
  exact ⟨v1, v2, v3, rfl, h.frame fun b hb => hw b hb.1⟩
 mono := by
  rintro w S S' x cs hS ⟨v1, v2, v3, rfl, h⟩
  exact ⟨v1, v2, v3, rfl, h.mono fun b hb => ⟨hS b hb.1, hb.2⟩⟩
theorem okSetB : ElemOk Tryz.prog 52 67 ESetB.sz 96 := elemOk (z := .agg #[.string ⟨#[]⟩, .int .i64 0, .slice none 0 0, .slice none 0 0, .slice none 0 0]) Tryz.underlying52 (by kernel_rfl) rfl
theorem RowB.sl {α : Type} {E : Enc α} {w : World} {S : Nat → Prop} {v : Value} {l : List α} (h : RowB E w S v l) : ∃ a c, v = .slice a l.length c ∧ Sl E w S a l := by
 obtain ⟨a, c, h1, h2, _⟩ := h
 exact ⟨a, c, h1, h2⟩
end
section
open Go.RowKit Go.Sort
set_option linter.unusedVariables false
set_option maxRecDepth 20000 in
set_option maxHeartbeats 1000000 in
theorem Comp1_any (nm0 : List UInt8) (kd : Int) (name : List UInt8) (z1 z2 z3 z4 : Value) (gp : Nat) (w : World) (hB : Blk w gp 67 #[.string ⟨name.toArray⟩, z1, z2, z3, z4]) :
  Calls Tryz.prog 58 #[.agg #[.string ⟨nm0.toArray⟩, .int .i64 kd], .pointer (some ⟨gp, 0, none⟩)] w fun e w' => e = .returned (.bool (nm0 == name)) ∧ Ext w w' := by
 have B := hB.alloc (Obj.cells #[.string ⟨nm0.toArray⟩, .int .i64 kd] 114)
 have S := Blk.new w 114 #[.string ⟨nm0.toArray⟩, .int .i64 kd]
 have E := (Ext.refl w).alloc (Obj.cells #[.string ⟨nm0.toArray⟩, .int .i64 kd] 114)
 have p0 : w.cell? ⟨gp, 0, none⟩ = some (.string ⟨name.toArray⟩) := hB.cell 0
 go_enter Tryz.func58, Tryz.ntmps58
 generalize hW0 : w.alloc (Obj.cells #[.string ⟨nm0.toArray⟩, .int .i64 kd] 114) = W0 at S E B
 generalize hg0 : w.heap.size = g0 at S
 have s0 : W0.cell? ⟨g0, 0, none⟩ = some (.string ⟨nm0.toArray⟩) := S.cell 0
 have b0 : W0.cell? ⟨gp, 0, none⟩ = some (.string ⟨name.toArray⟩) := B.cell 0
 clear S B hB
 replace E := hide E
 go_wp2
 go_ret
 exact ⟨rfl, E.out⟩
set_option maxHeartbeats 1000000 in
theorem IdxNeed_any (name : List UInt8) (z1 z2 z3 z4 : Value) (gp : Nat) (a : Option Addr) (c : Nat) (l : List (List UInt8 × Int)) (w : World) (hl : l.length ≤ 16777216) (hs : Sl ENeed w (· < w.heap.size) a l) (hB : Blk w gp 67 #[.string ⟨name.toArray⟩, z1, z2, z3, z4]) :
    Calls Tryz.prog 109 #[.slice a l.length c, .func (.func 58) #[] #[.pointer (some ⟨gp, 0, none⟩)]] w fun e w' => e = .returned (.int .i64 (idxT (fun n : List UInt8 × Int => n.1 == name) l)) ∧ Ext w w' := by
  replace hs := hide hs
  replace hB := hide hB
  go_enter Tryz.func109, Tryz.ntmps109
  go_wp2
  go_loopw [8] (fun i wr => ∃ k : Nat, k ≤ l.length ∧ i = .int .i64 k ∧ Ext w wr ∧ (l.take k).any (fun n : List UInt8 × Int => n.1 == name) = false) (fun i _ => l.length - (intOf i).toNat)
  case atStart => exact ⟨0, Nat.zero_le _, rfl, Ext.refl _, rfl⟩
  case round =>
    obtain ⟨k, hk, rfl, he, ha⟩ := hrel
    replace ha := hide ha
    replace he := hide he
    by_cases hlt : k < l.length
    · obtain ⟨b, off, rfl, _, hn1, hn2, x0, x1⟩ := ENeed.at (hs.out.ext he.out) k hlt
      have hyes := fun h => idxT_at (pr := fun n : List UInt8 × Int => n.1 == name) hlt h ha.out
      have hno := fun h => any_take (pr := fun n : List UInt8 × Int => n.1 == name) hlt h ha.out
      generalize l[k] = x at *
      obtain ⟨nm, kd⟩ := x
      dsimp only at *
      have q := Comp1_any nm kd name z1 z2 z3 z4 gp wr (hB.out.ext he.out)
      clear hn1 hn2
      generalize (nm == name) = r at q hyes hno
      replace q := hide q
      replace hyes := hide hyes
      replace hno := hide hno
      go_wp2_with fail
      (with_reducible refine (q.out).mono ?_)
      rintro e W1 ⟨rfl, he1⟩
      replace he1 := hide (he.out.trans he1)
      clear x0 x1 q
      cases r with
      | false =>
        have hn := hide (hno.out rfl)
        clear hno hyes
        go_wp2_with fail
        go_roundw
        case rel => exact ⟨k + 1, by omega, by go_num, he1.out, hn.out⟩
        case measure => simp [intOf]; omega
      | true =>
        have hy := hide (hyes.out rfl)
        clear hno hyes
        go_wp2_with fail
        go_ret
        exact ⟨ret_int hy.out.symm, he1.out⟩
    · have hend : idxT (fun n : List UInt8 × Int => n.1 == name) l = -1 := idxT_none (by
        obtain rfl : k = l.length := by omega
        have := ha.out
        rwa [List.take_length] at this)
      replace hend := hide hend
      go_wp2
      go_ret
      exact ⟨ret_int hend.out.symm, he.out⟩
theorem idxT_any16 {α : Type} (pr : α → Bool) (l : List α) : (l.any pr = true ∧ 0 ≤ idxT pr l) ∨ (l.any pr = false ∧ idxT pr l = -1) := by
  cases h : l.any pr with
  | false => exact .inr ⟨rfl, idxT_none h⟩
  | true =>
    refine .inl ⟨rfl, ?_⟩
    obtain ⟨x, hx, hp⟩ := List.any_eq_true.1 h
    have key : ∀ n : Nat, n ≤ l.length → (l.take n).any pr = true → ∃ k : Nat, ∃ hk : k < l.length, pr l[k] = true ∧ (l.take k).any pr = false := by
      intro n
      induction n with
      | zero => intro _ h0; simp at h0
      | succ n ih =>
        intro hn h1
        by_cases h2 : (l.take n).any pr = true
        · exact ih (by omega) h2
        · have h2' : (l.take n).any pr = false := by simpa using h2
          refine ⟨n, by omega, ?_, h2'⟩
          rw [List.take_succ_eq_append_getElem (by omega), List.any_append, h2'] at h1
          simpa using h1
    obtain ⟨k, hk, h1, h2⟩ := key l.length (Nat.le_refl _) (by rw [List.take_length]; exact h)
    rw [idxT_at hk h1 h2]
    omega
set_option maxHeartbeats 1000000 in
theorem HasNeed_any (name : List UInt8) (z1 z2 z3 z4 : Value) (gp : Nat) (a : Option Addr) (c : Nat) (l : List (List UInt8 × Int)) (w : World) (hl : l.length ≤ 16777216) (hs : Sl ENeed w (· < w.heap.size) a l) (hB : Blk w gp 67 #[.string ⟨name.toArray⟩, z1, z2, z3, z4]) :
  Calls Tryz.prog 57 #[.slice a l.length c, .func (.func 58) #[] #[.pointer (some ⟨gp, 0, none⟩)]] w fun e w' => e = .returned (.bool (l.any fun n : List UInt8 × Int => n.1 == name)) ∧ Ext w w' := by
 have q := IdxNeed_any name z1 z2 z3 z4 gp a c l w hl hs hB
 have hc := idxT_any16 (fun n : List UInt8 × Int => n.1 == name) l
 clear hs hl hB
 generalize (l.any fun n : List UInt8 × Int => n.1 == name) = r at *
 generalize idxT (fun n : List UInt8 × Int => n.1 == name) l = i at *
 generalize l.length = n at *
 replace q := hide q
 replace hc := hide hc
 go_enter Tryz.func57, Tryz.ntmps57
 go_wp2_with fail
 (with_reducible refine (q.out).mono ?_)
 rintro e W1 ⟨rfl, he⟩
 replace he := hide he
 rcases hc.out with ⟨rfl, h1⟩ | ⟨rfl, rfl⟩
 ·clear hc
  go_wp2_with fail
  go_ret
  exact ⟨ret_bool (by simp), he.out⟩
 ·clear hc
  go_wp2_with fail
  go_ret
  exact ⟨rfl, he.out⟩
/-- A copied set: its rows are the call's own, one by one. -/
theorem setB_of {wr : World} {B B0 : Nat} {e1 e2 e3 : TypeId} {v1 v2 v3 : Value} {x : StS} {hs hs' : List Head} {S : Nat → Prop} (hnm : x.name.length ≤ 1048576) (hkd : i64 x.kind) (m1 : x.items.length ≤ 16777216) (m2 : x.comms.length ≤ 16777216) (m3 : x.paths.length ≤ 16777216)
  (h1 : Own EItm e1 wr B0 v1 x.items) (h2 : Own EU32 e2 wr B0 v2 x.comms) (h : PreP wr B hs' hs x.paths x.paths.length) (ho : Own ESlv e3 wr B0 v3 hs') (hB : B0 ≤ B) (hv : ∀ b, v3.ownBlock = some b → b < B)
  (hm : ∀ i (hi : i < x.paths.length), x.paths[i].length ≤ 16777216) (hne : ∀ b, v3.ownBlock = some b → v1.ownBlock ≠ some b ∧ v2.ownBlock ≠ some b) (hS : ∀ b, B0 ≤ b → b < wr.heap.size → S b) : SetB16 wr S x v1 v2 v3 := by
 obtain ⟨p1, p2, _⟩ := h
 obtain ⟨a, c, hv3⟩ := ho.form
 refine ⟨hnm, hkd, m1, m2, m3, h1.rowB hS, h2.rowB hS, a, c, by rw [hv3, p1], ?_⟩
 by_cases hl : x.paths = []
 ·exact .inl hl
 have hl0 : 0 < x.paths.length := List.length_pos_iff.2 hl
 obtain ⟨g, c2, hv4, hg1, hg2⟩ := ho.formNe (by intro e; rw [e] at p1; simp at p1; omega)
 rw [hv3] at hv4
 injection hv4 with e1 e2 e3
 subst e1
 subst e3
 subst hv3
 refine .inr ⟨g, rfl, hS g hg1 hg2, ?_, (hne g rfl).1, (hne g rfl).2, fun k hk => ?_⟩
 ·have := own_thereK ho
  rw [p1, show ESlv.sz = 1 from rfl, Nat.mul_one] at this
  exact this
 ·have hk' : k < hs'.length := by omega
  obtain ⟨ai, ci, q1, q2⟩ := p2 k hk hk
  have h5 := (slv_cell ho k hk').1
  rw [List.getElem?_eq_getElem hk'] at q1
  rw [Option.some.inj q1] at h5
  have hgB := hv g rfl
  exact ⟨_, h5, hm k hk, q2.rowB fun b hb1 hb2 => ⟨hS b (by omega) hb2, by omega⟩⟩
end
end
end Go.Proofs.YtljibkfbldjgdaaGreatDoor
