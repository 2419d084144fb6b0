/- Chapter 16, closed: the walk of PolcKnown. Printed by genkl.py. -/
import Derived.Lib.SplitLaws
import Derived.Lib.ParseIntB
import Derived.Lib.ParseIntBCases
import Derived.Lib.ItoaNum
import Derived.Lib.Join
import Derived.WalkKit
import Derived.Below
import Derived.Outline
import Derived.LoopTactic
import Derived.Laws.OwnMore
import Derived.Deep.AppendLies
import Derived.Deep.Draws
import Derived.Lib.Hide
import Derived.BigQuiet
import Derived.Deep.QuietTactic
import Derived.WalkSpells
import Derived.WalkLawsBesides
import Derived.Deep.RegionHeld3
import Derived.Deep.DrawnRows
import Derived.Deep.RegionLaw
import Derived.Lib.ConvBytes
import Derived.Lib.Bytealg
import Derived.Lib.Small
import Derived.Test.YtljibkfbldjgdaaGreatDoorRows
import Derived.ProofKit
import Derived.Deep.Slices
import Derived.Shelf.GgClosure.StringsRunes
import Derived.Test.YtljibkfbldjgdaaGreatDoorProg
import Derived.Test.YtljibkfbldjgdaaGreatDoorShelf
import Derived.Test.YtljibkfbldjgdaaGreatDoorShelf2
import Derived.Lib.UnsafeStr
import Derived.Shelf.RegionOpenPlain
import Derived.Laws.StructEq
import Derived.Lib.QuietBelow
import Derived.Lib.ItoaMem
import Derived.Lib.ItoaLen
import Derived.Deep.DeepCutAuto
import Derived.Orders
import Derived.StillTail
import Derived.Defers
import Derived.Recover
import Derived.Maps.OwnSet
import Derived.Maps.Views
import Derived.Maps.Range
import Derived.DeepKeys5
import Derived.Deep.Cut
import Derived.LaidEql
import Derived.Stop.Asserts
import Derived.RowKitTokens
import Derived.Deep.MidRow
import Derived.Laws.MakeOwn
import Derived.Test.YtljibkfbldjgdaaGreatDoorPY01
import Derived.Test.YtljibkfbldjgdaaGreatDoorPY02
import Derived.Test.YtljibkfbldjgdaaGreatDoorPY03
import Derived.Test.YtljibkfbldjgdaaGreatDoorPY04
import Derived.Test.YtljibkfbldjgdaaGreatDoorPY05
import Derived.Test.YtljibkfbldjgdaaGreatDoorPY06
import Derived.Test.YtljibkfbldjgdaaGreatDoorPY07
import Derived.Test.YtljibkfbldjgdaaGreatDoorPY08
import Derived.Test.YtljibkfbldjgdaaGreatDoorPY09
import Derived.Test.YtljibkfbldjgdaaGreatDoorPY10
namespace Go.Proofs.YtljibkfbldjgdaaGreatDoor
section
open Go.RowKit Go.Sort
set_option linter.unusedVariables false
set_option linter.unusedSimpArgs false
def kT1 : TermS := ⟨[⟨6, false, [], 3⟩], [⟨1, [], 0, []⟩]⟩
def kT2 : TermS := ⟨[⟨1, false, [98], 0⟩], [⟨1, [], 0, []⟩]⟩
def kT3 : TermS := ⟨[], [⟨7, [98], 0, []⟩]⟩
def kP : PolS := ⟨[112], [kT1], false⟩
def kPB : PolS := ⟨[112], [kT2], false⟩
def kQ : PolS := ⟨[113], [kT3], true⟩
def kB : StS := ⟨[98], 2, [], [1], []⟩
theorem k1_t : termO [105, 102, 32, 108, 101, 110, 103, 116, 104, 32, 51, 32, 116, 104, 101, 110, 32, 97, 99, 99, 101, 112, 116] = some kT1 := by
 rw [show [105, 102, 32, 108, 101, 110, 103, 116, 104, 32, 51, 32, 116, 104, 101, 110, 32, 97, 99, 99, 101, 112, 116] = termW kT1 by decide +kernel]
 exact termO_text (by decide +kernel)
theorem k2_t : termO [105, 102, 32, 112, 114, 101, 102, 105, 120, 32, 98, 32, 116, 104, 101, 110, 32, 97, 99, 99, 101, 112, 116] = some kT2 := by
 rw [show [105, 102, 32, 112, 114, 101, 102, 105, 120, 32, 98, 32, 116, 104, 101, 110, 32, 97, 99, 99, 101, 112, 116] = termW kT2 by decide +kernel]
 exact termO_text (by decide +kernel)
theorem k3_t : termO [116, 104, 101, 110, 32, 100, 101, 108, 32, 98] = some kT3 := by
 rw [show [116, 104, 101, 110, 32, 100, 101, 108, 32, 98] = termW kT3 by decide +kernel]
 exact termO_text (by decide +kernel)
theorem kB_ok : setOk kB = true := by unfold setOk; decide +kernel
theorem z_ok : setOk zeroSt = false := by unfold setOk; decide +kernel
theorem kB1 : setsOk [kB] [] = true := by unfold setsOk; rw [kB_ok]; rfl
theorem ck1 : checkP kP [] = 0 := checkP_ok (by decide +kernel) rfl rfl
theorem ck2 : checkP kQ [kB] = 0 := checkP_ok (by decide +kernel) kB1 (by decide +kernel)
theorem ck3 : checkP kPB [kB] = 8 := checkP_need (by decide +kernel) kB1 (by decide +kernel)
theorem ck4 : checkP kPB [] = 8 := checkP_need (by decide +kernel) rfl (by decide +kernel)
theorem ck5 : checkP kQ [kB, kB] = 2 := checkP_sets (by decide +kernel) (by unfold setsOk; rw [kB_ok]; unfold setsOk; rw [kB_ok]; rfl)
theorem ck6 : checkP ⟨[], [], false⟩ [] = 2 := checkP_bad (by decide +kernel)
theorem ck7 : checkP ⟨[97], [], false⟩ [] = 0 := checkP_ok (by decide +kernel) rfl rfl
theorem ck8 : checkP ⟨[97], [⟨[], []⟩], false⟩ [] = 2 := checkP_bad (by decide +kernel)
theorem ck9 : checkP ⟨[97], [], false⟩ [zeroSt] = 2 := checkP_sets (by decide +kernel) (by unfold setsOk; rw [z_ok]; rfl)
theorem ins1 : insP kP = [⟨1, ⟨6, false, [], 3⟩, zeroAc, 2, 0⟩, ⟨2, zeroCo, ⟨1, [], 0, []⟩, 0, 0⟩, ⟨3, zeroCo, zeroAc, 0, 0⟩] := rfl
theorem ins2 : insP kQ = [⟨2, zeroCo, ⟨7, [98], 0, []⟩, 0, 0⟩, ⟨3, zeroCo, zeroAc, 0, 1⟩] := rfl
theorem tz : termT ⟨[], []⟩ = ([], 2) := by decide +kernel
theorem row1T {W : World} {g : Nat} {T : TypeId} {a1 : Option Addr} {c1 : Nat} {a2 : Option Addr} {c2 : Nat} (t : TermS) (h : Blk W g T #[.slice a1 t.conds.length c1, .slice a2 t.acts.length c2]) (n1 : t.conds.length ≤ 16777216) (n2 : t.acts.length ≤ 16777216) (k1 : t.conds.length ≤ c1) (m1 : c1 ≤ maxLen) (k2 : t.acts.length ≤ c2) (m2 : c2 ≤ maxLen) (s1 : Sl ECond W (· < W.heap.size) a1 t.conds) (s2 : Sl EAct W (· < W.heap.size) a2 t.acts) :
    Sl ETermC W (· < W.heap.size) (some ⟨g, 0, none⟩) [t] := by
  refine .inr ⟨g, 0, rfl, h.lt, fun k x hx => ?_⟩
  match k, hx with
  | 0, hx =>
    obtain rfl : t = x := by simpa using hx
    refine ⟨[.slice a1 t.conds.length c1, .slice a2 t.acts.length c2], ⟨[_], [_], rfl, ⟨a1, c1, rfl, n1, k1, m1, s1⟩, ⟨a2, c2, rfl, n2, k2, m2, s2⟩⟩, fun j u hu => ?_⟩
    rw [show 0 + 0 * ETermC.sz + j = j by show 0 + 0 * 2 + j = j; omega]
    match j, hu with
    | 0, hu => injection hu with hu; subst hu; exact h.cell 0
    | 1, hu => injection hu with hu; subst hu; exact h.cell 1
theorem own_insAt {e : TypeId} {w : World} {B g n c : Nat} {l : List InsS} (h : Own EIns e w B (.slice (some ⟨g, 0, none⟩) n c) l) (k : Nat) (hk : k < l.length) (j : Nat) (u : Value) (hu : (insCs l[k])[j]? = some u) : w.cell? ⟨g, k * 11 + j, none⟩ = some u := by
 obtain ⟨xs, h1, h2⟩ := h
 obtain ⟨cs, ⟨rfl, _⟩, hc⟩ := h2 k l[k] (List.getElem?_eq_getElem hk)
 have h3 := h1.cells (g := g) rfl (k * 11 + j) u (hc j u hu)
 have hadd : (⟨g, 0, none⟩ : Addr).add (k * 11 + j) = ⟨g, k * 11 + j, none⟩ := by unfold Addr.add; split <;> simp_all
 rwa [hadd] at h3
theorem row1S {W : World} {g : Nat} {T : TypeId} {x : StS} {a1 : Option Addr} {c1 : Nat} {a2 : Option Addr} {c2 : Nat} {a3 : Option Addr} {c3 : Nat} (h : Blk W g T #[.string ⟨x.name.toArray⟩, .int .i64 x.kind, .slice a1 x.items.length c1, .slice a2 x.comms.length c2, .slice a3 x.paths.length c3]) (hi : SetIn W (· < W.heap.size) x a1 a2 a3) :
    Sl ESet W (· < W.heap.size) (some ⟨g, 0, none⟩) [x] := by
  refine .inr ⟨g, 0, rfl, h.lt, fun k y hy => ?_⟩
  match k, hy with
  | 0, hy =>
    obtain rfl : x = y := by simpa using hy
    refine ⟨setCs x a1 c1 a2 c2 a3 c3, ESet.iff.2 ⟨a1, c1, a2, c2, a3, c3, rfl, hi⟩, fun j u hu => ?_⟩
    rw [show 0 + 0 * ESet.sz + j = j by show 0 + 0 * 5 + j = j; omega]
    match j, hu with
    | 0, hu => injection hu with hu; subst hu; exact h.cell 0
    | 1, hu => injection hu with hu; subst hu; exact h.cell 1
    | 2, hu => injection hu with hu; subst hu; exact h.cell 2
    | 3, hu => injection hu with hu; subst hu; exact h.cell 3
    | 4, hu => injection hu with hu; subst hu; exact h.cell 4
theorem row2S {W : World} {g : Nat} {T : TypeId} {x : StS} {a1 : Option Addr} {c1 : Nat} {a2 : Option Addr} {c2 : Nat} {a3 : Option Addr} {c3 : Nat} (h : Blk W g T #[.string ⟨x.name.toArray⟩, .int .i64 x.kind, .slice a1 x.items.length c1, .slice a2 x.comms.length c2, .slice a3 x.paths.length c3, .string ⟨x.name.toArray⟩, .int .i64 x.kind, .slice a1 x.items.length c1, .slice a2 x.comms.length c2, .slice a3 x.paths.length c3]) (hi : SetIn W (· < W.heap.size) x a1 a2 a3) :
    Sl ESet W (· < W.heap.size) (some ⟨g, 0, none⟩) [x, x] := by
  refine .inr ⟨g, 0, rfl, h.lt, fun k y hy => ?_⟩
  match k, hy with
  | 0, hy =>
    obtain rfl : x = y := by simpa using hy
    refine ⟨setCs x a1 c1 a2 c2 a3 c3, ESet.iff.2 ⟨a1, c1, a2, c2, a3, c3, rfl, hi⟩, fun j u hu => ?_⟩
    rw [show 0 + 0 * ESet.sz + j = j by show 0 + 0 * 5 + j = j; omega]
    match j, hu with
    | 0, hu => injection hu with hu; subst hu; exact h.cell 0
    | 1, hu => injection hu with hu; subst hu; exact h.cell 1
    | 2, hu => injection hu with hu; subst hu; exact h.cell 2
    | 3, hu => injection hu with hu; subst hu; exact h.cell 3
    | 4, hu => injection hu with hu; subst hu; exact h.cell 4
  | 1, hy =>
    obtain rfl : x = y := by simpa using hy
    refine ⟨setCs x a1 c1 a2 c2 a3 c3, ESet.iff.2 ⟨a1, c1, a2, c2, a3, c3, rfl, hi⟩, fun j u hu => ?_⟩
    rw [show 0 + 1 * ESet.sz + j = 5 + j by show 0 + 1 * 5 + j = 5 + j; omega]
    match j, hu with
    | 0, hu => injection hu with hu; subst hu; exact h.cell 5
    | 1, hu => injection hu with hu; subst hu; exact h.cell 6
    | 2, hu => injection hu with hu; subst hu; exact h.cell 7
    | 3, hu => injection hu with hu; subst hu; exact h.cell 8
    | 4, hu => injection hu with hu; subst hu; exact h.cell 9
theorem kB_in {W : World} {g : Nat} (h : Blk W g 49 #[.int .u32 1]) : SetIn W (· < W.heap.size) kB none (some ⟨g, 0, none⟩) none := by
  refine ⟨by decide, ⟨by decide, by decide⟩, by decide, Sl.nil, by decide, .inr ⟨g, 0, rfl, h.lt, fun k y hy => ?_⟩, by decide, Sl.nil⟩
  match k, hy with
  | 0, hy =>
    obtain rfl : (1 : UInt32) = y := by
      have hy : some (1 : UInt32) = some y := hy
      exact Option.some.inj hy
    refine ⟨[.int .u32 1], ⟨rfl, trivial⟩, fun i u hu => ?_⟩
    match i, hu with
    | 0, hu => injection hu with hu; subst hu; exact h.cell 0
theorem zero_in {W : World} : SetIn W (· < W.heap.size) zeroSt none none none := ⟨by decide, ⟨by decide, by decide⟩, by decide, Sl.nil, by decide, Sl.nil, by decide, Sl.nil⟩
theorem mkTerm1 : ∀ W : World, (Instr.makeSlice 33 (.int .i64 1) (.int .i64 1)).run Tryz.prog W = .ok (.slice (some ⟨W.heap.size, 0, none⟩) 1 1) (W.alloc (.cells #[.slice none 0 0, .slice none 0 0] 25)) := by
 obtain ⟨ht, i, z, hi, hz, hs, hb, _⟩ := okTermC
 have hz0 : z = .agg #[.slice none 0 0, .slice none 0 0] := by
  have h : (Tryz.prog.info? 25).map (fun i => i.zero) = some (some (.agg #[.slice none 0 0, .slice none 0 0])) := by kernel_rfl
  rw [hi] at h
  simp only [Option.map_some, Option.some.injEq] at h
  rw [hz] at h
  exact Option.some.inj h
 subst hz0
 intro W
 have := run_make (w := W) 33 25 i _ ht hi hz .i64 .i64 1 1 (by omega) (by omega) (by rw [hb]; omega) (by omega)
 have hs2 : i.size = 2 := hs
 rw [hs2, show madeCells (Value.agg #[.slice none 0 0, .slice none 0 0]).cells (Int.toNat 1 * 2) = #[.slice none 0 0, .slice none 0 0] by kernel_rfl] at this
 exact this
theorem mkSet1 : ∀ W : World, (Instr.makeSlice 52 (.int .i64 1) (.int .i64 1)).run Tryz.prog W = .ok (.slice (some ⟨W.heap.size, 0, none⟩) 1 1) (W.alloc (.cells #[.string ⟨#[]⟩, .int .i64 0, .slice none 0 0, .slice none 0 0, .slice none 0 0] 67)) := by
 obtain ⟨ht, i, z, hi, hz, hs, hb, _⟩ := okHd
 have hz0 : z = .agg #[.string ⟨#[]⟩, .int .i64 0, .slice none 0 0, .slice none 0 0, .slice none 0 0] := by
  have h : (Tryz.prog.info? 67).map (fun i => i.zero) = some (some (.agg #[.string ⟨#[]⟩, .int .i64 0, .slice none 0 0, .slice none 0 0, .slice none 0 0])) := by kernel_rfl
  rw [hi] at h
  simp only [Option.map_some, Option.some.injEq] at h
  rw [hz] at h
  exact Option.some.inj h
 subst hz0
 intro W
 have := run_make (w := W) 52 67 i _ ht hi hz .i64 .i64 1 1 (by omega) (by omega) (by rw [hb]; omega) (by omega)
 have hs2 : i.size = 5 := hs
 rw [hs2, show madeCells (Value.agg #[.string ⟨#[]⟩, .int .i64 0, .slice none 0 0, .slice none 0 0, .slice none 0 0]).cells (Int.toNat 1 * 5) = #[.string ⟨#[]⟩, .int .i64 0, .slice none 0 0, .slice none 0 0, .slice none 0 0] by kernel_rfl] at this
 exact this
/-- What the program answers of a policy that compiles. -/
theorem comp_ok {p : PolS} {l : List StS} {w : World} {e : Ending} {w' : World} (h : CompP p l w e w') (h0 : checkP p l = 0) (hi : insP p ≠ []) :
  ∃ g c a2 c2 ls, e = .returned (.tuple #[.agg #[.slice (some ⟨g, 0, none⟩) (insP p).length c, .slice a2 ls c2], .int .i64 0]) ∧ Ext w w' ∧ Own EIns 62 w' w.heap.size (.slice (some ⟨g, 0, none⟩) (insP p).length c) (insP p) ∧ ls = (setsP p l).length := by
 obtain ⟨hE, h⟩ := h
 rcases h with ⟨h1, _⟩ | ⟨_, v1, v2, ls, m, rfl, _, _, o1, o2, hmap, _⟩
 ·exact absurd h0 h1
 ·obtain ⟨g, c, rfl, _, _⟩ := o1.formNe hi
  obtain ⟨a2, c2, rfl⟩ := o2.form
  exact ⟨g, c, a2, c2, _, rfl, hE, o1, by rw [← hmap, List.length_map]⟩
set_option maxRecDepth 20000 in
set_option maxHeartbeats 1000000 in
theorem Line_any (s : List UInt8) (t : TermS) (h : termO s = some t) (hs : s.length ≤ 1048576) (w : World) (hT : Tab w) (hV : Vars w) (hD : Deb w) :
  Calls Tryz.prog 32 #[.string ⟨s.toArray⟩] w fun e w' => ∃ v1 v2, e = .returned (.agg #[v1, v2]) ∧ Own ECond 48 w' w.heap.size v1 t.conds ∧ Own EAct 51 w' w.heap.size v2 t.acts ∧ Ext w w' := by
 have q := fun W (h : Ext w W) => PTerm_any s hs W (hT.ext h) (hV.ext h) (hD.ext h)
 unfold TeP at q
 simp only [h] at q
 clear h hT hV hD
 have R := Blk.new w 25 #[.slice none 0 0, .slice none 0 0]
 have E := (Ext.refl w).alloc (Obj.cells #[.slice none 0 0, .slice none 0 0] 25)
 obtain ⟨g0, hg0⟩ : ∃ g0, w.heap.size = g0 := ⟨_, rfl⟩
 rw [hg0] at R
 have hgl : g0 < (w.alloc (Obj.cells #[.slice none 0 0, .slice none 0 0] 25)).heap.size := R.lt
 have hgw : w.heap.size ≤ g0 := Nat.le_of_eq hg0
 generalize hW0 : w.alloc (Obj.cells #[.slice none 0 0, .slice none 0 0] 25) = W0 at R E hgl
 replace q := hide q
 replace R := hide R
 replace E := hide E
 replace hgl := hide hgl
 replace hgw := hide hgw
 go_enter Tryz.func32, Tryz.ntmps32
 go_wp2_with fail
 try rw [hg0]
 try rw [hW0]
 (with_reducible refine (q.out _ E.out).mono ?_)
 rintro e W1 ⟨⟨v1, v2, rfl, o1, o2⟩, he⟩
 clear q hW0 hg0
 obtain ⟨a1, c1, rfl⟩ := o1.form
 obtain ⟨a2, c2, rfl⟩ := o2.form
 have hgl' := hgl.out
 have hgw' := hgw.out
 have hEz := E.out.size
 have R1 := (R.out.ext he).alloc (Obj.cells #[.slice a1 t.conds.length c1, .slice a2 t.acts.length c2] 25)
 have E1 := (((E.out.trans he).alloc (Obj.cells #[.slice a1 t.conds.length c1, .slice a2 t.acts.length c2] 25)).setCell (p := ⟨g0, 0, none⟩) hgw' (.slice a1 t.conds.length c1)).setCell (p := ⟨g0, 1, none⟩) hgw' (.slice a2 t.acts.length c2)
 have Z := (R1.set_ 0 (.slice a1 t.conds.length c1)).set_ 1 (.slice a2 t.acts.length c2)
 have p1 := (((o1.alloc (Obj.cells #[.slice a1 t.conds.length c1, .slice a2 t.acts.length c2] 25)).asideS (p := ⟨g0, 0, none⟩) hgl' (.slice a1 t.conds.length c1)).asideS (p := ⟨g0, 1, none⟩) hgl' (.slice a2 t.acts.length c2)).low hEz
 have p2 := (((o2.alloc (Obj.cells #[.slice a1 t.conds.length c1, .slice a2 t.acts.length c2] 25)).asideS (p := ⟨g0, 0, none⟩) hgl' (.slice a1 t.conds.length c1)).asideS (p := ⟨g0, 1, none⟩) hgl' (.slice a2 t.acts.length c2)).low hEz
 have r0 : W1.cell? ⟨g0, 0, none⟩ = some (.slice none 0 0) := (R.out.ext he).cell 0
 have r1 : W1.cell? ⟨g0, 1, none⟩ = some (.slice none 0 0) := (R.out.ext he).cell 1
 have rf := fun i => (R.out.ext he).frozen i
 have ra0 : (W1.alloc (Obj.cells #[.slice a1 t.conds.length c1, .slice a2 t.acts.length c2] 25)).cell? ⟨g0, 0, none⟩ = some (.slice none 0 0) := R1.cell 0
 have ra1 : (W1.alloc (Obj.cells #[.slice a1 t.conds.length c1, .slice a2 t.acts.length c2] 25)).cell? ⟨g0, 1, none⟩ = some (.slice none 0 0) := R1.cell 1
 have raf := fun i => R1.frozen i
 clear o1 o2 R1 he R E
 replace E1 := hide E1
 replace Z := hide Z
 replace p1 := hide p1
 replace p2 := hide p2
 go_wp2_with fail
 replace Z := Z.out
 generalize ((W1.alloc (Obj.cells #[.slice a1 t.conds.length c1, .slice a2 t.acts.length c2] 25)).setCell ⟨g0, 0, none⟩ (.slice a1 t.conds.length c1)).setCell ⟨g0, 1, none⟩ (.slice a2 t.acts.length c2) = Wf at E1 Z p1 p2 ⊢
 have z0 : Wf.cell? ⟨g0, 0, none⟩ = some (.slice a1 t.conds.length c1) := Z.cell 0
 have z1 : Wf.cell? ⟨g0, 1, none⟩ = some (.slice a2 t.acts.length c2) := Z.cell 1
 exact bodyPost_ret (v := .agg #[.slice a1 t.conds.length c1, .slice a2 t.acts.length c2]) (by simp [results, Tryz.results32, go_sem, z0, z1]) rfl ⟨_, _, rfl, p1.out, p2.out, E1.out⟩
set_option maxRecDepth 20000 in
set_option maxHeartbeats 8000000 in
theorem PolcKnown_walk (w : World) (hT : Tab w) (hD : Deb w) (hV : Vars w) (hG : ErT w) :
  Calls Tryz.prog 10 #[] w fun e w' => e = .returned (.bool true) ∧ Ext w w' := by
 have E := hide (Ext.refl w)
 have qw := fun W (h : Ext w W) => PWorks_any W (hT.ext h) (hD.ext h) (hV.ext h)
 have qt := fun s hs W (h : Ext w W) => PTerm_any s hs W (hT.ext h) (hV.ext h) (hD.ext h)
 have qx := fun a1 c1 a2 c2 t W h1 h2 hc2 s1 s2 (h : Ext w W) => PTermText_any a1 c1 a2 c2 t W h1 h2 hc2 s1 s2 (hT.ext h) (hD.ext h)
 have ql := fun s t (ht : termO s = some t) hs W (h : Ext w W) => Line_any s t ht hs W (hT.ext h) (hV.ext h) (hD.ext h)
 unfold TeP at qt
 replace qw := hide qw
 replace qt := hide qt
 replace qx := hide qx
 replace ql := hide ql
 replace hG := hide hG
 clear hT hD hV
 go_enter Tryz.func10, Tryz.ntmps10
 obtain ⟨CS, hCS⟩ : ∃ CS : Array Value, CS = ((noneK.map fun x => Value.string ⟨x.toArray⟩).toArray) := ⟨_, rfl⟩
 have b1 := Blk.new w 9 CS
 have hA := (Ext.refl w).alloc (Obj.cells CS 9)
 have hcs : #[.string ⟨#[]⟩, .string ⟨#[116, 104, 101, 110, 32, 97, 99, 99, 101, 112, 116, 32, 97, 110, 100, 32, 109, 101, 100, 32, 49]⟩, .string ⟨#[105, 102, 32, 116, 104, 101, 110, 32, 97, 99, 99, 101, 112, 116]⟩, .string ⟨#[116, 104, 101, 110, 32, 112, 114, 101, 112, 101, 110, 100, 32, 57]⟩, .string ⟨#[116, 104, 101, 110, 32, 112, 114, 101, 112, 101, 110, 100, 32, 48]⟩, .string ⟨#[116, 104, 101, 110, 32, 32, 114, 101, 106, 101, 99, 116]⟩, .string ⟨#[116, 104, 101, 110, 32, 114, 101, 106, 101, 99, 116, 32]⟩, .string ⟨#[105, 102, 32, 108, 101, 110, 103, 116, 104, 32, 54, 53, 53, 51, 54, 32, 116, 104, 101, 110, 32, 97, 99, 99, 101, 112, 116]⟩, .string ⟨#[105, 102, 32, 102, 97, 109, 32, 118, 53, 32, 116, 104, 101, 110, 32, 97, 99, 99, 101, 112, 116]⟩, .string ⟨#[116, 104, 101, 110, 32, 112, 114, 101, 102, 32, 52, 50, 57, 52, 57, 54, 55, 50, 57, 54]⟩, .string ⟨#[116, 104, 101, 110, 32, 112, 114, 101, 102, 32, 48, 49]⟩, .string ⟨#[105, 102, 32, 110, 111, 116, 32, 110, 111, 116, 32, 111, 114, 105, 103, 105, 110, 32, 105, 103, 112, 32, 116, 104, 101, 110, 32, 97, 99, 99, 101, 112, 116]⟩, .string ⟨#[105, 102, 32, 112, 101, 101, 114, 32, 116, 104, 101, 110, 32, 97, 99, 99, 101, 112, 116]⟩, .string ⟨#[116, 104, 101, 110, 32, 110, 101, 120, 116, 32, 49, 48, 46, 48, 46, 48]⟩, .string ⟨#[97, 99, 99, 101, 112, 116]⟩, .string ⟨#[105, 102, 32, 112, 114, 101, 102, 105, 120, 32, 65, 32, 116, 104, 101, 110, 32, 97, 99, 99, 101, 112, 116]⟩, .string ⟨#[116, 104, 101, 110, 32, 97, 100, 100, 32, 54, 53, 48, 48, 48]⟩, .string ⟨#[116, 104, 101, 110, 32, 114, 101, 106, 101, 99, 116, 32, 97, 110, 100]⟩, .string ⟨#[105, 102, 32, 112, 101, 101, 114, 32, 97, 32, 97, 110, 100, 32, 116, 104, 101, 110, 32, 97, 99, 99, 101, 112, 116]⟩] = CS := hCS.symm ▸ rfl
 replace hcs := hide hcs
 replace b1 := hide b1
 replace hA := hide hA
 replace hCS := hide hCS
 obtain ⟨g_b1, hg⟩ : ∃ g, w.heap.size = g := ⟨_, rfl⟩
 rw [hg] at b1
 go_wp2_with fail
 rw [hcs.out]
 try rw [hg]
 generalize w.alloc (Obj.cells CS 9) = W1 at b1 hA ⊢
 replace hA := hA.out
 clear hg hcs
 replace E := hide (E.out.trans hA)
 clear hA
 have hCS0 := hCS.out
 clear hCS
 go_loopw [2] (fun i wr => ∃ k : Nat, k ≤ 19 ∧ i = .int .i64 k ∧ Ext W1 wr) (fun i _ => 19 - (intOf i).toNat)
 case atStart => exact ⟨0, by omega, rfl, Ext.refl _⟩
 case round =>
  obtain ⟨k, hk, rfl, hE⟩ := hrel
  by_cases hlt : k < 19
  ·have hkl : k < noneK.length := hlt
   have hc : wr.cell? ⟨g_b1, k, none⟩ = some (.string ⟨(noneK[k]).toArray⟩) := by
    have h := (b1.out.ext hE).cell k
    rw [hCS0, List.getElem?_toArray, List.getElem?_map, List.getElem?_eq_getElem hkl] at h
    exact h
   have hsz : (noneK[k]).length ≤ 1048576 := noneK_len _ (List.getElem_mem hkl)
   have hno := noneK_no _ (List.getElem_mem hkl)
   generalize noneK[k] = x at hc hsz hno
   have hF := qt.out x hsz wr (E.out.trans hE)
   simp only [hno] at hF
   clear hno hsz
   replace hF := hide hF
   have hE0 := hide hE
   clear hE
   go_wp2_with fail
   (with_reducible refine hF.out.mono ?_)
   rintro e v1 ⟨⟨f, rfl, hfl, hB⟩, he⟩
   clear hF hc
   have hE1 := hE0.out.trans he
   have hEa := hE1.alloc (Obj.cells #[.slice none 0 0, .slice none 0 0] 25)
   have hEb := hEa.alloc (Obj.cells #[.pointer none] 80)
   have hBb := (hB.alloc (Obj.cells #[.slice none 0 0, .slice none 0 0] 25)).alloc (Obj.cells #[.pointer none] 80)
   have hP := Blk.new (v1.alloc (Obj.cells #[.slice none 0 0, .slice none 0 0] 25)) 80 #[.pointer none]
   have hfs := hB.lt
   obtain ⟨tb, htb⟩ : ∃ tb, (v1.alloc (Obj.cells #[.slice none 0 0, .slice none 0 0] 25)).heap.size = tb := ⟨_, rfl⟩
   have htb1 : v1.heap.size + 1 = tb := by rw [← htb]; simp
   rw [htb] at hP
   have hwz := hE1.size
   have hft : f ≠ tb := by omega
   have htw : W1.heap.size ≤ tb := by omega
   have hA := asF_hit ⟨f, 0, none⟩ ⟨tb, 0, none⟩ (.pointer none) _ (hG.out.ext (E.out.trans hEb)) (hP.cell 0) (hP.frozen 0)
   generalize hW3 : (v1.alloc (Obj.cells #[.slice none 0 0, .slice none 0 0] 25)).alloc (Obj.cells #[.pointer none] 80) = W3 at hEb hBb hP hA
   clear hE0 he hE1 hEa hB hfl hwz hfs htb
   replace hEb := hide hEb
   replace hBb := hide hBb
   replace hP := hide hP
   replace hA := hide hA
   replace hft := hide hft
   replace htw := hide htw
   go_wp2_with fail
   try rw [hW3]
   try rw [htb1]
   clear hW3 htb1
   (with_reducible refine hA.out.mono ?_)
   rintro e W4 ⟨rfl, W4', he, rfl⟩
   have P1 : Blk (W4'.setCell ⟨tb, 0, none⟩ (.pointer (some ⟨f, 0, none⟩))) tb 80 #[.pointer (some ⟨f, 0, none⟩)] := (hP.out.ext he).set_ 0 _
   have F1 := (hBb.out.ext he).far (p := ⟨tb, 0, none⟩) hft.out (.pointer (some ⟨f, 0, none⟩))
   have E1 := (hEb.out.trans he).setCell (p := ⟨tb, 0, none⟩) htw.out (.pointer (some ⟨f, 0, none⟩))
   generalize W4'.setCell ⟨tb, 0, none⟩ (.pointer (some ⟨f, 0, none⟩)) = W5 at P1 F1 E1 ⊢
   have p0 : W5.cell? ⟨tb, 0, none⟩ = some (.pointer (some ⟨f, 0, none⟩)) := P1.cell 0
   have f0 : W5.cell? ⟨f, 0, none⟩ = some (.int .i64 9) := F1.cell 0
   have f1 : W5.cell? ⟨f, 1, none⟩ = some (.int .i64 0) := F1.cell 1
   clear P1 F1 he hP hBb hEb hA
   replace E1 := hide E1
   go_wp2_with fail
   go_roundw
   case rel => exact ⟨k + 1, by omega, by go_num, E1.out⟩
   case measure => simp [intOf]; omega
  ·obtain rfl : k = 19 := by omega
   rename World => W2
   clear hlt hk hCS0
   replace E := hide (E.out.trans hE)
   replace b1 := hide (b1.out.ext hE)
   clear hE
   clear b1
   rw [show ((19 : Nat) : Int) = 19 from rfl]
   obtain ⟨CS, hCS⟩ : ∃ CS : Array Value, CS = ((allK.map fun x => Value.string ⟨x.toArray⟩).toArray) := ⟨_, rfl⟩
   have b2 := Blk.new W2 9 CS
   have hA := (Ext.refl W2).alloc (Obj.cells CS 9)
   have hcs : #[.string ⟨#[116, 104, 101, 110, 32, 114, 101, 106, 101, 99, 116]⟩, .string ⟨#[105, 102, 32, 112, 101, 101, 114, 32, 97, 110, 100, 32, 116, 104, 101, 110, 32, 97, 100, 100, 32, 54, 53, 48, 48, 48, 58, 49, 32, 97, 110, 100, 32, 97, 100, 100, 32, 110, 111, 45, 101, 120, 112, 111, 114, 116]⟩, .string ⟨#[105, 102, 32, 110, 111, 116, 32, 99, 111, 109, 109, 32, 98, 32, 97, 110, 100, 32, 112, 97, 116, 104, 32, 99, 32, 97, 110, 100, 32, 108, 101, 110, 103, 116, 104, 32, 51, 32, 97, 110, 100, 32, 102, 97, 109, 32, 118, 112, 110, 52, 32, 97, 110, 100, 32, 111, 114, 105, 103, 105, 110, 32, 105, 110, 99, 111, 109, 112, 108, 101, 116, 101, 32, 116, 104, 101, 110, 32, 109, 101, 100, 32, 48, 32, 97, 110, 100, 32, 110, 111, 45, 109, 101, 100, 32, 97, 110, 100, 32, 100, 101, 108, 32, 98, 32, 97, 110, 100, 32, 112, 114, 101, 112, 101, 110, 100, 32, 56, 32, 97, 110, 100, 32, 110, 101, 120, 116, 32, 49, 48, 46, 48, 46, 48, 46, 49, 32, 97, 110, 100, 32, 111, 114, 105, 103, 105, 110, 32, 101, 103, 112, 32, 97, 110, 100, 32, 114, 101, 106, 101, 99, 116]⟩, .string ⟨#[105, 102, 32, 112, 101, 101, 114, 32, 116, 104, 101, 110, 32, 116, 104, 101, 110, 32, 97, 99, 99, 101, 112, 116]⟩, .string ⟨#[105, 102, 32, 112, 101, 101, 114, 32, 110, 111, 116, 32, 116, 104, 101, 110, 32, 97, 99, 99, 101, 112, 116]⟩] = CS := hCS.symm ▸ rfl
   replace hcs := hide hcs
   replace b2 := hide b2
   replace hA := hide hA
   replace hCS := hide hCS
   obtain ⟨g_b2, hg⟩ : ∃ g, W2.heap.size = g := ⟨_, rfl⟩
   rw [hg] at b2
   go_wp2_with fail
   rw [hcs.out]
   try rw [hg]
   generalize W2.alloc (Obj.cells CS 9) = W3 at b2 hA ⊢
   replace hA := hA.out
   clear hg hcs
   replace E := hide (E.out.trans hA)
   clear hA
   have hCS0 := hCS.out
   clear hCS
   go_loopw [7] (fun i wr => ∃ k : Nat, k ≤ 5 ∧ i = .int .i64 k ∧ Ext W3 wr) (fun i _ => 5 - (intOf i).toNat)
   case atStart => exact ⟨0, by omega, rfl, Ext.refl _⟩
   case round =>
    obtain ⟨k, hk, rfl, hE⟩ := hrel
    by_cases hlt : k < 5
    ·have hkl : k < allK.length := hlt
     have hc : wr.cell? ⟨g_b2, k, none⟩ = some (.string ⟨(allK[k]).toArray⟩) := by
      have h := (b2.out.ext hE).cell k
      rw [hCS0, List.getElem?_toArray, List.getElem?_map, List.getElem?_eq_getElem hkl] at h
      exact h
     have hsz : (allK[k]).length ≤ 1048576 := allK_len _ (List.getElem_mem hkl)
     obtain ⟨t, ht, htt⟩ := allK_at hkl
     generalize allK[k] = x at hc hsz ht htt
     have hok := (termO_ok ht).1
     unfold termOk at hok
     simp only [Bool.and_eq_true, decide_eq_true_eq] at hok
     obtain ⟨hn1, ⟨_, hn2⟩, _⟩ := hok
     have hF := ql.out x t ht hsz wr (E.out.trans hE)
     clear hsz ht
     replace hF := hide hF
     replace hE := hide hE
     replace htt := hide htt
     go_wp2_with fail
     (with_reducible refine hF.out.mono ?_)
     rintro e v1 ⟨_, _, rfl, o1, o2, he⟩
     obtain ⟨a1, c1, rfl, _, _, _⟩ := o1.asC (by omega)
     obtain ⟨a2, c2, rfl, hcp, _, _⟩ := o2.asC (by omega)
     have hE1 := hE.out.trans he
     have hX := qx.out a1 c1 a2 c2 t v1 (by omega) (by omega) hcp (own_slK o1) (own_slK o2) (E.out.trans hE1)
     rw [htt.out] at hX
     replace hc := he.cell hc
     clear hF hE o1 o2 he hcp htt
     replace hX := hide hX
     replace hE1 := hide hE1
     go_wp2_with fail
     (with_reducible refine hX.out.mono ?_)
     rintro e v2 ⟨rfl, he⟩
     replace hE1 := hide (hE1.out.trans he)
     replace hc := he.cell hc
     clear hX he
     go_wp2_with fail
     go_roundw
     case rel => exact ⟨k + 1, by omega, by go_num, hE1.out⟩
     case measure => simp [intOf]; omega
    ·obtain rfl : k = 5 := by omega
     rename World => W4
     clear hlt hk hCS0
     replace E := hide (E.out.trans hE)
     replace b2 := hide (b2.out.ext hE)
     clear hE
     clear b2
     rw [show ((5 : Nat) : Int) = 5 from rfl]
     have hF := ql.out [105, 102, 32, 108, 101, 110, 103, 116, 104, 32, 51, 32, 116, 104, 101, 110, 32, 97, 99, 99, 101, 112, 116] kT1 k1_t (by decide +kernel) W4 E.out
     replace hF := hide hF
     go_wp2_with fail
     (with_reducible refine (hF.out).mono ?_)
     rintro e W5 ⟨x_, y_, rfl, o1_, o2_, hE9⟩
     replace E := hide (E.out.trans hE9)
     clear hE9
     obtain ⟨a_t1, c_t1, rfl, hk1_t1, hm1_t1, _⟩ := o1_.asC (by decide)
     obtain ⟨b_t1, d_t1, rfl, hk2_t1, hm2_t1, _⟩ := o2_.asC (by decide)
     have l1_t1 := hide (own_slK o1_)
     have l2_t1 := hide (own_slK o2_)
     clear hF o1_ o2_
     obtain ⟨g_r1, hg⟩ : ∃ g, W5.heap.size = g := ⟨_, rfl⟩
     have r1 := (Blk.new W5 25 #[.slice a_t1 kT1.conds.length c_t1, .slice b_t1 kT1.acts.length d_t1]).alloc (Obj.cells #[.string ⟨#[112]⟩, .slice (some ⟨g_r1, 0, none⟩) 1 1, .bool false] 35)
     have P := Blk.new (W5.alloc (Obj.cells #[.slice a_t1 kT1.conds.length c_t1, .slice b_t1 kT1.acts.length d_t1] 25)) 35 #[.string ⟨#[112]⟩, .slice (some ⟨g_r1, 0, none⟩) 1 1, .bool false]
     have hA := ((Ext.refl W5).alloc (Obj.cells #[.slice a_t1 kT1.conds.length c_t1, .slice b_t1 kT1.acts.length d_t1] 25)).alloc (Obj.cells #[.string ⟨#[112]⟩, .slice (some ⟨g_r1, 0, none⟩) 1 1, .bool false] 35)
     obtain ⟨g_P, hg2⟩ : ∃ g, (W5.alloc (Obj.cells #[.slice a_t1 kT1.conds.length c_t1, .slice b_t1 kT1.acts.length d_t1] 25)).heap.size = g := ⟨_, rfl⟩
     have hg3 : g_r1 + 1 = g_P := by rw [← hg2, ← hg]; simp
     rw [hg] at r1
     rw [hg2] at P
     clear hg2
     have hwP : w.heap.size ≤ g_P := by have := E.out.size; omega
     replace r1 := hide r1
     replace P := hide P
     replace hA := hide hA
     replace hg3 := hide hg3
     go_wp2_with fail
     try rw [hg]
     try rw [hg3.out]
     generalize (W5.alloc (Obj.cells #[.slice a_t1 kT1.conds.length c_t1, .slice b_t1 kT1.acts.length d_t1] 25)).alloc (Obj.cells #[.string ⟨#[112]⟩, .slice (some ⟨g_r1, 0, none⟩) 1 1, .bool false] 35) = W6 at r1 P hA ⊢
     replace hA := hA.out
     clear hg hg3
     replace E := hide (E.out.trans hA)
     replace l1_t1 := hide (l1_t1.out.ext hA)
     replace l2_t1 := hide (l2_t1.out.ext hA)
     clear hA
     have z1 := hide (row1T kT1 r1.out (by decide) (by decide) hk1_t1 hm1_t1 hk2_t1 hm2_t1 l1_t1.out l2_t1.out)
     clear l1_t1 l2_t1 r1
     have hF : Calls Tryz.prog 25 #[.agg #[.string ⟨#[112]⟩, .slice (some ⟨g_r1, 0, none⟩) 1 1, .bool false], .slice none 0 0] W6 _ := (PCompile_any kP (some ⟨g_r1, 0, none⟩) 1 [] none 0 W6 (by decide) (by decide) z1.out Sl.nil).mono fun e w_ h => comp_ok h ck1 (by rw [ins1]; simp)
     rw [ins1] at hF
     simp only [List.length_cons, List.length_nil, Nat.zero_add, Nat.reduceAdd] at hF
     replace hF := hide hF
     (with_reducible refine (hF.out).mono ?_)
     rintro e W7 ⟨gi1, ci1, xa_, xc_, xn_, rfl, hE9, oI1, hxn_⟩
     replace E := hide (E.out.trans hE9)
     replace P := hide (P.out.ext hE9)
     replace z1 := hide (z1.out.ext hE9)
     clear hE9
     replace oI1 := hide oI1
     rw [show setsP kP [] = [] from rfl] at hxn_
     subst hxn_
     clear hF
     clear z1
     have X1 := Blk.new W7 56 #[.slice (some ⟨gi1, 0, none⟩) 3 ci1, .slice xa_ 0 xc_]
     have hA := (Ext.refl W7).alloc (Obj.cells #[.slice (some ⟨gi1, 0, none⟩) 3 ci1, .slice xa_ 0 xc_] 56)
     obtain ⟨g_X1, hg⟩ : ∃ g, W7.heap.size = g := ⟨_, rfl⟩
     rw [hg] at X1
     replace X1 := hide X1
     replace hA := hide hA
     go_upto_region 18 with fail
     try rw [hg]
     generalize W7.alloc (Obj.cells #[.slice (some ⟨gi1, 0, none⟩) 3 ci1, .slice xa_ 0 xc_] 56) = W8 at X1 hA ⊢
     replace hA := hA.out
     clear hg
     replace E := hide (E.out.trans hA)
     replace P := hide (P.out.ext hA)
     replace oI1 := hide (oI1.out.ext hA)
     clear hA
     have i0_0 : W8.cell? ⟨gi1, 0, none⟩ = some (.int .i64 1) := own_insAt oI1.out 0 (by decide) 0 _ rfl
     have i0_1 : W8.cell? ⟨gi1, 1, none⟩ = some (.int .i64 6) := own_insAt oI1.out 0 (by decide) 1 _ rfl
     have i0_2 : W8.cell? ⟨gi1, 2, none⟩ = some (.bool false) := own_insAt oI1.out 0 (by decide) 2 _ rfl
     have i0_3 : W8.cell? ⟨gi1, 3, none⟩ = some (.string ⟨#[]⟩) := own_insAt oI1.out 0 (by decide) 3 _ rfl
     have i0_4 : W8.cell? ⟨gi1, 4, none⟩ = some (.int .i64 3) := own_insAt oI1.out 0 (by decide) 4 _ rfl
     have i0_5 : W8.cell? ⟨gi1, 5, none⟩ = some (.int .i64 0) := own_insAt oI1.out 0 (by decide) 5 _ rfl
     have i0_6 : W8.cell? ⟨gi1, 6, none⟩ = some (.string ⟨#[]⟩) := own_insAt oI1.out 0 (by decide) 6 _ rfl
     have i0_7 : W8.cell? ⟨gi1, 7, none⟩ = some (.int .u32 0) := own_insAt oI1.out 0 (by decide) 7 _ rfl
     have i0_8 : W8.cell? ⟨gi1, 8, none⟩ = some (.string ⟨#[]⟩) := own_insAt oI1.out 0 (by decide) 8 _ rfl
     have i0_9 : W8.cell? ⟨gi1, 9, none⟩ = some (.int .i64 2) := own_insAt oI1.out 0 (by decide) 9 _ rfl
     have i0_10 : W8.cell? ⟨gi1, 10, none⟩ = some (.int .i64 0) := own_insAt oI1.out 0 (by decide) 10 _ rfl
     have hq0 : ∀ W : World, (binOp .neq 62 (.agg #[.int .i64 1, .int .i64 6, .bool false, .string ⟨#[]⟩, .int .i64 3, .int .i64 0, .string ⟨#[]⟩, .int .u32 0, .string ⟨#[]⟩, .int .i64 2, .int .i64 0]) (.agg #[.int .i64 1, .int .i64 6, .bool false, .string ⟨#[]⟩, .int .i64 3, .int .i64 0, .string ⟨#[]⟩, .int .u32 0, .string ⟨#[]⟩, .int .i64 2, .int .i64 0])).run Tryz.prog W = .ok (.bool false) W := fun W => run_neqIns W ⟨1, ⟨6, false, [], 3⟩, zeroAc, 2, 0⟩
     have i1_0 : W8.cell? ⟨gi1, 11, none⟩ = some (.int .i64 2) := own_insAt oI1.out 1 (by decide) 0 _ rfl
     have i1_1 : W8.cell? ⟨gi1, 12, none⟩ = some (.int .i64 0) := own_insAt oI1.out 1 (by decide) 1 _ rfl
     have i1_2 : W8.cell? ⟨gi1, 13, none⟩ = some (.bool false) := own_insAt oI1.out 1 (by decide) 2 _ rfl
     have i1_3 : W8.cell? ⟨gi1, 14, none⟩ = some (.string ⟨#[]⟩) := own_insAt oI1.out 1 (by decide) 3 _ rfl
     have i1_4 : W8.cell? ⟨gi1, 15, none⟩ = some (.int .i64 0) := own_insAt oI1.out 1 (by decide) 4 _ rfl
     have i1_5 : W8.cell? ⟨gi1, 16, none⟩ = some (.int .i64 1) := own_insAt oI1.out 1 (by decide) 5 _ rfl
     have i1_6 : W8.cell? ⟨gi1, 17, none⟩ = some (.string ⟨#[]⟩) := own_insAt oI1.out 1 (by decide) 6 _ rfl
     have i1_7 : W8.cell? ⟨gi1, 18, none⟩ = some (.int .u32 0) := own_insAt oI1.out 1 (by decide) 7 _ rfl
     have i1_8 : W8.cell? ⟨gi1, 19, none⟩ = some (.string ⟨#[]⟩) := own_insAt oI1.out 1 (by decide) 8 _ rfl
     have i1_9 : W8.cell? ⟨gi1, 20, none⟩ = some (.int .i64 0) := own_insAt oI1.out 1 (by decide) 9 _ rfl
     have i1_10 : W8.cell? ⟨gi1, 21, none⟩ = some (.int .i64 0) := own_insAt oI1.out 1 (by decide) 10 _ rfl
     have hq1 : ∀ W : World, (binOp .neq 62 (.agg #[.int .i64 2, .int .i64 0, .bool false, .string ⟨#[]⟩, .int .i64 0, .int .i64 1, .string ⟨#[]⟩, .int .u32 0, .string ⟨#[]⟩, .int .i64 0, .int .i64 0]) (.agg #[.int .i64 2, .int .i64 0, .bool false, .string ⟨#[]⟩, .int .i64 0, .int .i64 1, .string ⟨#[]⟩, .int .u32 0, .string ⟨#[]⟩, .int .i64 0, .int .i64 0])).run Tryz.prog W = .ok (.bool false) W := fun W => run_neqIns W ⟨2, zeroCo, ⟨1, [], 0, []⟩, 0, 0⟩
     have i2_0 : W8.cell? ⟨gi1, 22, none⟩ = some (.int .i64 3) := own_insAt oI1.out 2 (by decide) 0 _ rfl
     have i2_1 : W8.cell? ⟨gi1, 23, none⟩ = some (.int .i64 0) := own_insAt oI1.out 2 (by decide) 1 _ rfl
     have i2_2 : W8.cell? ⟨gi1, 24, none⟩ = some (.bool false) := own_insAt oI1.out 2 (by decide) 2 _ rfl
     have i2_3 : W8.cell? ⟨gi1, 25, none⟩ = some (.string ⟨#[]⟩) := own_insAt oI1.out 2 (by decide) 3 _ rfl
     have i2_4 : W8.cell? ⟨gi1, 26, none⟩ = some (.int .i64 0) := own_insAt oI1.out 2 (by decide) 4 _ rfl
     have i2_5 : W8.cell? ⟨gi1, 27, none⟩ = some (.int .i64 0) := own_insAt oI1.out 2 (by decide) 5 _ rfl
     have i2_6 : W8.cell? ⟨gi1, 28, none⟩ = some (.string ⟨#[]⟩) := own_insAt oI1.out 2 (by decide) 6 _ rfl
     have i2_7 : W8.cell? ⟨gi1, 29, none⟩ = some (.int .u32 0) := own_insAt oI1.out 2 (by decide) 7 _ rfl
     have i2_8 : W8.cell? ⟨gi1, 30, none⟩ = some (.string ⟨#[]⟩) := own_insAt oI1.out 2 (by decide) 8 _ rfl
     have i2_9 : W8.cell? ⟨gi1, 31, none⟩ = some (.int .i64 0) := own_insAt oI1.out 2 (by decide) 9 _ rfl
     have i2_10 : W8.cell? ⟨gi1, 32, none⟩ = some (.int .i64 0) := own_insAt oI1.out 2 (by decide) 10 _ rfl
     have hq2 : ∀ W : World, (binOp .neq 62 (.agg #[.int .i64 3, .int .i64 0, .bool false, .string ⟨#[]⟩, .int .i64 0, .int .i64 0, .string ⟨#[]⟩, .int .u32 0, .string ⟨#[]⟩, .int .i64 0, .int .i64 0]) (.agg #[.int .i64 3, .int .i64 0, .bool false, .string ⟨#[]⟩, .int .i64 0, .int .i64 0, .string ⟨#[]⟩, .int .u32 0, .string ⟨#[]⟩, .int .i64 0, .int .i64 0])).run Tryz.prog W = .ok (.bool false) W := fun W => run_neqIns W ⟨3, zeroCo, zeroAc, 0, 0⟩
     have hgi : ∀ x y xs ys W, (eqGuard .neq 62 x y (.agg xs) (.agg ys)).run Tryz.prog W = .ok () W := fun x y xs ys W => run_eqGuard_agg W .neq _ x y xs ys Tryz.eqGuardType62
     have y0 : W8.cell? ⟨g_X1, 0, none⟩ = some (.slice (some ⟨gi1, 0, none⟩) 3 ci1) := X1.out.cell 0
     clear oI1 X1
     obtain ⟨g_ub, hg⟩ : ∃ g, W8.heap.size = g := ⟨_, rfl⟩
     have ub := (Blk.new W8 49 #[.int .u32 1]).alloc (Obj.cells #[.string ⟨#[98]⟩, .int .i64 2, .slice none 0 0, .slice (some ⟨g_ub, 0, none⟩) 1 1, .slice none 0 0] 67)
     have Bk := Blk.new (W8.alloc (Obj.cells #[.int .u32 1] 49)) 67 #[.string ⟨#[98]⟩, .int .i64 2, .slice none 0 0, .slice (some ⟨g_ub, 0, none⟩) 1 1, .slice none 0 0]
     have hA := ((Ext.refl W8).alloc (Obj.cells #[.int .u32 1] 49)).alloc (Obj.cells #[.string ⟨#[98]⟩, .int .i64 2, .slice none 0 0, .slice (some ⟨g_ub, 0, none⟩) 1 1, .slice none 0 0] 67)
     obtain ⟨g_Bk, hg2⟩ : ∃ g, (W8.alloc (Obj.cells #[.int .u32 1] 49)).heap.size = g := ⟨_, rfl⟩
     have hg3 : g_ub + 1 = g_Bk := by rw [← hg2, ← hg]; simp
     rw [hg] at ub
     rw [hg2] at Bk
     clear hg2
     have hPub : g_P < g_ub := by have := P.out.lt; omega
     have hPBk : g_P < g_Bk := by omega
     replace ub := hide ub
     replace Bk := hide Bk
     replace hA := hide hA
     replace hg3 := hide hg3
     go_wp2_with fail
     clear y0 hgi i0_0 i0_1 i0_2 i0_3 i0_4 i0_5 i0_6 i0_7 i0_8 i0_9 i0_10 hq0 i1_0 i1_1 i1_2 i1_3 i1_4 i1_5 i1_6 i1_7 i1_8 i1_9 i1_10 hq1 i2_0 i2_1 i2_2 i2_3 i2_4 i2_5 i2_6 i2_7 i2_8 i2_9 i2_10 hq2
     try rw [hg]
     try rw [hg3.out]
     generalize (W8.alloc (Obj.cells #[.int .u32 1] 49)).alloc (Obj.cells #[.string ⟨#[98]⟩, .int .i64 2, .slice none 0 0, .slice (some ⟨g_ub, 0, none⟩) 1 1, .slice none 0 0] 67) = W9 at ub Bk hA ⊢
     replace hA := hA.out
     clear hg hg3
     replace E := hide (E.out.trans hA)
     replace P := hide (P.out.ext hA)
     clear hA
     have hF := ql.out [105, 102, 32, 112, 114, 101, 102, 105, 120, 32, 98, 32, 116, 104, 101, 110, 32, 97, 99, 99, 101, 112, 116] kT2 k2_t (by decide +kernel) W9 E.out
     replace hF := hide hF
     have hPl := P.out.lt
     (with_reducible refine (hF.out).mono ?_)
     rintro e W10 ⟨x_, y_, rfl, o1_, o2_, hE9⟩
     replace E := hide (E.out.trans hE9)
     replace P := hide (P.out.ext hE9)
     replace ub := hide (ub.out.ext hE9)
     replace Bk := hide (Bk.out.ext hE9)
     clear hE9
     obtain ⟨a_t2, c_t2, rfl, hk1_t2, hm1_t2, _⟩ := o1_.asC (by decide)
     obtain ⟨b_t2, d_t2, rfl, hk2_t2, hm2_t2, _⟩ := o2_.asC (by decide)
     clear hF
     obtain ⟨g_r2, hg⟩ : ∃ g, W10.heap.size = g := ⟨_, rfl⟩
     have hPr2 : g_P < g_r2 := by have := P.out.lt; omega
     have r2 := Blk.new (W10.setCell ⟨g_P, 1, none⟩ (.slice (some ⟨g_r2, 0, none⟩) 1 1)) 25 #[.slice a_t2 kT2.conds.length c_t2, .slice b_t2 kT2.acts.length d_t2]
     rw [show (W10.setCell ⟨g_P, 1, none⟩ (.slice (some ⟨g_r2, 0, none⟩) 1 1)).heap.size = g_r2 by rw [← hg]; simp [World.setCell]] at r2
     have P2 := (P.out.set_ 1 (.slice (some ⟨g_r2, 0, none⟩) 1 1)).alloc (Obj.cells #[.slice a_t2 kT2.conds.length c_t2, .slice b_t2 kT2.acts.length d_t2] 25)
     have ub2 := (ub.out.far (p := ⟨g_P, 1, none⟩) (show g_ub ≠ g_P by omega) (.slice (some ⟨g_r2, 0, none⟩) 1 1)).alloc (Obj.cells #[.slice a_t2 kT2.conds.length c_t2, .slice b_t2 kT2.acts.length d_t2] 25)
     have Bk2 := (Bk.out.far (p := ⟨g_P, 1, none⟩) (show g_Bk ≠ g_P by omega) (.slice (some ⟨g_r2, 0, none⟩) 1 1)).alloc (Obj.cells #[.slice a_t2 kT2.conds.length c_t2, .slice b_t2 kT2.acts.length d_t2] 25)
     have o1 := (o1_.asideS (p := ⟨g_P, 1, none⟩) hPl (.slice (some ⟨g_r2, 0, none⟩) 1 1)).alloc (Obj.cells #[.slice a_t2 kT2.conds.length c_t2, .slice b_t2 kT2.acts.length d_t2] 25)
     have o2 := (o2_.asideS (p := ⟨g_P, 1, none⟩) hPl (.slice (some ⟨g_r2, 0, none⟩) 1 1)).alloc (Obj.cells #[.slice a_t2 kT2.conds.length c_t2, .slice b_t2 kT2.acts.length d_t2] 25)
     have E2 := (E.out.setCell (p := ⟨g_P, 1, none⟩) hwP (.slice (some ⟨g_r2, 0, none⟩) 1 1)).alloc (Obj.cells #[.slice a_t2 kT2.conds.length c_t2, .slice b_t2 kT2.acts.length d_t2] 25)
     have pc : (W10.alloc (Obj.cells #[.slice a_t2 kT2.conds.length c_t2, .slice b_t2 kT2.acts.length d_t2] 25)).cell? ⟨g_P, 1, none⟩ = some (.slice (some ⟨g_r1, 0, none⟩) 1 1) := (P.out.alloc (Obj.cells #[.slice a_t2 kT2.conds.length c_t2, .slice b_t2 kT2.acts.length d_t2] 25)).cell 1
     have pf := fun i => (P.out.alloc (Obj.cells #[.slice a_t2 kT2.conds.length c_t2, .slice b_t2 kT2.acts.length d_t2] 25)).frozen i
     clear o1_ o2_ P ub Bk hPl
     replace r2 := hide r2
     replace P2 := hide P2
     replace ub2 := hide ub2
     replace Bk2 := hide Bk2
     replace o1 := hide o1
     replace o2 := hide o2
     replace E2 := hide E2
     go_upto_region 22 with fail
     try rw [hg]
     generalize (W10.setCell ⟨g_P, 1, none⟩ (.slice (some ⟨g_r2, 0, none⟩) 1 1)).alloc (Obj.cells #[.slice a_t2 kT2.conds.length c_t2, .slice b_t2 kT2.acts.length d_t2] 25) = W11 at r2 P2 ub2 Bk2 o1 o2 E2 ⊢
     clear pc pf hg E
     have E := E2
     have P := P2
     have ub := ub2
     have Bk := Bk2
     have l1_t2 := hide (own_slK o1.out)
     have l2_t2 := hide (own_slK o2.out)
     clear E2 P2 ub2 Bk2 o1 o2
     have z2 := hide (row1T kT2 r2.out (by decide) (by decide) hk1_t2 hm1_t2 hk2_t2 hm2_t2 l1_t2.out l2_t2.out)
     clear r2 l1_t2 l2_t2
     have hF := ql.out [116, 104, 101, 110, 32, 100, 101, 108, 32, 98] kT3 k3_t (by decide +kernel) W11 E.out
     replace hF := hide hF
     go_wp2_with fail
     (with_reducible refine (hF.out).mono ?_)
     rintro e W12 ⟨x_, y_, rfl, o1_, o2_, hE9⟩
     replace E := hide (E.out.trans hE9)
     replace P := hide (P.out.ext hE9)
     replace ub := hide (ub.out.ext hE9)
     replace Bk := hide (Bk.out.ext hE9)
     replace z2 := hide (z2.out.ext hE9)
     clear hE9
     obtain ⟨a_t3, c_t3, rfl, hk1_t3, hm1_t3, _⟩ := o1_.asC (by decide)
     obtain ⟨b_t3, d_t3, rfl, hk2_t3, hm2_t3, _⟩ := o2_.asC (by decide)
     have l1_t3 := hide (own_slK o1_)
     have l2_t3 := hide (own_slK o2_)
     clear hF o1_ o2_
     have kb0 : W12.cell? ⟨g_Bk, 0, none⟩ = some (.string ⟨#[98]⟩) := Bk.out.cell 0
     have kb1 : W12.cell? ⟨g_Bk, 1, none⟩ = some (.int .i64 2) := Bk.out.cell 1
     have kb2 : W12.cell? ⟨g_Bk, 2, none⟩ = some (.slice none 0 0) := Bk.out.cell 2
     have kb3 : W12.cell? ⟨g_Bk, 3, none⟩ = some (.slice (some ⟨g_ub, 0, none⟩) 1 1) := Bk.out.cell 3
     have kb4 : W12.cell? ⟨g_Bk, 4, none⟩ = some (.slice none 0 0) := Bk.out.cell 4
     obtain ⟨g_r3, hg⟩ : ∃ g, W12.heap.size = g := ⟨_, rfl⟩
     obtain ⟨g_Q, hg1⟩ : ∃ g, g_r3 + 1 = g := ⟨_, rfl⟩
     obtain ⟨g_s1, hg2⟩ : ∃ g, g_Q + 1 = g := ⟨_, rfl⟩
     have r3 := Blk.new W12 25 #[.slice a_t3 kT3.conds.length c_t3, .slice b_t3 kT3.acts.length d_t3]
     rw [hg] at r3
     replace r3 := r3.alloc (Obj.cells #[.string ⟨#[113]⟩, .slice (some ⟨g_r3, 0, none⟩) 1 1, .bool true] 35)
     replace r3 := r3.alloc (Obj.cells #[.string ⟨#[98]⟩, .int .i64 2, .slice none 0 0, .slice (some ⟨g_ub, 0, none⟩) 1 1, .slice none 0 0] 67)
     replace r3 := hide r3
     have Q := Blk.new (W12.alloc (Obj.cells #[.slice a_t3 kT3.conds.length c_t3, .slice b_t3 kT3.acts.length d_t3] 25)) 35 #[.string ⟨#[113]⟩, .slice (some ⟨g_r3, 0, none⟩) 1 1, .bool true]
     rw [show (W12.alloc (Obj.cells #[.slice a_t3 kT3.conds.length c_t3, .slice b_t3 kT3.acts.length d_t3] 25)).heap.size = g_Q by simp [hg, ← hg1, ← hg2]] at Q
     replace Q := Q.alloc (Obj.cells #[.string ⟨#[98]⟩, .int .i64 2, .slice none 0 0, .slice (some ⟨g_ub, 0, none⟩) 1 1, .slice none 0 0] 67)
     replace Q := hide Q
     have s1 := Blk.new ((W12.alloc (Obj.cells #[.slice a_t3 kT3.conds.length c_t3, .slice b_t3 kT3.acts.length d_t3] 25)).alloc (Obj.cells #[.string ⟨#[113]⟩, .slice (some ⟨g_r3, 0, none⟩) 1 1, .bool true] 35)) 67 #[.string ⟨#[98]⟩, .int .i64 2, .slice none 0 0, .slice (some ⟨g_ub, 0, none⟩) 1 1, .slice none 0 0]
     rw [show ((W12.alloc (Obj.cells #[.slice a_t3 kT3.conds.length c_t3, .slice b_t3 kT3.acts.length d_t3] 25)).alloc (Obj.cells #[.string ⟨#[113]⟩, .slice (some ⟨g_r3, 0, none⟩) 1 1, .bool true] 35)).heap.size = g_s1 by simp [hg, ← hg1, ← hg2]] at s1
     replace s1 := hide s1
     have hA := hide ((((Ext.refl W12).alloc (Obj.cells #[.slice a_t3 kT3.conds.length c_t3, .slice b_t3 kT3.acts.length d_t3] 25)).alloc (Obj.cells #[.string ⟨#[113]⟩, .slice (some ⟨g_r3, 0, none⟩) 1 1, .bool true] 35)).alloc (Obj.cells #[.string ⟨#[98]⟩, .int .i64 2, .slice none 0 0, .slice (some ⟨g_ub, 0, none⟩) 1 1, .slice none 0 0] 67))
     replace hg1 := hide hg1
     replace hg2 := hide hg2
     have kc0 := ((Bk.out.alloc (Obj.cells #[.slice a_t3 kT3.conds.length c_t3, .slice b_t3 kT3.acts.length d_t3] 25)).alloc (Obj.cells #[.string ⟨#[113]⟩, .slice (some ⟨g_r3, 0, none⟩) 1 1, .bool true] 35)).cell 0
     have kc1 := ((Bk.out.alloc (Obj.cells #[.slice a_t3 kT3.conds.length c_t3, .slice b_t3 kT3.acts.length d_t3] 25)).alloc (Obj.cells #[.string ⟨#[113]⟩, .slice (some ⟨g_r3, 0, none⟩) 1 1, .bool true] 35)).cell 1
     have kc2 := ((Bk.out.alloc (Obj.cells #[.slice a_t3 kT3.conds.length c_t3, .slice b_t3 kT3.acts.length d_t3] 25)).alloc (Obj.cells #[.string ⟨#[113]⟩, .slice (some ⟨g_r3, 0, none⟩) 1 1, .bool true] 35)).cell 2
     have kc3 := ((Bk.out.alloc (Obj.cells #[.slice a_t3 kT3.conds.length c_t3, .slice b_t3 kT3.acts.length d_t3] 25)).alloc (Obj.cells #[.string ⟨#[113]⟩, .slice (some ⟨g_r3, 0, none⟩) 1 1, .bool true] 35)).cell 3
     have kc4 := ((Bk.out.alloc (Obj.cells #[.slice a_t3 kT3.conds.length c_t3, .slice b_t3 kT3.acts.length d_t3] 25)).alloc (Obj.cells #[.string ⟨#[113]⟩, .slice (some ⟨g_r3, 0, none⟩) 1 1, .bool true] 35)).cell 4
     simp only [List.getElem?_toArray, List.getElem?_cons_zero, List.getElem?_cons_succ] at kc0 kc1 kc2 kc3 kc4
     go_wp2_with fail
     clear kb0 kb1 kb2 kb3 kb4 kc0 kc1 kc2 kc3 kc4
     try rw [hg]
     try rw [hg1.out]
     try rw [hg2.out]
     generalize (((W12.alloc (Obj.cells #[.slice a_t3 kT3.conds.length c_t3, .slice b_t3 kT3.acts.length d_t3] 25)).alloc (Obj.cells #[.string ⟨#[113]⟩, .slice (some ⟨g_r3, 0, none⟩) 1 1, .bool true] 35)).alloc (Obj.cells #[.string ⟨#[98]⟩, .int .i64 2, .slice none 0 0, .slice (some ⟨g_ub, 0, none⟩) 1 1, .slice none 0 0] 67)) = W13 at r3 Q s1 hA ⊢
     replace hA := hA.out
     clear hg hg1 hg2
     replace E := hide (E.out.trans hA)
     replace P := hide (P.out.ext hA)
     replace ub := hide (ub.out.ext hA)
     replace Bk := hide (Bk.out.ext hA)
     replace z2 := hide (z2.out.ext hA)
     replace l1_t3 := hide (l1_t3.out.ext hA)
     replace l2_t3 := hide (l2_t3.out.ext hA)
     clear hA
     have z3 := hide (row1T kT3 r3.out (by decide) (by decide) hk1_t3 hm1_t3 hk2_t3 hm2_t3 l1_t3.out l2_t3.out)
     have zs := hide (row1S (x := kB) (c1 := 0) (c2 := 1) (c3 := 0) s1.out (kB_in ub.out))
     clear l1_t3 l2_t3 r3 s1
     have hF : Calls Tryz.prog 25 #[.agg #[.string ⟨#[113]⟩, .slice (some ⟨g_r3, 0, none⟩) 1 1, .bool true], .slice (some ⟨g_s1, 0, none⟩) 1 1] W13 _ := (PCompile_any kQ (some ⟨g_r3, 0, none⟩) 1 [kB] (some ⟨g_s1, 0, none⟩) 1 W13 (by decide) (by decide) z3.out zs.out).mono fun e w_ h => comp_ok h ck2 (by rw [ins2]; simp)
     rw [ins2] at hF
     simp only [List.length_cons, List.length_nil, Nat.zero_add, Nat.reduceAdd] at hF
     replace hF := hide hF
     (with_reducible refine (hF.out).mono ?_)
     rintro e W14 ⟨gi2, ci2, xb_, xd_, xm_, rfl, hE9, oI2, hxm_⟩
     replace E := hide (E.out.trans hE9)
     replace P := hide (P.out.ext hE9)
     replace ub := hide (ub.out.ext hE9)
     replace Bk := hide (Bk.out.ext hE9)
     replace z2 := hide (z2.out.ext hE9)
     replace Q := hide (Q.out.ext hE9)
     replace z3 := hide (z3.out.ext hE9)
     replace zs := hide (zs.out.ext hE9)
     clear hE9
     replace oI2 := hide oI2
     rw [show setsP kQ [kB] = [kB] from rfl] at hxm_
     subst hxm_
     clear hF
     clear zs
     have X2 := Blk.new W14 56 #[.slice (some ⟨gi2, 0, none⟩) 2 ci2, .slice xb_ 1 xd_]
     have hA := (Ext.refl W14).alloc (Obj.cells #[.slice (some ⟨gi2, 0, none⟩) 2 ci2, .slice xb_ 1 xd_] 56)
     obtain ⟨g_X2, hg⟩ : ∃ g, W14.heap.size = g := ⟨_, rfl⟩
     rw [hg] at X2
     replace X2 := hide X2
     replace hA := hide hA
     go_upto_region 24 with fail
     try rw [hg]
     generalize W14.alloc (Obj.cells #[.slice (some ⟨gi2, 0, none⟩) 2 ci2, .slice xb_ 1 xd_] 56) = W15 at X2 hA ⊢
     replace hA := hA.out
     clear hg
     replace E := hide (E.out.trans hA)
     replace P := hide (P.out.ext hA)
     replace ub := hide (ub.out.ext hA)
     replace Bk := hide (Bk.out.ext hA)
     replace z2 := hide (z2.out.ext hA)
     replace Q := hide (Q.out.ext hA)
     replace z3 := hide (z3.out.ext hA)
     replace oI2 := hide (oI2.out.ext hA)
     clear hA
     have iN : W15.cell? ⟨gi2, 21, none⟩ = some (.int .i64 1) := own_insAt oI2.out 1 (by decide) 10 _ rfl
     clear oI2
     have hF := qx.out none 0 none 0 ⟨[], []⟩ W15 (by decide) (by decide) (by decide) Sl.nil Sl.nil E.out
     rw [tz] at hF
     simp only [List.length_nil] at hF
     replace hF := hide hF
     go_wp2_with fail
     (with_reducible refine (hF.out).mono ?_)
     rintro e W16 ⟨rfl, hE9⟩
     replace E := hide (E.out.trans hE9)
     replace P := hide (P.out.ext hE9)
     replace ub := hide (ub.out.ext hE9)
     replace Bk := hide (Bk.out.ext hE9)
     replace z2 := hide (z2.out.ext hE9)
     replace Q := hide (Q.out.ext hE9)
     replace z3 := hide (z3.out.ext hE9)
     replace X2 := hide (X2.out.ext hE9)
     replace iN := hE9.cell iN
     clear hE9
     clear hF
     go_wp2_with fail
     have hF := hide (qw.out W16 E.out)
     (with_reducible refine (hF.out).mono ?_)
     rintro e W17 ⟨rfl, hE9⟩
     replace E := hide (E.out.trans hE9)
     replace P := hide (P.out.ext hE9)
     replace ub := hide (ub.out.ext hE9)
     replace Bk := hide (Bk.out.ext hE9)
     replace z2 := hide (z2.out.ext hE9)
     replace Q := hide (Q.out.ext hE9)
     replace z3 := hide (z3.out.ext hE9)
     replace X2 := hide (X2.out.ext hE9)
     replace iN := hE9.cell iN
     clear hE9
     clear hF
     have fp0 : W17.cell? ⟨g_P, 0, none⟩ = some (.string ⟨#[112]⟩) := P.out.cell 0
     have fp1 : W17.cell? ⟨g_P, 1, none⟩ = some (.slice (some ⟨g_r2, 0, none⟩) 1 1) := P.out.cell 1
     have fp2 : W17.cell? ⟨g_P, 2, none⟩ = some (.bool false) := P.out.cell 2
     have fb0 : W17.cell? ⟨g_Bk, 0, none⟩ = some (.string ⟨#[98]⟩) := Bk.out.cell 0
     have fb1 : W17.cell? ⟨g_Bk, 1, none⟩ = some (.int .i64 2) := Bk.out.cell 1
     have fb2 : W17.cell? ⟨g_Bk, 2, none⟩ = some (.slice none 0 0) := Bk.out.cell 2
     have fb3 : W17.cell? ⟨g_Bk, 3, none⟩ = some (.slice (some ⟨g_ub, 0, none⟩) 1 1) := Bk.out.cell 3
     have fb4 : W17.cell? ⟨g_Bk, 4, none⟩ = some (.slice none 0 0) := Bk.out.cell 4
     have hsr := hide (row1S (x := kB) (c1 := 0) (c2 := 1) (c3 := 0) (Blk.new W17 67 #[.string ⟨#[98]⟩, .int .i64 2, .slice none 0 0, .slice (some ⟨g_ub, 0, none⟩) 1 1, .slice none 0 0]) ((kB_in ub.out).ext ((Ext.refl W17).alloc (Obj.cells #[.string ⟨#[98]⟩, .int .i64 2, .slice none 0 0, .slice (some ⟨g_ub, 0, none⟩) 1 1, .slice none 0 0] 67))))
     obtain ⟨g_s2, hg2⟩ : ∃ g, W17.heap.size = g := ⟨_, rfl⟩
     rw [hg2] at hsr
     have hA := hide ((Ext.refl W17).alloc (Obj.cells #[.string ⟨#[98]⟩, .int .i64 2, .slice none 0 0, .slice (some ⟨g_ub, 0, none⟩) 1 1, .slice none 0 0] 67))
     go_wp2_with fail
     clear fp0 fp1 fp2 fb0 fb1 fb2 fb3 fb4
     try rw [hg2]
     generalize W17.alloc (Obj.cells #[.string ⟨#[98]⟩, .int .i64 2, .slice none 0 0, .slice (some ⟨g_ub, 0, none⟩) 1 1, .slice none 0 0] 67) = W18 at hsr hA ⊢
     replace hA := hA.out
     clear hg2
     replace E := hide (E.out.trans hA)
     replace P := hide (P.out.ext hA)
     replace ub := hide (ub.out.ext hA)
     replace Bk := hide (Bk.out.ext hA)
     replace z2 := hide (z2.out.ext hA)
     replace Q := hide (Q.out.ext hA)
     replace z3 := hide (z3.out.ext hA)
     replace X2 := hide (X2.out.ext hA)
     replace iN := hA.cell iN
     clear hA
     have hF : Calls Tryz.prog 28 #[.agg #[.string ⟨#[112]⟩, .slice (some ⟨g_r2, 0, none⟩) 1 1, .bool false], .slice (some ⟨g_s2, 0, none⟩) 1 1] W18 _ := PCheck_any kPB (some ⟨g_r2, 0, none⟩) 1 [kB] (some ⟨g_s2, 0, none⟩) 1 W18 (by decide) (by decide) (z2.out) (hsr.out)
     rw [ck3] at hF
     replace hF := hide hF
     (with_reducible refine (hF.out).mono ?_)
     rintro e W19 ⟨rfl, hE9⟩
     replace E := hide (E.out.trans hE9)
     replace P := hide (P.out.ext hE9)
     replace ub := hide (ub.out.ext hE9)
     replace Bk := hide (Bk.out.ext hE9)
     replace z2 := hide (z2.out.ext hE9)
     replace Q := hide (Q.out.ext hE9)
     replace z3 := hide (z3.out.ext hE9)
     replace X2 := hide (X2.out.ext hE9)
     replace hsr := hide (hsr.out.ext hE9)
     replace iN := hE9.cell iN
     clear hE9
     clear hF
     clear hsr
     have fp0 : W19.cell? ⟨g_P, 0, none⟩ = some (.string ⟨#[112]⟩) := P.out.cell 0
     have fp1 : W19.cell? ⟨g_P, 1, none⟩ = some (.slice (some ⟨g_r2, 0, none⟩) 1 1) := P.out.cell 1
     have fp2 : W19.cell? ⟨g_P, 2, none⟩ = some (.bool false) := P.out.cell 2
     go_wp2_with fail
     clear fp0 fp1 fp2
     have hF : Calls Tryz.prog 28 #[.agg #[.string ⟨#[112]⟩, .slice (some ⟨g_r2, 0, none⟩) 1 1, .bool false], .slice none 0 0] W19 _ := PCheck_any kPB (some ⟨g_r2, 0, none⟩) 1 [] none 0 W19 (by decide) (by decide) (z2.out) (Sl.nil)
     rw [ck4] at hF
     replace hF := hide hF
     (with_reducible refine (hF.out).mono ?_)
     rintro e W20 ⟨rfl, hE9⟩
     replace E := hide (E.out.trans hE9)
     replace P := hide (P.out.ext hE9)
     replace ub := hide (ub.out.ext hE9)
     replace Bk := hide (Bk.out.ext hE9)
     replace z2 := hide (z2.out.ext hE9)
     replace Q := hide (Q.out.ext hE9)
     replace z3 := hide (z3.out.ext hE9)
     replace X2 := hide (X2.out.ext hE9)
     replace iN := hE9.cell iN
     clear hE9
     clear hF
     clear z2 P
     have fq0 : W20.cell? ⟨g_Q, 0, none⟩ = some (.string ⟨#[113]⟩) := Q.out.cell 0
     have fq1 : W20.cell? ⟨g_Q, 1, none⟩ = some (.slice (some ⟨g_r3, 0, none⟩) 1 1) := Q.out.cell 1
     have fq2 : W20.cell? ⟨g_Q, 2, none⟩ = some (.bool true) := Q.out.cell 2
     have fb0 : W20.cell? ⟨g_Bk, 0, none⟩ = some (.string ⟨#[98]⟩) := Bk.out.cell 0
     have fb1 : W20.cell? ⟨g_Bk, 1, none⟩ = some (.int .i64 2) := Bk.out.cell 1
     have fb2 : W20.cell? ⟨g_Bk, 2, none⟩ = some (.slice none 0 0) := Bk.out.cell 2
     have fb3 : W20.cell? ⟨g_Bk, 3, none⟩ = some (.slice (some ⟨g_ub, 0, none⟩) 1 1) := Bk.out.cell 3
     have fb4 : W20.cell? ⟨g_Bk, 4, none⟩ = some (.slice none 0 0) := Bk.out.cell 4
     have hsr := hide (row2S (x := kB) (c1 := 0) (c2 := 1) (c3 := 0) (Blk.new W20 67 #[.string ⟨#[98]⟩, .int .i64 2, .slice none 0 0, .slice (some ⟨g_ub, 0, none⟩) 1 1, .slice none 0 0, .string ⟨#[98]⟩, .int .i64 2, .slice none 0 0, .slice (some ⟨g_ub, 0, none⟩) 1 1, .slice none 0 0]) ((kB_in ub.out).ext ((Ext.refl W20).alloc (Obj.cells #[.string ⟨#[98]⟩, .int .i64 2, .slice none 0 0, .slice (some ⟨g_ub, 0, none⟩) 1 1, .slice none 0 0, .string ⟨#[98]⟩, .int .i64 2, .slice none 0 0, .slice (some ⟨g_ub, 0, none⟩) 1 1, .slice none 0 0] 67))))
     obtain ⟨g_s3, hg2⟩ : ∃ g, W20.heap.size = g := ⟨_, rfl⟩
     rw [hg2] at hsr
     have hA := hide ((Ext.refl W20).alloc (Obj.cells #[.string ⟨#[98]⟩, .int .i64 2, .slice none 0 0, .slice (some ⟨g_ub, 0, none⟩) 1 1, .slice none 0 0, .string ⟨#[98]⟩, .int .i64 2, .slice none 0 0, .slice (some ⟨g_ub, 0, none⟩) 1 1, .slice none 0 0] 67))
     go_wp2_with fail
     clear fq0 fq1 fq2 fb0 fb1 fb2 fb3 fb4
     try rw [hg2]
     generalize W20.alloc (Obj.cells #[.string ⟨#[98]⟩, .int .i64 2, .slice none 0 0, .slice (some ⟨g_ub, 0, none⟩) 1 1, .slice none 0 0, .string ⟨#[98]⟩, .int .i64 2, .slice none 0 0, .slice (some ⟨g_ub, 0, none⟩) 1 1, .slice none 0 0] 67) = W21 at hsr hA ⊢
     replace hA := hA.out
     clear hg2
     replace E := hide (E.out.trans hA)
     replace ub := hide (ub.out.ext hA)
     replace Bk := hide (Bk.out.ext hA)
     replace Q := hide (Q.out.ext hA)
     replace z3 := hide (z3.out.ext hA)
     replace X2 := hide (X2.out.ext hA)
     replace iN := hA.cell iN
     clear hA
     have hF : Calls Tryz.prog 28 #[.agg #[.string ⟨#[113]⟩, .slice (some ⟨g_r3, 0, none⟩) 1 1, .bool true], .slice (some ⟨g_s3, 0, none⟩) 2 2] W21 _ := PCheck_any kQ (some ⟨g_r3, 0, none⟩) 1 [kB, kB] (some ⟨g_s3, 0, none⟩) 2 W21 (by decide) (by decide) (z3.out) (hsr.out)
     rw [ck5] at hF
     replace hF := hide hF
     (with_reducible refine (hF.out).mono ?_)
     rintro e W22 ⟨rfl, hE9⟩
     replace E := hide (E.out.trans hE9)
     replace ub := hide (ub.out.ext hE9)
     replace Bk := hide (Bk.out.ext hE9)
     replace Q := hide (Q.out.ext hE9)
     replace z3 := hide (z3.out.ext hE9)
     replace X2 := hide (X2.out.ext hE9)
     replace hsr := hide (hsr.out.ext hE9)
     replace iN := hE9.cell iN
     clear hE9
     clear hF
     clear hsr z3 Q Bk ub
     have fx0 : W22.cell? ⟨g_X2, 0, none⟩ = some (.slice (some ⟨gi2, 0, none⟩) 2 ci2) := X2.out.cell 0
     have fx1 : W22.cell? ⟨g_X2, 1, none⟩ = some (.slice xb_ 1 xd_) := X2.out.cell 1
     go_wp2_with fail
     clear fx0 fx1
     have hF : Calls Tryz.prog 28 #[.agg #[.string ⟨#[]⟩, .slice none 0 0, .bool false], .slice none 0 0] W22 _ := PCheck_any ⟨[], [], false⟩ none 0 [] none 0 W22 (by decide) (by decide) (Sl.nil) (Sl.nil)
     rw [ck6] at hF
     replace hF := hide hF
     (with_reducible refine (hF.out).mono ?_)
     rintro e W23 ⟨rfl, hE9⟩
     replace E := hide (E.out.trans hE9)
     replace X2 := hide (X2.out.ext hE9)
     replace iN := hE9.cell iN
     clear hE9
     clear hF
     clear X2 iN
     go_wp2_with fail
     have hF : Calls Tryz.prog 28 #[.agg #[.string ⟨#[97]⟩, .slice none 0 0, .bool false], .slice none 0 0] W23 _ := PCheck_any ⟨[97], [], false⟩ none 0 [] none 0 W23 (by decide) (by decide) (Sl.nil) (Sl.nil)
     rw [ck7] at hF
     replace hF := hide hF
     (with_reducible refine (hF.out).mono ?_)
     rintro e W24 ⟨rfl, hE9⟩
     replace E := hide (E.out.trans hE9)
     clear hE9
     clear hF
     have mk := mkTerm1 W24
     have zt := hide (row1T ⟨[], []⟩ (Blk.new W24 25 #[.slice none 0 0, .slice none 0 0]) (by decide) (by decide) (by decide) (by decide) (by decide) (by decide) Sl.nil Sl.nil)
     obtain ⟨g_zt, hg2⟩ : ∃ g, W24.heap.size = g := ⟨_, rfl⟩
     rw [hg2] at zt
     have hA := hide ((Ext.refl W24).alloc (Obj.cells #[.slice none 0 0, .slice none 0 0] 25))
     go_wp2_with fail
     try rw [hg2]
     generalize W24.alloc (Obj.cells #[.slice none 0 0, .slice none 0 0] 25) = W25 at zt hA ⊢
     replace hA := hA.out
     clear hg2 mk
     replace E := hide (E.out.trans hA)
     clear hA
     have hF : Calls Tryz.prog 28 #[.agg #[.string ⟨#[97]⟩, .slice (some ⟨g_zt, 0, none⟩) 1 1, .bool false], .slice none 0 0] W25 _ := PCheck_any ⟨[97], [⟨[], []⟩], false⟩ (some ⟨g_zt, 0, none⟩) 1 [] none 0 W25 (by decide) (by decide) (zt.out) (Sl.nil)
     rw [ck8] at hF
     replace hF := hide hF
     (with_reducible refine (hF.out).mono ?_)
     rintro e W26 ⟨rfl, hE9⟩
     replace E := hide (E.out.trans hE9)
     replace zt := hide (zt.out.ext hE9)
     clear hE9
     clear hF
     clear zt
     have mk := mkSet1 W26
     have zt := hide (row1S (x := zeroSt) (c1 := 0) (c2 := 0) (c3 := 0) (Blk.new W26 67 #[.string ⟨#[]⟩, .int .i64 0, .slice none 0 0, .slice none 0 0, .slice none 0 0]) zero_in)
     obtain ⟨g_zt2, hg2⟩ : ∃ g, W26.heap.size = g := ⟨_, rfl⟩
     rw [hg2] at zt
     have hA := hide ((Ext.refl W26).alloc (Obj.cells #[.string ⟨#[]⟩, .int .i64 0, .slice none 0 0, .slice none 0 0, .slice none 0 0] 67))
     go_wp2_with fail
     try rw [hg2]
     generalize W26.alloc (Obj.cells #[.string ⟨#[]⟩, .int .i64 0, .slice none 0 0, .slice none 0 0, .slice none 0 0] 67) = W27 at zt hA ⊢
     replace hA := hA.out
     clear hg2 mk
     replace E := hide (E.out.trans hA)
     clear hA
     have hF : Calls Tryz.prog 28 #[.agg #[.string ⟨#[97]⟩, .slice none 0 0, .bool false], .slice (some ⟨g_zt2, 0, none⟩) 1 1] W27 _ := PCheck_any ⟨[97], [], false⟩ none 0 [zeroSt] (some ⟨g_zt2, 0, none⟩) 1 W27 (by decide) (by decide) (Sl.nil) (zt.out)
     rw [ck9] at hF
     replace hF := hide hF
     (with_reducible refine (hF.out).mono ?_)
     rintro e W28 ⟨rfl, hE9⟩
     replace E := hide (E.out.trans hE9)
     replace zt := hide (zt.out.ext hE9)
     clear hE9
     clear hF
     clear zt
     go_wp2_with fail
     go_ret
     exact ⟨rfl, E.out⟩
end
end Go.Proofs.YtljibkfbldjgdaaGreatDoor
