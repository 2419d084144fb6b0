/- Chapter 35, walks: the event of a line (script.Event). Chapter 35, walks: an event told as a line (script.line, script.tell). Chapter 35, walks: an event's line (script.Line); events compared. A map that remembers answers: every entry holds what a function says at its key. Keys of two whole numbers. The keys of sets.Match's memory; the recursion of sets.Match, walked. The recursion of sets.Match, walked. The recursion of sets.Match, walked: every spot. Walks: may a pattern be (sets.atoms); does a pattern match (sets.Match). Walks: which prefix covers which. Walks: which prefix covers which: the document's. Walks: an item that may be; the first item of which a function says yes. Walks: may an item be; a name; a pattern (as functions that are handed on). Walks: a name. Walks: communities laid as bytes, or refused (comm.Encode). Walks: communities laid as bytes, or refused (comm.Encode), wh -/
import Derived.WalkKit
import Derived.Below
import Derived.Outline
import Derived.LoopTactic
import Derived.Laws.OwnMore
import Derived.Deep.AppendLies
import Derived.Deep.Draws
import Derived.Lib.Hide
import Derived.BigQuiet
import Derived.Deep.QuietTactic
import Derived.WalkSpells
import Derived.WalkLawsBesides
import Derived.Deep.RegionHeld3
import Derived.Deep.DrawnRows
import Derived.Deep.RegionLaw
import Derived.Test.YtkinghadgmbhbaaGreatDoorProg
import Derived.Test.YtkinghadgmbhbaaGreatDoorShelf
import Derived.Lib.ConvBytes
import Derived.Lib.Bytealg
import Derived.Lib.Small
import Derived.Lib.SplitLaws
import Derived.Lib.ParseIntB
import Derived.Lib.ParseIntBCases
import Derived.Lib.ItoaNum
import Derived.Lib.Join
import Derived.Test.YtkinghadgmbhbaaGreatDoorShelf2
import Derived.Lib.UnsafeStr
import Derived.Shelf.RegionOpenPlain
import Derived.Laws.StructEq
import Derived.Lib.QuietBelow
import Derived.Test.YtkinghadgmbhbaaGreatDoorRows
import Derived.ProofKit
import Derived.Deep.Slices
import Derived.Shelf.GgClosure.StringsRunes
import Derived.Lib.ItoaMem
import Derived.Lib.ItoaLen
import Derived.Shelf.Strings.Builder1
import Derived.Orders
import Derived.StillTail
import Derived.Defers
import Derived.Recover
import Derived.Laws.EntriesVeiled
import Derived.Deep.DeepCutAuto
import Derived.Maps.OwnSet
import Derived.Maps.Views
import Derived.Maps.Range
import Derived.DeepKeys5
import Derived.Deep.Cut
import Derived.Test.YtkinghadgmbhbaaGreatDoorPD01
import Derived.Test.YtkinghadgmbhbaaGreatDoorPD02
import Derived.Test.YtkinghadgmbhbaaGreatDoorPD03
namespace Go.Proofs.YtkinghadgmbhbaaGreatDoor
section
open Go.RowKit
set_option linter.unusedVariables false
set_option linter.unusedSimpArgs false
theorem But.set7 {w0 w : World} {g : Nat} (h : But g w0 w) (u0 u1 u2 u3 u4 u5 u6 : Value) :
  But g w0 (((((((w.setCell ⟨g, 0, none⟩ u0).setCell ⟨g, 1, none⟩ u1).setCell ⟨g, 2, none⟩ u2).setCell ⟨g, 3, none⟩ u3).setCell ⟨g, 4, none⟩ u4).setCell ⟨g, 5, none⟩ u5).setCell ⟨g, 6, none⟩ u6) :=
 ((((((h.set 0 u0).set 1 u1).set 2 u2).set 3 u3).set 4 u4).set 5 u5).set 6 u6
/-- Reading, as it is done under guard. -/
def DoneP (s : List UInt8) (eb : Nat) (W : World) (e : Ending) (W' : World) : Prop :=
 (∃ v, evO s = some v ∧ e = .returned (.tuple #[]) ∧ But eb W W' ∧ Blk W' eb 31 (evCs v).toArray) ∨ (evO s = none ∧ e = .panicked (wrongP 9) ∧ Ext W W')
set_option maxRecDepth 20000 in
set_option maxHeartbeats 2000000 in
theorem Event1_any (s : List UInt8) (hs : s.length ≤ 4194304) (hA : s.length ≤ 1048576 ∨ ∀ r, spl 32 s ≠ [105, 110] :: r) (sb eb : Nat) (W : World) (hT : Tab W) (hV : Vars W) (hD : Deb W) (h1 : W.cell? ⟨sb, 0, none⟩ = some (.string ⟨s.toArray⟩)) (h2 : Blk W eb 31 #[.int .i64 0, .int .i64 0, .string ⟨#[]⟩, .string ⟨#[]⟩, .string ⟨#[]⟩, .int .i64 0, .int .u32 0]) :
    Calls Tryz.prog 33 #[.pointer (some ⟨sb, 0, none⟩), .pointer (some ⟨eb, 0, none⟩)] W (DoneP s eb W) := by
  have q := SRead_any s hs hA W hT hV hD
  unfold ReadP at q
  have hok : ∀ v W', evO s = some v → But eb W W' → Blk W' eb 31 (evCs v).toArray → DoneP s eb W (.returned (.tuple #[])) W' := fun v W' h b k => .inl ⟨v, h, rfl, b, k⟩
  have hno : ∀ W', evO s = none → Ext W W' → DoneP s eb W (.panicked (wrongP 9)) W' := fun W' h b => .inr ⟨h, rfl, b⟩
  generalize DoneP s eb W = Post at *
  clear hT hV hD hs hA
  cases ho : evO s with
  | none =>
    rw [ho] at q
    replace hno := fun W' => hno W' ho
    clear hok ho h2
    replace q := hide q
    replace hno := hide hno
    go_enter Tryz.func33, Tryz.ntmps33
    go_wp2_with fail
    refine q.out.mono ?_
    rintro e W1 ⟨rfl, he⟩
    go_wp2
    exact ⟨rfl, hno.out _ he⟩
  | some v =>
    rw [ho] at q
    replace hok := fun W' => hok v W' ho
    clear hno ho
    replace q := hide q
    replace hok := hide hok
    replace h2 := hide h2
    go_enter Tryz.func33, Tryz.ntmps33
    go_wp2_with fail
    refine q.out.mono ?_
    rintro e W1 ⟨rfl, he⟩
    have B := h2.out.ext he
    have c0 : W1.cell? ⟨eb, 0, none⟩ = some (.int .i64 0) := B.cell 0
    have c1 : W1.cell? ⟨eb, 1, none⟩ = some (.int .i64 0) := B.cell 1
    have c2 : W1.cell? ⟨eb, 2, none⟩ = some (.string ⟨#[]⟩) := B.cell 2
    have c3 : W1.cell? ⟨eb, 3, none⟩ = some (.string ⟨#[]⟩) := B.cell 3
    have c4 : W1.cell? ⟨eb, 4, none⟩ = some (.string ⟨#[]⟩) := B.cell 4
    have c5 : W1.cell? ⟨eb, 5, none⟩ = some (.int .i64 0) := B.cell 5
    have c6 : W1.cell? ⟨eb, 6, none⟩ = some (.int .u32 0) := B.cell 6
    have cf := fun i => B.frozen i
    obtain ⟨kd, cn, ad, pr, by_, tk, dr⟩ := v
    have B7 := B.fill7 (.int .i64 kd) (.int .i64 cn) (.string ⟨ad.toArray⟩) (.string ⟨pr.toArray⟩) (.string ⟨by_.toArray⟩) (.int .i64 tk) (.int .u32 (dr.toNat : Int))
    have H7 := (But.of (g := eb) he).set7 (.int .i64 kd) (.int .i64 cn) (.string ⟨ad.toArray⟩) (.string ⟨pr.toArray⟩) (.string ⟨by_.toArray⟩) (.int .i64 tk) (.int .u32 (dr.toNat : Int))
    have hfin := hok.out _ H7 B7
    clear B he B7 H7 h2 hok q
    replace hfin := hide hfin
    simp only [evCs]
    go_wp2
    go_end0
    exact hfin.out
/-- What script.Event answers. -/
def EvP (s : List UInt8) (w : World) (e : Ending) (w' : World) : Prop :=
 (match evO s with
  | some v => e = .returned (.tuple #[.agg (evCs v).toArray, .nilIface])
  | none => ∃ f : Nat, e = .returned (.tuple #[.agg (evCs zeroEv).toArray, .iface 44 (.pointer (some ⟨f, 0, none⟩))]) ∧ w.heap.size ≤ f ∧ Blk w' f 48 #[.int .i64 9, .int .i64 0]) ∧ Ext w w'
theorem But.late {g h : Nat} {w0 w w' : World} (b : But g w0 w) (c : But h w w') (hh : w0.heap.size ≤ h) : But g w0 w' :=
 ⟨c.os.trans b.os, c.tape.trans b.tape, c.output.trans b.output, Nat.le_trans b.size c.size, fun x hx hg => (c.block x (Nat.lt_of_lt_of_le hx b.size) (by omega)).trans (b.block x hx hg)⟩
theorem event_mem (s : List UInt8) (w : World) : ∃ W3 : World, ((w.alloc (Obj.cells #[.string ⟨s.toArray⟩] 9)).alloc (Obj.cells #[.int .i64 0, .int .i64 0, .string ⟨#[]⟩, .string ⟨#[]⟩, .string ⟨#[]⟩, .int .i64 0, .int .u32 0] 31)).alloc (Obj.cells #[.int .i64 0, .int .i64 0, .string ⟨#[]⟩, .string ⟨#[]⟩, .string ⟨#[]⟩, .int .i64 0, .int .u32 0] 31) = W3 ∧ Ext w W3 ∧ W3.heap.size = w.heap.size + 3 ∧
  W3.cell? ⟨w.heap.size, 0, none⟩ = some (.string ⟨s.toArray⟩) ∧ Blk W3 (w.heap.size + 1) 31 #[.int .i64 0, .int .i64 0, .string ⟨#[]⟩, .string ⟨#[]⟩, .string ⟨#[]⟩, .int .i64 0, .int .u32 0] ∧ Blk W3 (w.heap.size + 2) 31 #[.int .i64 0, .int .i64 0, .string ⟨#[]⟩, .string ⟨#[]⟩, .string ⟨#[]⟩, .int .i64 0, .int .u32 0] := by
 refine ⟨_, rfl, ?_⟩
 have a1 := Blk.new w 9 #[.string ⟨s.toArray⟩]
 have e1 := (Ext.refl w).alloc (Obj.cells #[.string ⟨s.toArray⟩] 9)
 have z1 : (w.alloc (Obj.cells #[.string ⟨s.toArray⟩] 9)).heap.size = w.heap.size + 1 := by simp
 generalize w.alloc (Obj.cells #[.string ⟨s.toArray⟩] 9) = V1 at *
 have a2 := Blk.new V1 31 #[.int .i64 0, .int .i64 0, .string ⟨#[]⟩, .string ⟨#[]⟩, .string ⟨#[]⟩, .int .i64 0, .int .u32 0]
 have e2 := e1.alloc (Obj.cells #[.int .i64 0, .int .i64 0, .string ⟨#[]⟩, .string ⟨#[]⟩, .string ⟨#[]⟩, .int .i64 0, .int .u32 0] 31)
 have b1 := a1.alloc (Obj.cells #[.int .i64 0, .int .i64 0, .string ⟨#[]⟩, .string ⟨#[]⟩, .string ⟨#[]⟩, .int .i64 0, .int .u32 0] 31)
 have z2 : (V1.alloc (Obj.cells #[.int .i64 0, .int .i64 0, .string ⟨#[]⟩, .string ⟨#[]⟩, .string ⟨#[]⟩, .int .i64 0, .int .u32 0] 31)).heap.size = w.heap.size + 2 := by simp [z1]
 rw [z1] at a2
 generalize V1.alloc (Obj.cells #[.int .i64 0, .int .i64 0, .string ⟨#[]⟩, .string ⟨#[]⟩, .string ⟨#[]⟩, .int .i64 0, .int .u32 0] 31) = V2 at *
 have a3 := Blk.new V2 31 #[.int .i64 0, .int .i64 0, .string ⟨#[]⟩, .string ⟨#[]⟩, .string ⟨#[]⟩, .int .i64 0, .int .u32 0]
 rw [z2] at a3
 exact ⟨e2.alloc _, by simp [z2], (b1.alloc _).cell 0, a2.alloc _, a3⟩
set_option maxRecDepth 20000 in
set_option maxHeartbeats 2000000 in
theorem SEvent_any (s : List UInt8) (hs : s.length ≤ 4194304) (hA : s.length ≤ 1048576 ∨ ∀ r, spl 32 s ≠ [105, 110] :: r) (w : World) (hT : Tab w) (hV : Vars w) (hD : Deb w) : Calls Tryz.prog 14 #[.string ⟨s.toArray⟩] w (EvP s w) := by
  have hmf : ∀ (fn : Fn) (first cap : Array Value) (w : World), (Instr.makeFunc fn first cap).run Tryz.prog w = .ok (.func fn first cap) w := fun _ _ _ _ => rfl
  have hok : ∀ W v, evO s = some v → Ext w W → EvP s w (.returned (.tuple #[.agg (evCs v).toArray, .nilIface])) W := fun W v h he => by unfold EvP; rw [h]; exact ⟨rfl, he⟩
  have hno : ∀ W f, evO s = none → w.heap.size ≤ f → Blk W f 48 #[.int .i64 9, .int .i64 0] → Ext w W → EvP s w (.returned (.tuple #[.agg #[.int .i64 0, .int .i64 0, .string ⟨#[]⟩, .string ⟨#[]⟩, .string ⟨#[]⟩, .int .i64 0, .int .u32 0], .iface 44 (.pointer (some ⟨f, 0, none⟩))])) W := fun W f h hf hb he => by unfold EvP; rw [h]; exact ⟨⟨f, rfl, hf, hb⟩, he⟩
  generalize EvP s w = Post at *
  obtain ⟨W3, hW3, E3, hz, c1, B2, B3⟩ := event_mem s w
  have EA := (Ext.refl W3).alloc (Obj.cells #[.int .i64 0] 23)
  have q1 := Event1_any s hs hA w.heap.size (w.heap.size + 2) (W3.alloc (Obj.cells #[.int .i64 0] 23)) (hT.ext (E3.trans EA)) (hV.ext (E3.trans EA)) (hD.ext (E3.trans EA)) (EA.cell c1) (B3.alloc _)
  have N := Blk.new W3 23 #[.int .i64 0]
  unfold DoneP at q1
  clear hT hV hD hs hA
  cases ho : evO s with
  | none =>
    rw [ho] at q1
    replace hno := fun W f => hno W f ho
    have q := Guard_any 33 _ (fun _ _ => rfl) W3 (fun _ => False) (fun c W => c = 9 ∧ Ext (W3.alloc (Obj.cells #[.int .i64 0] 23)) W)
      (q1.mono fun e W h => by
        rcases h with ⟨v, h, _⟩ | ⟨_, h1, h2⟩
        · cases h
        · exact .inr ⟨9, h1, rfl, h2⟩)
      (fun W h => h.elim) (fun c W h => N.ext h.2) (fun e W => e = .returned (.int .i64 9) ∧ Ext W3 W) (fun _ _ h _ => h.elim) (fun c W W' h hb => ⟨by rw [h.1], But.ext (EA.trans h.2) hb (Nat.le_refl _)⟩)
    clear q1 hok ho EA N B3
    replace q := hide q
    replace hno := hide hno
    replace E3 := hide E3
    replace B2 := hide B2
    replace hz := hide hz
    go_enter Tryz.func14, Tryz.ntmps14
    go_wp2_with fail
    clear hW3
    refine q.out.mono ?_
    rintro e W4 ⟨rfl, h4⟩
    have E4 := E3.out.trans h4
    have B4 := B2.out.ext h4
    have hz4 : w.heap.size + 3 ≤ W4.heap.size := by have := h4.size; have := hz.out; omega
    have hs4 := h4.size
    have F := Blk.new W4 48 #[.int .i64 9, .int .i64 0]
    have E5 := E4.alloc (Obj.cells #[.int .i64 9, .int .i64 0] 48)
    have B5 := B4.alloc (Obj.cells #[.int .i64 9, .int .i64 0] 48)
    generalize hW5 : W4.alloc (Obj.cells #[.int .i64 9, .int .i64 0] 48) = W5 at *
    generalize hf4 : W4.heap.size = f4 at *
    have r0 : W5.cell? ⟨w.heap.size + 1, 0, none⟩ = some (.int .i64 0) := B5.cell 0
    have r1 : W5.cell? ⟨w.heap.size + 1, 1, none⟩ = some (.int .i64 0) := B5.cell 1
    have r2 : W5.cell? ⟨w.heap.size + 1, 2, none⟩ = some (.string ⟨#[]⟩) := B5.cell 2
    have r3 : W5.cell? ⟨w.heap.size + 1, 3, none⟩ = some (.string ⟨#[]⟩) := B5.cell 3
    have r4 : W5.cell? ⟨w.heap.size + 1, 4, none⟩ = some (.string ⟨#[]⟩) := B5.cell 4
    have r5 : W5.cell? ⟨w.heap.size + 1, 5, none⟩ = some (.int .i64 0) := B5.cell 5
    have r6 : W5.cell? ⟨w.heap.size + 1, 6, none⟩ = some (.int .u32 0) := B5.cell 6
    have rf := fun i => B5.frozen i
    have hE := E5.set7 (show w.heap.size ≤ w.heap.size + 1 by omega) (.int .i64 0) (.int .i64 0) (.string ⟨#[]⟩) (.string ⟨#[]⟩) (.string ⟨#[]⟩) (.int .i64 0) (.int .u32 0)
    have hRZ := B5.fill7 (.int .i64 0) (.int .i64 0) (.string ⟨#[]⟩) (.string ⟨#[]⟩) (.string ⟨#[]⟩) (.int .i64 0) (.int .u32 0)
    have F7 := (((((((F.far (p := ⟨w.heap.size + 1, 0, none⟩) (show f4 ≠ w.heap.size + 1 by omega) (.int .i64 0)).far (p := ⟨w.heap.size + 1, 1, none⟩) (show f4 ≠ w.heap.size + 1 by omega) (.int .i64 0)).far (p := ⟨w.heap.size + 1, 2, none⟩) (show f4 ≠ w.heap.size + 1 by omega) (.string ⟨#[]⟩)).far (p := ⟨w.heap.size + 1, 3, none⟩) (show f4 ≠ w.heap.size + 1 by omega) (.string ⟨#[]⟩)).far (p := ⟨w.heap.size + 1, 4, none⟩) (show f4 ≠ w.heap.size + 1 by omega) (.string ⟨#[]⟩)).far (p := ⟨w.heap.size + 1, 5, none⟩) (show f4 ≠ w.heap.size + 1 by omega) (.int .i64 0)).far (p := ⟨w.heap.size + 1, 6, none⟩) (show f4 ≠ w.heap.size + 1 by omega) (.int .u32 0))
    have z0 := hRZ.cell 0
    have z1 := hRZ.cell 1
    have z2 := hRZ.cell 2
    have z3 := hRZ.cell 3
    have z4 := hRZ.cell 4
    have z5 := hRZ.cell 5
    have z6 := hRZ.cell 6
    simp at z0 z1 z2 z3 z4 z5 z6
    have hfin := hno.out _ f4 (by omega) F7 hE
    clear hE hRZ F7 F E5 B5 E4 B4 h4 q E3 B2 hno hz hz4 hs4
    replace hfin := hide hfin
    go_wp2
    exact bodyPost_ret (v := .tuple #[.agg #[.int .i64 0, .int .i64 0, .string ⟨#[]⟩, .string ⟨#[]⟩, .string ⟨#[]⟩, .int .i64 0, .int .u32 0], .iface 44 (.pointer (some ⟨f4, 0, none⟩))]) (by simp [results, Tryz.results14, go_sem, z0, z1, z2, z3, z4, z5, z6]) rfl hfin.out
  | some v =>
    rw [ho] at q1
    replace hok := fun W => hok W v ho
    have q := Guard_any 33 _ (fun _ _ => rfl) W3 (fun W => But (w.heap.size + 2) (W3.alloc (Obj.cells #[.int .i64 0] 23)) W ∧ Blk W (w.heap.size + 2) 31 (evCs v).toArray) (fun c W => False)
      (q1.mono fun e W h => by
        rcases h with ⟨v', h, h1, h2, h3⟩ | ⟨h, _⟩
        · injection h with h
          subst h
          exact .inl ⟨h1, h2, h3⟩
        · cases h)
      (fun W h => N.but h.1 (by omega)) (fun c W h => h.elim) (fun e W => e = .returned (.int .i64 0) ∧ But (w.heap.size + 2) W3 W ∧ Blk W (w.heap.size + 2) 31 (evCs v).toArray) (fun W W' h hb => ⟨rfl, ((But.of EA).trans h.1).late hb (Nat.le_refl _), h.2.but hb (by omega)⟩) (fun _ _ _ h _ => h.elim)
    clear q1 hno ho EA N B3
    replace q := hide q
    replace hok := hide hok
    replace E3 := hide E3
    replace B2 := hide B2
    go_enter Tryz.func14, Tryz.ntmps14
    go_wp2_with fail
    clear hW3
    refine q.out.mono ?_
    rintro e W4 ⟨rfl, h4, B3⟩
    have E4 := But.ext E3.out h4 (by omega)
    have B4 := B2.out.but h4 (by omega)
    obtain ⟨kd, cn, ad, pr, by_, tk, dr⟩ := v
    have zz0 : W4.cell? ⟨w.heap.size + 2, 0, none⟩ = some (.int .i64 kd) := B3.cell 0
    have zz1 : W4.cell? ⟨w.heap.size + 2, 1, none⟩ = some (.int .i64 cn) := B3.cell 1
    have zz2 : W4.cell? ⟨w.heap.size + 2, 2, none⟩ = some (.string ⟨ad.toArray⟩) := B3.cell 2
    have zz3 : W4.cell? ⟨w.heap.size + 2, 3, none⟩ = some (.string ⟨pr.toArray⟩) := B3.cell 3
    have zz4 : W4.cell? ⟨w.heap.size + 2, 4, none⟩ = some (.string ⟨by_.toArray⟩) := B3.cell 4
    have zz5 : W4.cell? ⟨w.heap.size + 2, 5, none⟩ = some (.int .i64 tk) := B3.cell 5
    have zz6 : W4.cell? ⟨w.heap.size + 2, 6, none⟩ = some (.int .u32 (dr.toNat : Int)) := B3.cell 6
    have r0 : W4.cell? ⟨w.heap.size + 1, 0, none⟩ = some (.int .i64 0) := B4.cell 0
    have r1 : W4.cell? ⟨w.heap.size + 1, 1, none⟩ = some (.int .i64 0) := B4.cell 1
    have r2 : W4.cell? ⟨w.heap.size + 1, 2, none⟩ = some (.string ⟨#[]⟩) := B4.cell 2
    have r3 : W4.cell? ⟨w.heap.size + 1, 3, none⟩ = some (.string ⟨#[]⟩) := B4.cell 3
    have r4 : W4.cell? ⟨w.heap.size + 1, 4, none⟩ = some (.string ⟨#[]⟩) := B4.cell 4
    have r5 : W4.cell? ⟨w.heap.size + 1, 5, none⟩ = some (.int .i64 0) := B4.cell 5
    have r6 : W4.cell? ⟨w.heap.size + 1, 6, none⟩ = some (.int .u32 0) := B4.cell 6
    have rf := fun i => B4.frozen i
    have hE := E4.set7 (show w.heap.size ≤ w.heap.size + 1 by omega) (.int .i64 kd) (.int .i64 cn) (.string ⟨ad.toArray⟩) (.string ⟨pr.toArray⟩) (.string ⟨by_.toArray⟩) (.int .i64 tk) (.int .u32 (dr.toNat : Int))
    have hRZ := B4.fill7 (.int .i64 kd) (.int .i64 cn) (.string ⟨ad.toArray⟩) (.string ⟨pr.toArray⟩) (.string ⟨by_.toArray⟩) (.int .i64 tk) (.int .u32 (dr.toNat : Int))
    have z0 := hRZ.cell 0
    have z1 := hRZ.cell 1
    have z2 := hRZ.cell 2
    have z3 := hRZ.cell 3
    have z4 := hRZ.cell 4
    have z5 := hRZ.cell 5
    have z6 := hRZ.cell 6
    simp at z0 z1 z2 z3 z4 z5 z6
    have hfin := hok.out _ hE
    clear hE hRZ B4 B3 h4 q E3 B2 hok E4
    replace hfin := hide hfin
    go_wp2
    exact bodyPost_ret (v := .tuple #[.agg #[.int .i64 kd, .int .i64 cn, .string ⟨ad.toArray⟩, .string ⟨pr.toArray⟩, .string ⟨by_.toArray⟩, .int .i64 tk, .int .u32 (dr.toNat : Int)], .nilIface]) (by simp [results, Tryz.results14, go_sem, z0, z1, z2, z3, z4, z5, z6]) rfl hfin.out
end
section
open Go.RowKit Go.Sort
set_option linter.unusedVariables false
set_option linter.unusedSimpArgs false
theorem SLine_any (g c : Nat) (l : List (List UInt8)) (W : World) (hn : l.length ≤ 16) (hc : l.length ≤ c) (hl : (Lib.join l [32]).length ≤ 140737488355328) (h : Blk W g 9 (l.map fun s => Value.string ⟨s.toArray⟩).toArray) :
  Calls Tryz.prog 48 #[.slice (some ⟨g, 0, none⟩) l.length c] W fun e w' => e = .returned (.string ⟨(Lib.join l [32]).toArray⟩) ∧ Ext W w' := by
 have hm : (l.map fun s => (⟨s.toArray⟩ : ByteArray)).map (·.data.toList) = l := by rw [List.map_map]; exact List.map_id'' (fun _ => rfl) l
 have q := Tryz.strings_Join g 0 c (l.map fun s => (⟨s.toArray⟩ : ByteArray)) ⟨#[32]⟩ W (fun j x hx => by
  have := h.cell j
  simp only [List.getElem?_toArray, List.getElem?_map] at this hx
  cases hj : l[j]? with
  | none => rw [hj] at hx; cases hx
  | some y => rw [hj] at this hx; injection hx with hx; rw [← hx]; simpa using this) h.lt (by simp; omega) (by simpa using hc) (by rw [hm]; exact hl)
 rw [hm] at q
 simp only [List.length_map] at q
 clear h hc hl hm
 replace q := q.mono (R' := fun e w' => e = .returned (.string ⟨(Lib.join l [32]).toArray⟩) ∧ Ext W w') fun e w' h => h
 generalize Lib.join l [32] = j at *
 generalize l.length = n at *
 replace q := hide q
 replace hn := hide hn
 go_enter Tryz.func48, Tryz.ntmps48
 go_wp2_with fail
 refine q.out.mono ?_
 rintro e w1 ⟨rfl, he⟩
 go_wp2
 go_ret
 exact ⟨rfl, he⟩
/- tell -/
theorem ItoaI_any (n : Int) (h : i64 n) (w : World) (hT : Tab w) : Calls Tryz.prog 50 #[.int .i64 n] w fun e w' => e = .returned (.string ⟨(Lib.itoa n).toArray⟩) ∧ Ext w w' := by
 refine (Tryz.strconv_Itoa n h.1 h.2 w hT).mono ?_
 rintro e w' ⟨rfl, k, os, rfl⟩
 refine ⟨rfl, ?_⟩
 refine ⟨rfl, rfl, rfl, by simp [grow, World.drewN], fun j hj => ?_⟩
 simp only [grow, World.drewN]
 rw [Array.getElem?_append_left hj]
/-- An event as it lies in memory. -/
structure EvIn (e : EvS) : Prop where
  kind : i64 e.kind
  conn : i64 e.conn
  addr : e.addr.length ≤ 1048576
  peer : e.peer.length ≤ 1048576
  bytes : e.bytes.length ≤ 1048576
  ticks : i64 e.ticks
theorem join2_len (a b : List UInt8) : (Lib.join [a, b] [32]).length = a.length + 1 + b.length := by
 rw [show Lib.join [a, b] [32] = a ++ ([32] ++ Lib.join [b] [32]) from rfl, Lib.join_one]; simp; omega
theorem join3_len (a b c : List UInt8) : (Lib.join [a, b, c] [32]).length = a.length + 1 + b.length + 1 + c.length := by
 rw [show Lib.join [a, b, c] [32] = a ++ ([32] ++ Lib.join [b, c] [32]) from rfl]; simp [join2_len]; omega
theorem itoa_len (n : Int) (h : i64 n) : (Lib.itoa n).length ≤ 21 := by
 have := Lib.itoa_length_le n h.1 h.2
 omega
set_option maxRecDepth 20000 in
set_option maxHeartbeats 4000000 in
theorem STell_any (e : EvS) (hin : EvIn e) (w : World) (hT : Tab w) (hD : Deb w) : Calls Tryz.prog 31 #[.agg (evCs e).toArray] w fun e' w' => e' = .returned (.string ⟨(tellS e).toArray⟩) ∧ Ext w w' := by
 have hR : ∀ s W, tellS e = s → Ext w W → (Ending.returned (.string ⟨s.toArray⟩) = Ending.returned (.string ⟨(tellS e).toArray⟩) ∧ Ext w W) := fun s W h he => ⟨by rw [h], he⟩
 have hPost : (fun e' w' => e' = Ending.returned (.string ⟨(tellS e).toArray⟩) ∧ Ext w w') = (fun e' w' => e' = Ending.returned (.string ⟨(tellS e).toArray⟩) ∧ Ext w w') := rfl
 obtain ⟨kd, cn, ad, pr, by_, tk, dr⟩ := e
 obtain ⟨h1, h2, h3, h4, h5, h6⟩ := hin
 dsimp only at h1 h2 h3 h4 h5 h6
 generalize hQ : (fun e' w' => e' = Ending.returned (.string ⟨(tellS ⟨kd, cn, ad, pr, by_, tk, dr⟩).toArray⟩) ∧ Ext w w') = Post
 replace hR : ∀ s W, tellS ⟨kd, cn, ad, pr, by_, tk, dr⟩ = s → Ext w W → Post (.returned (.string ⟨s.toArray⟩)) W := by rw [← hQ]; exact hR
 clear hQ hPost
 have B := Blk.new w 31 #[.int .i64 kd, .int .i64 cn, .string ⟨ad.toArray⟩, .string ⟨pr.toArray⟩, .string ⟨by_.toArray⟩, .int .i64 tk, .int .u32 (dr.toNat : Int)]
 have E := (Ext.refl w).alloc (Obj.cells #[.int .i64 kd, .int .i64 cn, .string ⟨ad.toArray⟩, .string ⟨pr.toArray⟩, .string ⟨by_.toArray⟩, .int .i64 tk, .int .u32 (dr.toNat : Int)] 31)
 generalize hW1 : w.alloc (Obj.cells #[.int .i64 kd, .int .i64 cn, .string ⟨ad.toArray⟩, .string ⟨pr.toArray⟩, .string ⟨by_.toArray⟩, .int .i64 tk, .int .u32 (dr.toNat : Int)] 31) = W1 at *
 generalize hp : w.heap.size = p at B
 have q := ItoaI_any cn h2 W1 (hT.ext E)
 have hil := itoa_len cn h2
 have hil2 := itoa_len tk h6
 have c1 : W1.cell? ⟨p, 1, none⟩ = some (.int .i64 cn) := B.cell 1
 simp only [evCs]
 replace hW1 := hide hW1
 replace hp := hide hp
 replace hT := hide hT
 replace hD := hide hD
 replace hR := hide hR
 replace h1 := hide h1
 replace h3 := hide h3
 replace h4 := hide h4
 replace h5 := hide h5
 replace B := hide B
 replace E := hide E
 replace q := hide q
 replace hil := hide hil
 replace hil2 := hide hil2
 replace h2 := hide h2
 replace h6 := hide h6
 go_enter Tryz.func31, Tryz.ntmps31
 go_upto_region 1 with fail
 rw [hW1.out, hp.out]
 clear hW1
 go_wp2_with fail
 refine q.out.mono ?_
 rintro e W2 ⟨rfl, he⟩
 clear c1 q
 have B2 := B.out.ext he
 have E2 := E.out.trans he
 clear B E he
 have c0 : W2.cell? ⟨p, 0, none⟩ = some (.int .i64 kd) := B2.cell 0
 have c2 : W2.cell? ⟨p, 2, none⟩ = some (.string ⟨ad.toArray⟩) := B2.cell 2
 have c3 : W2.cell? ⟨p, 3, none⟩ = some (.string ⟨pr.toArray⟩) := B2.cell 3
 have c4 : W2.cell? ⟨p, 4, none⟩ = some (.string ⟨by_.toArray⟩) := B2.cell 4
 have c5 : W2.cell? ⟨p, 5, none⟩ = some (.int .i64 tk) := B2.cell 5
 have c6 : W2.cell? ⟨p, 6, none⟩ = some (.int .u32 (dr.toNat : Int)) := B2.cell 6
 clear B2
 have hit : ∃ it, Lib.itoa cn = it := ⟨_, rfl⟩
 obtain ⟨it, hit⟩ := hit
 rw [hit] at hil ⊢
 have qL : ∀ (g c : Nat) (l : List (List UInt8)) (W : World), l.length ≤ 16 → l.length ≤ c → (Lib.join l [32]).length ≤ 140737488355328 → Blk W g 9 (l.map fun s => Value.string ⟨s.toArray⟩).toArray → Calls Tryz.prog 48 #[.slice (some ⟨g, 0, none⟩) l.length c] W fun e w' => e = .returned (.string ⟨(Lib.join l [32]).toArray⟩) ∧ Ext W w' := fun g c l W a b d h => SLine_any g c l W a b d h
 replace hit := hide hit
 replace qL := hide qL
 replace E2 := hide E2
 by_cases hk1 : kd = 1
 ·subst hk1
  have q := AAddrText_any ad h3.out W2 (hT.out.ext E2.out) (hD.out.ext E2.out)
  have hat : ∃ a ec, addrT ad = (a, ec) := ⟨_, _, rfl⟩
  obtain ⟨a, ec, hat⟩ := hat
  have hal := addrT_len (a := ad)
  rw [hat] at q hal
  replace q := hide q
  replace hat := hide hat
  replace hal := hide hal
  go_wp2_with fail
  refine q.out.mono ?_
  rintro e W3 ⟨rfl, he3⟩
  have E3 := E2.out.trans he3
  clear q he3
  replace E3 := hide E3
  have qB := Blk.new W3 9 #[.string ⟨#[105, 110]⟩, .string ⟨it.toArray⟩, .string ⟨a.toArray⟩]
  have qE := (E3.out).alloc (Obj.cells #[.string ⟨#[105, 110]⟩, .string ⟨it.toArray⟩, .string ⟨a.toArray⟩] 9)
  have qj : (Lib.join [[105, 110], it, a] [32]).length ≤ 140737488355328 := by rw [join3_len]; have := hil.out; have := hal.out; simp only [List.length_cons, List.length_nil] at *; omega
  have q := qL.out W3.heap.size 3 [[105, 110], it, a] _ (by simp) (by simp) qj qB
  replace q : Calls Tryz.prog 48 #[.slice (some ⟨W3.heap.size, 0, none⟩) 3 3] _ _ := q
  have hr : tellS ⟨1, cn, ad, pr, by_, tk, dr⟩ = Lib.join [[105, 110], it, a] [32] := (by simp [tellS, hit.out, hat.out])
  generalize Lib.join [[105, 110], it, a] [32] = J at q hr
  clear qB qj
  replace q := hide q
  replace qE := hide qE
  replace hr := hide hr
  go_wp2_with fail
  refine q.out.mono ?_
  rintro e W9 ⟨rfl, he⟩
  go_wp2
  try go_ret
  exact hR.out _ _ hr.out (qE.out.trans he)
 have g1 : (kd == 1) = false := beq_eq_false_iff_ne.2 hk1
 have g1b : decide (kd = 1) = false := decide_eq_false hk1
 by_cases hk2 : kd = 2
 ·subst hk2
  have qB := Blk.new W2 9 #[.string ⟨#[117, 112]⟩, .string ⟨it.toArray⟩, .string ⟨pr.toArray⟩]
  have qE := (E2.out).alloc (Obj.cells #[.string ⟨#[117, 112]⟩, .string ⟨it.toArray⟩, .string ⟨pr.toArray⟩] 9)
  have qj : (Lib.join [[117, 112], it, pr] [32]).length ≤ 140737488355328 := by rw [join3_len]; have := hil.out; have := h4.out; simp only [List.length_cons, List.length_nil]; omega
  have q := qL.out W2.heap.size 3 [[117, 112], it, pr] _ (by simp) (by simp) qj qB
  replace q : Calls Tryz.prog 48 #[.slice (some ⟨W2.heap.size, 0, none⟩) 3 3] _ _ := q
  have hr : tellS ⟨2, cn, ad, pr, by_, tk, dr⟩ = Lib.join [[117, 112], it, pr] [32] := (by simp [tellS, hit.out])
  generalize Lib.join [[117, 112], it, pr] [32] = J at q hr
  clear qB qj
  replace q := hide q
  replace qE := hide qE
  replace hr := hide hr
  go_wp2_with fail
  refine q.out.mono ?_
  rintro e W9 ⟨rfl, he⟩
  go_wp2
  try go_ret
  exact hR.out _ _ hr.out (qE.out.trans he)
 have g2 : (kd == 2) = false := beq_eq_false_iff_ne.2 hk2
 have g2b : decide (kd = 2) = false := decide_eq_false hk2
 by_cases hk3 : kd = 3
 ·subst hk3
  have qB := Blk.new W2 9 #[.string ⟨#[114, 101, 102, 117, 115, 101]⟩, .string ⟨pr.toArray⟩]
  have qE := (E2.out).alloc (Obj.cells #[.string ⟨#[114, 101, 102, 117, 115, 101]⟩, .string ⟨pr.toArray⟩] 9)
  have qj : (Lib.join [[114, 101, 102, 117, 115, 101], pr] [32]).length ≤ 140737488355328 := by rw [join2_len]; have := h4.out; simp only [List.length_cons, List.length_nil]; omega
  have q := qL.out W2.heap.size 2 [[114, 101, 102, 117, 115, 101], pr] _ (by simp) (by simp) qj qB
  replace q : Calls Tryz.prog 48 #[.slice (some ⟨W2.heap.size, 0, none⟩) 2 2] _ _ := q
  have hr : tellS ⟨3, cn, ad, pr, by_, tk, dr⟩ = Lib.join [[114, 101, 102, 117, 115, 101], pr] [32] := (by simp [tellS, hit.out])
  generalize Lib.join [[114, 101, 102, 117, 115, 101], pr] [32] = J at q hr
  clear qB qj
  replace q := hide q
  replace qE := hide qE
  replace hr := hide hr
  go_wp2_with fail
  refine q.out.mono ?_
  rintro e W9 ⟨rfl, he⟩
  go_wp2
  try go_ret
  exact hR.out _ _ hr.out (qE.out.trans he)
 have g3 : (kd == 3) = false := beq_eq_false_iff_ne.2 hk3
 have g3b : decide (kd = 3) = false := decide_eq_false hk3
 by_cases hk4 : kd = 4
 ·subst hk4
  have q := SWord_any by_ h5.out W2
  have hwl := wordB_len by_
  have hwd : ∃ wd, wordB by_ = wd := ⟨_, rfl⟩
  obtain ⟨wd, hwd⟩ := hwd
  rw [hwd] at q hwl
  replace q := hide q
  replace hwl := hide hwl
  replace hwd := hide hwd
  go_wp2_with fail
  refine q.out.mono ?_
  rintro e W3 ⟨rfl, he3⟩
  have E3 := E2.out.trans he3
  clear q he3
  replace E3 := hide E3
  have qB := Blk.new W3 9 #[.string ⟨#[100, 97, 116, 97]⟩, .string ⟨it.toArray⟩, .string ⟨wd.toArray⟩]
  have qE := (E3.out).alloc (Obj.cells #[.string ⟨#[100, 97, 116, 97]⟩, .string ⟨it.toArray⟩, .string ⟨wd.toArray⟩] 9)
  have qj : (Lib.join [[100, 97, 116, 97], it, wd] [32]).length ≤ 140737488355328 := by rw [join3_len]; have := hil.out; have := hwl.out; have := h5.out; simp only [List.length_cons, List.length_nil]; omega
  have q := qL.out W3.heap.size 3 [[100, 97, 116, 97], it, wd] _ (by simp) (by simp) qj qB
  replace q : Calls Tryz.prog 48 #[.slice (some ⟨W3.heap.size, 0, none⟩) 3 3] _ _ := q
  have hr : tellS ⟨4, cn, ad, pr, by_, tk, dr⟩ = Lib.join [[100, 97, 116, 97], it, wd] [32] := (by simp [tellS, hit.out, hwd.out])
  generalize Lib.join [[100, 97, 116, 97], it, wd] [32] = J at q hr
  clear qB qj
  replace q := hide q
  replace qE := hide qE
  replace hr := hide hr
  go_wp2_with fail
  refine q.out.mono ?_
  rintro e W9 ⟨rfl, he⟩
  go_wp2
  try go_ret
  exact hR.out _ _ hr.out (qE.out.trans he)
 have g4 : (kd == 4) = false := beq_eq_false_iff_ne.2 hk4
 have g4b : decide (kd = 4) = false := decide_eq_false hk4
 by_cases hk5 : kd = 5
 ·subst hk5
  have qB := Blk.new W2 9 #[.string ⟨#[99, 108, 111, 115, 101]⟩, .string ⟨it.toArray⟩]
  have qE := (E2.out).alloc (Obj.cells #[.string ⟨#[99, 108, 111, 115, 101]⟩, .string ⟨it.toArray⟩] 9)
  have qj : (Lib.join [[99, 108, 111, 115, 101], it] [32]).length ≤ 140737488355328 := by rw [join2_len]; have := hil.out; simp only [List.length_cons, List.length_nil]; omega
  have q := qL.out W2.heap.size 2 [[99, 108, 111, 115, 101], it] _ (by simp) (by simp) qj qB
  replace q : Calls Tryz.prog 48 #[.slice (some ⟨W2.heap.size, 0, none⟩) 2 2] _ _ := q
  have hr : tellS ⟨5, cn, ad, pr, by_, tk, dr⟩ = Lib.join [[99, 108, 111, 115, 101], it] [32] := (by simp [tellS, hit.out])
  generalize Lib.join [[99, 108, 111, 115, 101], it] [32] = J at q hr
  clear qB qj
  replace q := hide q
  replace qE := hide qE
  replace hr := hide hr
  go_wp2_with fail
  refine q.out.mono ?_
  rintro e W9 ⟨rfl, he⟩
  go_wp2
  try go_ret
  exact hR.out _ _ hr.out (qE.out.trans he)
 have g5 : (kd == 5) = false := beq_eq_false_iff_ne.2 hk5
 have g5b : decide (kd = 5) = false := decide_eq_false hk5
 by_cases hk6 : kd = 6
 ·subst hk6
  have q := ItoaI_any tk h6.out W2 (hT.out.ext E2.out)
  have hit2 : ∃ it2, Lib.itoa tk = it2 := ⟨_, rfl⟩
  obtain ⟨it2, hit2⟩ := hit2
  rw [hit2] at q hil2
  replace q := hide q
  replace hit2 := hide hit2
  go_wp2_with fail
  refine q.out.mono ?_
  rintro e W3 ⟨rfl, he3⟩
  have E3 := E2.out.trans he3
  clear q he3
  replace E3 := hide E3
  have qB := Blk.new W3 9 #[.string ⟨#[116, 105, 99, 107]⟩, .string ⟨it2.toArray⟩]
  have qE := (E3.out).alloc (Obj.cells #[.string ⟨#[116, 105, 99, 107]⟩, .string ⟨it2.toArray⟩] 9)
  have qj : (Lib.join [[116, 105, 99, 107], it2] [32]).length ≤ 140737488355328 := by rw [join2_len]; have := hil2.out; simp only [List.length_cons, List.length_nil]; omega
  have q := qL.out W3.heap.size 2 [[116, 105, 99, 107], it2] _ (by simp) (by simp) qj qB
  replace q : Calls Tryz.prog 48 #[.slice (some ⟨W3.heap.size, 0, none⟩) 2 2] _ _ := q
  have hr : tellS ⟨6, cn, ad, pr, by_, tk, dr⟩ = Lib.join [[116, 105, 99, 107], it2] [32] := (by simp [tellS, hit2.out])
  generalize Lib.join [[116, 105, 99, 107], it2] [32] = J at q hr
  clear qB qj
  replace q := hide q
  replace qE := hide qE
  replace hr := hide hr
  go_wp2_with fail
  refine q.out.mono ?_
  rintro e W9 ⟨rfl, he⟩
  go_wp2
  try go_ret
  exact hR.out _ _ hr.out (qE.out.trans he)
 have g6 : (kd == 6) = false := beq_eq_false_iff_ne.2 hk6
 have g6b : decide (kd = 6) = false := decide_eq_false hk6
 by_cases hk7 : kd = 7
 ·subst hk7
  have q := SWord_any by_ h5.out W2
  have hwl := wordB_len by_
  have hwd : ∃ wd, wordB by_ = wd := ⟨_, rfl⟩
  obtain ⟨wd, hwd⟩ := hwd
  rw [hwd] at q hwl
  replace q := hide q
  replace hwl := hide hwl
  replace hwd := hide hwd
  go_wp2_with fail
  refine q.out.mono ?_
  rintro e W3 ⟨rfl, he3⟩
  have E3 := E2.out.trans he3
  clear q he3
  replace E3 := hide E3
  have qB := Blk.new W3 9 #[.string ⟨#[108, 111, 97, 100]⟩, .string ⟨wd.toArray⟩]
  have qE := (E3.out).alloc (Obj.cells #[.string ⟨#[108, 111, 97, 100]⟩, .string ⟨wd.toArray⟩] 9)
  have qj : (Lib.join [[108, 111, 97, 100], wd] [32]).length ≤ 140737488355328 := by rw [join2_len]; have := hil.out; have := hwl.out; have := h5.out; simp only [List.length_cons, List.length_nil]; omega
  have q := qL.out W3.heap.size 2 [[108, 111, 97, 100], wd] _ (by simp) (by simp) qj qB
  replace q : Calls Tryz.prog 48 #[.slice (some ⟨W3.heap.size, 0, none⟩) 2 2] _ _ := q
  have hr : tellS ⟨7, cn, ad, pr, by_, tk, dr⟩ = Lib.join [[108, 111, 97, 100], wd] [32] := (by simp [tellS, hit.out, hwd.out])
  generalize Lib.join [[108, 111, 97, 100], wd] [32] = J at q hr
  clear qB qj
  replace q := hide q
  replace qE := hide qE
  replace hr := hide hr
  go_wp2_with fail
  refine q.out.mono ?_
  rintro e W9 ⟨rfl, he⟩
  go_wp2
  try go_ret
  exact hR.out _ _ hr.out (qE.out.trans he)
 have g7 : (kd == 7) = false := beq_eq_false_iff_ne.2 hk7
 have g7b : decide (kd = 7) = false := decide_eq_false hk7
 by_cases hk8 : kd = 8
 ·subst hk8
  have q := SWord_any by_ h5.out W2
  have hwl := wordB_len by_
  have hwd : ∃ wd, wordB by_ = wd := ⟨_, rfl⟩
  obtain ⟨wd, hwd⟩ := hwd
  rw [hwd] at q hwl
  replace q := hide q
  replace hwl := hide hwl
  replace hwd := hide hwd
  go_wp2_with fail
  refine q.out.mono ?_
  rintro e W3 ⟨rfl, he3⟩
  have E3 := E2.out.trans he3
  clear q he3
  replace E3 := hide E3
  have qB := Blk.new W3 9 #[.string ⟨#[97, 115, 107]⟩, .string ⟨wd.toArray⟩]
  have qE := (E3.out).alloc (Obj.cells #[.string ⟨#[97, 115, 107]⟩, .string ⟨wd.toArray⟩] 9)
  have qj : (Lib.join [[97, 115, 107], wd] [32]).length ≤ 140737488355328 := by rw [join2_len]; have := hil.out; have := hwl.out; have := h5.out; simp only [List.length_cons, List.length_nil]; omega
  have q := qL.out W3.heap.size 2 [[97, 115, 107], wd] _ (by simp) (by simp) qj qB
  replace q : Calls Tryz.prog 48 #[.slice (some ⟨W3.heap.size, 0, none⟩) 2 2] _ _ := q
  have hr : tellS ⟨8, cn, ad, pr, by_, tk, dr⟩ = Lib.join [[97, 115, 107], wd] [32] := (by simp [tellS, hit.out, hwd.out])
  generalize Lib.join [[97, 115, 107], wd] [32] = J at q hr
  clear qB qj
  replace q := hide q
  replace qE := hide qE
  replace hr := hide hr
  go_wp2_with fail
  refine q.out.mono ?_
  rintro e W9 ⟨rfl, he⟩
  go_wp2
  try go_ret
  exact hR.out _ _ hr.out (qE.out.trans he)
 have g8 : (kd == 8) = false := beq_eq_false_iff_ne.2 hk8
 have g8b : decide (kd = 8) = false := decide_eq_false hk8
 by_cases hk9 : kd = 9
 ·subst hk9
  have hdl := dr.toNat_lt
  have hw : IntKind.u64.wrap (dr.toNat : Int) = (dr.toNat : Int) := by rw [IntKind.wrap_u64]; omega
  have q := FormatUint_any dr.toNat (by omega) W2 (hT.out.ext E2.out)
  unfold dec at q
  rw [← digS_dec] at q
  have hdg := dig10 (n := dr.toNat) (by omega)
  have hds : ∃ ds, digS 10 dr.toNat = ds := ⟨_, rfl⟩
  obtain ⟨ds, hds⟩ := hds
  rw [hds] at q hdg
  clear hdl
  replace q := hide q
  replace hdg := hide hdg
  replace hds := hide hds
  go_wp2_with fail
  refine q.out.mono ?_
  rintro e W3 ⟨rfl, he3⟩
  have E3 := E2.out.trans he3
  clear q he3
  replace E3 := hide E3
  have qB := Blk.new W3 9 #[.string ⟨#[100, 114, 97, 119]⟩, .string ⟨ds.toArray⟩]
  have qE := (E3.out).alloc (Obj.cells #[.string ⟨#[100, 114, 97, 119]⟩, .string ⟨ds.toArray⟩] 9)
  have qj : (Lib.join [[100, 114, 97, 119], ds] [32]).length ≤ 140737488355328 := by rw [join2_len]; have := hdg.out; simp only [List.length_cons, List.length_nil]; omega
  have q := qL.out W3.heap.size 2 [[100, 114, 97, 119], ds] _ (by simp) (by simp) qj qB
  replace q : Calls Tryz.prog 48 #[.slice (some ⟨W3.heap.size, 0, none⟩) 2 2] _ _ := q
  have hr : tellS ⟨9, cn, ad, pr, by_, tk, dr⟩ = Lib.join [[100, 114, 97, 119], ds] [32] := (by simp [tellS, hds.out])
  generalize Lib.join [[100, 114, 97, 119], ds] [32] = J at q hr
  clear qB qj
  replace q := hide q
  replace qE := hide qE
  replace hr := hide hr
  go_wp2_with fail
  refine q.out.mono ?_
  rintro e W9 ⟨rfl, he⟩
  go_wp2
  try go_ret
  exact hR.out _ _ hr.out (qE.out.trans he)
 have g9 : (kd == 9) = false := beq_eq_false_iff_ne.2 hk9
 have g9b : decide (kd = 9) = false := decide_eq_false hk9
 by_cases hk10 : kd = 10
 ·subst hk10
  go_wp2_with fail
  try go_ret
  exact hR.out _ _ (by simp [tellS]) E2.out
 have g10 : (kd == 10) = false := beq_eq_false_iff_ne.2 hk10
 have g10b : decide (kd = 10) = false := decide_eq_false hk10
 have hr : tellS ⟨kd, cn, ad, pr, by_, tk, dr⟩ = [] := by simp [tellS, hk1, hk2, hk3, hk4, hk5, hk6, hk7, hk8, hk9, hk10]
 clear hk1 hk2 hk3 hk4 hk5 hk6 hk7 hk8 hk9 hk10
 replace hr := hide hr
 go_wp2_with fail
 try go_ret
 exact hR.out _ _ hr.out E2.out
end
section
open Go.RowKit
set_option linter.unusedVariables false
set_option linter.unusedSimpArgs false
theorem run_neq_ofB {P : Program} {T : TypeId} {xs ys : Array Value} {W : World} {b : Bool} (h1 : (binOp .eql T (.agg xs) (.agg ys)).run P W = .ok (.bool b) W) :
    (binOp .neq T (.agg xs) (.agg ys)).run P W = .ok (.bool (!b)) W := by
  rw [run_eql_struct] at h1
  rw [run_neq_struct]
  generalize (Op.equalIn 10000 T (.agg xs) (.agg ys)).run P W = q at h1 ⊢
  cases q with
  | ok b w' =>
    simp only [Result.andThen] at h1 ⊢
    injection h1 with e1 e2
    injection e1 with e1
    subst e1
    subst e2
    rfl
  | halt x w' => simp only [Result.andThen] at h1; cases h1
theorem run_eqEv (W : World) (x y : EvS) :
  (binOp .eql 31 (.agg #[.int .i64 x.kind, .int .i64 x.conn, .string ⟨x.addr.toArray⟩, .string ⟨x.peer.toArray⟩, .string ⟨x.bytes.toArray⟩, .int .i64 x.ticks, .int .u32 (x.draw.toNat : Int)]) (.agg #[.int .i64 y.kind, .int .i64 y.conn, .string ⟨y.addr.toArray⟩, .string ⟨y.peer.toArray⟩, .string ⟨y.bytes.toArray⟩, .int .i64 y.ticks, .int .u32 (y.draw.toNat : Int)])).run Tryz.prog W = .ok (.bool (decide (x = y))) W := by
 obtain ⟨a1, a2, a3, a4, a5, a6, a7⟩ := x
 obtain ⟨b1, b2, b3, b4, b5, b6, b7⟩ := y
 have hS : Tryz.prog.underlying 31 = some (.struct (Tryz.prog.fieldsOf 31)) := by kernel_rfl
 rw [run_eql_struct, run_equalIn_agg W 9999 _ _ _ hS Tryz.stoodInHeld31]
 simp only [Program.fieldsOf, Tryz.underlying31]
 have e1 : ∀ (a b : Int) (w : World), (Op.equalIn 9999 3 (.int .i64 a) (.int .i64 b)).run Tryz.prog w = .ok (a == b) w := fun a b w => run_equalIn_int w 9998 _ .i64 .i64 a b Tryz.underlying3
 have e2 : ∀ (a b : UInt32) (w : World), (Op.equalIn 9999 29 (.int .u32 (a.toNat : Int)) (.int .u32 (b.toNat : Int))).run Tryz.prog w = .ok (a == b) w := fun a b w => by
  have key : ((a.toNat : Int) == (b.toNat : Int)) = (a == b) := by
   rw [Bool.eq_iff_iff, beq_iff_eq, beq_iff_eq, ← UInt32.toNat_inj]
   omega
  rw [← key]
  exact run_equalIn_int w 9998 _ .u32 .u32 _ _ Tryz.underlying29
 have e3 : ∀ (a b : List UInt8) (w : World), (Op.equalIn 9999 9 (.string ⟨a.toArray⟩) (.string ⟨b.toArray⟩)).run Tryz.prog w = .ok (a == b) w := fun a b w => by
  rw [run_equalIn_string w 9998 _ _ _ Tryz.underlying9, ByteArray.toList_eq, ByteArray.toList_eq]
 by_cases h1 : a1 = b1
 ·subst h1
  by_cases h2 : a2 = b2
  ·subst h2
   by_cases h3 : a3 = b3
   ·subst h3
    by_cases h4 : a4 = b4
    ·subst h4
     by_cases h5 : a5 = b5
     ·subst h5
      by_cases h6 : a6 = b6
      ·subst h6
       by_cases h7 : a7 = b7
       ·subst h7
        simp [Op.eqFields, part, e1, e2, e3]
       ·simp [Op.eqFields, part, e1, e2, e3, h7]
      ·simp [Op.eqFields, part, e1, e2, e3, h6]
     ·simp [Op.eqFields, part, e1, e2, e3, h5]
    ·simp [Op.eqFields, part, e1, e2, e3, h4]
   ·simp [Op.eqFields, part, e1, e2, e3, h3]
  ·simp [Op.eqFields, part, e1, e2, e3, h2]
 ·simp [Op.eqFields, part, e1, e2, e3, h1]
/-- What is told is not too long to be read. -/
theorem tell_len {e : EvS} (h : EvIn e) : (tellS e).length ≤ 4194304 ∧ ((tellS e).length ≤ 1048576 ∨ ∀ r, spl 32 (tellS e) ≠ [105, 110] :: r) := by
 obtain ⟨h1, h2, h3, h4, h5, h6⟩ := h
 have i1 := itoa_len e.conn h2
 have i2 := itoa_len e.ticks h6
 have i3 := wordB_len e.bytes
 have i4 := addrT_len (a := e.addr)
 have i5 : (digS 10 e.draw.toNat).length ≤ 10 := dig10 (by have := e.draw.toNat_lt; omega)
 have key : ∀ (a b : List UInt8), (32 : UInt8) ∉ a → a ≠ [105, 110] → ∀ r, spl 32 (Lib.join [a, b] [32]) ≠ [105, 110] :: r := fun a b ha hn r he => by
  rw [show Lib.join [a, b] [32] = a ++ 32 :: Lib.join [b] [32] from rfl, spl_at ha] at he
  injection he with he _
  exact hn he
 have key3 : ∀ (a b c : List UInt8), (32 : UInt8) ∉ a → a ≠ [105, 110] → ∀ r, spl 32 (Lib.join [a, b, c] [32]) ≠ [105, 110] :: r := fun a b c ha hn r he => by
  rw [show Lib.join [a, b, c] [32] = a ++ 32 :: Lib.join [b, c] [32] from rfl, spl_at ha] at he
  injection he with he _
  exact hn he
 unfold tellS
 by_cases k0 : e.kind = 1
 ·rw [if_pos k0]
  refine ⟨?_, ?_⟩
  ·rw [join3_len]; simp only [List.length_cons, List.length_nil]; omega
  ·rw [join3_len]; simp only [List.length_cons, List.length_nil]; exact .inl (by omega)
 rw [if_neg k0]
 by_cases k1 : e.kind = 2
 ·rw [if_pos k1]
  refine ⟨?_, ?_⟩
  ·rw [join3_len]; simp only [List.length_cons, List.length_nil]; omega
  ·exact .inr (key3 _ _ _ (by decide) (by decide))
 rw [if_neg k1]
 by_cases k2 : e.kind = 3
 ·rw [if_pos k2]
  refine ⟨?_, ?_⟩
  ·rw [join2_len]; simp only [List.length_cons, List.length_nil]; omega
  ·exact .inr (key _ _ (by decide) (by decide))
 rw [if_neg k2]
 by_cases k3 : e.kind = 4
 ·rw [if_pos k3]
  refine ⟨?_, ?_⟩
  ·rw [join3_len]; simp only [List.length_cons, List.length_nil]; omega
  ·exact .inr (key3 _ _ _ (by decide) (by decide))
 rw [if_neg k3]
 by_cases k4 : e.kind = 5
 ·rw [if_pos k4]
  refine ⟨?_, ?_⟩
  ·rw [join2_len]; simp only [List.length_cons, List.length_nil]; omega
  ·rw [join2_len]; simp only [List.length_cons, List.length_nil]; exact .inl (by omega)
 rw [if_neg k4]
 by_cases k5 : e.kind = 6
 ·rw [if_pos k5]
  refine ⟨?_, ?_⟩
  ·rw [join2_len]; simp only [List.length_cons, List.length_nil]; omega
  ·rw [join2_len]; simp only [List.length_cons, List.length_nil]; exact .inl (by omega)
 rw [if_neg k5]
 by_cases k6 : e.kind = 7
 ·rw [if_pos k6]
  refine ⟨?_, ?_⟩
  ·rw [join2_len]; simp only [List.length_cons, List.length_nil]; omega
  ·exact .inr (key _ _ (by decide) (by decide))
 rw [if_neg k6]
 by_cases k7 : e.kind = 8
 ·rw [if_pos k7]
  refine ⟨?_, ?_⟩
  ·rw [join2_len]; simp only [List.length_cons, List.length_nil]; omega
  ·exact .inr (key _ _ (by decide) (by decide))
 rw [if_neg k7]
 by_cases k8 : e.kind = 9
 ·rw [if_pos k8]
  refine ⟨?_, ?_⟩
  ·rw [join2_len]; simp only [List.length_cons, List.length_nil]; omega
  ·rw [join2_len]; simp only [List.length_cons, List.length_nil]; exact .inl (by omega)
 rw [if_neg k8]
 by_cases k9 : e.kind = 10
 ·rw [if_pos k9]; exact ⟨by decide, .inl (by decide)⟩
 ·rw [if_neg k9]; exact ⟨by decide, .inl (by decide)⟩
set_option maxRecDepth 20000 in
set_option maxHeartbeats 2000000 in
theorem SLineE_any (e : EvS) (hin : EvIn e) (w : World) (hT : Tab w) (hV : Vars w) (hD : Deb w) :
    Calls Tryz.prog 13 #[.agg (evCs e).toArray] w fun e' w' => e' = .returned (.tuple #[.string ⟨(evT e).1.toArray⟩, .int .i64 (evT e).2]) ∧ Ext w w' := by
  have qt := fun W (h : Ext w W) => STell_any e hin W (hT.ext h) (hD.ext h)
  obtain ⟨l1, l2⟩ := tell_len hin
  have qe := fun W (h : Ext w W) => SEvent_any (tellS e) l1 l2 W (hT.ext h) (hV.ext h) (hD.ext h)
  rw [evT_back]
  clear l1 l2 hT hV hD hin
  generalize tellS e = t at *
  unfold EvP at qe
  obtain ⟨b1, b2, b3, b4, b5, b6, b7⟩ := e
  simp only [evCs] at qt ⊢
  cases ho : evO t with
  | none =>
    rw [ho] at qe
    rw [if_neg (by simp)]
    clear ho
    have B := Blk.new w 31 #[.int .i64 b1, .int .i64 b2, .string ⟨b3.toArray⟩, .string ⟨b4.toArray⟩, .string ⟨b5.toArray⟩, .int .i64 b6, .int .u32 (b7.toNat : Int)]
    have E := (Ext.refl w).alloc (Obj.cells #[.int .i64 b1, .int .i64 b2, .string ⟨b3.toArray⟩, .string ⟨b4.toArray⟩, .string ⟨b5.toArray⟩, .int .i64 b6, .int .u32 (b7.toNat : Int)] 31)
    generalize hW0 : w.alloc (Obj.cells #[.int .i64 b1, .int .i64 b2, .string ⟨b3.toArray⟩, .string ⟨b4.toArray⟩, .string ⟨b5.toArray⟩, .int .i64 b6, .int .u32 (b7.toNat : Int)] 31) = W0 at B E
    generalize hp : w.heap.size = p at B
    replace qt := qt W0 E
    replace hW0 := hide hW0
    replace hp := hide hp
    replace B := hide B
    replace E := hide E
    replace qt := hide qt
    replace qe := hide qe
    go_enter Tryz.func13, Tryz.ntmps13
    go_upto_region 1 with fail
    rw [hW0.out, hp.out]
    clear hW0 hp
    have c0 : W0.cell? ⟨p, 0, none⟩ = some (.int .i64 b1) := B.out.cell 0
    have c1 : W0.cell? ⟨p, 1, none⟩ = some (.int .i64 b2) := B.out.cell 1
    have c2 : W0.cell? ⟨p, 2, none⟩ = some (.string ⟨b3.toArray⟩) := B.out.cell 2
    have c3 : W0.cell? ⟨p, 3, none⟩ = some (.string ⟨b4.toArray⟩) := B.out.cell 3
    have c4 : W0.cell? ⟨p, 4, none⟩ = some (.string ⟨b5.toArray⟩) := B.out.cell 4
    have c5 : W0.cell? ⟨p, 5, none⟩ = some (.int .i64 b6) := B.out.cell 5
    have c6 : W0.cell? ⟨p, 6, none⟩ = some (.int .u32 (b7.toNat : Int)) := B.out.cell 6
    go_wp2_with fail
    refine qt.out.mono ?_
    rintro e1 W1 ⟨rfl, he⟩
    have E1 := E.out.trans he
    have q := qe.out W1 E1
    clear he qt E c0 c1 c2 c3 c4 c5 c6
    replace E1 := hide E1
    replace q := hide q
    go_wp2_with fail
    refine q.out.mono ?_
    rintro e1 W2 ⟨⟨f, rfl, _, _⟩, he2⟩
    have E2 := E1.out.trans he2
    clear q he2
    replace E2 := hide E2
    simp only [evCs, zeroEv]
    go_wp2
    go_ret2
    exact ⟨rfl, E2.out.alloc _⟩
  | some v =>
    rw [ho] at qe
    have hR : ∀ b : Bool, decide (v = ⟨b1, b2, b3, b4, b5, b6, b7⟩) = b → (if some v = some (⟨b1, b2, b3, b4, b5, b6, b7⟩ : EvS) then (t, (0 : Int)) else ([], 2)) = if b = true then (t, 0) else ([], 2) := fun b hb => by rw [← hb]; simp
    have hq := fun W => run_neq_ofB (run_eqEv W v ⟨b1, b2, b3, b4, b5, b6, b7⟩)
    clear ho
    generalize hb : decide (v = (⟨b1, b2, b3, b4, b5, b6, b7⟩ : EvS)) = b at *
    rw [hR b rfl]
    clear hR hb
    obtain ⟨a1, a2, a3, a4, a5, a6, a7⟩ := v
    simp only [evCs] at qe hq
    have B := Blk.new w 31 #[.int .i64 b1, .int .i64 b2, .string ⟨b3.toArray⟩, .string ⟨b4.toArray⟩, .string ⟨b5.toArray⟩, .int .i64 b6, .int .u32 (b7.toNat : Int)]
    have E := (Ext.refl w).alloc (Obj.cells #[.int .i64 b1, .int .i64 b2, .string ⟨b3.toArray⟩, .string ⟨b4.toArray⟩, .string ⟨b5.toArray⟩, .int .i64 b6, .int .u32 (b7.toNat : Int)] 31)
    generalize hW0 : w.alloc (Obj.cells #[.int .i64 b1, .int .i64 b2, .string ⟨b3.toArray⟩, .string ⟨b4.toArray⟩, .string ⟨b5.toArray⟩, .int .i64 b6, .int .u32 (b7.toNat : Int)] 31) = W0 at B E
    generalize hp : w.heap.size = p at B
    replace qt := qt W0 E
    replace hW0 := hide hW0
    replace hp := hide hp
    replace B := hide B
    replace E := hide E
    replace qt := hide qt
    replace qe := hide qe
    go_enter Tryz.func13, Tryz.ntmps13
    go_upto_region 1 with fail
    rw [hW0.out, hp.out]
    clear hW0 hp
    have c0 : W0.cell? ⟨p, 0, none⟩ = some (.int .i64 b1) := B.out.cell 0
    have c1 : W0.cell? ⟨p, 1, none⟩ = some (.int .i64 b2) := B.out.cell 1
    have c2 : W0.cell? ⟨p, 2, none⟩ = some (.string ⟨b3.toArray⟩) := B.out.cell 2
    have c3 : W0.cell? ⟨p, 3, none⟩ = some (.string ⟨b4.toArray⟩) := B.out.cell 3
    have c4 : W0.cell? ⟨p, 4, none⟩ = some (.string ⟨b5.toArray⟩) := B.out.cell 4
    have c5 : W0.cell? ⟨p, 5, none⟩ = some (.int .i64 b6) := B.out.cell 5
    have c6 : W0.cell? ⟨p, 6, none⟩ = some (.int .u32 (b7.toNat : Int)) := B.out.cell 6
    go_wp2_with fail
    refine qt.out.mono ?_
    rintro e1 W1 ⟨rfl, he⟩
    have E1 := E.out.trans he
    have q := qe.out W1 E1
    have B1 := B.out.ext he
    clear he qt E B c0 c1 c2 c3 c4 c5 c6
    replace E1 := hide E1
    replace q := hide q
    replace B1 := hide B1
    go_wp2_with fail
    refine q.out.mono ?_
    rintro e1 W2 ⟨rfl, he2⟩
    have E2 := E1.out.trans he2
    have B2 := B1.out.ext he2
    clear q he2 E1 B1
    have B3 := B2.alloc (Obj.cells #[.int .i64 a1, .int .i64 a2, .string ⟨a3.toArray⟩, .string ⟨a4.toArray⟩, .string ⟨a5.toArray⟩, .int .i64 a6, .int .u32 (a7.toNat : Int)] 31)
    have N := Blk.new W2 31 #[.int .i64 a1, .int .i64 a2, .string ⟨a3.toArray⟩, .string ⟨a4.toArray⟩, .string ⟨a5.toArray⟩, .int .i64 a6, .int .u32 (a7.toNat : Int)]
    have E3 := E2.alloc (Obj.cells #[.int .i64 a1, .int .i64 a2, .string ⟨a3.toArray⟩, .string ⟨a4.toArray⟩, .string ⟨a5.toArray⟩, .int .i64 a6, .int .u32 (a7.toNat : Int)] 31)
    generalize hW3 : (W2.alloc (Obj.cells #[.int .i64 a1, .int .i64 a2, .string ⟨a3.toArray⟩, .string ⟨a4.toArray⟩, .string ⟨a5.toArray⟩, .int .i64 a6, .int .u32 (a7.toNat : Int)] 31)) = W3 at B3 E3 N
    have c0 : W3.cell? ⟨p, 0, none⟩ = some (.int .i64 b1) := B3.cell 0
    have c1 : W3.cell? ⟨p, 1, none⟩ = some (.int .i64 b2) := B3.cell 1
    have c2 : W3.cell? ⟨p, 2, none⟩ = some (.string ⟨b3.toArray⟩) := B3.cell 2
    have c3 : W3.cell? ⟨p, 3, none⟩ = some (.string ⟨b4.toArray⟩) := B3.cell 3
    have c4 : W3.cell? ⟨p, 4, none⟩ = some (.string ⟨b5.toArray⟩) := B3.cell 4
    have c5 : W3.cell? ⟨p, 5, none⟩ = some (.int .i64 b6) := B3.cell 5
    have c6 : W3.cell? ⟨p, 6, none⟩ = some (.int .u32 (b7.toNat : Int)) := B3.cell 6
    have d0 : W3.cell? ⟨W2.heap.size, 0, none⟩ = some (.int .i64 a1) := N.cell 0
    have d1 : W3.cell? ⟨W2.heap.size, 1, none⟩ = some (.int .i64 a2) := N.cell 1
    have d2 : W3.cell? ⟨W2.heap.size, 2, none⟩ = some (.string ⟨a3.toArray⟩) := N.cell 2
    have d3 : W3.cell? ⟨W2.heap.size, 3, none⟩ = some (.string ⟨a4.toArray⟩) := N.cell 3
    have d4 : W3.cell? ⟨W2.heap.size, 4, none⟩ = some (.string ⟨a5.toArray⟩) := N.cell 4
    have d5 : W3.cell? ⟨W2.heap.size, 5, none⟩ = some (.int .i64 a6) := N.cell 5
    have d6 : W3.cell? ⟨W2.heap.size, 6, none⟩ = some (.int .u32 (a7.toNat : Int)) := N.cell 6
    clear B2 E2 N
    replace B3 := hide B3
    replace E3 := hide E3
    go_upto_region 3 with fail
    clear hW3
    cases b
    · go_wp2
      go_ret2
      exact ⟨rfl, E3.out⟩
    · go_wp2
      go_ret2
      exact ⟨rfl, E3.out⟩
end
section
open Go.RowKit Go.Maps
set_option linter.unusedVariables false
open Classical in
theorem nodup_le {α : Type} : ∀ {a b : List α}, a.Pairwise (· ≠ ·) → (∀ x ∈ a, x ∈ b) → a.length ≤ b.length
  | [], b, _, _ => Nat.zero_le _
  | x :: a, b, hp, hs => by
    have hp' := List.pairwise_cons.1 hp
    have h1 : a.length ≤ (b.erase x).length := nodup_le hp'.2 fun y hy => by
      have hne : y ≠ x := fun e => hp'.1 y hy e.symm
      exact (List.mem_erase_of_ne hne).2 (hs y (List.mem_cons_of_mem _ hy))
    rw [List.length_erase_of_mem (hs x (List.mem_cons_self ..))] at h1
    have h2 := List.length_pos_of_mem (hs x (List.mem_cons_self ..))
    simp only [List.length_cons]
    omega
section
variable {P : Program} {k e t : TypeId} {w w' : World} {b : Nat}
/-- Every entry of the map at block b: its key is that of an x of the list G, its element what f says at x. -/
def Memo {α : Type} (P : Program) (k e : TypeId) (key : α → Value) (G : List α) (f : α → Bool) (w : World) (b : Nat) : Prop :=
 ∃ D : DataW Unit, w.ownsMap P k (plainElem P e) b (Maps.size D) D ∧ ∀ l, Maps.has D l = true → ∃ x ∈ G, keyOf P k (key x) = some l ∧ ∀ z, D.atKey l z = .lit (.bool (f x))
variable {α : Type} {key : α → Value} {G : List α} {f : α → Bool}
theorem Memo.lt (h : Memo P k e key G f w b) : b < w.heap.size := by
 obtain ⟨D, h, _⟩ := h
 exact h.lt
theorem Memo.kept {row : Option Nat} (h : Memo P k e key G f w b) (hg : w.grownBy w' row) (hne : some b ≠ row) : Memo P k e key G f w' b := by
 obtain ⟨D, h, hh⟩ := h
 exact ⟨D, h.kept hg hne, hh⟩
theorem Memo.frame (h : Memo P k e key G f w b) (hb : w'.heap[b]? = w.heap[b]?) : Memo P k e key G f w' b := by
 obtain ⟨D, ⟨es, clock, h1, F, hs, hD⟩, hh⟩ := h
 exact ⟨D, ⟨es, clock, hb.trans h1, F, hs, hD⟩, hh⟩
theorem Memo.size (K : Keyed P k) {D : DataW Unit} (h : w.ownsMap P k (plainElem P e) b (Maps.size D) D) (hh : ∀ l, Maps.has D l = true → ∃ x ∈ G, keyOf P k (key x) = some l) : Maps.size D ≤ G.length := by
 obtain ⟨es, rfl, hp, hk⟩ := h.entries K
 have h1 : (es.map (·.1)).Pairwise (· ≠ ·) := by rw [List.pairwise_map]; exact hp
 have h2 : ∀ l ∈ es.map (·.1), l ∈ G.filterMap fun x => keyOf P k (key x) := fun l hl => by
  obtain ⟨p, hp', rfl⟩ := List.mem_map.1 hl
  have hs : p.1.sameKey p.1 = true := by
   have := hk p hp'
   cases h : p.1 <;> simp [h, WideAt.IsKeyLit, Lit.sameKey] at this ⊢
  obtain ⟨x, hx, hkx⟩ := hh p.1 (by rw [has_eq]; exact List.any_eq_true.2 ⟨p, hp', hs⟩)
  exact List.mem_filterMap.2 ⟨x, hx, hkx⟩
 have h3 := nodup_le h1 h2
 rw [List.length_map] at h3
 have h4 := List.length_filterMap_le (fun x => keyOf P k (key x)) G
 rw [size_eq]
 omega
end
open Go.RowKit Go.Maps
open Go.RowKit Go.Maps
theorem Sl.grown {α : Type} {E : Enc α} {w w' : World} {b : Nat} {a : Option Addr} {l : List α} (h : Sl E w (fun x => x < w.heap.size ∧ x ≠ b) a l) (hg : w.grownBy w' (some b)) : Sl E w' (fun x => x < w'.heap.size ∧ x ≠ b) a l :=
 (h.frame fun x hx => hg.block x hx.1 (fun e => hx.2 (Option.some.inj e))).mono fun x hx => ⟨Nat.lt_of_lt_of_le hx.1 hg.size, hx.2⟩
section
variable {p : List Atm} {l : List UInt32} {gp gl gk gf b : Nat} {ap al : Option Addr} {cp cl : Nat} {w w' : World}
end
open Go.RowKit Go.Maps
open Go.RowKit Go.Maps
end
section
open Go.RowKit Go.Sort
set_option linter.unusedVariables false
noncomputable instance (a b : Pfx) : Decidable (Cov a b) := Classical.propDecidable _
open Go.RowKit Go.Sort
end
section
open Go.RowKit Go.Sort
set_option linter.unusedVariables false
open Go.RowKit Go.Sort
open Go.RowKit Go.Sort
theorem ba_index0 (s : List UInt8) (x : UInt8) (t : List UInt8) (hs : s = x :: t) (W : World) : (Instr.index 9 (.string ⟨s.toArray⟩) (.int .i64 0)).run Tryz.prog W = .ok (.int .u8 (x.toNat : Int)) W := by
 subst hs
 have h2 : 0 < (ByteArray.mk (x :: t).toArray).size := by simp [ByteArray.size]
 go_simp
 rfl
open Go.RowKit Go.Sort
open Go.RowKit Go.Sort
open Go.RowKit Go.Sort
end
section
open Go.RowKit
/-- A path at an address in a world, all below its heap's end. -/
def Path (w : World) (a : Option Addr) (l : List Seg) : Prop := Sl ESeg w (· < w.heap.size) a l
theorem Path.ext {w w' : World} {a : Option Addr} {l : List Seg} (h : Path w a l) (he : Ext w w') : Path w' a l := Sl.ext h he
theorem Path.take {w : World} {a : Option Addr} {l : List Seg} (h : Path w a l) (n : Nat) : Path w a (l.take n) := Sl.take h n
set_option linter.unusedVariables false
end
section
open Go.RowKit Go.Sort
set_option linter.unusedVariables false
theorem nameCh_cases (c : UInt8) : ∃ b1 b2 b3 b4 b5 r : Bool, decide ((97 : Int) ≤ (c.toNat : Int)) = b1 ∧ decide ((c.toNat : Int) ≤ 122) = b2 ∧ decide ((48 : Int) ≤ (c.toNat : Int)) = b3 ∧ decide ((c.toNat : Int) ≤ 57) = b4 ∧ ((c.toNat : Int) == 45) = b5 ∧ nameCh c = r ∧ ((b1 && b2) || ((b3 && b4) || b5)) = r := by
 refine ⟨_, _, _, _, _, _, rfl, rfl, rfl, rfl, rfl, rfl, ?_⟩
 unfold nameCh runeOk
 rw [show decide ((97 : Int) ≤ (c.toNat : Int)) = decide (97 ≤ c.toNat) from decide_eq_decide.2 (by omega), show decide ((c.toNat : Int) ≤ 122) = decide (c.toNat ≤ 122) from decide_eq_decide.2 (by omega), show decide ((48 : Int) ≤ (c.toNat : Int)) = decide (48 ≤ c.toNat) from decide_eq_decide.2 (by omega), show decide ((c.toNat : Int) ≤ 57) = decide (c.toNat ≤ 57) from decide_eq_decide.2 (by omega)]
 rw [show ((c.toNat : Int) == 45) = decide (c.toNat = 45) by rw [Bool.eq_iff_iff, beq_iff_eq, decide_eq_true_eq]; omega]
theorem allN_succ (s : List UInt8) (k : Nat) (hk : k < s.length) : (s.take (k + 1)).all nameCh = ((s.take k).all nameCh && nameCh s[k]) := by
 rw [List.take_succ_eq_append_getElem hk, List.all_append, List.all_cons, List.all_nil, Bool.and_true]
set_option maxRecDepth 20000 in
set_option maxHeartbeats 2000000 in
theorem RName_any (s : List UInt8) (w : World) : Calls Tryz.prog 52 #[.string ⟨s.toArray⟩] w fun e w' => e = .returned (.bool (nameOk s)) ∧ w = w' := by
  have hz : (ByteArray.mk s.toArray).size = s.length := by simp [ByteArray.size]
  cases s with
  | nil =>
    go_enter Tryz.func52, Tryz.ntmps52
    go_wp2
    go_ret
    exact ⟨rfl, rfl⟩
  | cons x t =>
    have hix := ba_index0 (x :: t) x t rfl
    have hdef : nameOk (x :: t) = (decide ((x :: t).length ≤ 16) && (decide (97 ≤ x.toNat) && (x :: t).all nameCh)) := by
      unfold nameOk
      rw [decide_eq_true (p := 1 ≤ (x :: t).length) (by simp), Bool.true_and]
      rfl
    have hlen : 1 ≤ (x :: t).length := by simp
    have hhd : ∀ h : 0 < (x :: t).length, (x :: t)[0] = x := fun _ => rfl
    generalize hs : x :: t = s at *
    have e1 : decide ((s.length : Int) < 1) = false := decide_eq_false (by omega)
    by_cases h16 : 16 < s.length
    · have e2 : decide ((16 : Int) < (s.length : Int)) = true := decide_eq_true (by omega)
      have hr := hide (show nameOk s = false by rw [hdef, decide_eq_false (by omega), Bool.false_and])
      clear h16 hdef hs hhd
      go_enter Tryz.func52, Tryz.ntmps52
      go_wp2
      go_ret
      exact ⟨ret_bool hr.out.symm, rfl⟩
    have e2 : decide ((16 : Int) < (s.length : Int)) = false := decide_eq_false (by omega)
    rw [decide_eq_true (p := s.length ≤ 16) (by omega), Bool.true_and] at hdef
    by_cases h97 : x.toNat < 97
    · have e3 : decide ((x.toNat : Int) < 97) = true := decide_eq_true (by omega)
      have hr := hide (show nameOk s = false by rw [hdef, decide_eq_false (by omega), Bool.false_and])
      clear h16 hdef hs hhd h97
      go_enter Tryz.func52, Tryz.ntmps52
      go_wp2
      go_ret
      exact ⟨ret_bool hr.out.symm, rfl⟩
    have e3 : decide ((x.toNat : Int) < 97) = false := decide_eq_false (by omega)
    rw [decide_eq_true (p := 97 ≤ x.toNat) (by omega), Bool.true_and] at hdef
    by_cases h122 : 122 < x.toNat
    · have e4 : decide ((122 : Int) < (x.toNat : Int)) = true := decide_eq_true (by omega)
      have hr := hide (show nameOk s = false by
        rw [hdef, ← hs, List.all_cons]
        have : nameCh x = false := by unfold nameCh runeOk; simp; omega
        rw [this, Bool.false_and])
      clear h16 hdef hs hhd h97 h122
      go_enter Tryz.func52, Tryz.ntmps52
      go_wp2
      go_ret
      exact ⟨ret_bool hr.out.symm, rfl⟩
    have e4 : decide ((122 : Int) < (x.toNat : Int)) = false := decide_eq_false (by omega)
    have hle : s.length ≤ 16 := by omega
    clear hs hhd h16 h97 h122
    replace hdef := hide hdef
    go_enter Tryz.func52, Tryz.ntmps52
    go_wp2
    clear hix e1 e2 e3 e4
    go_loop [3] (fun i => ∃ k : Nat, k ≤ s.length ∧ i = .int .i64 k ∧ (s.take k).all nameCh = true) (fun i => s.length - (intOf i).toNat)
    case atStart => exact ⟨0, Nat.zero_le _, rfl, rfl⟩
    case round =>
      obtain ⟨k, hk, rfl, ha⟩ := hrel
      by_cases hlt : k < s.length
      · have e1 : (ByteArray.mk s.toArray)[k]'(by rw [hz]; exact hlt) = s[k] := rfl
        have hsu := allN_succ s k hlt
        rw [ha, Bool.true_and] at hsu
        have hbad : nameCh s[k] = false → nameOk s = false := fun h => by
          rw [hdef.out, List.all_eq_false]
          exact ⟨s[k], List.getElem_mem hlt, by rw [h]; decide⟩
        obtain ⟨b1, b2, b3, b4, b5, r, d1, d2, d3, d4, d5, d6, d7⟩ := nameCh_cases s[k]
        rw [d6] at hsu hbad
        clear d6 ha
        generalize s[k] = c at *
        replace hsu := hide hsu
        replace hbad := hide hbad
        cases b1 <;> cases b2 <;> cases b3 <;> cases b4 <;> cases b5 <;> subst d7 <;> first
          | (go_wp2; go_round; (case rel => exact ⟨k + 1, by omega, by go_num, hsu.out⟩); (case measure => simp [intOf]; omega))
          | (go_wp2; go_ret; exact ⟨ret_bool (hbad.out rfl).symm, rfl⟩)
      · obtain rfl : k = s.length := by omega
        have hr := hide (show nameOk s = true by rw [hdef.out]; rwa [List.take_length] at ha)
        clear ha
        go_wp2
        go_ret
        exact ⟨ret_bool hr.out.symm, rfl⟩
/-! ### functions over lists of numbers -/
end
section
open Go.RowKit
set_option linter.unusedVariables false
set_option linter.unusedSimpArgs false
theorem DConn_any (n : Int) (w : World) : Calls Tryz.prog 53 #[.int .i64 n] w fun e w' => e = .returned (.bool (connOk n)) ∧ w = w' := by
 by_cases h1 : 1 ≤ n
 ·by_cases h2 : n ≤ 64
  ·have hc : connOk n = true := decide_eq_true ⟨h1, h2⟩
   have b1 : decide (1 ≤ n) = true := decide_eq_true h1
   have b2 : decide (n ≤ 64) = true := decide_eq_true h2
   rw [hc]
   clear hc
   go_enter Tryz.func53, Tryz.ntmps53
   go_wp2
   go_ret
   exact ⟨rfl, rfl⟩
  ·have hc : connOk n = false := decide_eq_false fun h => h2 h.2
   have b1 : decide (1 ≤ n) = true := decide_eq_true h1
   have b2 : decide (n ≤ 64) = false := decide_eq_false h2
   rw [hc]
   clear hc
   go_enter Tryz.func53, Tryz.ntmps53
   go_wp2
   go_ret
   exact ⟨rfl, rfl⟩
 ·have hc : connOk n = false := decide_eq_false fun h => h1 h.1
  have b1 : decide (1 ≤ n) = false := decide_eq_false h1
  rw [hc]
  clear hc
  go_enter Tryz.func53, Tryz.ntmps53
  go_wp2
  go_ret
  exact ⟨rfl, rfl⟩
theorem DAdr_any (s : List UInt8) (w : World) : Calls Tryz.prog 73 #[.string ⟨s.toArray⟩] w fun e w' => e = .returned (.bool (decide (s.length = 4 ∨ s.length = 16))) ∧ w = w' := by
 by_cases h1 : s.length = 4
 ·have hc : decide (s.length = 4 ∨ s.length = 16) = true := decide_eq_true (.inl h1)
  rw [hc]
  clear hc
  go_enter Tryz.func73, Tryz.ntmps73
  go_wp2
  go_ret
  exact ⟨rfl, rfl⟩
 ·by_cases h2 : s.length = 16
  ·have hc : decide (s.length = 4 ∨ s.length = 16) = true := decide_eq_true (.inr h2)
   rw [hc]
   clear hc h1
   go_enter Tryz.func73, Tryz.ntmps73
   go_wp2
   go_ret
   exact ⟨rfl, rfl⟩
  ·have hc : decide (s.length = 4 ∨ s.length = 16) = false := decide_eq_false fun h => h.elim h1 h2
   rw [hc]
   clear hc
   have b1 : ((s.length : Int) == 4) = false := beq_eq_false_iff_ne.2 (by omega)
   have b2 : ((s.length : Int) == 16) = false := beq_eq_false_iff_ne.2 (by omega)
   go_enter Tryz.func73, Tryz.ntmps73
   go_wp2
   go_ret
   exact ⟨rfl, rfl⟩
theorem DNum35_any (n : Int) (h0 : 0 ≤ n) (h1 : n ≤ 9223372036854775807) (w : World) : Calls Tryz.prog 46 #[.int .i64 n] w fun e w' => e = .returned (.string ⟨(digS 10 n.toNat).toArray⟩) ∧ Ext w w' := by
 have q := RNumber_any 10 (by decide) (by decide) n.toNat (by omega) w
 have hw : IntKind.u64.wrap n = (n.toNat : Int) := by rw [IntKind.wrap_u64]; omega
 have hn : n = (n.toNat : Int) := by omega
 generalize digS 10 n.toNat = d at *
 generalize n.toNat = m at *
 subst hn
 clear h0 h1
 replace q := hide q
 go_enter Tryz.func46, Tryz.ntmps46
 go_wp2_with fail
 refine q.out.mono ?_
 rintro e W1 ⟨rfl, he⟩
 go_wp2
 go_ret
 exact ⟨rfl, he⟩
theorem DByt35_any (b : List UInt8) (hb : b.length ≤ 1048576) (w : World) : Calls Tryz.prog 47 #[.string ⟨b.toArray⟩] w fun e w' => e = .returned (.string ⟨(wordB b).toArray⟩) ∧ Ext w w' := by
  have q := DHex_any b hb w
  cases b with
  | nil =>
    clear q
    go_enter Tryz.func47, Tryz.ntmps47
    go_wp2
    go_ret
    exact ⟨rfl, Ext.refl _⟩
  | cons x r =>
    have hR : ∀ h W, hexS (x :: r) = h → Ext w W → (Ending.returned (.string ⟨h.toArray⟩) = Ending.returned (.string ⟨(wordB (x :: r)).toArray⟩) ∧ Ext w W) := fun h W hh he => ⟨by unfold wordB; rw [if_neg (by simp), hh], he⟩
    generalize hexS (x :: r) = hx at *
    replace q := hide q
    replace hR := hide hR
    go_enter Tryz.func47, Tryz.ntmps47
    go_wp2_with fail
    refine q.out.mono ?_
    rintro e w1 ⟨rfl, he⟩
    go_wp2
    go_ret
    exact hR.out _ _ rfl he
set_option maxRecDepth 20000 in
set_option maxHeartbeats 4000000 in
theorem DMay_any (e : EvS) (w : World) : Calls Tryz.prog 44 #[.agg (evCs e).toArray] w fun e' w' => e' = .returned (.bool (evOk e)) ∧ Ext w w' := by
  obtain ⟨kd, cn, ad, pr, by_, tk, dr⟩ := e
  have A := Blk.new w 31 #[.int .i64 kd, .int .i64 cn, .string ⟨ad.toArray⟩, .string ⟨pr.toArray⟩, .string ⟨by_.toArray⟩, .int .i64 tk, .int .u32 (dr.toNat : Int)]
  have E1 := (Ext.refl w).alloc (Obj.cells #[.int .i64 kd, .int .i64 cn, .string ⟨ad.toArray⟩, .string ⟨pr.toArray⟩, .string ⟨by_.toArray⟩, .int .i64 tk, .int .u32 (dr.toNat : Int)] 31)
  have hz : (w.alloc (Obj.cells #[.int .i64 kd, .int .i64 cn, .string ⟨ad.toArray⟩, .string ⟨pr.toArray⟩, .string ⟨by_.toArray⟩, .int .i64 tk, .int .u32 (dr.toNat : Int)] 31)).heap.size = w.heap.size + 1 := by simp
  generalize hV1 : w.alloc (Obj.cells #[.int .i64 kd, .int .i64 cn, .string ⟨ad.toArray⟩, .string ⟨pr.toArray⟩, .string ⟨by_.toArray⟩, .int .i64 tk, .int .u32 (dr.toNat : Int)] 31) = V1 at A E1 hz
  have B := Blk.new V1 31 #[.int .i64 kd, .int .i64 0, .string ⟨#[]⟩, .string ⟨#[]⟩, .string ⟨#[]⟩, .int .i64 0, .int .u32 0]
  have E2 := E1.alloc (Obj.cells #[.int .i64 kd, .int .i64 0, .string ⟨#[]⟩, .string ⟨#[]⟩, .string ⟨#[]⟩, .int .i64 0, .int .u32 0] 31)
  replace A := A.alloc (Obj.cells #[.int .i64 kd, .int .i64 0, .string ⟨#[]⟩, .string ⟨#[]⟩, .string ⟨#[]⟩, .int .i64 0, .int .u32 0] 31)
  rw [hz] at B
  generalize hV2 : V1.alloc (Obj.cells #[.int .i64 kd, .int .i64 0, .string ⟨#[]⟩, .string ⟨#[]⟩, .string ⟨#[]⟩, .int .i64 0, .int .u32 0] 31) = V2 at A B E2
  generalize hp : w.heap.size = p at A B
  clear E1 hz
  simp only [evCs]
  replace hV1 := hide hV1
  replace hV2 := hide hV2
  replace hp := hide hp
  replace A := hide A
  replace B := hide B
  replace E2 := hide E2
  go_enter Tryz.func44, Tryz.ntmps44
  go_upto_region 2 with fail
  try rw [hV1.out]
  try rw [hV2.out]
  try simp only [hp.out]
  have c0 : V2.cell? ⟨p, 0, none⟩ = some (.int .i64 kd) := A.out.cell 0
  go_upto_block 0 with fail
  clear hV1 hV2
  have hpw : w.heap.size ≤ p + 1 := by have := hp.out; omega
  go_cut [4] (fun s4 wx => ∃ (b : Bool) (e2 : EvS), s4 = .bool b ∧ Blk wx p 31 #[.int .i64 kd, .int .i64 cn, .string ⟨ad.toArray⟩, .string ⟨pr.toArray⟩, .string ⟨by_.toArray⟩, .int .i64 tk, .int .u32 (dr.toNat : Int)] ∧ Blk wx (p + 1) 31 (evCs e2).toArray ∧ Ext w wx ∧ evOk ⟨kd, cn, ad, pr, by_, tk, dr⟩ = (b && decide ((⟨kd, cn, ad, pr, by_, tk, dr⟩ : EvS) = e2)))
  case first =>
    have c1 : V2.cell? ⟨p, 1, none⟩ = some (.int .i64 cn) := A.out.cell 1
    have c2 : V2.cell? ⟨p, 2, none⟩ = some (.string ⟨ad.toArray⟩) := A.out.cell 2
    have c3 : V2.cell? ⟨p, 3, none⟩ = some (.string ⟨pr.toArray⟩) := A.out.cell 3
    have c4 : V2.cell? ⟨p, 4, none⟩ = some (.string ⟨by_.toArray⟩) := A.out.cell 4
    have c5 : V2.cell? ⟨p, 5, none⟩ = some (.int .i64 tk) := A.out.cell 5
    have c6 : V2.cell? ⟨p, 6, none⟩ = some (.int .u32 (dr.toNat : Int)) := A.out.cell 6
    have d1 : V2.cell? ⟨p + 1, 1, none⟩ = some (.int .i64 0) := B.out.cell 1
    have d2 : V2.cell? ⟨p + 1, 2, none⟩ = some (.string ⟨#[]⟩) := B.out.cell 2
    have d3 : V2.cell? ⟨p + 1, 3, none⟩ = some (.string ⟨#[]⟩) := B.out.cell 3
    have d4 : V2.cell? ⟨p + 1, 4, none⟩ = some (.string ⟨#[]⟩) := B.out.cell 4
    have d5 : V2.cell? ⟨p + 1, 5, none⟩ = some (.int .i64 0) := B.out.cell 5
    have d6 : V2.cell? ⟨p + 1, 6, none⟩ = some (.int .u32 0) := B.out.cell 6
    have fd := fun i => B.out.frozen i
    by_cases hk1 : kd = 1
    · subst hk1
      have hA : Blk ((V2.setCell ⟨p + 1, 1, none⟩ (.int .i64 cn)).setCell ⟨p + 1, 2, none⟩ (.string ⟨ad.toArray⟩)) p 31 #[.int .i64 1, .int .i64 cn, .string ⟨ad.toArray⟩, .string ⟨pr.toArray⟩, .string ⟨by_.toArray⟩, .int .i64 tk, .int .u32 (dr.toNat : Int)] := ((A.out.far (p := ⟨p + 1, 1, none⟩) (show p ≠ p + 1 by omega) (.int .i64 cn)).far (p := ⟨p + 1, 2, none⟩) (show p ≠ p + 1 by omega) (.string ⟨ad.toArray⟩))
      have hB : Blk ((V2.setCell ⟨p + 1, 1, none⟩ (.int .i64 cn)).setCell ⟨p + 1, 2, none⟩ (.string ⟨ad.toArray⟩)) (p + 1) 31 (evCs ⟨1, cn, ad, [], [], 0, 0⟩).toArray := ((B.out.set_ 1 (.int .i64 cn)).set_ 2 (.string ⟨ad.toArray⟩))
      have hE : Ext w ((V2.setCell ⟨p + 1, 1, none⟩ (.int .i64 cn)).setCell ⟨p + 1, 2, none⟩ (.string ⟨ad.toArray⟩)) := ((E2.out.setCell (p := ⟨p + 1, 1, none⟩) hpw (.int .i64 cn)).setCell (p := ⟨p + 1, 2, none⟩) hpw (.string ⟨ad.toArray⟩))
      have hok : evOk ⟨1, cn, ad, pr, by_, tk, dr⟩ = (decide ((⟨1, cn, ad, pr, by_, tk, dr⟩ : EvS) = ⟨1, cn, ad, [], [], 0, 0⟩) && (connOk cn && decide (ad.length = 4 ∨ ad.length = 16))) := rfl
      replace hA := hide hA
      replace hB := hide hB
      replace hE := hide hE
      replace hok := hide hok
      cases hc : connOk cn with
      | false =>
        have hcc := hide hc
        have q := DConn_any cn
        rw [hc] at q
        clear hc
        replace q := hide q
        go_wp2_with (first | (go_at_call 53; refine (q.out _).mono ?_; rintro e9 w9 ⟨rfl, rfl⟩))
        go_meet
        case rel => exact ⟨false, ⟨1, cn, ad, [], [], 0, 0⟩, rfl, hA.out, hB.out, hE.out, by rw [hok.out, hcc.out]; simp⟩
      | true =>
        have hcc := hide hc
        have q := DConn_any cn
        rw [hc] at q
        clear hc
        replace q := hide q
        go_wp2_with (first | (go_at_call 53; refine (q.out _).mono ?_; rintro e9 w9 ⟨rfl, rfl⟩) | (go_at_call 73; refine (DAdr_any _ _).mono ?_; rintro e9 w9 ⟨rfl, rfl⟩))
        go_meet
        case rel => exact ⟨decide (ad.length = 4 ∨ ad.length = 16), ⟨1, cn, ad, [], [], 0, 0⟩, by first | rfl | simp, hA.out, hB.out, hE.out, by rw [hok.out, hcc.out, Bool.true_and, Bool.and_comm]⟩
    have g1 : (kd == 1) = false := beq_eq_false_iff_ne.2 hk1
    have g1b : decide (kd = 1) = false := decide_eq_false hk1
    by_cases hk2 : kd = 2
    · subst hk2
      have hA : Blk ((V2.setCell ⟨p + 1, 1, none⟩ (.int .i64 cn)).setCell ⟨p + 1, 3, none⟩ (.string ⟨pr.toArray⟩)) p 31 #[.int .i64 2, .int .i64 cn, .string ⟨ad.toArray⟩, .string ⟨pr.toArray⟩, .string ⟨by_.toArray⟩, .int .i64 tk, .int .u32 (dr.toNat : Int)] := ((A.out.far (p := ⟨p + 1, 1, none⟩) (show p ≠ p + 1 by omega) (.int .i64 cn)).far (p := ⟨p + 1, 3, none⟩) (show p ≠ p + 1 by omega) (.string ⟨pr.toArray⟩))
      have hB : Blk ((V2.setCell ⟨p + 1, 1, none⟩ (.int .i64 cn)).setCell ⟨p + 1, 3, none⟩ (.string ⟨pr.toArray⟩)) (p + 1) 31 (evCs ⟨2, cn, [], pr, [], 0, 0⟩).toArray := ((B.out.set_ 1 (.int .i64 cn)).set_ 3 (.string ⟨pr.toArray⟩))
      have hE : Ext w ((V2.setCell ⟨p + 1, 1, none⟩ (.int .i64 cn)).setCell ⟨p + 1, 3, none⟩ (.string ⟨pr.toArray⟩)) := ((E2.out.setCell (p := ⟨p + 1, 1, none⟩) hpw (.int .i64 cn)).setCell (p := ⟨p + 1, 3, none⟩) hpw (.string ⟨pr.toArray⟩))
      have hok : evOk ⟨2, cn, ad, pr, by_, tk, dr⟩ = (decide ((⟨2, cn, ad, pr, by_, tk, dr⟩ : EvS) = ⟨2, cn, [], pr, [], 0, 0⟩) && (connOk cn && nameOk pr)) := rfl
      replace hA := hide hA
      replace hB := hide hB
      replace hE := hide hE
      replace hok := hide hok
      cases hc : connOk cn with
      | false =>
        have hcc := hide hc
        have q := DConn_any cn
        rw [hc] at q
        clear hc
        replace q := hide q
        go_wp2_with (first | (go_at_call 53; refine (q.out _).mono ?_; rintro e9 w9 ⟨rfl, rfl⟩))
        go_meet
        case rel => exact ⟨false, ⟨2, cn, [], pr, [], 0, 0⟩, rfl, hA.out, hB.out, hE.out, by rw [hok.out, hcc.out]; simp⟩
      | true =>
        have hcc := hide hc
        have q := DConn_any cn
        rw [hc] at q
        clear hc
        replace q := hide q
        go_wp2_with (first | (go_at_call 53; refine (q.out _).mono ?_; rintro e9 w9 ⟨rfl, rfl⟩) | (go_at_call 52; refine (RName_any _ _).mono ?_; rintro e9 w9 ⟨rfl, rfl⟩))
        go_meet
        case rel => exact ⟨nameOk pr, ⟨2, cn, [], pr, [], 0, 0⟩, by first | rfl | simp, hA.out, hB.out, hE.out, by rw [hok.out, hcc.out, Bool.true_and, Bool.and_comm]⟩
    have g2 : (kd == 2) = false := beq_eq_false_iff_ne.2 hk2
    have g2b : decide (kd = 2) = false := decide_eq_false hk2
    by_cases hk3 : kd = 3
    · subst hk3
      have hA : Blk (V2.setCell ⟨p + 1, 3, none⟩ (.string ⟨pr.toArray⟩)) p 31 #[.int .i64 3, .int .i64 cn, .string ⟨ad.toArray⟩, .string ⟨pr.toArray⟩, .string ⟨by_.toArray⟩, .int .i64 tk, .int .u32 (dr.toNat : Int)] := (A.out.far (p := ⟨p + 1, 3, none⟩) (show p ≠ p + 1 by omega) (.string ⟨pr.toArray⟩))
      have hB : Blk (V2.setCell ⟨p + 1, 3, none⟩ (.string ⟨pr.toArray⟩)) (p + 1) 31 (evCs ⟨3, 0, [], pr, [], 0, 0⟩).toArray := (B.out.set_ 3 (.string ⟨pr.toArray⟩))
      have hE : Ext w (V2.setCell ⟨p + 1, 3, none⟩ (.string ⟨pr.toArray⟩)) := (E2.out.setCell (p := ⟨p + 1, 3, none⟩) hpw (.string ⟨pr.toArray⟩))
      have hok : evOk ⟨3, cn, ad, pr, by_, tk, dr⟩ = (decide ((⟨3, cn, ad, pr, by_, tk, dr⟩ : EvS) = ⟨3, 0, [], pr, [], 0, 0⟩) && nameOk pr) := rfl
      replace hA := hide hA
      replace hB := hide hB
      replace hE := hide hE
      replace hok := hide hok
      go_wp2_with (first | (go_at_call 52; refine (RName_any _ _).mono ?_; rintro e9 w9 ⟨rfl, rfl⟩))
      go_meet
      case rel => exact ⟨nameOk pr, ⟨3, 0, [], pr, [], 0, 0⟩, rfl, hA.out, hB.out, hE.out, by rw [hok.out, Bool.and_comm]⟩
    have g3 : (kd == 3) = false := beq_eq_false_iff_ne.2 hk3
    have g3b : decide (kd = 3) = false := decide_eq_false hk3
    by_cases hk4 : kd = 4
    · subst hk4
      have hA : Blk ((V2.setCell ⟨p + 1, 1, none⟩ (.int .i64 cn)).setCell ⟨p + 1, 4, none⟩ (.string ⟨by_.toArray⟩)) p 31 #[.int .i64 4, .int .i64 cn, .string ⟨ad.toArray⟩, .string ⟨pr.toArray⟩, .string ⟨by_.toArray⟩, .int .i64 tk, .int .u32 (dr.toNat : Int)] := ((A.out.far (p := ⟨p + 1, 1, none⟩) (show p ≠ p + 1 by omega) (.int .i64 cn)).far (p := ⟨p + 1, 4, none⟩) (show p ≠ p + 1 by omega) (.string ⟨by_.toArray⟩))
      have hB : Blk ((V2.setCell ⟨p + 1, 1, none⟩ (.int .i64 cn)).setCell ⟨p + 1, 4, none⟩ (.string ⟨by_.toArray⟩)) (p + 1) 31 (evCs ⟨4, cn, [], [], by_, 0, 0⟩).toArray := ((B.out.set_ 1 (.int .i64 cn)).set_ 4 (.string ⟨by_.toArray⟩))
      have hE : Ext w ((V2.setCell ⟨p + 1, 1, none⟩ (.int .i64 cn)).setCell ⟨p + 1, 4, none⟩ (.string ⟨by_.toArray⟩)) := ((E2.out.setCell (p := ⟨p + 1, 1, none⟩) hpw (.int .i64 cn)).setCell (p := ⟨p + 1, 4, none⟩) hpw (.string ⟨by_.toArray⟩))
      have hok : evOk ⟨4, cn, ad, pr, by_, tk, dr⟩ = (decide ((⟨4, cn, ad, pr, by_, tk, dr⟩ : EvS) = ⟨4, cn, [], [], by_, 0, 0⟩) && (connOk cn && decide (by_.length ≤ 16384))) := rfl
      replace hA := hide hA
      replace hB := hide hB
      replace hE := hide hE
      replace hok := hide hok
      cases hc : connOk cn with
      | false =>
        have hcc := hide hc
        have q := DConn_any cn
        rw [hc] at q
        clear hc
        replace q := hide q
        go_wp2_with (first | (go_at_call 53; refine (q.out _).mono ?_; rintro e9 w9 ⟨rfl, rfl⟩))
        go_meet
        case rel => exact ⟨false, ⟨4, cn, [], [], by_, 0, 0⟩, rfl, hA.out, hB.out, hE.out, by rw [hok.out, hcc.out]; simp⟩
      | true =>
        have hcc := hide hc
        have q := DConn_any cn
        rw [hc] at q
        clear hc
        replace q := hide q
        by_cases hl : by_.length ≤ 16384
        · have b1 : decide ((by_.length : Int) ≤ 16384) = true := decide_eq_true (by omega)
          have hll := hide hl
          clear hl
          go_wp2_with (first | (go_at_call 53; refine (q.out _).mono ?_; rintro e9 w9 ⟨rfl, rfl⟩))
          go_meet
          case rel => exact ⟨true, ⟨4, cn, [], [], by_, 0, 0⟩, rfl, hA.out, hB.out, hE.out, by rw [hok.out, hcc.out, decide_eq_true hll.out]; simp⟩
        · have b1 : decide ((by_.length : Int) ≤ 16384) = false := decide_eq_false (by omega)
          have hll := hide hl
          clear hl
          go_wp2_with (first | (go_at_call 53; refine (q.out _).mono ?_; rintro e9 w9 ⟨rfl, rfl⟩))
          go_meet
          case rel => exact ⟨false, ⟨4, cn, [], [], by_, 0, 0⟩, rfl, hA.out, hB.out, hE.out, by rw [hok.out, hcc.out, decide_eq_false hll.out]; simp⟩
    have g4 : (kd == 4) = false := beq_eq_false_iff_ne.2 hk4
    have g4b : decide (kd = 4) = false := decide_eq_false hk4
    by_cases hk5 : kd = 5
    · subst hk5
      have hA : Blk (V2.setCell ⟨p + 1, 1, none⟩ (.int .i64 cn)) p 31 #[.int .i64 5, .int .i64 cn, .string ⟨ad.toArray⟩, .string ⟨pr.toArray⟩, .string ⟨by_.toArray⟩, .int .i64 tk, .int .u32 (dr.toNat : Int)] := (A.out.far (p := ⟨p + 1, 1, none⟩) (show p ≠ p + 1 by omega) (.int .i64 cn))
      have hB : Blk (V2.setCell ⟨p + 1, 1, none⟩ (.int .i64 cn)) (p + 1) 31 (evCs ⟨5, cn, [], [], [], 0, 0⟩).toArray := (B.out.set_ 1 (.int .i64 cn))
      have hE : Ext w (V2.setCell ⟨p + 1, 1, none⟩ (.int .i64 cn)) := (E2.out.setCell (p := ⟨p + 1, 1, none⟩) hpw (.int .i64 cn))
      have hok : evOk ⟨5, cn, ad, pr, by_, tk, dr⟩ = (decide ((⟨5, cn, ad, pr, by_, tk, dr⟩ : EvS) = ⟨5, cn, [], [], [], 0, 0⟩) && connOk cn) := rfl
      replace hA := hide hA
      replace hB := hide hB
      replace hE := hide hE
      replace hok := hide hok
      go_wp2_with (first | (go_at_call 53; refine (DConn_any _ _).mono ?_; rintro e9 w9 ⟨rfl, rfl⟩))
      go_meet
      case rel => exact ⟨connOk cn, ⟨5, cn, [], [], [], 0, 0⟩, rfl, hA.out, hB.out, hE.out, by rw [hok.out, Bool.and_comm]⟩
    have g5 : (kd == 5) = false := beq_eq_false_iff_ne.2 hk5
    have g5b : decide (kd = 5) = false := decide_eq_false hk5
    by_cases hk6 : kd = 6
    · subst hk6
      have hA : Blk (V2.setCell ⟨p + 1, 5, none⟩ (.int .i64 tk)) p 31 #[.int .i64 6, .int .i64 cn, .string ⟨ad.toArray⟩, .string ⟨pr.toArray⟩, .string ⟨by_.toArray⟩, .int .i64 tk, .int .u32 (dr.toNat : Int)] := (A.out.far (p := ⟨p + 1, 5, none⟩) (show p ≠ p + 1 by omega) (.int .i64 tk))
      have hB : Blk (V2.setCell ⟨p + 1, 5, none⟩ (.int .i64 tk)) (p + 1) 31 (evCs ⟨6, 0, [], [], [], tk, 0⟩).toArray := (B.out.set_ 5 (.int .i64 tk))
      have hE : Ext w (V2.setCell ⟨p + 1, 5, none⟩ (.int .i64 tk)) := (E2.out.setCell (p := ⟨p + 1, 5, none⟩) hpw (.int .i64 tk))
      have hok : evOk ⟨6, cn, ad, pr, by_, tk, dr⟩ = (decide ((⟨6, cn, ad, pr, by_, tk, dr⟩ : EvS) = ⟨6, 0, [], [], [], tk, 0⟩) && decide (1 ≤ tk ∧ tk ≤ 4096)) := rfl
      replace hA := hide hA
      replace hB := hide hB
      replace hE := hide hE
      replace hok := hide hok
      by_cases h1 : 1 ≤ tk
      · have b1 : decide (1 ≤ tk) = true := decide_eq_true h1
        by_cases h2 : tk ≤ 4096
        · have b2 : decide (tk ≤ 4096) = true := decide_eq_true h2
          have hc : decide (1 ≤ tk ∧ tk ≤ 4096) = true := decide_eq_true ⟨h1, h2⟩
          clear h1 h2
          replace hc := hide hc
          go_wp2_with fail
          go_meet
          case rel => exact ⟨true, ⟨6, 0, [], [], [], tk, 0⟩, rfl, hA.out, hB.out, hE.out, by rw [hok.out, hc.out]; simp⟩
        · have b2 : decide (tk ≤ 4096) = false := decide_eq_false h2
          have hc : decide (1 ≤ tk ∧ tk ≤ 4096) = false := decide_eq_false fun h => h2 h.2
          clear h1 h2
          replace hc := hide hc
          go_wp2_with fail
          go_meet
          case rel => exact ⟨false, ⟨6, 0, [], [], [], tk, 0⟩, rfl, hA.out, hB.out, hE.out, by rw [hok.out, hc.out]; simp⟩
      · have b1 : decide (1 ≤ tk) = false := decide_eq_false h1
        have hc : decide (1 ≤ tk ∧ tk ≤ 4096) = false := decide_eq_false fun h => h1 h.1
        clear h1
        replace hc := hide hc
        go_wp2_with fail
        go_meet
        case rel => exact ⟨false, ⟨6, 0, [], [], [], tk, 0⟩, rfl, hA.out, hB.out, hE.out, by rw [hok.out, hc.out]; simp⟩
    have g6 : (kd == 6) = false := beq_eq_false_iff_ne.2 hk6
    have g6b : decide (kd = 6) = false := decide_eq_false hk6
    by_cases hk7 : kd = 7
    · subst hk7
      have hA : Blk (V2.setCell ⟨p + 1, 4, none⟩ (.string ⟨by_.toArray⟩)) p 31 #[.int .i64 7, .int .i64 cn, .string ⟨ad.toArray⟩, .string ⟨pr.toArray⟩, .string ⟨by_.toArray⟩, .int .i64 tk, .int .u32 (dr.toNat : Int)] := (A.out.far (p := ⟨p + 1, 4, none⟩) (show p ≠ p + 1 by omega) (.string ⟨by_.toArray⟩))
      have hB : Blk (V2.setCell ⟨p + 1, 4, none⟩ (.string ⟨by_.toArray⟩)) (p + 1) 31 (evCs ⟨7, 0, [], [], by_, 0, 0⟩).toArray := (B.out.set_ 4 (.string ⟨by_.toArray⟩))
      have hE : Ext w (V2.setCell ⟨p + 1, 4, none⟩ (.string ⟨by_.toArray⟩)) := (E2.out.setCell (p := ⟨p + 1, 4, none⟩) hpw (.string ⟨by_.toArray⟩))
      have hok : evOk ⟨7, cn, ad, pr, by_, tk, dr⟩ = (decide ((⟨7, cn, ad, pr, by_, tk, dr⟩ : EvS) = ⟨7, 0, [], [], by_, 0, 0⟩) && decide (by_.length ≤ 65536)) := rfl
      replace hA := hide hA
      replace hB := hide hB
      replace hE := hide hE
      replace hok := hide hok
      by_cases hl : by_.length ≤ 65536
      · have b1 : decide ((by_.length : Int) ≤ 65536) = true := decide_eq_true (by omega)
        have hll := hide hl
        clear hl
        go_wp2_with fail
        go_meet
        case rel => exact ⟨true, ⟨7, 0, [], [], by_, 0, 0⟩, rfl, hA.out, hB.out, hE.out, by rw [hok.out, decide_eq_true hll.out]; simp⟩
      · have b1 : decide ((by_.length : Int) ≤ 65536) = false := decide_eq_false (by omega)
        have hll := hide hl
        clear hl
        go_wp2_with fail
        go_meet
        case rel => exact ⟨false, ⟨7, 0, [], [], by_, 0, 0⟩, rfl, hA.out, hB.out, hE.out, by rw [hok.out, decide_eq_false hll.out]; simp⟩
    have g7 : (kd == 7) = false := beq_eq_false_iff_ne.2 hk7
    have g7b : decide (kd = 7) = false := decide_eq_false hk7
    by_cases hk8 : kd = 8
    · subst hk8
      have hA : Blk (V2.setCell ⟨p + 1, 4, none⟩ (.string ⟨by_.toArray⟩)) p 31 #[.int .i64 8, .int .i64 cn, .string ⟨ad.toArray⟩, .string ⟨pr.toArray⟩, .string ⟨by_.toArray⟩, .int .i64 tk, .int .u32 (dr.toNat : Int)] := (A.out.far (p := ⟨p + 1, 4, none⟩) (show p ≠ p + 1 by omega) (.string ⟨by_.toArray⟩))
      have hB : Blk (V2.setCell ⟨p + 1, 4, none⟩ (.string ⟨by_.toArray⟩)) (p + 1) 31 (evCs ⟨8, 0, [], [], by_, 0, 0⟩).toArray := (B.out.set_ 4 (.string ⟨by_.toArray⟩))
      have hE : Ext w (V2.setCell ⟨p + 1, 4, none⟩ (.string ⟨by_.toArray⟩)) := (E2.out.setCell (p := ⟨p + 1, 4, none⟩) hpw (.string ⟨by_.toArray⟩))
      have hok : evOk ⟨8, cn, ad, pr, by_, tk, dr⟩ = (decide ((⟨8, cn, ad, pr, by_, tk, dr⟩ : EvS) = ⟨8, 0, [], [], by_, 0, 0⟩) && decide (by_.length ≤ 16384)) := rfl
      replace hA := hide hA
      replace hB := hide hB
      replace hE := hide hE
      replace hok := hide hok
      by_cases hl : by_.length ≤ 16384
      · have b1 : decide ((by_.length : Int) ≤ 16384) = true := decide_eq_true (by omega)
        have hll := hide hl
        clear hl
        go_wp2_with fail
        go_meet
        case rel => exact ⟨true, ⟨8, 0, [], [], by_, 0, 0⟩, rfl, hA.out, hB.out, hE.out, by rw [hok.out, decide_eq_true hll.out]; simp⟩
      · have b1 : decide ((by_.length : Int) ≤ 16384) = false := decide_eq_false (by omega)
        have hll := hide hl
        clear hl
        go_wp2_with fail
        go_meet
        case rel => exact ⟨false, ⟨8, 0, [], [], by_, 0, 0⟩, rfl, hA.out, hB.out, hE.out, by rw [hok.out, decide_eq_false hll.out]; simp⟩
    have g8 : (kd == 8) = false := beq_eq_false_iff_ne.2 hk8
    have g8b : decide (kd = 8) = false := decide_eq_false hk8
    by_cases hk9 : kd = 9
    · subst hk9
      have hA : Blk (V2.setCell ⟨p + 1, 6, none⟩ (.int .u32 (dr.toNat : Int))) p 31 #[.int .i64 9, .int .i64 cn, .string ⟨ad.toArray⟩, .string ⟨pr.toArray⟩, .string ⟨by_.toArray⟩, .int .i64 tk, .int .u32 (dr.toNat : Int)] := (A.out.far (p := ⟨p + 1, 6, none⟩) (show p ≠ p + 1 by omega) (.int .u32 (dr.toNat : Int)))
      have hB : Blk (V2.setCell ⟨p + 1, 6, none⟩ (.int .u32 (dr.toNat : Int))) (p + 1) 31 (evCs ⟨9, 0, [], [], [], 0, dr⟩).toArray := (B.out.set_ 6 (.int .u32 (dr.toNat : Int)))
      have hE : Ext w (V2.setCell ⟨p + 1, 6, none⟩ (.int .u32 (dr.toNat : Int))) := (E2.out.setCell (p := ⟨p + 1, 6, none⟩) hpw (.int .u32 (dr.toNat : Int)))
      have hok : evOk ⟨9, cn, ad, pr, by_, tk, dr⟩ = decide ((⟨9, cn, ad, pr, by_, tk, dr⟩ : EvS) = ⟨9, 0, [], [], [], 0, dr⟩) := rfl
      replace hA := hide hA
      replace hB := hide hB
      replace hE := hide hE
      replace hok := hide hok
      go_wp2_with fail
      go_meet
      case rel => exact ⟨true, ⟨9, 0, [], [], [], 0, dr⟩, rfl, hA.out, hB.out, hE.out, by rw [hok.out, Bool.true_and]⟩
    have g9 : (kd == 9) = false := beq_eq_false_iff_ne.2 hk9
    have g9b : decide (kd = 9) = false := decide_eq_false hk9
    by_cases hk10 : kd = 10
    · subst hk10
      have hA : Blk V2 p 31 #[.int .i64 10, .int .i64 cn, .string ⟨ad.toArray⟩, .string ⟨pr.toArray⟩, .string ⟨by_.toArray⟩, .int .i64 tk, .int .u32 (dr.toNat : Int)] := A.out
      have hB : Blk V2 (p + 1) 31 (evCs ⟨10, 0, [], [], [], 0, 0⟩).toArray := B.out
      have hE : Ext w V2 := E2.out
      have hok : evOk ⟨10, cn, ad, pr, by_, tk, dr⟩ = decide ((⟨10, cn, ad, pr, by_, tk, dr⟩ : EvS) = ⟨10, 0, [], [], [], 0, 0⟩) := rfl
      replace hA := hide hA
      replace hB := hide hB
      replace hE := hide hE
      replace hok := hide hok
      go_wp2_with fail
      go_meet
      case rel => exact ⟨true, ⟨10, 0, [], [], [], 0, 0⟩, rfl, hA.out, hB.out, hE.out, by rw [hok.out, Bool.true_and]⟩
    have g10 : (kd == 10) = false := beq_eq_false_iff_ne.2 hk10
    have g10b : decide (kd = 10) = false := decide_eq_false hk10
    have hr : evOk ⟨kd, cn, ad, pr, by_, tk, dr⟩ = false := by simp [evOk, hk1, hk2, hk3, hk4, hk5, hk6, hk7, hk8, hk9, hk10]
    clear hk1 hk2 hk3 hk4 hk5 hk6 hk7 hk8 hk9 hk10
    replace hr := hide hr
    go_wp2_with fail
    go_meet
    case rel => exact ⟨false, ⟨kd, 0, [], [], [], 0, 0⟩, rfl, A.out, B.out, E2.out, by rw [hr.out]; rfl⟩
  case rest =>
    clear A B E2 c0
    obtain ⟨b, e2, rfl, A, B, E, hr⟩ := hcut
    have hq := fun W => run_eqEv W ⟨kd, cn, ad, pr, by_, tk, dr⟩ e2
    generalize decide ((⟨kd, cn, ad, pr, by_, tk, dr⟩ : EvS) = e2) = t at *
    obtain ⟨kd2, cn2, ad2, pr2, by2, tk2, dr2⟩ := e2
    simp only [evCs] at B hq
    have c0 : wc.cell? ⟨p, 0, none⟩ = some (.int .i64 kd) := A.cell 0
    have c1 : wc.cell? ⟨p, 1, none⟩ = some (.int .i64 cn) := A.cell 1
    have c2 : wc.cell? ⟨p, 2, none⟩ = some (.string ⟨ad.toArray⟩) := A.cell 2
    have c3 : wc.cell? ⟨p, 3, none⟩ = some (.string ⟨pr.toArray⟩) := A.cell 3
    have c4 : wc.cell? ⟨p, 4, none⟩ = some (.string ⟨by_.toArray⟩) := A.cell 4
    have c5 : wc.cell? ⟨p, 5, none⟩ = some (.int .i64 tk) := A.cell 5
    have c6 : wc.cell? ⟨p, 6, none⟩ = some (.int .u32 (dr.toNat : Int)) := A.cell 6
    have d0 : wc.cell? ⟨p + 1, 0, none⟩ = some (.int .i64 kd2) := B.cell 0
    have d1 : wc.cell? ⟨p + 1, 1, none⟩ = some (.int .i64 cn2) := B.cell 1
    have d2 : wc.cell? ⟨p + 1, 2, none⟩ = some (.string ⟨ad2.toArray⟩) := B.cell 2
    have d3 : wc.cell? ⟨p + 1, 3, none⟩ = some (.string ⟨pr2.toArray⟩) := B.cell 3
    have d4 : wc.cell? ⟨p + 1, 4, none⟩ = some (.string ⟨by2.toArray⟩) := B.cell 4
    have d5 : wc.cell? ⟨p + 1, 5, none⟩ = some (.int .i64 tk2) := B.cell 5
    have d6 : wc.cell? ⟨p + 1, 6, none⟩ = some (.int .u32 (dr2.toNat : Int)) := B.cell 6
    clear A B
    replace E := hide E
    replace hr := hide hr
    cases b
    · go_wp2
      go_ret
      exact ⟨by rw [hr.out]; rfl, E.out⟩
    · go_wp2
      go_ret
      exact ⟨by rw [hr.out, Bool.true_and]; rfl, E.out⟩
end
section
open Go.RowKit
set_option linter.unusedVariables false
set_option linter.unusedSimpArgs false
/-- An event that may be is small. -/
structure EvSm (e : EvS) : Prop where
  conn : 0 ≤ e.conn ∧ e.conn ≤ 64
  addr : e.addr.length ≤ 16
  peer : e.peer.length ≤ 16
  bytes : e.bytes.length ≤ 65536
  ticks : 0 ≤ e.ticks ∧ e.ticks ≤ 4096
theorem EvSm.mk' {e : EvS} (k c : Int) (a p b : List UInt8) (t : Int) (d : UInt32) (he : e = ⟨k, c, a, p, b, t, d⟩) (h2 : 0 ≤ c ∧ c ≤ 64) (h3 : a.length ≤ 16) (h4 : p.length ≤ 16) (h5 : b.length ≤ 65536) (h6 : 0 ≤ t ∧ t ≤ 4096) : EvSm e := by
 subst he
 exact ⟨h2, h3, h4, h5, h6⟩
theorem evOk_len {s : List UInt8} (h : nameOk s = true) : s.length ≤ 16 := by
 unfold nameOk at h
 simp only [Bool.and_eq_true, decide_eq_true_eq] at h
 exact h.2.1
theorem evOk_sm {e : EvS} (h : evOk e = true) : EvSm e := by
 unfold evOk connOk at h
 by_cases k1 : e.kind = 1
 ·rw [if_pos k1] at h
  simp only [Bool.and_eq_true, decide_eq_true_eq] at h
  obtain ⟨he, hc, ha⟩ := h
  exact EvSm.mk' _ _ _ _ _ _ _ he ⟨by omega, by omega⟩ (by rcases ha with h | h <;> omega) (by simp) (by simp) (by simp)
 rw [if_neg k1] at h
 by_cases k2 : e.kind = 2
 ·rw [if_pos k2] at h
  simp only [Bool.and_eq_true, decide_eq_true_eq] at h
  obtain ⟨he, hc, ha⟩ := h
  exact EvSm.mk' _ _ _ _ _ _ _ he ⟨by omega, by omega⟩ (by simp) (evOk_len ha) (by simp) (by simp)
 rw [if_neg k2] at h
 by_cases k3 : e.kind = 3
 ·rw [if_pos k3] at h
  simp only [Bool.and_eq_true, decide_eq_true_eq] at h
  obtain ⟨he, ha⟩ := h
  exact EvSm.mk' _ _ _ _ _ _ _ he (by decide) (by simp) (evOk_len ha) (by simp) (by simp)
 rw [if_neg k3] at h
 by_cases k4 : e.kind = 4
 ·rw [if_pos k4] at h
  simp only [Bool.and_eq_true, decide_eq_true_eq] at h
  obtain ⟨he, hc, ha⟩ := h
  exact EvSm.mk' _ _ _ _ _ _ _ he ⟨by omega, by omega⟩ (by simp) (by simp) (by omega) (by simp)
 rw [if_neg k4] at h
 by_cases k5 : e.kind = 5
 ·rw [if_pos k5] at h
  simp only [Bool.and_eq_true, decide_eq_true_eq] at h
  obtain ⟨he, hc⟩ := h
  exact EvSm.mk' _ _ _ _ _ _ _ he ⟨by omega, by omega⟩ (by simp) (by simp) (by simp) (by simp)
 rw [if_neg k5] at h
 by_cases k6 : e.kind = 6
 ·rw [if_pos k6] at h
  simp only [Bool.and_eq_true, decide_eq_true_eq] at h
  obtain ⟨he, ht⟩ := h
  exact EvSm.mk' _ _ _ _ _ _ _ he (by decide) (by simp) (by simp) (by simp) (⟨by omega, by omega⟩)
 rw [if_neg k6] at h
 by_cases k7 : e.kind = 7
 ·rw [if_pos k7] at h
  simp only [Bool.and_eq_true, decide_eq_true_eq] at h
  obtain ⟨he, hb⟩ := h
  exact EvSm.mk' _ _ _ _ _ _ _ he (by decide) (by simp) (by simp) (hb) (by simp)
 rw [if_neg k7] at h
 by_cases k8 : e.kind = 8
 ·rw [if_pos k8] at h
  simp only [Bool.and_eq_true, decide_eq_true_eq] at h
  obtain ⟨he, hb⟩ := h
  exact EvSm.mk' _ _ _ _ _ _ _ he (by decide) (by simp) (by simp) (by omega) (by simp)
 rw [if_neg k8] at h
 by_cases k9 : e.kind = 9
 ·rw [if_pos k9] at h
  simp only [Bool.and_eq_true, decide_eq_true_eq] at h
  have he := h
  exact EvSm.mk' _ _ _ _ _ _ _ he (by decide) (by simp) (by simp) (by simp) (by simp)
 rw [if_neg k9] at h
 by_cases k10 : e.kind = 10
 ·rw [if_pos k10] at h
  simp only [Bool.and_eq_true, decide_eq_true_eq] at h
  have he := h
  exact EvSm.mk' _ _ _ _ _ _ _ he (by decide) (by simp) (by simp) (by simp) (by simp)
 rw [if_neg k10] at h
 cases h
set_option maxRecDepth 20000 in
set_option maxHeartbeats 8000000 in
theorem DLine_any (e : EvS) (w : World) : Calls Tryz.prog 21 #[.agg (evCs e).toArray] w fun e' w' => e' = .returned (.tuple #[.string ⟨(evT e).1.toArray⟩, .int .i64 (evT e).2]) ∧ Ext w w' := by
  have hR : ∀ (bs : ByteArray) W, evOk e = true → bs = ⟨(evW e).toArray⟩ → Ext w W → (Ending.returned (.tuple #[.string bs, .int .i64 0]) = Ending.returned (.tuple #[.string ⟨(evT e).1.toArray⟩, .int .i64 (evT e).2]) ∧ Ext w W) := fun bs W h1 h2 he => ⟨by unfold evT; rw [if_pos h1, h2], he⟩
  have hN : ∀ W, evOk e = false → Ext w W → (Ending.returned (.tuple #[.string ⟨#[]⟩, .int .i64 2]) = Ending.returned (.tuple #[.string ⟨(evT e).1.toArray⟩, .int .i64 (evT e).2]) ∧ Ext w W) := fun W h1 he => ⟨by unfold evT; rw [if_neg (by rw [h1]; decide)], he⟩
  have qm := fun W => DMay_any e W
  generalize hQ : (fun e' w' => e' = Ending.returned (.tuple #[.string ⟨(evT e).1.toArray⟩, .int .i64 (evT e).2]) ∧ Ext w w') = Post
  replace hR : ∀ (bs : ByteArray) W, evOk e = true → bs = ⟨(evW e).toArray⟩ → Ext w W → Post (.returned (.tuple #[.string bs, .int .i64 0])) W := by rw [← hQ]; exact hR
  replace hN : ∀ W, evOk e = false → Ext w W → Post (.returned (.tuple #[.string ⟨#[]⟩, .int .i64 2])) W := by rw [← hQ]; exact hN
  clear hQ
  have hsm := fun h : evOk e = true => evOk_sm h
  obtain ⟨kd, cn, ad, pr, by_, tk, dr⟩ := e
  have A := Blk.new w 31 #[.int .i64 kd, .int .i64 cn, .string ⟨ad.toArray⟩, .string ⟨pr.toArray⟩, .string ⟨by_.toArray⟩, .int .i64 tk, .int .u32 (dr.toNat : Int)]
  have E1 := (Ext.refl w).alloc (Obj.cells #[.int .i64 kd, .int .i64 cn, .string ⟨ad.toArray⟩, .string ⟨pr.toArray⟩, .string ⟨by_.toArray⟩, .int .i64 tk, .int .u32 (dr.toNat : Int)] 31)
  generalize hV1 : w.alloc (Obj.cells #[.int .i64 kd, .int .i64 cn, .string ⟨ad.toArray⟩, .string ⟨pr.toArray⟩, .string ⟨by_.toArray⟩, .int .i64 tk, .int .u32 (dr.toNat : Int)] 31) = V1 at A E1
  generalize hp : w.heap.size = p at A
  simp only [evCs] at qm ⊢
  replace hV1 := hide hV1
  replace hp := hide hp
  replace A := hide A
  replace E1 := hide E1
  replace qm := hide qm
  replace hR := hide hR
  replace hN := hide hN
  replace hsm := hide hsm
  go_enter Tryz.func21, Tryz.ntmps21
  go_upto_region 1 with fail
  rw [hV1.out]
  simp only [hp.out]
  have c0 : V1.cell? ⟨p, 0, none⟩ = some (.int .i64 kd) := A.out.cell 0
  have c1 : V1.cell? ⟨p, 1, none⟩ = some (.int .i64 cn) := A.out.cell 1
  have c2 : V1.cell? ⟨p, 2, none⟩ = some (.string ⟨ad.toArray⟩) := A.out.cell 2
  have c3 : V1.cell? ⟨p, 3, none⟩ = some (.string ⟨pr.toArray⟩) := A.out.cell 3
  have c4 : V1.cell? ⟨p, 4, none⟩ = some (.string ⟨by_.toArray⟩) := A.out.cell 4
  have c5 : V1.cell? ⟨p, 5, none⟩ = some (.int .i64 tk) := A.out.cell 5
  have c6 : V1.cell? ⟨p, 6, none⟩ = some (.int .u32 (dr.toNat : Int)) := A.out.cell 6
  clear hV1 hp
  cases hok : evOk ⟨kd, cn, ad, pr, by_, tk, dr⟩ with
  | false =>
    have q := qm.out V1
    rw [hok] at q
    have hN2 := fun W => hN.out W hok
    clear hok hR hN qm hsm
    replace q := hide q
    replace hN2 := hide hN2
    go_wp2_with fail
    refine q.out.mono ?_
    rintro e1 W2 ⟨rfl, he⟩
    go_wp2
    try go_ret2
    exact hN2.out _ (E1.out.trans he)
  | true =>
    have q := qm.out V1
    rw [hok] at q
    have hR2 := fun bs W => hR.out bs W hok
    obtain ⟨s1, s2, s3, s4, s5⟩ := hsm.out hok
    dsimp only at s1 s2 s3 s4 s5
    have hkd : kd ≠ 1 → kd ≠ 2 → kd ≠ 3 → kd ≠ 4 → kd ≠ 5 → kd ≠ 6 → kd ≠ 7 → kd ≠ 8 → kd ≠ 9 → kd = 10 := fun a1 a2 a3 a4 a5 a6 a7 a8 a9 => by
      rcases Classical.em (kd = 10) with h | h
      · exact h
      · have : evOk ⟨kd, cn, ad, pr, by_, tk, dr⟩ = false := by simp [evOk, a1, a2, a3, a4, a5, a6, a7, a8, a9, h]
        rw [hok] at this; cases this
    clear hok hR hN qm hsm
    replace q := hide q
    replace hR2 := hide hR2
    replace s1 := hide s1
    replace s2 := hide s2
    replace s3 := hide s3
    replace s4 := hide s4
    replace s5 := hide s5
    replace hkd := hide hkd
    go_wp2_with fail
    refine q.out.mono ?_
    rintro e1 W2 ⟨rfl, he⟩
    have E2 := E1.out.trans he
    have A2 := A.out.ext he
    clear he q E1 A c0 c1 c2 c3 c4 c5 c6
    have c0 : W2.cell? ⟨p, 0, none⟩ = some (.int .i64 kd) := A2.cell 0
    go_upto_block 0 with fail

    by_cases hk1 : kd = 1
    · subst hk1
      clear hkd
      have c2 : W2.cell? ⟨p, 2, none⟩ = some (.string ⟨ad.toArray⟩) := A2.cell 2
      have q := RAddrText_any ad (by have := s2.out; omega) W2
      have hal := addrT_len (a := ad)
      obtain ⟨a, ec, hat⟩ : ∃ a ec, addrT ad = (a, ec) := ⟨_, _, rfl⟩
      rw [hat] at q hal
      dsimp only at hal
      replace q := hide q
      replace hat := hide hat
      go_wp2_with fail
      refine q.out.mono ?_
      rintro e3 W3 ⟨rfl, he3⟩
      have E3 := E2.trans he3
      have A3 := A2.ext he3
      clear c0 c2 q E2 A2 he3
      have c1 : W3.cell? ⟨p, 1, none⟩ = some (.int .i64 cn) := A3.cell 1
      have q := DNum35_any cn s1.out.1 (by have := s1.out; omega) W3
      have hdl : (digS 10 cn.toNat).length ≤ 10 := dig10 (by have := s1.out; omega)
      obtain ⟨d, hd⟩ : ∃ d, digS 10 cn.toNat = d := ⟨_, rfl⟩
      rw [hd] at q hdl
      have z0 : ¬ 9223372036854775807 < 3 + d.length := by omega
      have z1 : ¬ 9223372036854775807 < 3 + d.length + 1 := by omega
      have z2 : ¬ 9223372036854775807 < 3 + d.length + 1 + a.length := by omega
      replace q := hide q
      replace hd := hide hd
      replace E3 := hide E3
      replace hal := hide hal
      replace hdl := hide hdl
      go_wp2_with fail
      refine q.out.mono ?_
      rintro e4 W4 ⟨rfl, he4⟩
      have E4 := hide (E3.out.trans he4)
      clear q he4
      go_wp2
      try go_ret2
      exact hR2.out _ _ (by apply ByteArray.ext; simp [evW, evWs, Lib.join, hd.out, hat.out]) E4.out
    have g1 : (kd == 1) = false := beq_eq_false_iff_ne.2 hk1
    have g1b : decide (kd = 1) = false := decide_eq_false hk1
    by_cases hk2 : kd = 2
    · subst hk2
      clear hkd
      have c1 : W2.cell? ⟨p, 1, none⟩ = some (.int .i64 cn) := A2.cell 1
      have c3 : W2.cell? ⟨p, 3, none⟩ = some (.string ⟨pr.toArray⟩) := A2.cell 3
      have qn := fun W => DNum35_any cn s1.out.1 (by have := s1.out; omega) W
      have hdl : (digS 10 cn.toNat).length ≤ 10 := dig10 (by have := s1.out; omega)
      obtain ⟨d, hd⟩ : ∃ d, digS 10 cn.toNat = d := ⟨_, rfl⟩
      rw [hd] at qn hdl
      have hpl := s3.out
      have z0 : ¬ 9223372036854775807 < 3 + d.length := by omega
      have z1 : ¬ 9223372036854775807 < 3 + d.length + 1 := by omega
      have z2 : ¬ 9223372036854775807 < 3 + d.length + 1 + pr.length := by omega
      replace qn := hide qn
      replace hd := hide hd
      replace hdl := hide hdl
      replace hpl := hide hpl
      go_upto_region 8 with fail
      go_region_with (go_at_call 46; refine (qn.out _).mono ?_; rintro e3 W3 ⟨rfl, he3⟩; have c3b := he3.cell c3; have E3 := hide ((E2.drew).trans he3); clear he3)
      all_goals go_wp2
      all_goals try go_ret2
      all_goals exact hR2.out _ _ (by apply ByteArray.ext; simp [evW, evWs, Lib.join, hd.out]) E3.out
    have g2 : (kd == 2) = false := beq_eq_false_iff_ne.2 hk2
    have g2b : decide (kd = 2) = false := decide_eq_false hk2
    by_cases hk3 : kd = 3
    · subst hk3
      clear hkd
      have c3 : W2.cell? ⟨p, 3, none⟩ = some (.string ⟨pr.toArray⟩) := A2.cell 3
      have hpl := s3.out
      have z0 : ¬ 9223372036854775807 < 7 + pr.length := by omega
      replace E2 := hide E2
      replace hpl := hide hpl
      go_wp2_with fail
      try go_ret2
      exact hR2.out _ _ (by apply ByteArray.ext; simp [evW, evWs, Lib.join, List.append_assoc]) E2.out
    have g3 : (kd == 3) = false := beq_eq_false_iff_ne.2 hk3
    have g3b : decide (kd = 3) = false := decide_eq_false hk3
    by_cases hk4 : kd = 4
    · subst hk4
      clear hkd
      have c1 : W2.cell? ⟨p, 1, none⟩ = some (.int .i64 cn) := A2.cell 1
      have c4 : W2.cell? ⟨p, 4, none⟩ = some (.string ⟨by_.toArray⟩) := A2.cell 4
      have qn := fun W => DNum35_any cn s1.out.1 (by have := s1.out; omega) W
      have hdl : (digS 10 cn.toNat).length ≤ 10 := dig10 (by have := s1.out; omega)
      obtain ⟨d, hd⟩ : ∃ d, digS 10 cn.toNat = d := ⟨_, rfl⟩
      rw [hd] at qn hdl
      have qb := fun W => DByt35_any by_ (by have := s4.out; omega) W
      have hwl := wordB_len by_
      obtain ⟨wd, hwd⟩ : ∃ wd, wordB by_ = wd := ⟨_, rfl⟩
      rw [hwd] at qb hwl
      have hbl := s4.out
      have z0 : ¬ 9223372036854775807 < 5 + d.length := by omega
      have z1 : ¬ 9223372036854775807 < 5 + d.length + 1 := by omega
      have z2 : ¬ 9223372036854775807 < 5 + d.length + 1 + wd.length := by omega
      replace qn := hide qn
      replace hd := hide hd
      replace hdl := hide hdl
      replace qb := hide qb
      replace hwd := hide hwd
      replace hwl := hide hwl
      replace hbl := hide hbl
      go_upto_region 12 with fail
      go_region_with (first | (go_at_call 46; refine (qn.out _).mono ?_; rintro e3 W3 ⟨rfl, he3⟩; have c4b := he3.cell c4; have E3 := hide ((E2.drew).trans he3); clear he3) | (go_at_call 47; refine (qb.out _).mono ?_; rintro e4 W4 ⟨rfl, he4⟩; have E4 := hide (E3.out.trans he4); clear he4))
      all_goals go_wp2
      all_goals try go_ret2
      all_goals exact hR2.out _ _ (by apply ByteArray.ext; simp [evW, evWs, Lib.join, hd.out, hwd.out]) E4.out
    have g4 : (kd == 4) = false := beq_eq_false_iff_ne.2 hk4
    have g4b : decide (kd = 4) = false := decide_eq_false hk4
    by_cases hk5 : kd = 5
    · subst hk5
      clear hkd
      have c1 : W2.cell? ⟨p, 1, none⟩ = some (.int .i64 cn) := A2.cell 1
      have q := DNum35_any cn s1.out.1 (by have := s1.out; omega) W2
      have hdl : (digS 10 cn.toNat).length ≤ 10 := dig10 (by have := s1.out; omega)
      obtain ⟨d, hd⟩ : ∃ d, digS 10 cn.toNat = d := ⟨_, rfl⟩
      rw [hd] at q hdl
      have z0 : ¬ 9223372036854775807 < 6 + d.length := by omega
      replace q := hide q
      replace hd := hide hd
      replace hdl := hide hdl
      replace E2 := hide E2
      go_wp2_with fail
      refine q.out.mono ?_
      rintro e4 W4 ⟨rfl, he4⟩
      have E4 := hide (E2.out.trans he4)
      clear q he4
      go_wp2
      try go_ret2
      exact hR2.out _ _ (by apply ByteArray.ext; simp [evW, evWs, Lib.join, hd.out]) E4.out
    have g5 : (kd == 5) = false := beq_eq_false_iff_ne.2 hk5
    have g5b : decide (kd = 5) = false := decide_eq_false hk5
    by_cases hk6 : kd = 6
    · subst hk6
      clear hkd
      have c5 : W2.cell? ⟨p, 5, none⟩ = some (.int .i64 tk) := A2.cell 5
      have q := DNum35_any tk s5.out.1 (by have := s5.out; omega) W2
      have hdl : (digS 10 tk.toNat).length ≤ 10 := dig10 (by have := s5.out; omega)
      obtain ⟨d, hd⟩ : ∃ d, digS 10 tk.toNat = d := ⟨_, rfl⟩
      rw [hd] at q hdl
      have z0 : ¬ 9223372036854775807 < 5 + d.length := by omega
      replace q := hide q
      replace hd := hide hd
      replace hdl := hide hdl
      replace E2 := hide E2
      go_wp2_with fail
      refine q.out.mono ?_
      rintro e4 W4 ⟨rfl, he4⟩
      have E4 := hide (E2.out.trans he4)
      clear q he4
      go_wp2
      try go_ret2
      exact hR2.out _ _ (by apply ByteArray.ext; simp [evW, evWs, Lib.join, hd.out]) E4.out
    have g6 : (kd == 6) = false := beq_eq_false_iff_ne.2 hk6
    have g6b : decide (kd = 6) = false := decide_eq_false hk6
    by_cases hk7 : kd = 7
    · subst hk7
      clear hkd
      have c4 : W2.cell? ⟨p, 4, none⟩ = some (.string ⟨by_.toArray⟩) := A2.cell 4
      have q := DByt35_any by_ (by have := s4.out; omega) W2
      have hwl := wordB_len by_
      obtain ⟨wd, hwd⟩ : ∃ wd, wordB by_ = wd := ⟨_, rfl⟩
      rw [hwd] at q hwl
      have hbl := s4.out
      have z0 : ¬ 9223372036854775807 < 5 + wd.length := by omega
      replace q := hide q
      replace hwd := hide hwd
      replace hwl := hide hwl
      replace hbl := hide hbl
      replace E2 := hide E2
      go_wp2_with fail
      refine q.out.mono ?_
      rintro e4 W4 ⟨rfl, he4⟩
      have E4 := hide (E2.out.trans he4)
      clear q he4
      go_wp2
      try go_ret2
      exact hR2.out _ _ (by apply ByteArray.ext; simp [evW, evWs, Lib.join, hwd.out]) E4.out
    have g7 : (kd == 7) = false := beq_eq_false_iff_ne.2 hk7
    have g7b : decide (kd = 7) = false := decide_eq_false hk7
    by_cases hk8 : kd = 8
    · subst hk8
      clear hkd
      have c4 : W2.cell? ⟨p, 4, none⟩ = some (.string ⟨by_.toArray⟩) := A2.cell 4
      have q := DByt35_any by_ (by have := s4.out; omega) W2
      have hwl := wordB_len by_
      obtain ⟨wd, hwd⟩ : ∃ wd, wordB by_ = wd := ⟨_, rfl⟩
      rw [hwd] at q hwl
      have hbl := s4.out
      have z0 : ¬ 9223372036854775807 < 4 + wd.length := by omega
      replace q := hide q
      replace hwd := hide hwd
      replace hwl := hide hwl
      replace hbl := hide hbl
      replace E2 := hide E2
      go_wp2_with fail
      refine q.out.mono ?_
      rintro e4 W4 ⟨rfl, he4⟩
      have E4 := hide (E2.out.trans he4)
      clear q he4
      go_wp2
      try go_ret2
      exact hR2.out _ _ (by apply ByteArray.ext; simp [evW, evWs, Lib.join, hwd.out]) E4.out
    have g8 : (kd == 8) = false := beq_eq_false_iff_ne.2 hk8
    have g8b : decide (kd = 8) = false := decide_eq_false hk8
    by_cases hk9 : kd = 9
    · subst hk9
      clear hkd
      have c6 : W2.cell? ⟨p, 6, none⟩ = some (.int .u32 (dr.toNat : Int)) := A2.cell 6
      have hdrl := dr.toNat_lt
      have hw : IntKind.i64.wrap (dr.toNat : Int) = (dr.toNat : Int) := by rw [IntKind.wrap_i64]; omega
      have q := DNum35_any (dr.toNat : Int) (by omega) (by omega) W2
      rw [Int.toNat_natCast] at q
      have hdl : (digS 10 dr.toNat).length ≤ 10 := dig10 (by omega)
      obtain ⟨d, hd⟩ : ∃ d, digS 10 dr.toNat = d := ⟨_, rfl⟩
      clear hdrl
      rw [hd] at q hdl
      have z0 : ¬ 9223372036854775807 < 5 + d.length := by omega
      replace q := hide q
      replace hd := hide hd
      replace hdl := hide hdl
      replace E2 := hide E2
      go_wp2_with fail
      refine q.out.mono ?_
      rintro e4 W4 ⟨rfl, he4⟩
      have E4 := hide (E2.out.trans he4)
      clear q he4
      go_wp2
      try go_ret2
      exact hR2.out _ _ (by apply ByteArray.ext; simp [evW, evWs, Lib.join, hd.out]) E4.out
    have g9 : (kd == 9) = false := beq_eq_false_iff_ne.2 hk9
    have g9b : decide (kd = 9) = false := decide_eq_false hk9
    obtain rfl := hkd.out hk1 hk2 hk3 hk4 hk5 hk6 hk7 hk8 hk9
    clear hkd hk1 hk2 hk3 hk4 hk5 hk6 hk7 hk8 hk9
    replace E2 := hide E2
    go_wp2_with fail
    try go_ret2
    exact hR2.out _ _ (by apply ByteArray.ext; simp [evW, evWs, Lib.join]) E2.out
end
end Go.Proofs.YtkinghadgmbhbaaGreatDoor
