/- Walks: a replacer made and used once: strings.NewReplacer, Replace. -/
import Derived.Test.YtmhmcdpadmimlaaGreatDoorDD
import Derived.Test.YtmhmcdpadmimlaaGreatDoorPG
import Derived.Test.YtmhmcdpadmimlaaGreatDoorQ6
import Derived.Deep.RegionHeld3
import Derived.Laws.NewBlocks
namespace Go.Proofs.YtmhmcdpadmimlaaGreatDoor
open Go.RowKit
set_option linter.unusedVariables false

theorem Tbl.grown {w w' : World} {h : Nat} {f : Nat → Nat} {row : Option Nat} (t : Tbl w h f) (hg : w.grownBy w' row) (hn : some h ≠ row) : Tbl w' h f := fun j hj => by
  obtain ⟨h1, h2⟩ := t j hj
  have hlt : h < w.heap.size := World.block_lt_of_cell? w _ h1
  have hb := hg.block h hlt hn
  exact ⟨(World.cell?_of_block (a := ⟨h, j, none⟩) hb).trans h1, (by unfold World.frozen?; rw [hb]; unfold World.frozen? at h2; exact h2)⟩
theorem grown_of_ext {w w' : World} (h : Ext w w') (row : Option Nat) : w.grownBy w' row := ⟨h.os, h.tape, h.output, h.size, fun k hk _ => h.block k hk⟩
theorem grown_trans {a b c : World} {row : Option Nat} (h : a.grownBy b row) (k : b.grownBy c row) : a.grownBy c row :=
  ⟨k.os.trans h.os, k.tape.trans h.tape, k.output.trans h.output, Nat.le_trans h.size k.size, fun i hi hn => (k.block i (Nat.lt_of_lt_of_le hi h.size) hn).trans (h.block i hi hn)⟩
theorem grown_put {a b : World} {g : Nat} (h : a.grownBy b (some g)) (o : Nat) (u : Value) : a.grownBy (b.setCell ⟨g, o, none⟩ u) (some g) :=
  grown_trans h ⟨rfl, rfl, rfl, by simp [World.setCell], fun k _ hk => Below.heap_setCell _ _ _ _ (show k ≠ g from fun e => hk (by rw [e]))⟩
theorem grown_draw {a b : World} {row : Option Nat} (h : a.grownBy b row) : a.grownBy b.drew row := ⟨h.os, h.tape, h.output, h.size, h.block⟩
set_option maxRecDepth 100000 in
set_option maxHeartbeats 1000000 in
theorem buildOnce_any (g s c : Nat) (x y z : Int) (w : World) (hR : Blk w g 102 #[.int .u32 x, .int .i32 y, .int .u32 z, .nilIface, .slice (some ⟨s, 0, none⟩) 4 c]) (hs : St4 w s) :
    Calls Tryz.prog 50 #[.pointer (some ⟨g, 0, none⟩)] w fun e w' => e = .returned (.tuple #[]) ∧ ∃ h, w.grownBy w' (some g) ∧ w.heap.size ≤ h ∧ h < w'.heap.size ∧ Tbl w' h dashN ∧ Blk w' g 102 #[.int .u32 x, .int .i32 y, .int .u32 z, .iface 140 (.pointer (some ⟨h, 0, none⟩)), .slice none 0 0] := by
  have q := build_any g s c _ _ _ w hR hs
  have hgl := hR.lt
  replace q := hide q
  replace hR := hide hR
  replace hs := hide hs
  go_enter Tryz.func50, Tryz.ntmps50
  go_wp2_with fail
  refine q.out.mono ?_
  rintro e w1 ⟨h, rfl, hE, hh, hhl, hT⟩
  have R1 := hR.out.ext hE
  have r3 : w1.cell? ⟨g, 3, none⟩ = some .nilIface := R1.cell 3
  have r4 : w1.cell? ⟨g, 4, none⟩ = some (.slice (some ⟨s, 0, none⟩) 4 c) := R1.cell 4
  have rf := fun i => R1.frozen i
  have hne : (some h : Option Nat) ≠ some g := fun e => by injection e with e; omega
  have hG := grown_put (grown_put (grown_of_ext hE (some g)) 3 (.iface 140 (.pointer (some ⟨h, 0, none⟩)))) 4 (.slice none 0 0)
  have hT2 := (hT.grown (grown_put (grown_of_ext (Ext.refl w1) (some g)) 3 (.iface 140 (.pointer (some ⟨h, 0, none⟩)))) hne).grown (grown_put (grown_of_ext (Ext.refl _) (some g)) 4 (.slice none 0 0)) hne
  have hB2 : Blk ((w1.setCell ⟨g, 3, none⟩ (.iface 140 (.pointer (some ⟨h, 0, none⟩)))).setCell ⟨g, 4, none⟩ (.slice none 0 0)) g 102 #[.int .u32 x, .int .i32 y, .int .u32 z, .iface 140 (.pointer (some ⟨h, 0, none⟩)), .slice none 0 0] := by
    simpa using (R1.set_ 3 (.iface 140 (.pointer (some ⟨h, 0, none⟩)))).set_ 4 (.slice none 0 0)
  have hsz : h < ((w1.setCell ⟨g, 3, none⟩ (.iface 140 (.pointer (some ⟨h, 0, none⟩)))).setCell ⟨g, 4, none⟩ (.slice none 0 0)).heap.size := by simpa [World.setCell] using hhl
  clear R1 hT hE q hR hs
  replace hG := hide hG
  replace hT2 := hide hT2
  replace hB2 := hide hB2
  replace hsz := hide hsz
  replace hne := hide hne
  go_wp2
  go_end0
  exact ⟨rfl, h, hG.out, hh, hsz.out, hT2.out, hB2.out⟩
set_option maxRecDepth 100000 in
set_option maxHeartbeats 1600000 in
theorem doSlow_any (g s c : Nat) (z : Int) (w : World) (hR : Blk w g 102 #[.int .u32 0, .int .i32 0, .int .u32 z, .nilIface, .slice (some ⟨s, 0, none⟩) 4 c]) (hs : St4 w s) :
    Calls Tryz.prog 65 #[.pointer (some ⟨g, 0, none⟩), .func (.func 50) #[.pointer (some ⟨g, 0, none⟩)] #[]] w fun e w' => e = .returned (.tuple #[]) ∧ ∃ h, w.grownBy w' (some g) ∧ w.heap.size ≤ h ∧ h < w'.heap.size ∧ Tbl w' h dashN ∧ Blk w' g 102 #[.int .u32 1, .int .i32 0, .int .u32 z, .iface 140 (.pointer (some ⟨h, 0, none⟩)), .slice none 0 0] := by
  have hgs : g ≠ s := by
    intro e
    subst e
    have h1 := hR.cell 0
    rw [hs.c0] at h1
    simp at h1
  have hnot : ∀ (x : Bool) (w : World), (Op.unary .not (.bool x)).run Tryz.prog w = .ok (.bool (!x)) w := fun _ _ => rfl
  have c0 : w.cell? ⟨g, 0, none⟩ = some (.int .u32 0) := hR.cell 0
  have c1 : w.cell? ⟨g, 1, none⟩ = some (.int .i32 0) := hR.cell 1
  have cf := fun i => hR.frozen i
  have hR1 : Blk (w.setCell ⟨g, 1, none⟩ (.int .i32 1)) g 102 #[.int .u32 0, .int .i32 1, .int .u32 z, .nilIface, .slice (some ⟨s, 0, none⟩) 4 c] := by simpa using hR.set_ 1 (.int .i32 1)
  have hs1 := hs.far (p := ⟨g, 1, none⟩) (Ne.symm hgs) (.int .i32 1)
  have hg1 := grown_put (grown_of_ext (Ext.refl w) (some g)) 1 (.int .i32 1)
  have d0 : (w.setCell ⟨g, 1, none⟩ (.int .i32 1)).cell? ⟨g, 0, none⟩ = some (.int .u32 0) := hR1.cell 0
  have hsz1 : (w.setCell ⟨g, 1, none⟩ (.int .i32 1)).heap.size = w.heap.size := by simp [World.setCell]
  replace hR := hide hR
  replace hs := hide hs
  replace hR1 := hide hR1
  replace hs1 := hide hs1
  replace hg1 := hide hg1
  replace hgs := hide hgs
  replace hsz1 := hide hsz1
  go_enter_defers Tryz.func65, Tryz.ntmps65
  go_wp2_with (go_at_call 78; refine (once_lock ⟨g, 1, none⟩ _ c1 (cf 1)).mono ?_; rintro e w' ⟨rfl, rfl⟩)
  refine (once_load g 0 0 _ d0).mono ?_
  rintro e w_ ⟨rfl, rfl⟩
  go_wp2_with fail
  refine (buildOnce_any g s c 0 1 z _ hR1.out hs1.out).mono ?_
  rintro e w2 ⟨rfl, h, hG, hh, hhl, hT, hB⟩
  rw [hsz1.out] at hh
  have hne : (some h : Option Nat) ≠ some g := fun e => by injection e with e; have := hR.out.lt; omega
  have hG2 := grown_put (grown_draw (grown_put (grown_trans hg1.out hG) 0 (.int .u32 1))) 1 (.int .i32 0)
  clear c0 c1 cf d0 hR1 hs1 hg1
  replace hG := hide hG
  replace hT := hide hT
  replace hB := hide hB
  replace hne := hide hne
  go_wp2
  refine leaves_cons (f := 80) (args := #[.pointer (some ⟨g, 0, none⟩), .bool true]) (by simp) (by simp [go_sem]) ?_
  refine (once_store ⟨g, 0, none⟩ (.int .u32 0) .returning _ (hB.out.cell 0) (hB.out.frozen 0)).mono ?_
  rintro e u' w'' ⟨rfl, rfl, rfl⟩
  have hB3 : Blk (w2.drew.setCell ⟨g, 0, none⟩ (.int .u32 1)) g 102 #[.int .u32 1, .int .i32 1, .int .u32 z, .iface 140 (.pointer (some ⟨h, 0, none⟩)), .slice none 0 0] := by simpa using hB.out.drew.set_ 0 (.int .u32 1)
  refine leaves_cons (f := 79) (args := #[.pointer (some ⟨g, 1, none⟩)]) (by simp [settle]) (by simp [go_sem]) ?_
  refine (once_unlock ⟨g, 1, none⟩ _ _ (hB3.cell 1) (hB3.frozen 1)).mono ?_
  rintro e u' w'' ⟨rfl, rfl, rfl⟩
  have hB4 : Blk ((w2.drew.setCell ⟨g, 0, none⟩ (.int .u32 1)).setCell ⟨g, 1, none⟩ (.int .i32 0)) g 102 #[.int .u32 1, .int .i32 0, .int .u32 z, .iface 140 (.pointer (some ⟨h, 0, none⟩)), .slice none 0 0] := by simpa using hB3.set_ 1 (.int .i32 0)
  have hT4 := (hT.out.grown (grown_put (grown_draw (grown_of_ext (Ext.refl w2) (some g))) 0 (.int .u32 1)) hne.out).grown (grown_put (grown_of_ext (Ext.refl _) (some g)) 1 (.int .i32 0)) hne.out
  have hhl4 : h < ((w2.drew.setCell ⟨g, 0, none⟩ (.int .u32 1)).setCell ⟨g, 1, none⟩ (.int .i32 0)).heap.size := by simpa [World.setCell] using hhl
  refine ⟨_, (by simp [results, Tryz.results65] : (results _ _).run _ _ = .ok (.tuple #[]) _), rfl, h, hG2, hh, hhl4, hT4, hB4⟩
theorem Do_any (g s c : Nat) (z : Int) (w : World) (hR : Blk w g 102 #[.int .u32 0, .int .i32 0, .int .u32 z, .nilIface, .slice (some ⟨s, 0, none⟩) 4 c]) (hs : St4 w s) :
    Calls Tryz.prog 49 #[.pointer (some ⟨g, 0, none⟩), .func (.func 50) #[.pointer (some ⟨g, 0, none⟩)] #[]] w fun e w' => e = .returned (.tuple #[]) ∧ ∃ h, w.grownBy w' (some g) ∧ w.heap.size ≤ h ∧ h < w'.heap.size ∧ Tbl w' h dashN ∧ Blk w' g 102 #[.int .u32 1, .int .i32 0, .int .u32 z, .iface 140 (.pointer (some ⟨h, 0, none⟩)), .slice none 0 0] := by
  have q := doSlow_any g s c z w hR hs
  have c0 : w.cell? ⟨g, 0, none⟩ = some (.int .u32 0) := hR.cell 0
  have hnot : ∀ (x : Bool) (w : World), (Op.unary .not (.bool x)).run Tryz.prog w = .ok (.bool (!x)) w := fun _ _ => rfl
  replace q := hide q
  replace hR := hide hR
  replace hs := hide hs
  go_enter Tryz.func49, Tryz.ntmps49
  go_wp2_with fail
  refine (once_load g 0 0 _ c0).mono ?_
  rintro e w_ ⟨rfl, rfl⟩
  go_wp2_with fail
  refine q.out.mono ?_
  rintro e w2 ⟨rfl, hq⟩
  replace hq := hide hq
  go_wp2
  go_end0
  exact ⟨rfl, hq.out⟩
theorem Own.formNeD {α : Type} {E : Enc α} {e : TypeId} {w : World} {B : Nat} {v : Value} {l : List α} (h : Own E e w B v l) (hl : l ≠ []) : ∃ g c, v = .slice (some ⟨g, 0, none⟩) l.length c ∧ B ≤ g ∧ g < w.heap.size := by
  obtain ⟨xs, h1, _⟩ := h
  rcases h1.2 with ⟨_, h0⟩ | ⟨g, cap, cur, rfl, hb, hh, _⟩
  · exact absurd (List.eq_nil_of_length_eq_zero h0) hl
  · exact ⟨g, cap, rfl, hb, (Array.getElem?_eq_some_iff.1 hh).1⟩
def NewRepP (w : World) (e : Ending) (w' : World) : Prop := ∃ g s d, e = .returned (.pointer (some ⟨g, 0, none⟩)) ∧ Ext w w' ∧ w.heap.size ≤ g ∧ Blk w' g 102 #[.int .u32 0, .int .i32 0, .int .u32 0, .nilIface, .slice (some ⟨s, 0, none⟩) 4 d] ∧ St4 w' s
set_option maxRecDepth 20000 in
set_option maxHeartbeats 1000000 in
theorem NewReplacer_any (b c : Nat) (w : World) (hs : St4 w b) :
    Calls Tryz.prog 37 #[.slice (some ⟨b, 0, none⟩) 4 c] w (NewRepP w) := by
  have hsl : Sl EStr w (· < w.heap.size) (some ⟨b, 0, none⟩) [⟨#[46]⟩, ⟨#[45]⟩, ⟨#[58]⟩, ⟨#[45]⟩] := by
    refine .inr ⟨b, 0, rfl, World.block_lt_of_cell? w _ hs.c0, fun k x hx => ?_⟩
    have one : ∀ (j : Nat) (y : ByteArray), y.size ≤ 1 → w.cell? ⟨b, j, none⟩ = some (.string y) → ∃ cs, EStr.R w (· < w.heap.size) y cs ∧ ∀ i u, cs[i]? = some u → w.cell? ⟨b, 0 + j * EStr.sz + i, none⟩ = some u := fun j y hy hc => ⟨[.string y], ⟨rfl, by unfold maxLen; omega⟩, fun i u hu => by
      match i, hu with
      | 0, hu =>
        simp at hu
        subst hu
        rw [show 0 + j * EStr.sz + 0 = j by show 0 + j * 1 + 0 = j; omega]
        exact hc⟩
    match k, hx with
    | 0, hx => injection hx with hx; subst hx; exact one 0 _ (by decide) hs.c0
    | 1, hx => injection hx with hx; subst hx; exact one 1 _ (by decide) hs.c1
    | 2, hx => injection hx with hx; subst hx; exact one 2 _ (by decide) hs.c2
    | 3, hx => injection hx with hx; subst hx; exact one 3 _ (by decide) hs.c3
  replace hsl := hide hsl
  replace hs := hide hs
  go_enter Tryz.func37, Tryz.ntmps37
  go_wp2_with (at_builtin
               go_must (refine wpList_pushes (B := w.heap.size) (v := .slice none 0 0) (l := []) rfl _ _ _ rfl okStr (by decide) rfl Own.nil (Nat.le_refl _) rfl (by decide) hsl.out ?_)
               intro v1 w1 hown hg hat
               rw [List.nil_append] at hown
               obtain ⟨s, d, rfl, hsB, hsl2⟩ := hown.formNeD (by simp)
               obtain ⟨b', c', hv', hss⟩ := hown.sl
               injection hv' with hb'
               subst hb'
               have hE1 : Ext w w1 := (Ext.refl w).grown hg (fun k hk => by cases hk)
               have f0 := flat_at hss 0 (by decide)
               have f1 := flat_at hss 1 (by decide)
               have f2 := flat_at hss 2 (by decide)
               have f3 := flat_at hss 3 (by decide)
               clear hown hss hg hat
               replace f0 := hide f0; replace f1 := hide f1; replace f2 := hide f2; replace f3 := hide f3; replace hE1 := hide hE1)
  obtain ⟨b0, o0, h0, _, _, y0⟩ := f0.out
  obtain ⟨b1, o1, h1, _, _, y1⟩ := f1.out
  obtain ⟨b2, o2, h2, _, _, y2⟩ := f2.out
  obtain ⟨b3, o3, h3, _, _, y3⟩ := f3.out
  injection h0 with h0; injection h0 with h0 g0; subst h0 g0
  injection h1 with h1; injection h1 with h1 g1; subst h1 g1
  injection h2 with h2; injection h2 with h2 g2; subst h2 g2
  injection h3 with h3; injection h3 with h3 g3; subst h3 g3
  have hS : St4 w1 s := ⟨y0, y1, y2, y3⟩
  clear f0 f1 f2 f3 y0 y1 y2 y3
  have hz := hE1.out.size
  go_ret
  exact ⟨_, s, _, rfl, hE1.out.alloc _, hz, Blk.new _ _ _, hS.ext ((Ext.refl w1).alloc _)⟩
set_option maxRecDepth 20000 in
set_option maxHeartbeats 1000000 in
theorem RepReplace_any (g s c : Nat) (t : List UInt8) (ht : t.length ≤ 1048576) (w : World) (hR : Blk w g 102 #[.int .u32 0, .int .i32 0, .int .u32 0, .nilIface, .slice (some ⟨s, 0, none⟩) 4 c]) (hs : St4 w s) :
    Calls Tryz.prog 38 #[.pointer (some ⟨g, 0, none⟩), .string ⟨t.toArray⟩] w fun e w' => e = .returned (.string ⟨(t.map dashB).toArray⟩) ∧ w.grownBy w' (some g) := by
  have q := Do_any g s c 0 w hR hs
  have hmf : ∀ (fn : Fn) (first cap : Array Value) (w : World), (Instr.makeFunc fn first cap).run Tryz.prog w = .ok (.func fn first cap) w := fun _ _ _ _ => rfl
  replace q := hide q
  replace hR := hide hR
  replace hs := hide hs
  go_enter Tryz.func38, Tryz.ntmps38
  go_wp2_with fail
  refine q.out.mono ?_
  rintro e w2 ⟨rfl, h, hG, hh, hhl, hT, hB⟩
  have b3 : w2.cell? ⟨g, 3, none⟩ = some (.iface 140 (.pointer (some ⟨h, 0, none⟩))) := hB.cell 3
  have qr := bReplace_any h t ht w2 hT
  clear q hR hs hT hB
  have hm : ∀ w, (method 330 140 (.pointer (some ⟨h, 0, none⟩)) "Replace").run Tryz.prog w = .ok (164, .pointer (some ⟨h, 0, none⟩)) w := fun _ => by kernel_rfl
  replace hG := hide hG
  replace qr := hide qr
  go_wp2_with fail
  refine qr.out.mono ?_
  rintro e w3 ⟨rfl, hE3⟩
  have hG3 := grown_trans hG.out (grown_of_ext hE3 (some g))
  replace hG3 := hide hG3
  clear hE3
  go_wp2
  go_ret
  exact ⟨rfl, hG3.out⟩
set_option maxRecDepth 20000 in
set_option maxHeartbeats 1000000 in
theorem name_any21 (x : Nbr) (f : Option Addr) (c : Nat) (a : List UInt8) (w : World) (hx : x.name.length ≤ 1048576) (ha : a.length ≤ 1048576) (hT : Tab w) (hD : Deb w) :
    Calls Tryz.prog 27 #[.agg (nbrCs x f c ++ [Value.string ⟨a.toArray⟩]).toArray] w fun e w' => e = .returned (.string ⟨(dynName x a).toArray⟩) ∧ Ext w w' := by
  have mixed : Tryz.prog.follows Departure.mixedOrders = true := by kernel_rfl
  have q1 := fun W (h : Ext w W) => AAddrText_any a ha W (hT.ext h) (hD.ext h)
  have hl := addrT_len (a := a)
  obtain ⟨nm, ad, ⟨rf, rrd, ra, rl⟩, asn, hold, retry, pass, client, confed, fams, send, take, most, gr, time, mrai, pin, pout, vrf, selfN⟩ := x
  have hfin : dynName ⟨nm, ad, ⟨rf, rrd, ra, rl⟩, asn, hold, retry, pass, client, confed, fams, send, take, most, gr, time, mrai, pin, pout, vrf, selfN⟩ a = nm ++ ([45] ++ (addrT a).1.map dashB) := rfl
  rw [hfin]
  simp only [nbrCs, List.cons_append, List.nil_append]
  dsimp only at hx
  have hres : (⟨nm.toArray⟩ : ByteArray) ++ ⟨#[45]⟩ ++ ⟨((addrT a).1.map dashB).toArray⟩ = ⟨(nm ++ 45 :: (addrT a).1.map dashB).toArray⟩ := by
    rw [ba_app1, ba_app, List.append_assoc]
    rfl
  have hsn : (⟨nm.toArray⟩ : ByteArray).size ≤ 1048576 := ba_le _ _ hx
  have hsr : (⟨((addrT a).1.map dashB).toArray⟩ : ByteArray).size ≤ 39 := ba_le _ _ (by rw [List.length_map]; exact hl)
  rw [← hres]
  have qr := fun g s d W (h1 : Blk W g 102 _) (h2 : St4 W s) => RepReplace_any g s d (addrT a).1 (by omega) W h1 h2
  generalize (⟨nm.toArray⟩ : ByteArray) = sn at *
  generalize (⟨((addrT a).1.map dashB).toArray⟩ : ByteArray) = sr at *
  generalize (⟨(addrT a).1.toArray⟩ : ByteArray) = st at *
  have z0 : ¬ 9223372036854775807 < sn.size + (ByteArray.mk #[45]).size := by show ¬ _ < sn.size + 1; omega
  have y0 : ¬ 9223372036854775807 < sn.size + 1 := by omega
  have z1 : ¬ 9223372036854775807 < (sn ++ ⟨#[45]⟩).size + sr.size := by rw [ba_sz_app]; show ¬ _ < sn.size + 1 + sr.size; omega
  have y1 : ¬ 9223372036854775807 < sn.size + 1 + sr.size := by omega
  clear hfin hres hsn hsr hl hx hT hD
  generalize (addrT a).2 = er at *
  replace q1 := hide q1
  replace qr := hide qr
  go_enter Tryz.func27, Tryz.ntmps27
  have C := Blk.new w 66 #[.string sn, .string ⟨ad.toArray⟩, .int .i64 rf, .int .u64 (rrd : Int), .string ⟨ra.toArray⟩, .int .i64 rl, .int .u32 (asn.toNat : Int), .int .i64 hold, .int .i64 retry, .bool pass, .bool client, .bool confed, .slice f fams.length c, .int .i64 send, .bool take, .int .i64 most, .bool gr, .int .i64 time, .int .i64 mrai, .string ⟨pin.toArray⟩, .string ⟨pout.toArray⟩, .string ⟨vrf.toArray⟩, .bool selfN, .string ⟨a.toArray⟩]
  have E := (Ext.refl w).alloc (Obj.cells #[.string sn, .string ⟨ad.toArray⟩, .int .i64 rf, .int .u64 (rrd : Int), .string ⟨ra.toArray⟩, .int .i64 rl, .int .u32 (asn.toNat : Int), .int .i64 hold, .int .i64 retry, .bool pass, .bool client, .bool confed, .slice f fams.length c, .int .i64 send, .bool take, .int .i64 most, .bool gr, .int .i64 time, .int .i64 mrai, .string ⟨pin.toArray⟩, .string ⟨pout.toArray⟩, .string ⟨vrf.toArray⟩, .bool selfN, .string ⟨a.toArray⟩] 66)
  generalize hW0 : w.alloc (Obj.cells #[.string sn, .string ⟨ad.toArray⟩, .int .i64 rf, .int .u64 (rrd : Int), .string ⟨ra.toArray⟩, .int .i64 rl, .int .u32 (asn.toNat : Int), .int .i64 hold, .int .i64 retry, .bool pass, .bool client, .bool confed, .slice f fams.length c, .int .i64 send, .bool take, .int .i64 most, .bool gr, .int .i64 time, .int .i64 mrai, .string ⟨pin.toArray⟩, .string ⟨pout.toArray⟩, .string ⟨vrf.toArray⟩, .bool selfN, .string ⟨a.toArray⟩] 66) = W0 at C E
  generalize hg0 : w.heap.size = g0 at C
  have c23 : W0.cell? ⟨g0, 23, none⟩ = some (.string ⟨a.toArray⟩) := C.cell 23
  replace C := hide C
  replace E := hide E
  go_wp2_with fail
  clear hW0 c23
  refine (q1.out _ E.out).mono ?_
  rintro e W1 ⟨rfl, hE1⟩
  have c0 : W1.cell? ⟨g0, 0, none⟩ = some (.string sn) := (C.out.ext hE1).cell 0
  replace E := hide (E.out.trans hE1)
  clear q1 C hE1
  go_wp2_with fail
  go_region_held3 (fun w' => w'.cell? ⟨g0, 0, none⟩ = some (.string sn)) (go_keep)
    (first
      | (go_at_call 37; refine (NewReplacer_any W1.heap.size 4 _ ?_).mono ?_; exact ⟨(Blk.new W1.drew 9 #[.string ⟨#[46]⟩, .string ⟨#[45]⟩, .string ⟨#[58]⟩, .string ⟨#[45]⟩]).cell 0, (Blk.new W1.drew 9 #[.string ⟨#[46]⟩, .string ⟨#[45]⟩, .string ⟨#[58]⟩, .string ⟨#[45]⟩]).cell 1, (Blk.new W1.drew 9 #[.string ⟨#[46]⟩, .string ⟨#[45]⟩, .string ⟨#[58]⟩, .string ⟨#[45]⟩]).cell 2, (Blk.new W1.drew 9 #[.string ⟨#[46]⟩, .string ⟨#[45]⟩, .string ⟨#[58]⟩, .string ⟨#[45]⟩]).cell 3⟩; rintro e w1 ⟨g, s, d, rfl, hE1, hg, hB, hS⟩
         have hE2 : Ext W1 w1 := ((Ext.refl W1).drew.alloc _).trans hE1
         have hg2 : W1.heap.size ≤ g := by simp at hg; omega
         have j0 := hE2.cell c0
         replace hE2 := hide hE2; replace hB := hide hB; replace hS := hide hS; clear hE1)
      | (go_at_call 38; refine (qr.out g s d _ hB.out hS.out).mono ?_; rintro e w2 ⟨rfl, hG⟩
         have hE3 : Ext W1 w2 := hE2.out.grown hG (fun k hk => by injection hk with hk; omega)
         have k0 := hE3.cell c0
         replace hE3 := hide hE3; clear hG))
  go_wp2
  go_ret
  exact ⟨rfl, E.out.trans hE3.out⟩
end Go.Proofs.YtmhmcdpadmimlaaGreatDoor
