/- Chapter 35, walks: something done, and what was given up in it (script.guarded). Walks: a prefix read of any text, by the program (printed by genp29.py). Chapter 35, walks: an event read of a line (script.read). Printed by genread.py. Chapter 35, walks: the event of a line (script.Event). Chapter 35, walks: an event told as a line (script.line, script.tell). Chapter 35, walks: a script read of its text (script.Parse). Chapter 35, walks: a script of its text (script.Parse). Chapter 35, walks: script.Parse under a name of its own. -/
import Derived.WalkKit
import Derived.Below
import Derived.Outline
import Derived.LoopTactic
import Derived.Laws.OwnMore
import Derived.Deep.AppendLies
import Derived.Deep.Draws
import Derived.Lib.Hide
import Derived.BigQuiet
import Derived.Deep.QuietTactic
import Derived.WalkSpells
import Derived.WalkLawsBesides
import Derived.Deep.RegionHeld3
import Derived.Deep.DrawnRows
import Derived.Deep.RegionLaw
import Derived.Test.YtkinghadgmbhbaaGreatDoorProg
import Derived.Test.YtkinghadgmbhbaaGreatDoorShelf
import Derived.Lib.ConvBytes
import Derived.Lib.Bytealg
import Derived.Lib.Small
import Derived.Lib.SplitLaws
import Derived.Lib.ParseIntB
import Derived.Lib.ParseIntBCases
import Derived.Lib.ItoaNum
import Derived.Lib.Join
import Derived.Test.YtkinghadgmbhbaaGreatDoorShelf2
import Derived.Lib.UnsafeStr
import Derived.Shelf.RegionOpenPlain
import Derived.Laws.StructEq
import Derived.Lib.QuietBelow
import Derived.Test.YtkinghadgmbhbaaGreatDoorRows
import Derived.ProofKit
import Derived.Deep.Slices
import Derived.Shelf.GgClosure.StringsRunes
import Derived.Lib.ItoaMem
import Derived.Lib.ItoaLen
import Derived.Shelf.Strings.Builder1
import Derived.Orders
import Derived.StillTail
import Derived.Defers
import Derived.Recover
import Derived.Laws.EntriesVeiled
import Derived.Deep.DeepCutAuto
import Derived.Test.YtkinghadgmbhbaaGreatDoorPC01
import Derived.Test.YtkinghadgmbhbaaGreatDoorPC02
namespace Go.Proofs.YtkinghadgmbhbaaGreatDoor
section
open Go.RowKit
set_option linter.unusedVariables false
def wrongR (c : Int) : List PanicEntry := [{ v := .iface 107 (.agg #[.int .i64 c]), recovered := true }]
set_option maxRecDepth 20000 in
set_option maxHeartbeats 2000000 in
theorem gcatch_panicking (c : Int) (q : Nat) (y : Value) (w : World) (hQ : Blk w q 23 #[y]) :
  CallsD Tryz.prog 63 #[.pointer (some ⟨q, 0, none⟩)] (.panicking (wrongP c)) w fun e u' w' =>
   e = .returned (.tuple #[]) ∧ u' = .panicking (wrongR c) ∧ But q w w' ∧ Blk w' q 23 #[.int .i64 c] := by
 have hta : ∀ W, (Instr.typeAssert (.iface 107 (.agg #[.int .i64 c])) 20 107 true).run Tryz.prog W = .ok (.tuple #[.agg #[.int .i64 c], .bool true]) W := fun W => by kernel_rfl
 refine callsD_of_wpS Tryz.func63 rfl fun c₀ cs hu => ?_
 unfold wrongP at hu
 have Q2 := hQ.alloc (Obj.cells #[.int .i64 c] 107)
 have hb := (But.refl q w).alloc (Obj.cells #[.int .i64 c] 107)
 have C2 : (w.alloc (Obj.cells #[.int .i64 c] 107)).cell? ⟨w.heap.size, 0, none⟩ = some (.int .i64 c) := (Blk.new w 107 #[.int .i64 c]).cell 0
 generalize hW : w.alloc (Obj.cells #[.int .i64 c] 107) = W2 at Q2 hb C2 ⊢
 have c2 : W2.cell? ⟨q, 0, none⟩ = some y := Q2.cell 0
 have f1 := fun i => Q2.frozen i
 have Q3 : Blk (W2.setCell ⟨q, 0, none⟩ (.int .i64 c)) q 23 #[.int .i64 c] := Q2.set_ 0 (.int .i64 c)
 have hb3 := hb.set 0 (.int .i64 c)
 clear hQ hb Q2
 replace Q3 := hide Q3
 replace hb3 := hide hb3
 simp only [Tryz.ntmps63, List.size_toArray, List.length_cons, List.length_nil, Nat.reduceAdd, Nat.reduceSub, Array.replicate_succ, Array.replicate_zero, List.push_toArray, List.append_toArray, List.nil_append, List.cons_append]
 apply wpS_seq
 apply wpS_region
 simp [wpOpsS, go_sem, recoverD, hu, Exit.thenS]
 refine wpS_of_wp ?_
 go_wp2
 simp [bodyPostS, results, Tryz.results63, wrongR]
 exact ⟨hb3.out, Q3.out⟩
theorem gcatch_idle (q : Nat) (w : World) :
  CallsD Tryz.prog 63 #[.pointer (some ⟨q, 0, none⟩)] .returning w fun e u' w' => e = .returned (.tuple #[]) ∧ u' = .returning ∧ w' = w := by
 refine callsD_of_wpS Tryz.func63 rfl fun c₀ cs hu => ?_
 simp only [Tryz.ntmps63, List.size_toArray, List.length_cons, List.length_nil, Nat.reduceAdd, Nat.reduceSub, Array.replicate_succ, Array.replicate_zero, List.push_toArray, List.append_toArray, List.nil_append, List.cons_append]
 apply wpS_seq
 apply wpS_region
 simp [wpOpsS, go_sem, recoverD, hu, Exit.thenS]
 refine wpS_of_wp ?_
 go_wp2
 cases c₀
 simp_all [bodyPostS, results, Tryz.results63]
set_option maxRecDepth 20000 in
set_option maxHeartbeats 2000000 in
theorem guard_dies {Post : Ending → World → Prop} {a : Act} {W : World} {pe : Nat} {c : Int}
  (hd : a.defers = [{ target := .fn (.func 63) #[.pointer (some ⟨pe, 0, none⟩)], args := #[] }])
  (h2 : a.tmps[2]? = some (.pointer (some ⟨pe, 0, none⟩))) (Q : Blk W pe 23 #[.int .i64 0])
  (hp : ∀ W', But pe W W' → Post (.returned (.int .i64 c)) W') :
  bodyPostD Tryz.prog Tryz.f32 Post (.panic (wrongP c)) a W := by
 show Leaves Tryz.prog Tryz.f32 a.tmps Post a.defers (.panicking (wrongP c)) W
 rw [hd]
 refine leaves_cons (f := 63) (args := #[.pointer (some ⟨pe, 0, none⟩)]) (by simp) (by simp [go_sem]) ?_
 refine (gcatch_panicking c pe _ W Q).mono ?_
 rintro e u' w'' ⟨rfl, rfl, hb, hq⟩
 have y2 : w''.cell? ⟨pe, 0, none⟩ = some (.int .i64 c) := hq.cell 0
 have hq := hp w'' hb
 simp [Leaves, settle, wrongR, results, Tryz.results32, go_sem, h2, y2, hq]
set_option maxRecDepth 20000 in
theorem guard_returns {Post : Ending → World → Prop} {a : Act} {W : World} {pe : Nat} {c : Int}
  (hd : a.defers = [{ target := .fn (.func 63) #[.pointer (some ⟨pe, 0, none⟩)], args := #[] }])
  (h2 : a.tmps[2]? = some (.pointer (some ⟨pe, 0, none⟩))) (y : W.cell? ⟨pe, 0, none⟩ = some (.int .i64 c)) (hp : Post (.returned (.int .i64 c)) W) :
  bodyPostD Tryz.prog Tryz.f32 Post .ret a W := by
 show Leaves Tryz.prog Tryz.f32 a.tmps Post a.defers .returning W
 rw [hd]
 refine leaves_cons (f := 63) (args := #[.pointer (some ⟨pe, 0, none⟩)]) (by simp) (by simp [go_sem]) ?_
 refine (gcatch_idle pe W).mono ?_
 rintro e u' w'' ⟨rfl, rfl, rfl⟩
 simp [Leaves, settle, results, Tryz.results32, go_sem, h2, y, hp]
set_option maxRecDepth 20000 in
/-- What is done, called: it returns, or gives up. -/
theorem Guard_any (g : Nat) (lb : Array Value) (eg : ∀ args w, (callFunc g args).run Tryz.prog w = .ok (.enter g args) w) (w : World) (Q : World → Prop) (R : Int → World → Prop)
  (hc : Calls Tryz.prog g lb (w.alloc (Obj.cells #[.int .i64 0] 23)) fun e W => (e = .returned (.tuple #[]) ∧ Q W) ∨ ∃ c, e = .panicked (wrongP c) ∧ R c W)
  (hQ : ∀ W, Q W → Blk W w.heap.size 23 #[.int .i64 0]) (hR : ∀ c W, R c W → Blk W w.heap.size 23 #[.int .i64 0])
  (Post : Ending → World → Prop) (h0 : ∀ W W', Q W → But w.heap.size W W' → Post (.returned (.int .i64 0)) W') (h1 : ∀ c W W', R c W → But w.heap.size W W' → Post (.returned (.int .i64 c)) W') :
  Calls Tryz.prog 32 #[.func (.func g) #[] lb] w Post := by
 have hmf : ∀ (fn : Fn) (first cap : Array Value) (w : World), (Instr.makeFunc fn first cap).run Tryz.prog w = .ok (.func fn first cap) w := fun _ _ _ _ => rfl
 replace hc := hide hc
 replace hQ := hide hQ
 replace hR := hide hR
 replace h0 := hide h0
 replace h1 := hide h1
 go_enter_defers Tryz.func32, Tryz.ntmps32
 go_wp2_with fail
 refine hc.out.mono ?_
 rintro e W (⟨rfl, hq⟩ | ⟨c, rfl, hr⟩)
 ·have B := hQ.out W hq
  have h9 := fun W' hb => h0.out W W' hq hb
  have B0 := hide (B.set_ 0 (.int .i64 0))
  have B1 := hide ((But.refl w.heap.size W).set 0 (.int .i64 0))
  have c0 : W.cell? ⟨w.heap.size, 0, none⟩ = some (.int .i64 0) := B.cell 0
  have f0 := fun i => B.frozen i
  clear hc hQ hR h0 h1 hq B
  generalize w.heap.size = pe at *
  replace h9 := hide h9
  go_wp2_with fail
  exact guard_returns (c := 0) rfl rfl (B0.out.cell 0) (h9.out _ B1.out)
 ·exact guard_dies (c := c) rfl rfl (hR.out c W hr) fun W' hb => h1.out c W W' hr hb
end
section
open Go.RowKit Go.Sort
set_option linter.unusedVariables false
/-- What reading a prefix answers. -/
def PsP (s : List UInt8) (w : World) (e : Ending) (w' : World) : Prop := e = .returned (.tuple #[valP (parseC s).1, .int .i64 (parseC s).2]) ∧ Ext w w'
theorem PsP.of {s : List UInt8} {p : Pfx} {c : Int} {w : World} (h : parseC s = (p, c)) (W : World) (hE : Ext w W) : PsP s w (.returned (.tuple #[valP p, .int .i64 c])) W := ⟨by rw [h], hE⟩
end
section
open Go.RowKit
set_option linter.unusedVariables false
set_option linter.unusedSimpArgs false
def evCs (e : EvS) : List Value := [.int .i64 e.kind, .int .i64 e.conn, .string ⟨e.addr.toArray⟩, .string ⟨e.peer.toArray⟩, .string ⟨e.bytes.toArray⟩, .int .i64 e.ticks, .int .u32 (e.draw.toNat : Int)]
/-- A word's place in a variable, and the words. -/
structure NxS (W : World) (p : Nat) (l : List (List UInt8)) (k : Nat) : Prop where
  len : l.length ≤ 4194305
  lt : k < l.length
  at_ : Blk W (p + 1) 3 #[.int .i64 (k : Int)]
  ws : ∃ b c, Blk W p 63 #[.slice (some ⟨b, 0, none⟩) l.length c] ∧ b < p ∧ ∀ (j : Nat) (hj : j < l.length), W.cell? ⟨b, j, none⟩ = some (.string ⟨l[j].toArray⟩)
theorem NxS.but {W W' : World} {p k : Nat} {l : List (List UInt8)} (h : NxS W p l k) (hb : ∀ x, x < p + 1 → W'.heap[x]? = W.heap[x]?) {k' : Nat} (hk : k' < l.length) (ha : Blk W' (p + 1) 3 #[.int .i64 (k' : Int)]) : NxS W' p l k' := by
 obtain ⟨b, c, h1, h2, h3⟩ := h.ws
 exact ⟨h.len, hk, ha, b, c, (hb p (by omega)).trans h1, h2, fun j hj => (World.cell?_of_block (a := ⟨b, j, none⟩) (hb b (by omega))).trans (h3 j hj)⟩
theorem NxS.ext {W W' : World} {p k : Nat} {l : List (List UInt8)} (h : NxS W p l k) (he : Ext W W') : NxS W' p l k :=
 have hl := h.at_.lt
 h.but (fun x hx => he.block x (by omega)) h.lt (h.at_.ext he)
theorem NxS.far {W : World} {p k : Nat} {l : List (List UInt8)} (h : NxS W p l k) {q : Nat} (hq : p + 1 < q) (i : Nat) (u : Value) : NxS (W.setCell ⟨q, i, none⟩ u) p l k :=
 h.but (fun x hx => Below.heap_setCell _ _ _ _ (show x ≠ q by omega)) h.lt (h.at_.far (p := ⟨q, i, none⟩) (show p + 1 ≠ q by omega) u)
/-- The next word: there is none; there is one. -/
theorem rnext_none (p k : Nat) (l : List (List UInt8)) (W : World) (h : NxS W p l k) (hk : l[k + 1]? = none) :
  Calls Tryz.prog 64 #[.pointer (some ⟨p + 1, 0, none⟩), .pointer (some ⟨p, 0, none⟩)] W fun e w' => e = .panicked (wrongP 9) ∧ But (p + 1) W w' := by
 obtain ⟨b, c, h1, h2, h3⟩ := h.ws
 have hl : l.length = k + 1 := by have := List.getElem?_eq_none_iff.1 hk; have := h.lt; omega
 have ha := h.at_
 have hn : k ≤ 4194305 := by have := h.len; have := h.lt; omega
 have c0 : W.cell? ⟨p + 1, 0, none⟩ = some (.int .i64 (k : Int)) := ha.cell 0
 have c1 : W.cell? ⟨p, 0, none⟩ = some (.slice (some ⟨b, 0, none⟩) l.length c) := h1.cell 0
 have f0 := fun i => ha.frozen i
 have hb := (But.refl (p + 1) W).set 0 (.int .i64 ((k : Int) + 1))
 rw [hl] at c1
 have b1 : IntKind.i64.wrap ((k : Int) + 1) = (k : Int) + 1 := by rw [IntKind.wrap_i64]; omega
 clear h h1 h3 ha hk hl hn
 replace hb := hide hb
 go_enter Tryz.func64, Tryz.ntmps64
 go_wp2_with (go_at_call 37; refine (give_any _ _).mono ?_; rintro e w' ⟨rfl, rfl⟩)
 exact ⟨rfl, rfl, hb.out⟩
theorem rnext_some (p k : Nat) (l : List (List UInt8)) (x : List UInt8) (W : World) (h : NxS W p l k) (hk : l[k + 1]? = some x) :
  Calls Tryz.prog 64 #[.pointer (some ⟨p + 1, 0, none⟩), .pointer (some ⟨p, 0, none⟩)] W fun e w' => e = .returned (.string ⟨x.toArray⟩) ∧ But (p + 1) W w' ∧ NxS w' p l (k + 1) := by
 obtain ⟨b, c, h1, h2, h3⟩ := h.ws
 have hlt : k + 1 < l.length := (List.getElem?_eq_some_iff.1 hk).1
 have hx : l[k + 1] = x := (List.getElem?_eq_some_iff.1 hk).2
 have ha := h.at_
 have hn : l.length ≤ 4194305 := h.len
 have c0 : W.cell? ⟨p + 1, 0, none⟩ = some (.int .i64 (k : Int)) := ha.cell 0
 have c1 : W.cell? ⟨p, 0, none⟩ = some (.slice (some ⟨b, 0, none⟩) l.length c) := h1.cell 0
 have c2 : W.cell? ⟨b, k + 1, none⟩ = some (.string ⟨x.toArray⟩) := by rw [← hx]; exact h3 _ hlt
 have f0 := fun i => ha.frozen i
 have hb := (But.refl (p + 1) W).set 0 (.int .i64 ((k : Int) + 1))
 have b1 : IntKind.i64.wrap ((k : Int) + 1) = (k : Int) + 1 := by rw [IntKind.wrap_i64]; omega
 have hN : NxS (W.setCell ⟨p + 1, 0, none⟩ (.int .i64 ((k : Int) + 1))) p l (k + 1) :=
  h.but (fun y hy => Below.heap_setCell _ _ _ _ (show y ≠ p + 1 by omega)) hlt (by simpa using ha.set_ 0 (.int .i64 ((k : Int) + 1)))
 have hbp : b ≠ p + 1 := by omega
 have d1 : decide (l.length ≤ k + 1) = false := decide_eq_false (by omega)
 clear h h1 h3 ha hk hx hn
 generalize hL : l.length = L at *
 have hlt2 := hide hlt
 replace hb := hide hb
 replace hN := hide hN
 replace hL := hide hL
 go_enter Tryz.func64, Tryz.ntmps64
 go_wp2
 go_ret
 exact ⟨rfl, hb.out, hN.out⟩
theorem rconn_bad (p k : Nat) (l : List (List UInt8)) (w W : World) (hT : Tab w) (hV : Vars w) (E : Ext w W) (hp : w.heap.size ≤ p + 1) (h : NxS W p l k) (hB : Blk W (p + 2) 73 #[(.func (.func 64) #[] #[.pointer (some ⟨p + 1, 0, none⟩), .pointer (some ⟨p, 0, none⟩)])])
  (hk : l[k + 1]? = none ∨ ∃ x, l[k + 1]? = some x ∧ x.length ≤ 4194304 ∧ rdC x 1 64 = none) :
  Calls Tryz.prog 65 #[.pointer (some ⟨p + 2, 0, none⟩)] W fun e w' => e = .panicked (wrongP 9) ∧ Ext w w' := by
 have c0 : W.cell? ⟨p + 2, 0, none⟩ = some (.func (.func 64) #[] #[.pointer (some ⟨p + 1, 0, none⟩), .pointer (some ⟨p, 0, none⟩)]) := hB.cell 0
 clear hB
 rcases hk with hk | ⟨x, hk, hx, hc⟩
 ·have q := rnext_none p k l W h hk
  clear hT hV h hk
  replace q := hide q
  replace E := hide E
  go_enter Tryz.func65, Tryz.ntmps65
  go_wp2_with fail
  refine q.out.mono ?_
  rintro e w1 ⟨rfl, hb⟩
  go_wp2
  exact ⟨rfl, rfl, But.ext E.out hb hp⟩
 ·have q := rnext_some p k l x W h hk
  have qn := fun W1 (h1 : Ext w W1) => SNum_any x 1 64 (by decide) (by decide) W1 (hT.ext h1) (hV.ext h1) hx
  unfold NumS at qn
  rw [hc] at qn
  clear hT hV h hk hx hc
  replace q := hide q
  replace E := hide E
  replace qn := hide qn
  go_enter Tryz.func65, Tryz.ntmps65
  go_wp2_with fail
  refine q.out.mono ?_
  rintro e w1 ⟨rfl, hb, _⟩
  have E1 := hide (But.ext E.out hb hp)
  clear hb
  go_wp2_with fail
  refine (qn.out _ E1.out).mono ?_
  rintro e w2 ⟨rfl, E2⟩
  have E3 := hide (E1.out.trans E2)
  clear E2
  go_wp2
  exact ⟨rfl, rfl, E3.out⟩
theorem rconn_ok (p k c : Nat) (l : List (List UInt8)) (x : List UInt8) (w W : World) (hT : Tab w) (hV : Vars w) (E : Ext w W) (hp : w.heap.size ≤ p + 1) (h : NxS W p l k) (hB : Blk W (p + 2) 73 #[(.func (.func 64) #[] #[.pointer (some ⟨p + 1, 0, none⟩), .pointer (some ⟨p, 0, none⟩)])])
  (hk : l[k + 1]? = some x) (hx : x.length ≤ 4194304) (hc : rdC x 1 64 = some c) :
  Calls Tryz.prog 65 #[.pointer (some ⟨p + 2, 0, none⟩)] W fun e w' => e = .returned (.int .i64 (c : Int)) ∧ But (p + 1) W w' ∧ NxS w' p l (k + 1) := by
 have c0 : W.cell? ⟨p + 2, 0, none⟩ = some (.func (.func 64) #[] #[.pointer (some ⟨p + 1, 0, none⟩), .pointer (some ⟨p, 0, none⟩)]) := hB.cell 0
 clear hB
 have q := rnext_some p k l x W h hk
 have qn := fun W1 (h1 : Ext w W1) => SNum_any x 1 64 (by decide) (by decide) W1 (hT.ext h1) (hV.ext h1) hx
 unfold NumS at qn
 rw [hc] at qn
 have hcb := rdC_some hc
 have hw : IntKind.i64.wrap (c : Int) = (c : Int) := by rw [IntKind.wrap_i64]; omega
 clear hT hV h hk hx hc hcb
 replace q := hide q
 replace E := hide E
 replace qn := hide qn
 go_enter Tryz.func65, Tryz.ntmps65
 go_wp2_with fail
 refine q.out.mono ?_
 rintro e w1 ⟨rfl, hb, hN⟩
 have E1 := hide (But.ext E.out hb hp)
 replace hb := hide hb
 replace hN := hide hN
 go_wp2_with fail
 refine (qn.out _ E1.out).mono ?_
 rintro e w2 ⟨rfl, E2⟩
 have hb2 := hide (hb.out.trans (But.of E2))
 have hN2 := hide (hN.out.ext E2)
 clear E2
 go_wp2
 go_ret
 exact ⟨rfl, hb2.out, hN2.out⟩
/-- What lies in the frame's variables. -/
structure RS (w W : World) (p R : Nat) (l : List (List UInt8)) (k : Nat) (e : EvS) : Prop where
  lo : w.heap.size ≤ R
  hi : R < p
  ext : Ext w W
  nx : NxS W p l k
  nb : Blk W (p + 2) 73 #[(.func (.func 64) #[] #[.pointer (some ⟨p + 1, 0, none⟩), .pointer (some ⟨p, 0, none⟩)])]
  ev : Blk W (p + 3) 31 (evCs e).toArray
  rs : Blk W R 31 (evCs zeroEv).toArray
theorem RS.ext' {w W W' : World} {p R k : Nat} {l : List (List UInt8)} {e : EvS} (h : RS w W p R l k e) (he : Ext W W') : RS w W' p R l k e :=
 ⟨h.lo, h.hi, h.ext.trans he, h.nx.ext he, h.nb.ext he, h.ev.ext he, h.rs.ext he⟩
theorem RS.next {w W W' : World} {p R k k' : Nat} {l : List (List UInt8)} {e : EvS} (h : RS w W p R l k e) (hb : But (p + 1) W W') (hn : NxS W' p l k') : RS w W' p R l k' e :=
 have h1 := h.lo
 have h2 := h.hi
 ⟨h1, h2, But.ext h.ext hb (by omega), hn, h.nb.but hb (by omega), h.ev.but hb (by omega), h.rs.but hb (by omega)⟩
theorem RS.set {w W : World} {p R k : Nat} {l : List (List UInt8)} {e : EvS} (e' : EvS) (h : RS w W p R l k e) (i : Nat) (u : Value) (hu : (evCs e).toArray.setIfInBounds i u = (evCs e').toArray) : RS w (W.setCell ⟨p + 3, i, none⟩ u) p R l k e' :=
 have h1 := h.lo
 have h2 := h.hi
 ⟨h1, h2, h.ext.setCell (p := ⟨p + 3, i, none⟩) (show w.heap.size ≤ p + 3 by omega) u, h.nx.far (by omega) i u, h.nb.far (p := ⟨p + 3, i, none⟩) (show p + 2 ≠ p + 3 by omega) u, hu ▸ h.ev.set_ i u, h.rs.far (p := ⟨p + 3, i, none⟩) (show R ≠ p + 3 by omega) u⟩
theorem spl_cnt (c : UInt8) (f : Nat) (s : List UInt8) (h : s.length ≤ f) : (spl c s).length ≤ s.length + 1 := by
 refine spl_ind (P := fun s => (spl c s).length ≤ s.length + 1) c (fun s hs => ?_) (fun a b ha ih => ?_) f s h
 ·rw [spl_no hs]; simp
 ·rw [spl_at ha]
  simp only [List.length_cons, List.length_append]
  omega
theorem Blk.fill7 {w : World} {g : Nat} {T : TypeId} {a0 a1 a2 a3 a4 a5 a6 : Value} (h : Blk w g T #[a0, a1, a2, a3, a4, a5, a6]) (u0 u1 u2 u3 u4 u5 u6 : Value) :
  Blk (((((((w.setCell ⟨g, 0, none⟩ u0).setCell ⟨g, 1, none⟩ u1).setCell ⟨g, 2, none⟩ u2).setCell ⟨g, 3, none⟩ u3).setCell ⟨g, 4, none⟩ u4).setCell ⟨g, 5, none⟩ u5).setCell ⟨g, 6, none⟩ u6) g T #[u0, u1, u2, u3, u4, u5, u6] := by
 simpa using ((((((h.set_ 0 u0).set_ 1 u1).set_ 2 u2).set_ 3 u3).set_ 4 u4).set_ 5 u5).set_ 6 u6
theorem Ext.set7 {w0 w : World} {g : Nat} (h : Ext w0 w) (hg : w0.heap.size ≤ g) (u0 u1 u2 u3 u4 u5 u6 : Value) :
  Ext w0 (((((((w.setCell ⟨g, 0, none⟩ u0).setCell ⟨g, 1, none⟩ u1).setCell ⟨g, 2, none⟩ u2).setCell ⟨g, 3, none⟩ u3).setCell ⟨g, 4, none⟩ u4).setCell ⟨g, 5, none⟩ u5).setCell ⟨g, 6, none⟩ u6) :=
 ((((((h.setCell (p := ⟨g, 0, none⟩) hg u0).setCell (p := ⟨g, 1, none⟩) hg u1).setCell (p := ⟨g, 2, none⟩) hg u2).setCell (p := ⟨g, 3, none⟩) hg u3).setCell (p := ⟨g, 4, none⟩) hg u4).setCell (p := ⟨g, 5, none⟩) hg u5).setCell (p := ⟨g, 6, none⟩) hg u6
/-- What reading an event answers. -/
def ReadP (s : List UInt8) (w : World) (e : Ending) (w' : World) : Prop := (e = match evO s with | some v => .returned (.agg (evCs v).toArray) | none => .panicked (wrongP 9)) ∧ Ext w w'
set_option maxRecDepth 20000 in
set_option maxHeartbeats 4000000 in
theorem SRead_any (s : List UInt8) (hs : s.length ≤ 4194304) (hA : s.length ≤ 1048576 ∨ ∀ r, spl 32 s ≠ [105, 110] :: r) (w : World) (hT : Tab w) (hV : Vars w) (hD : Deb w) : Calls Tryz.prog 34 #[.string ⟨s.toArray⟩] w (ReadP s w) := by
 have hmf : ∀ (fn : Fn) (first cap : Array Value) (w : World), (Instr.makeFunc fn first cap).run Tryz.prog w = .ok (.func fn first cap) w := fun _ _ _ _ => rfl
 have hok : ∀ W v, readE (spl 32 s) = some v → Ext w W → ReadP s w (.returned (.agg (evCs v).toArray)) W := fun W v h he => ⟨by unfold evO; rw [h], he⟩
 have hno : ∀ W, readE (spl 32 s) = none → Ext w W → ReadP s w (.panicked (wrongP 9)) W := fun W h he => ⟨by unfold evO; rw [h], he⟩
 generalize ReadP s w = Post at *
 have hcnt := spl_cnt 32 s.length s (Nat.le_refl _)
 have hwl : ∀ y ∈ spl 32 s, y.length ≤ 4194304 := fun y hy => Nat.le_trans (spl_len 32 s y hy) hs
 have hnil := spl_ne 32 s
 have hA2 : ∀ r, spl 32 s = [105, 110] :: r → ∀ y ∈ r, y.length ≤ 1048576 := fun r h y hy => by
  rcases hA with hA | hA
  ·exact Nat.le_trans (spl_len 32 s y (by rw [h]; exact List.mem_cons_of_mem _ hy)) hA
  ·exact absurd h (hA r)
 have Z := Blk.new w 31 (evCs zeroEv).toArray
 have E := (Ext.refl w).alloc (Obj.cells (evCs zeroEv).toArray 31)
 have hz1 : (w.alloc (Obj.cells (evCs zeroEv).toArray 31)).heap.size = w.heap.size + 1 := by simp
 have hze : (evCs zeroEv).toArray = #[.int .i64 0, .int .i64 0, .string ⟨#[]⟩, .string ⟨#[]⟩, .string ⟨#[]⟩, .int .i64 0, .int .u32 0] := rfl
 rw [hze] at Z E hz1
 generalize hW1 : w.alloc (Obj.cells #[.int .i64 0, .int .i64 0, .string ⟨#[]⟩, .string ⟨#[]⟩, .string ⟨#[]⟩, .int .i64 0, .int .u32 0] 31) = W1 at Z E hz1
 have qs := Split_big s 32 W1 (hV.ext E) hs
 generalize spl 32 s = S at *
 clear hze
 replace hA2 := hide hA2
 replace qs := hide qs
 replace hok := hide hok
 replace hno := hide hno
 replace hT := hide hT
 replace hV := hide hV
 replace hD := hide hD
 replace Z := hide Z
 replace E := hide E
 replace hwl := hide hwl
 replace hnil := hide hnil
 replace hcnt := hide hcnt
 replace hz1 := hide hz1
 go_enter Tryz.func34, Tryz.ntmps34
 go_wp2_with fail
 clear hW1
 (with_reducible refine qs.out.mono ?_)
 rintro e W2 ⟨d, hd, rfl, he, hc⟩
 clear qs
 have hS0 := List.length_pos_iff.2 hnil.out
 have hr1 : W1.heap.size < W2.heap.size := World.block_lt_of_cell? W2 _ (hc 0 hS0)
 have hR : w.heap.size < W2.heap.size := by have := hz1.out; omega
 have hlen : S.length ≤ 4194305 := by have := hcnt.out; omega
 have hM : RS w ((((W2.alloc (Obj.cells #[.slice (some ⟨W1.heap.size, 0, none⟩) S.length d] 63)).alloc (Obj.cells #[.int .i64 0] 3)).alloc (Obj.cells #[.func (.func 64) #[] #[.pointer (some ⟨W2.heap.size + 1, 0, none⟩), .pointer (some ⟨W2.heap.size, 0, none⟩)]] 73)).alloc (Obj.cells #[.int .i64 0, .int .i64 0, .string ⟨#[]⟩, .string ⟨#[]⟩, .string ⟨#[]⟩, .int .i64 0, .int .u32 0] 31)) W2.heap.size w.heap.size S 0 zeroEv := by
  have a1 := Blk.new W2 63 #[.slice (some ⟨W1.heap.size, 0, none⟩) S.length d]
  have e1 := (Ext.refl W2).alloc (Obj.cells #[.slice (some ⟨W1.heap.size, 0, none⟩) S.length d] 63)
  have z1 : (W2.alloc (Obj.cells #[.slice (some ⟨W1.heap.size, 0, none⟩) S.length d] 63)).heap.size = W2.heap.size + 1 := by simp
  generalize W2.alloc (Obj.cells #[.slice (some ⟨W1.heap.size, 0, none⟩) S.length d] 63) = W3 at *
  have a2 := Blk.new W3 3 #[.int .i64 0]
  have e2 := e1.alloc (Obj.cells #[.int .i64 0] 3)
  have b1 := a1.alloc (Obj.cells #[.int .i64 0] 3)
  have z2 : (W3.alloc (Obj.cells #[.int .i64 0] 3)).heap.size = W2.heap.size + 2 := by simp [z1]
  rw [z1] at a2
  generalize W3.alloc (Obj.cells #[.int .i64 0] 3) = W4 at *
  have a3 := Blk.new W4 73 #[.func (.func 64) #[] #[.pointer (some ⟨W2.heap.size + 1, 0, none⟩), .pointer (some ⟨W2.heap.size, 0, none⟩)]]
  have e3 := e2.alloc (Obj.cells #[.func (.func 64) #[] #[.pointer (some ⟨W2.heap.size + 1, 0, none⟩), .pointer (some ⟨W2.heap.size, 0, none⟩)]] 73)
  have c1 := b1.alloc (Obj.cells #[.func (.func 64) #[] #[.pointer (some ⟨W2.heap.size + 1, 0, none⟩), .pointer (some ⟨W2.heap.size, 0, none⟩)]] 73)
  have c2 := a2.alloc (Obj.cells #[.func (.func 64) #[] #[.pointer (some ⟨W2.heap.size + 1, 0, none⟩), .pointer (some ⟨W2.heap.size, 0, none⟩)]] 73)
  have z3 : (W4.alloc (Obj.cells #[.func (.func 64) #[] #[.pointer (some ⟨W2.heap.size + 1, 0, none⟩), .pointer (some ⟨W2.heap.size, 0, none⟩)]] 73)).heap.size = W2.heap.size + 3 := by simp [z2]
  rw [z2] at a3
  generalize W4.alloc (Obj.cells #[.func (.func 64) #[] #[.pointer (some ⟨W2.heap.size + 1, 0, none⟩), .pointer (some ⟨W2.heap.size, 0, none⟩)]] 73) = W5 at *
  have a4 := Blk.new W5 31 #[.int .i64 0, .int .i64 0, .string ⟨#[]⟩, .string ⟨#[]⟩, .string ⟨#[]⟩, .int .i64 0, .int .u32 0]
  have e4 := e3.alloc (Obj.cells #[.int .i64 0, .int .i64 0, .string ⟨#[]⟩, .string ⟨#[]⟩, .string ⟨#[]⟩, .int .i64 0, .int .u32 0] 31)
  rw [z3] at a4
  refine ⟨Nat.le_refl _, hR, E.out.trans (he.trans e4), ⟨hlen, hS0, c2.alloc _, W1.heap.size, d, c1.alloc _, hr1, fun j hj => e4.cell (hc j hj)⟩, a3.alloc _, a4, ?_⟩
  exact (Z.out.ext he).ext e4
 generalize hp : W2.heap.size = p at hM
 obtain ⟨x, r, rfl⟩ := List.exists_cons_of_ne_nil hnil.out
 simp only [List.length_cons] at hM hd
 have hx0 : ((((W2.alloc (Obj.cells #[.slice (some ⟨W1.heap.size, 0, none⟩) (r.length + 1) d] 63)).alloc (Obj.cells #[.int .i64 0] 3)).alloc (Obj.cells #[.func (.func 64) #[] #[.pointer (some ⟨p + 1, 0, none⟩), .pointer (some ⟨p, 0, none⟩)]] 73)).alloc (Obj.cells #[.int .i64 0, .int .i64 0, .string ⟨#[]⟩, .string ⟨#[]⟩, .string ⟨#[]⟩, .int .i64 0, .int .u32 0] 31)).cell? ⟨W1.heap.size, 0, none⟩ = some (.string ⟨x.toArray⟩) :=
  ((((Ext.refl W2).alloc (Obj.cells #[.slice (some ⟨W1.heap.size, 0, none⟩) (r.length + 1) d] 63)).alloc (Obj.cells #[.int .i64 0] 3)).alloc (Obj.cells #[.func (.func 64) #[] #[.pointer (some ⟨p + 1, 0, none⟩), .pointer (some ⟨p, 0, none⟩)]] 73)).alloc (Obj.cells #[.int .i64 0, .int .i64 0, .string ⟨#[]⟩, .string ⟨#[]⟩, .string ⟨#[]⟩, .int .i64 0, .int .u32 0] 31) |>.cell (hc 0 (by simp))
 have hx1 : ((((W2.alloc (Obj.cells #[.slice (some ⟨W1.heap.size, 0, none⟩) (r.length + 1) d] 63)).alloc (Obj.cells #[.int .i64 0] 3)).alloc (Obj.cells #[.func (.func 64) #[] #[.pointer (some ⟨p + 1, 0, none⟩), .pointer (some ⟨p, 0, none⟩)]] 73)).alloc (Obj.cells #[.int .i64 0, .int .i64 0, .string ⟨#[]⟩, .string ⟨#[]⟩, .string ⟨#[]⟩, .int .i64 0, .int .u32 0] 31)).cell? ⟨p, 0, none⟩ = some (.slice (some ⟨W1.heap.size, 0, none⟩) (r.length + 1) d) := by
  rw [← hp]; exact (((Blk.new W2 63 #[.slice (some ⟨W1.heap.size, 0, none⟩) (r.length + 1) d]).alloc _).alloc _).alloc _ |>.cell 0
 generalize hWM : (((W2.alloc (Obj.cells #[.slice (some ⟨W1.heap.size, 0, none⟩) (r.length + 1) d] 63)).alloc (Obj.cells #[.int .i64 0] 3)).alloc (Obj.cells #[.func (.func 64) #[] #[.pointer (some ⟨p + 1, 0, none⟩), .pointer (some ⟨p, 0, none⟩)]] 73)).alloc (Obj.cells #[.int .i64 0, .int .i64 0, .string ⟨#[]⟩, .string ⟨#[]⟩, .string ⟨#[]⟩, .int .i64 0, .int .u32 0] 31) = WM at hM hx0 hx1
 replace hM := hide hM
 replace hx0 := hide hx0
 replace hx1 := hide hx1
 replace hWM := hide hWM
 clear hd he hc hS0 hr1 hlen Z E hcnt hz1 hnil
 go_upto_region 6 with fail
 rw [hWM.out]
 replace hx0 := hx0.out
 replace hx1 := hx1.out
 clear hWM hp
 go_upto_block 0 with fail
 simp only [Nat.add_assoc, Nat.reduceAdd]
 have hR1 : w.heap.size ≤ p + 1 := by have := hM.out.hi; have := hM.out.lo; omega
 clear hx0 hx1 hR
 go_cut [8] (fun s8 wx => ∃ (e : EvS) (k : Nat), RS w wx p w.heap.size (x :: r) k e ∧ readE (x :: r) = if k + 1 = (x :: r).length then some e else none)
 case first =>
  by_cases hx0 : x = [105, 110]
  ·subst hx0
   rcases r with _ | ⟨n, r⟩
   ·have q := rconn_bad p 0 [[105, 110]] w WM hT.out hV.out hM.out.ext hR1 hM.out.nx hM.out.nb (.inl rfl)
    replace q := hide q
    go_wp2_with fail
    refine q.out.mono ?_
    rintro e W9 ⟨rfl, he⟩
    go_wp2
    exact ⟨rfl, hno.out _ (by simp [readE]) he⟩
   rcases hn : rdC n 1 64 with _ | c
   ·have q := rconn_bad p 0 ([105, 110] :: n :: r) w WM hT.out hV.out hM.out.ext hR1 hM.out.nx hM.out.nb (.inr ⟨n, rfl, hwl.out n (by simp), hn⟩)
    have hr : readE ([105, 110] :: n :: r) = none := (match r with | [] => by simp [readE, hn] | [z] => by simp [readE, hn] | [z, z2] => by simp [readE, hn] | z :: z2 :: z3 :: r => by simp [readE, hn])
    clear hn
    replace q := hide q
    replace hr := hide hr
    go_wp2_with fail
    refine q.out.mono ?_
    rintro e W9 ⟨rfl, he⟩
    go_wp2
    exact ⟨rfl, hno.out _ hr.out he⟩
   have q := rconn_ok p 0 c ([105, 110] :: n :: r) n w WM hT.out hV.out hM.out.ext hR1 hM.out.nx hM.out.nb rfl (hwl.out n (by simp)) hn
   replace q := hide q
   replace hn := hide hn
   go_wp2_with fail
   refine q.out.mono ?_
   rintro e W3 ⟨rfl, hb, hN⟩
   have S3 := hM.out.next hb hN
   clear q hb hN
   have c0 : (W3).cell? ⟨p + 3, 0, none⟩ = some (.int .i64 0) := S3.ev.cell 0
   have c1 : (W3).cell? ⟨p + 3, 1, none⟩ = some (.int .i64 0) := S3.ev.cell 1
   have fE := fun i => S3.ev.frozen i
   have S4 := (S3.set ⟨1, 0, [], [], [], 0, 0⟩ 0 (.int .i64 1) rfl).set ⟨1, (c : Int), [], [], [], 0, 0⟩ 1 (.int .i64 (c : Int)) rfl
   replace S3 := hide S3
   replace S4 := hide S4
   go_upto_region 10 with fail
   generalize (W3.setCell ⟨p + 3, 0, none⟩ (.int .i64 1)).setCell ⟨p + 3, 1, none⟩ (.int .i64 (c : Int)) = W4 at *
   clear c0 c1 fE S3
   have nb : (W4).cell? ⟨p + 2, 0, none⟩ = some (.func (.func 64) #[] #[.pointer (some ⟨p + 1, 0, none⟩), .pointer (some ⟨p, 0, none⟩)]) := S4.out.nb.cell 0
   rcases r with _ | ⟨y, r⟩
   ·have q := rnext_none p 1 _ W4 S4.out.nx rfl
    replace q := hide q
    go_wp2_with fail
    refine q.out.mono ?_
    rintro e W9 ⟨rfl, hb⟩
    go_wp2
    exact ⟨rfl, hno.out _ (by simp [readE]) (But.ext S4.out.ext hb hR1)⟩
   have q := rnext_some p 1 _ y W4 S4.out.nx rfl
   replace q := hide q
   go_wp2_with fail
   refine q.out.mono ?_
   rintro e W5 ⟨rfl, hb, hN⟩
   have S5 := S4.out.next hb hN
   have hy := hwl.out y (by simp)
   clear q hb hN S4 nb
   have q := AAddr_any y (hA2.out _ (by trivial) y (by simp)) W5 (hT.out.ext S5.ext) (hD.out.ext S5.ext) (hV.out.ext S5.ext)
   unfold AdP at q
   have hrd : ∀ a ec, addrC y = (a, ec) → readE ([105, 110] :: n :: y :: r) = if ec = 0 then (if 2 + 1 = ([105, 110] :: n :: y :: r).length then some ⟨1, (c : Int), a, [], [], 0, 0⟩ else none) else none := fun a ec h => (by rcases r with _ | ⟨z, r⟩ <;> simp [readE, hn.out, h])
   rcases hac : addrC y with ⟨a, ec⟩
   rw [hac] at q
   replace hrd := hrd a ec hac
   clear hac
   replace q := hide q
   replace S5 := hide S5
   replace hrd := hide hrd
   replace hy := hide hy
   go_wp2_with fail
   refine q.out.mono ?_
   rintro e W6 ⟨rfl, he⟩
   have S6 := hide (S5.out.ext' he)
   clear q S5 he
   by_cases hec : ec = 0
   ·subst hec
    have c2 : (W6).cell? ⟨p + 3, 2, none⟩ = some (.string ⟨#[]⟩) := S6.out.ev.cell 2
    have fE := fun i => S6.out.ev.frozen i
    have S7 := hide (S6.out.set ⟨1, (c : Int), a, [], [], 0, 0⟩ 2 (.string ⟨a.toArray⟩) rfl)
    go_wp2_with fail
    go_meet
    case rel => exact ⟨_, 2, S7.out, hrd.out.trans (if_pos (by simp))⟩
   ·have b1 : (ec == 0) = false := beq_eq_false_iff_ne.2 hec
    have b2 : (ec != 0) = true := by simpa using hec
    have b3 : decide (ec = 0) = false := decide_eq_false hec
    have hec2 := hide hec
    clear hec
    go_wp2_with fail
    refine (give_any _ _).mono ?_
    rintro e W9 ⟨rfl, rfl⟩
    go_wp2
    exact ⟨rfl, hno.out _ (hrd.out.trans (if_neg hec2.out)) S6.out.ext⟩
  have g0a : (x == [105, 110]) = false := beq_eq_false_iff_ne.2 hx0
  have g0b : (x != [105, 110]) = true := by simpa using hx0
  by_cases hx1 : x = [117, 112]
  ·subst hx1
   rcases r with _ | ⟨n, r⟩
   ·have q := rconn_bad p 0 [[117, 112]] w WM hT.out hV.out hM.out.ext hR1 hM.out.nx hM.out.nb (.inl rfl)
    replace q := hide q
    go_wp2_with fail
    refine q.out.mono ?_
    rintro e W9 ⟨rfl, he⟩
    go_wp2
    exact ⟨rfl, hno.out _ (by simp [readE]) he⟩
   rcases hn : rdC n 1 64 with _ | c
   ·have q := rconn_bad p 0 ([117, 112] :: n :: r) w WM hT.out hV.out hM.out.ext hR1 hM.out.nx hM.out.nb (.inr ⟨n, rfl, hwl.out n (by simp), hn⟩)
    have hr : readE ([117, 112] :: n :: r) = none := (match r with | [] => by simp [readE, hn] | [z] => by simp [readE, hn] | [z, z2] => by simp [readE, hn] | z :: z2 :: z3 :: r => by simp [readE, hn])
    clear hn
    replace q := hide q
    replace hr := hide hr
    go_wp2_with fail
    refine q.out.mono ?_
    rintro e W9 ⟨rfl, he⟩
    go_wp2
    exact ⟨rfl, hno.out _ hr.out he⟩
   have q := rconn_ok p 0 c ([117, 112] :: n :: r) n w WM hT.out hV.out hM.out.ext hR1 hM.out.nx hM.out.nb rfl (hwl.out n (by simp)) hn
   replace q := hide q
   replace hn := hide hn
   go_wp2_with fail
   refine q.out.mono ?_
   rintro e W3 ⟨rfl, hb, hN⟩
   have S3 := hM.out.next hb hN
   clear q hb hN
   have c0 : (W3).cell? ⟨p + 3, 0, none⟩ = some (.int .i64 0) := S3.ev.cell 0
   have c1 : (W3).cell? ⟨p + 3, 1, none⟩ = some (.int .i64 0) := S3.ev.cell 1
   have fE := fun i => S3.ev.frozen i
   have S4 := (S3.set ⟨2, 0, [], [], [], 0, 0⟩ 0 (.int .i64 2) rfl).set ⟨2, (c : Int), [], [], [], 0, 0⟩ 1 (.int .i64 (c : Int)) rfl
   replace S3 := hide S3
   replace S4 := hide S4
   go_upto_region 16 with fail
   generalize (W3.setCell ⟨p + 3, 0, none⟩ (.int .i64 2)).setCell ⟨p + 3, 1, none⟩ (.int .i64 (c : Int)) = W4 at *
   clear c0 c1 fE S3
   have nb : (W4).cell? ⟨p + 2, 0, none⟩ = some (.func (.func 64) #[] #[.pointer (some ⟨p + 1, 0, none⟩), .pointer (some ⟨p, 0, none⟩)]) := S4.out.nb.cell 0
   rcases r with _ | ⟨y, r⟩
   ·have q := rnext_none p 1 _ W4 S4.out.nx rfl
    replace q := hide q
    go_wp2_with fail
    refine q.out.mono ?_
    rintro e W9 ⟨rfl, hb⟩
    go_wp2
    exact ⟨rfl, hno.out _ (by simp [readE]) (But.ext S4.out.ext hb hR1)⟩
   have q := rnext_some p 1 _ y W4 S4.out.nx rfl
   replace q := hide q
   go_wp2_with fail
   refine q.out.mono ?_
   rintro e W5 ⟨rfl, hb, hN⟩
   have S5 := S4.out.next hb hN
   have hy := hwl.out y (by simp)
   clear q hb hN S4 nb
   have q := SName_any y hy W5
   unfold NamS at q
   have hrd : ∀ b, nameOk y = b → readE ([117, 112] :: n :: y :: r) = if b = true then (if 2 + 1 = ([117, 112] :: n :: y :: r).length then some ⟨2, (c : Int), [], y, [], 0, 0⟩ else none) else none := fun b h => (by rcases r with _ | ⟨z, r⟩ <;> simp [readE, hn.out, h])
   rcases hok2 : nameOk y with _ | _
   all_goals rw [hok2] at q; replace hrd := hrd _ hok2; clear hok2
   ·skip
    replace q := hide q
    replace S5 := hide S5
    replace hrd := hide hrd
    replace hy := hide hy
    go_wp2_with fail
    refine q.out.mono ?_
    rintro e W6 ⟨he1, he⟩
    cases he1
    go_wp2
    exact ⟨rfl, hno.out _ (hrd.out.trans (if_neg (by simp))) (S5.out.ext.trans he)⟩
   ·skip
    replace q := hide q
    replace S5 := hide S5
    replace hrd := hide hrd
    replace hy := hide hy
    go_wp2_with fail
    refine q.out.mono ?_
    rintro e W6 ⟨he1, he⟩
    cases he1
    have S6 := hide (S5.out.ext' he)
    clear q S5 he
    have c3 : (W6).cell? ⟨p + 3, 3, none⟩ = some (.string ⟨#[]⟩) := S6.out.ev.cell 3
    have fE := fun i => S6.out.ev.frozen i
    have S7 := hide (S6.out.set ⟨2, (c : Int), [], y, [], 0, 0⟩ 3 (.string ⟨y.toArray⟩) rfl)
    go_wp2_with fail
    go_meet
    case rel => exact ⟨_, 2, S7.out, hrd.out.trans (if_pos (by simp))⟩
  have g1a : (x == [117, 112]) = false := beq_eq_false_iff_ne.2 hx1
  have g1b : (x != [117, 112]) = true := by simpa using hx1
  by_cases hx2 : x = [114, 101, 102, 117, 115, 101]
  ·subst hx2
   have nb : (WM).cell? ⟨p + 2, 0, none⟩ = some (.func (.func 64) #[] #[.pointer (some ⟨p + 1, 0, none⟩), .pointer (some ⟨p, 0, none⟩)]) := hM.out.nb.cell 0
   rcases r with _ | ⟨y, r⟩
   ·have q := rnext_none p 0 _ WM hM.out.nx rfl
    replace q := hide q
    go_wp2_with fail
    refine q.out.mono ?_
    rintro e W9 ⟨rfl, hb⟩
    go_wp2
    exact ⟨rfl, hno.out _ (by simp [readE]) (But.ext hM.out.ext hb hR1)⟩
   have q := rnext_some p 0 _ y WM hM.out.nx rfl
   replace q := hide q
   go_wp2_with fail
   refine q.out.mono ?_
   rintro e W5 ⟨rfl, hb, hN⟩
   have S5 := hM.out.next hb hN
   have hy := hwl.out y (by simp)
   clear q hb hN nb
   have q := SName_any y hy W5
   unfold NamS at q
   have hrd : ∀ b, nameOk y = b → readE ([114, 101, 102, 117, 115, 101] :: y :: r) = if b = true then (if 1 + 1 = ([114, 101, 102, 117, 115, 101] :: y :: r).length then some ⟨3, 0, [], y, [], 0, 0⟩ else none) else none := fun b h => (match r with | [] => by simp [readE, h] | [z] => by simp [readE, h] | [z, z2] => by simp [readE, h] | z :: z2 :: z3 :: r => by simp [readE, h])
   rcases hok2 : nameOk y with _ | _
   all_goals rw [hok2] at q; replace hrd := hrd _ hok2; clear hok2
   ·skip
    replace q := hide q
    replace S5 := hide S5
    replace hrd := hide hrd
    replace hy := hide hy
    go_wp2_with fail
    refine q.out.mono ?_
    rintro e W6 ⟨he1, he⟩
    cases he1
    go_wp2
    exact ⟨rfl, hno.out _ (hrd.out.trans (if_neg (by simp))) (S5.out.ext.trans he)⟩
   ·skip
    replace q := hide q
    replace S5 := hide S5
    replace hrd := hide hrd
    replace hy := hide hy
    go_wp2_with fail
    refine q.out.mono ?_
    rintro e W6 ⟨he1, he⟩
    cases he1
    have S6 := hide (S5.out.ext' he)
    clear q S5 he
    have c0 : (W6).cell? ⟨p + 3, 0, none⟩ = some (.int .i64 0) := S6.out.ev.cell 0
    have c3 : (W6).cell? ⟨p + 3, 3, none⟩ = some (.string ⟨#[]⟩) := S6.out.ev.cell 3
    have fE := fun i => S6.out.ev.frozen i
    have S7 := hide ((S6.out.set ⟨3, 0, [], [], [], 0, 0⟩ 0 (.int .i64 3) rfl).set ⟨3, 0, [], y, [], 0, 0⟩ 3 (.string ⟨y.toArray⟩) rfl)
    go_wp2_with fail
    go_meet
    case rel => exact ⟨_, 1, S7.out, hrd.out.trans (if_pos (by simp))⟩
  have g2a : (x == [114, 101, 102, 117, 115, 101]) = false := beq_eq_false_iff_ne.2 hx2
  have g2b : (x != [114, 101, 102, 117, 115, 101]) = true := by simpa using hx2
  by_cases hx3 : x = [100, 97, 116, 97]
  ·subst hx3
   rcases r with _ | ⟨n, r⟩
   ·have q := rconn_bad p 0 [[100, 97, 116, 97]] w WM hT.out hV.out hM.out.ext hR1 hM.out.nx hM.out.nb (.inl rfl)
    replace q := hide q
    go_wp2_with fail
    refine q.out.mono ?_
    rintro e W9 ⟨rfl, he⟩
    go_wp2
    exact ⟨rfl, hno.out _ (by simp [readE]) he⟩
   rcases hn : rdC n 1 64 with _ | c
   ·have q := rconn_bad p 0 ([100, 97, 116, 97] :: n :: r) w WM hT.out hV.out hM.out.ext hR1 hM.out.nx hM.out.nb (.inr ⟨n, rfl, hwl.out n (by simp), hn⟩)
    have hr : readE ([100, 97, 116, 97] :: n :: r) = none := (match r with | [] => by simp [readE, hn] | [z] => by simp [readE, hn] | [z, z2] => by simp [readE, hn] | z :: z2 :: z3 :: r => by simp [readE, hn])
    clear hn
    replace q := hide q
    replace hr := hide hr
    go_wp2_with fail
    refine q.out.mono ?_
    rintro e W9 ⟨rfl, he⟩
    go_wp2
    exact ⟨rfl, hno.out _ hr.out he⟩
   have q := rconn_ok p 0 c ([100, 97, 116, 97] :: n :: r) n w WM hT.out hV.out hM.out.ext hR1 hM.out.nx hM.out.nb rfl (hwl.out n (by simp)) hn
   replace q := hide q
   replace hn := hide hn
   go_wp2_with fail
   refine q.out.mono ?_
   rintro e W3 ⟨rfl, hb, hN⟩
   have S3 := hM.out.next hb hN
   clear q hb hN
   have c0 : (W3).cell? ⟨p + 3, 0, none⟩ = some (.int .i64 0) := S3.ev.cell 0
   have c1 : (W3).cell? ⟨p + 3, 1, none⟩ = some (.int .i64 0) := S3.ev.cell 1
   have fE := fun i => S3.ev.frozen i
   have S4 := (S3.set ⟨4, 0, [], [], [], 0, 0⟩ 0 (.int .i64 4) rfl).set ⟨4, (c : Int), [], [], [], 0, 0⟩ 1 (.int .i64 (c : Int)) rfl
   replace S3 := hide S3
   replace S4 := hide S4
   go_upto_region 21 with fail
   generalize (W3.setCell ⟨p + 3, 0, none⟩ (.int .i64 4)).setCell ⟨p + 3, 1, none⟩ (.int .i64 (c : Int)) = W4 at *
   clear c0 c1 fE S3
   have nb : (W4).cell? ⟨p + 2, 0, none⟩ = some (.func (.func 64) #[] #[.pointer (some ⟨p + 1, 0, none⟩), .pointer (some ⟨p, 0, none⟩)]) := S4.out.nb.cell 0
   rcases r with _ | ⟨y, r⟩
   ·have q := rnext_none p 1 _ W4 S4.out.nx rfl
    replace q := hide q
    go_wp2_with fail
    refine q.out.mono ?_
    rintro e W9 ⟨rfl, hb⟩
    go_wp2
    exact ⟨rfl, hno.out _ (by simp [readE]) (But.ext S4.out.ext hb hR1)⟩
   have q := rnext_some p 1 _ y W4 S4.out.nx rfl
   replace q := hide q
   go_wp2_with fail
   refine q.out.mono ?_
   rintro e W5 ⟨rfl, hb, hN⟩
   have S5 := S4.out.next hb hN
   have hy := hwl.out y (by simp)
   clear q hb hN S4 nb
   have q := SBytes_any y 16384 (by decide) hy W5
   unfold BytS at q
   have hrd : readE ([100, 97, 116, 97] :: n :: y :: r) = if 2 + 1 = ([100, 97, 116, 97] :: n :: y :: r).length then (readB 16384 y).map (fun b => (⟨4, (c : Int), [], [], b, 0, 0⟩ : EvS)) else none := (by rcases r with _ | ⟨z, r⟩ <;> simp [readE, hn.out])
   rcases hok2 : readB 16384 y with _ | b
   all_goals rw [hok2] at q hrd; clear hok2
   ·skip
    replace q := hide q
    replace S5 := hide S5
    replace hrd := hide hrd
    replace hy := hide hy
    go_wp2_with fail
    refine q.out.mono ?_
    rintro e W6 ⟨he1, he⟩
    cases he1
    go_wp2
    exact ⟨rfl, hno.out _ (hrd.out.trans (by split <;> rfl)) (S5.out.ext.trans he)⟩
   ·skip
    replace q := hide q
    replace S5 := hide S5
    replace hrd := hide hrd
    replace hy := hide hy
    go_wp2_with fail
    refine q.out.mono ?_
    rintro e W6 ⟨he1, he⟩
    cases he1
    have S6 := hide (S5.out.ext' he)
    clear q S5 he
    have c4 : (W6).cell? ⟨p + 3, 4, none⟩ = some (.string ⟨#[]⟩) := S6.out.ev.cell 4
    have fE := fun i => S6.out.ev.frozen i
    have S7 := hide (S6.out.set ⟨4, (c : Int), [], [], b, 0, 0⟩ 4 (.string ⟨b.toArray⟩) rfl)
    go_wp2_with fail
    go_meet
    case rel => exact ⟨_, 2, S7.out, hrd.out⟩
  have g3a : (x == [100, 97, 116, 97]) = false := beq_eq_false_iff_ne.2 hx3
  have g3b : (x != [100, 97, 116, 97]) = true := by simpa using hx3
  by_cases hx4 : x = [99, 108, 111, 115, 101]
  ·subst hx4
   rcases r with _ | ⟨n, r⟩
   ·have q := rconn_bad p 0 [[99, 108, 111, 115, 101]] w WM hT.out hV.out hM.out.ext hR1 hM.out.nx hM.out.nb (.inl rfl)
    replace q := hide q
    go_wp2_with fail
    refine q.out.mono ?_
    rintro e W9 ⟨rfl, he⟩
    go_wp2
    exact ⟨rfl, hno.out _ (by simp [readE]) he⟩
   rcases hn : rdC n 1 64 with _ | c
   ·have q := rconn_bad p 0 ([99, 108, 111, 115, 101] :: n :: r) w WM hT.out hV.out hM.out.ext hR1 hM.out.nx hM.out.nb (.inr ⟨n, rfl, hwl.out n (by simp), hn⟩)
    have hr : readE ([99, 108, 111, 115, 101] :: n :: r) = none := (match r with | [] => by simp [readE, hn] | [z] => by simp [readE, hn] | [z, z2] => by simp [readE, hn] | z :: z2 :: z3 :: r => by simp [readE, hn])
    clear hn
    replace q := hide q
    replace hr := hide hr
    go_wp2_with fail
    refine q.out.mono ?_
    rintro e W9 ⟨rfl, he⟩
    go_wp2
    exact ⟨rfl, hno.out _ hr.out he⟩
   have q := rconn_ok p 0 c ([99, 108, 111, 115, 101] :: n :: r) n w WM hT.out hV.out hM.out.ext hR1 hM.out.nx hM.out.nb rfl (hwl.out n (by simp)) hn
   replace q := hide q
   replace hn := hide hn
   go_wp2_with fail
   refine q.out.mono ?_
   rintro e W3 ⟨rfl, hb, hN⟩
   have S3 := hM.out.next hb hN
   clear q hb hN
   have c0 : (W3).cell? ⟨p + 3, 0, none⟩ = some (.int .i64 0) := S3.ev.cell 0
   have c1 : (W3).cell? ⟨p + 3, 1, none⟩ = some (.int .i64 0) := S3.ev.cell 1
   have fE := fun i => S3.ev.frozen i
   have S4 := (S3.set ⟨5, 0, [], [], [], 0, 0⟩ 0 (.int .i64 5) rfl).set ⟨5, (c : Int), [], [], [], 0, 0⟩ 1 (.int .i64 (c : Int)) rfl
   replace S3 := hide S3
   replace S4 := hide S4
   go_wp2_with fail
   go_meet
   case rel => exact ⟨_, 1, S4.out, (match r with | [] => by simp [readE, hn.out] | [z] => by simp [readE, hn.out] | [z, z2] => by simp [readE, hn.out] | z :: z2 :: z3 :: r => by simp [readE, hn.out])⟩
  have g4a : (x == [99, 108, 111, 115, 101]) = false := beq_eq_false_iff_ne.2 hx4
  have g4b : (x != [99, 108, 111, 115, 101]) = true := by simpa using hx4
  by_cases hx5 : x = [116, 105, 99, 107]
  ·subst hx5
   have nb : (WM).cell? ⟨p + 2, 0, none⟩ = some (.func (.func 64) #[] #[.pointer (some ⟨p + 1, 0, none⟩), .pointer (some ⟨p, 0, none⟩)]) := hM.out.nb.cell 0
   rcases r with _ | ⟨y, r⟩
   ·have q := rnext_none p 0 _ WM hM.out.nx rfl
    replace q := hide q
    go_wp2_with fail
    refine q.out.mono ?_
    rintro e W9 ⟨rfl, hb⟩
    go_wp2
    exact ⟨rfl, hno.out _ (by simp [readE]) (But.ext hM.out.ext hb hR1)⟩
   have q := rnext_some p 0 _ y WM hM.out.nx rfl
   replace q := hide q
   go_wp2_with fail
   refine q.out.mono ?_
   rintro e W5 ⟨rfl, hb, hN⟩
   have S5 := hM.out.next hb hN
   have hy := hwl.out y (by simp)
   clear q hb hN nb
   have q := SNum_any y 1 4096 (by decide) (by decide) W5 (hT.out.ext S5.ext) (hV.out.ext S5.ext) hy
   unfold NumS at q
   have hrd : readE ([116, 105, 99, 107] :: y :: r) = if 1 + 1 = ([116, 105, 99, 107] :: y :: r).length then (rdC y 1 4096).map (fun b => (⟨6, 0, [], [], [], (b : Int), 0⟩ : EvS)) else none := (match r with | [] => by simp [readE] | [z] => by simp [readE] | [z, z2] => by simp [readE] | z :: z2 :: z3 :: r => by simp [readE])
   rcases hok2 : rdC y 1 4096 with _ | b
   all_goals rw [hok2] at q hrd
   ·skip
    replace q := hide q
    replace S5 := hide S5
    replace hrd := hide hrd
    replace hy := hide hy
    go_wp2_with fail
    refine q.out.mono ?_
    rintro e W6 ⟨he1, he⟩
    cases he1
    go_wp2
    exact ⟨rfl, hno.out _ (hrd.out.trans (by split <;> rfl)) (S5.out.ext.trans he)⟩
   ·skip
    replace q := hide q
    replace S5 := hide S5
    replace hrd := hide hrd
    replace hy := hide hy
    have hbb := rdC_some hok2
    have hw : IntKind.i64.wrap (b : Int) = (b : Int) := by rw [IntKind.wrap_i64]; omega
    clear hbb hok2
    go_wp2_with fail
    refine q.out.mono ?_
    rintro e W6 ⟨he1, he⟩
    cases he1
    have S6 := hide (S5.out.ext' he)
    clear q S5 he
    have c0 : (W6).cell? ⟨p + 3, 0, none⟩ = some (.int .i64 0) := S6.out.ev.cell 0
    have c5 : (W6).cell? ⟨p + 3, 5, none⟩ = some (.int .i64 0) := S6.out.ev.cell 5
    have fE := fun i => S6.out.ev.frozen i
    have S7 := hide ((S6.out.set ⟨6, 0, [], [], [], 0, 0⟩ 0 (.int .i64 6) rfl).set ⟨6, 0, [], [], [], (b : Int), 0⟩ 5 (.int .i64 (b : Int)) rfl)
    go_wp2_with fail
    go_meet
    case rel => exact ⟨_, 1, S7.out, hrd.out⟩
  have g5a : (x == [116, 105, 99, 107]) = false := beq_eq_false_iff_ne.2 hx5
  have g5b : (x != [116, 105, 99, 107]) = true := by simpa using hx5
  by_cases hx6 : x = [108, 111, 97, 100]
  ·subst hx6
   have nb : (WM).cell? ⟨p + 2, 0, none⟩ = some (.func (.func 64) #[] #[.pointer (some ⟨p + 1, 0, none⟩), .pointer (some ⟨p, 0, none⟩)]) := hM.out.nb.cell 0
   rcases r with _ | ⟨y, r⟩
   ·have q := rnext_none p 0 _ WM hM.out.nx rfl
    replace q := hide q
    go_wp2_with fail
    refine q.out.mono ?_
    rintro e W9 ⟨rfl, hb⟩
    go_wp2
    exact ⟨rfl, hno.out _ (by simp [readE]) (But.ext hM.out.ext hb hR1)⟩
   have q := rnext_some p 0 _ y WM hM.out.nx rfl
   replace q := hide q
   go_wp2_with fail
   refine q.out.mono ?_
   rintro e W5 ⟨rfl, hb, hN⟩
   have S5 := hM.out.next hb hN
   have hy := hwl.out y (by simp)
   clear q hb hN nb
   have q := SBytes_any y 65536 (by decide) hy W5
   unfold BytS at q
   have hrd : readE ([108, 111, 97, 100] :: y :: r) = if 1 + 1 = ([108, 111, 97, 100] :: y :: r).length then (readB 65536 y).map (fun b => (⟨7, 0, [], [], b, 0, 0⟩ : EvS)) else none := (match r with | [] => by simp [readE] | [z] => by simp [readE] | [z, z2] => by simp [readE] | z :: z2 :: z3 :: r => by simp [readE])
   rcases hok2 : readB 65536 y with _ | b
   all_goals rw [hok2] at q hrd; clear hok2
   ·skip
    replace q := hide q
    replace S5 := hide S5
    replace hrd := hide hrd
    replace hy := hide hy
    go_wp2_with fail
    refine q.out.mono ?_
    rintro e W6 ⟨he1, he⟩
    cases he1
    go_wp2
    exact ⟨rfl, hno.out _ (hrd.out.trans (by split <;> rfl)) (S5.out.ext.trans he)⟩
   ·skip
    replace q := hide q
    replace S5 := hide S5
    replace hrd := hide hrd
    replace hy := hide hy
    go_wp2_with fail
    refine q.out.mono ?_
    rintro e W6 ⟨he1, he⟩
    cases he1
    have S6 := hide (S5.out.ext' he)
    clear q S5 he
    have c0 : (W6).cell? ⟨p + 3, 0, none⟩ = some (.int .i64 0) := S6.out.ev.cell 0
    have c4 : (W6).cell? ⟨p + 3, 4, none⟩ = some (.string ⟨#[]⟩) := S6.out.ev.cell 4
    have fE := fun i => S6.out.ev.frozen i
    have S7 := hide ((S6.out.set ⟨7, 0, [], [], [], 0, 0⟩ 0 (.int .i64 7) rfl).set ⟨7, 0, [], [], b, 0, 0⟩ 4 (.string ⟨b.toArray⟩) rfl)
    go_wp2_with fail
    go_meet
    case rel => exact ⟨_, 1, S7.out, hrd.out⟩
  have g6a : (x == [108, 111, 97, 100]) = false := beq_eq_false_iff_ne.2 hx6
  have g6b : (x != [108, 111, 97, 100]) = true := by simpa using hx6
  by_cases hx7 : x = [97, 115, 107]
  ·subst hx7
   have nb : (WM).cell? ⟨p + 2, 0, none⟩ = some (.func (.func 64) #[] #[.pointer (some ⟨p + 1, 0, none⟩), .pointer (some ⟨p, 0, none⟩)]) := hM.out.nb.cell 0
   rcases r with _ | ⟨y, r⟩
   ·have q := rnext_none p 0 _ WM hM.out.nx rfl
    replace q := hide q
    go_wp2_with fail
    refine q.out.mono ?_
    rintro e W9 ⟨rfl, hb⟩
    go_wp2
    exact ⟨rfl, hno.out _ (by simp [readE]) (But.ext hM.out.ext hb hR1)⟩
   have q := rnext_some p 0 _ y WM hM.out.nx rfl
   replace q := hide q
   go_wp2_with fail
   refine q.out.mono ?_
   rintro e W5 ⟨rfl, hb, hN⟩
   have S5 := hM.out.next hb hN
   have hy := hwl.out y (by simp)
   clear q hb hN nb
   have q := SBytes_any y 16384 (by decide) hy W5
   unfold BytS at q
   have hrd : readE ([97, 115, 107] :: y :: r) = if 1 + 1 = ([97, 115, 107] :: y :: r).length then (readB 16384 y).map (fun b => (⟨8, 0, [], [], b, 0, 0⟩ : EvS)) else none := (match r with | [] => by simp [readE] | [z] => by simp [readE] | [z, z2] => by simp [readE] | z :: z2 :: z3 :: r => by simp [readE])
   rcases hok2 : readB 16384 y with _ | b
   all_goals rw [hok2] at q hrd; clear hok2
   ·skip
    replace q := hide q
    replace S5 := hide S5
    replace hrd := hide hrd
    replace hy := hide hy
    go_wp2_with fail
    refine q.out.mono ?_
    rintro e W6 ⟨he1, he⟩
    cases he1
    go_wp2
    exact ⟨rfl, hno.out _ (hrd.out.trans (by split <;> rfl)) (S5.out.ext.trans he)⟩
   ·skip
    replace q := hide q
    replace S5 := hide S5
    replace hrd := hide hrd
    replace hy := hide hy
    go_wp2_with fail
    refine q.out.mono ?_
    rintro e W6 ⟨he1, he⟩
    cases he1
    have S6 := hide (S5.out.ext' he)
    clear q S5 he
    have c0 : (W6).cell? ⟨p + 3, 0, none⟩ = some (.int .i64 0) := S6.out.ev.cell 0
    have c4 : (W6).cell? ⟨p + 3, 4, none⟩ = some (.string ⟨#[]⟩) := S6.out.ev.cell 4
    have fE := fun i => S6.out.ev.frozen i
    have S7 := hide ((S6.out.set ⟨8, 0, [], [], [], 0, 0⟩ 0 (.int .i64 8) rfl).set ⟨8, 0, [], [], b, 0, 0⟩ 4 (.string ⟨b.toArray⟩) rfl)
    go_wp2_with fail
    go_meet
    case rel => exact ⟨_, 1, S7.out, hrd.out⟩
  have g7a : (x == [97, 115, 107]) = false := beq_eq_false_iff_ne.2 hx7
  have g7b : (x != [97, 115, 107]) = true := by simpa using hx7
  by_cases hx8 : x = [100, 114, 97, 119]
  ·subst hx8
   have nb : (WM).cell? ⟨p + 2, 0, none⟩ = some (.func (.func 64) #[] #[.pointer (some ⟨p + 1, 0, none⟩), .pointer (some ⟨p, 0, none⟩)]) := hM.out.nb.cell 0
   rcases r with _ | ⟨y, r⟩
   ·have q := rnext_none p 0 _ WM hM.out.nx rfl
    replace q := hide q
    go_wp2_with fail
    refine q.out.mono ?_
    rintro e W9 ⟨rfl, hb⟩
    go_wp2
    exact ⟨rfl, hno.out _ (by simp [readE]) (But.ext hM.out.ext hb hR1)⟩
   have q := rnext_some p 0 _ y WM hM.out.nx rfl
   replace q := hide q
   go_wp2_with fail
   refine q.out.mono ?_
   rintro e W5 ⟨rfl, hb, hN⟩
   have S5 := hM.out.next hb hN
   have hy := hwl.out y (by simp)
   clear q hb hN nb
   have q := SNum_any y 0 4294967295 (by decide) (by decide) W5 (hT.out.ext S5.ext) (hV.out.ext S5.ext) hy
   unfold NumS at q
   have hrd : readE ([100, 114, 97, 119] :: y :: r) = if 1 + 1 = ([100, 114, 97, 119] :: y :: r).length then (rdC y 0 4294967295).map (fun b => (⟨9, 0, [], [], [], 0, UInt32.ofNat b⟩ : EvS)) else none := (match r with | [] => by simp [readE] | [z] => by simp [readE] | [z, z2] => by simp [readE] | z :: z2 :: z3 :: r => by simp [readE])
   rcases hok2 : rdC y 0 4294967295 with _ | b
   all_goals rw [hok2] at q hrd
   ·skip
    replace q := hide q
    replace S5 := hide S5
    replace hrd := hide hrd
    replace hy := hide hy
    go_wp2_with fail
    refine q.out.mono ?_
    rintro e W6 ⟨he1, he⟩
    cases he1
    go_wp2
    exact ⟨rfl, hno.out _ (hrd.out.trans (by split <;> rfl)) (S5.out.ext.trans he)⟩
   ·skip
    replace q := hide q
    replace S5 := hide S5
    replace hrd := hide hrd
    replace hy := hide hy
    have hbb := rdC_some hok2
    have hw : IntKind.u32.wrap (b : Int) = (b : Int) := by rw [IntKind.wrap_u32]; omega
    have hv : (UInt32.ofNat b).toNat = b := by simp [UInt32.toNat_ofNat]; omega
    have hev : ∀ e : EvS, (evCs e).toArray.setIfInBounds 6 (.int .u32 (b : Int)) = (evCs { e with draw := UInt32.ofNat b }).toArray := fun e => by simp [evCs, hv]
    replace hev := hide hev
    replace hv := hide hv
    clear hbb hok2
    go_wp2_with fail
    refine q.out.mono ?_
    rintro e W6 ⟨he1, he⟩
    cases he1
    have S6 := hide (S5.out.ext' he)
    clear q S5 he
    have c0 : (W6).cell? ⟨p + 3, 0, none⟩ = some (.int .i64 0) := S6.out.ev.cell 0
    have c6 : (W6).cell? ⟨p + 3, 6, none⟩ = some (.int .u32 0) := S6.out.ev.cell 6
    have fE := fun i => S6.out.ev.frozen i
    have S7 := hide ((S6.out.set ⟨9, 0, [], [], [], 0, 0⟩ 0 (.int .i64 9) rfl).set ⟨9, 0, [], [], [], 0, UInt32.ofNat b⟩ 6 (.int .u32 (b : Int)) (hev.out _))
    go_wp2_with fail
    go_meet
    case rel => exact ⟨_, 1, S7.out, hrd.out⟩
  have g8a : (x == [100, 114, 97, 119]) = false := beq_eq_false_iff_ne.2 hx8
  have g8b : (x != [100, 114, 97, 119]) = true := by simpa using hx8
  by_cases hx9 : x = [100, 114, 97, 105, 110]
  ·subst hx9
   have c0 : (WM).cell? ⟨p + 3, 0, none⟩ = some (.int .i64 0) := hM.out.ev.cell 0
   have fE := fun i => hM.out.ev.frozen i
   have S4 := hide (hM.out.set ⟨10, 0, [], [], [], 0, 0⟩ 0 (.int .i64 10) rfl)
   go_wp2_with fail
   go_meet
   case rel => exact ⟨_, 0, S4.out, (match r with | [] => by simp [readE] | [z] => by simp [readE] | [z, z2] => by simp [readE] | z :: z2 :: z3 :: r => by simp [readE])⟩
  have g9a : (x == [100, 114, 97, 105, 110]) = false := beq_eq_false_iff_ne.2 hx9
  have g9b : (x != [100, 114, 97, 105, 110]) = true := by simpa using hx9
  have hr : readE (x :: r) = none := by
   match r with
   | [] => simp [readE, hx0, hx1, hx2, hx3, hx4, hx5, hx6, hx7, hx8, hx9]
   | [z] => simp [readE, hx0, hx1, hx2, hx3, hx4, hx5, hx6, hx7, hx8, hx9]
   | [z, z2] => simp [readE, hx0, hx1, hx2, hx3, hx4, hx5, hx6, hx7, hx8, hx9]
   | z :: z2 :: z3 :: r => rfl
  replace hr := hide hr
  clear hx0 hx1 hx2 hx3 hx4 hx5 hx6 hx7 hx8 hx9
  go_wp2_with fail
  refine (give_any _ _).mono ?_
  rintro e W9 ⟨rfl, rfl⟩
  go_wp2
  exact ⟨rfl, hno.out _ hr.out hM.out.ext⟩
 case rest =>
  clear hM
  obtain ⟨e, k, S, hr⟩ := hcut
  have hlt := S.nx.lt
  have hln := S.nx.len
  obtain ⟨b, c9, hwb, -⟩ := S.nx.ws
  have c0 : wc.cell? ⟨p + 1, 0, none⟩ = some (.int .i64 (k : Int)) := S.nx.at_.cell 0
  have c1 : wc.cell? ⟨p, 0, none⟩ = some (.slice (some ⟨b, 0, none⟩) (x :: r).length c9) := hwb.cell 0
  clear hwb
  generalize (x :: r).length = L at hr hlt hln c1
  have b1 : IntKind.i64.wrap ((L : Int) - 1) = (L : Int) - 1 := by rw [IntKind.wrap_i64]; omega
  by_cases hkl : k + 1 = L
  ·rw [if_pos hkl] at hr
   have b2 : (k : Int) = (L : Int) - 1 := by omega
   have b3 : decide ((k : Int) = (L : Int) - 1) = true := decide_eq_true b2
   have b4 : ((k : Int) == (L : Int) - 1) = true := beq_iff_eq.2 b2
   have b5 : ((k : Int) != (L : Int) - 1) = false := by rw [bne_eq_false_iff_eq]; exact b2
   clear b2 hlt hln hkl
   replace S := hide S
   replace hr := hide hr
   go_upto_region 36 with fail
   clear c0 c1 b1 b3 b4 b5
   obtain ⟨kd, cn, ad, pr, by_, tk, dr⟩ := e
   have zz0 : wc.cell? ⟨p + 3, 0, none⟩ = some (.int .i64 kd) := S.out.ev.cell 0
   have zz1 : wc.cell? ⟨p + 3, 1, none⟩ = some (.int .i64 cn) := S.out.ev.cell 1
   have zz2 : wc.cell? ⟨p + 3, 2, none⟩ = some (.string ⟨ad.toArray⟩) := S.out.ev.cell 2
   have zz3 : wc.cell? ⟨p + 3, 3, none⟩ = some (.string ⟨pr.toArray⟩) := S.out.ev.cell 3
   have zz4 : wc.cell? ⟨p + 3, 4, none⟩ = some (.string ⟨by_.toArray⟩) := S.out.ev.cell 4
   have zz5 : wc.cell? ⟨p + 3, 5, none⟩ = some (.int .i64 tk) := S.out.ev.cell 5
   have zz6 : wc.cell? ⟨p + 3, 6, none⟩ = some (.int .u32 (dr.toNat : Int)) := S.out.ev.cell 6
   have r0 : wc.cell? ⟨w.heap.size, 0, none⟩ = some (.int .i64 0) := S.out.rs.cell 0
   have r1 : wc.cell? ⟨w.heap.size, 1, none⟩ = some (.int .i64 0) := S.out.rs.cell 1
   have r2 : wc.cell? ⟨w.heap.size, 2, none⟩ = some (.string ⟨#[]⟩) := S.out.rs.cell 2
   have r3 : wc.cell? ⟨w.heap.size, 3, none⟩ = some (.string ⟨#[]⟩) := S.out.rs.cell 3
   have r4 : wc.cell? ⟨w.heap.size, 4, none⟩ = some (.string ⟨#[]⟩) := S.out.rs.cell 4
   have r5 : wc.cell? ⟨w.heap.size, 5, none⟩ = some (.int .i64 0) := S.out.rs.cell 5
   have r6 : wc.cell? ⟨w.heap.size, 6, none⟩ = some (.int .u32 0) := S.out.rs.cell 6
   have rf := fun i => S.out.rs.frozen i
   have hE := S.out.ext.set7 (Nat.le_refl _) (.int .i64 kd) (.int .i64 cn) (.string ⟨ad.toArray⟩) (.string ⟨pr.toArray⟩) (.string ⟨by_.toArray⟩) (.int .i64 tk) (.int .u32 (dr.toNat : Int))
   have hZ : Blk wc w.heap.size 31 #[.int .i64 0, .int .i64 0, .string ⟨#[]⟩, .string ⟨#[]⟩, .string ⟨#[]⟩, .int .i64 0, .int .u32 0] := S.out.rs
   have hRZ := hZ.fill7 (.int .i64 kd) (.int .i64 cn) (.string ⟨ad.toArray⟩) (.string ⟨pr.toArray⟩) (.string ⟨by_.toArray⟩) (.int .i64 tk) (.int .u32 (dr.toNat : Int))
   have z0 := hRZ.cell 0
   have z1 := hRZ.cell 1
   have z2 := hRZ.cell 2
   have z3 := hRZ.cell 3
   have z4 := hRZ.cell 4
   have z5 := hRZ.cell 5
   have z6 := hRZ.cell 6
   simp at z0 z1 z2 z3 z4 z5 z6
   have hfin := hok.out _ _ hr.out hE
   clear hRZ hZ hE
   replace hfin := hide hfin
   go_wp2_with fail
   exact bodyPost_ret (v := .agg #[.int .i64 kd, .int .i64 cn, .string ⟨ad.toArray⟩, .string ⟨pr.toArray⟩, .string ⟨by_.toArray⟩, .int .i64 tk, .int .u32 (dr.toNat : Int)]) (by simp [results, Tryz.results34, go_sem, z0, z1, z2, z3, z4, z5, z6]) rfl hfin.out
  ·rw [if_neg hkl] at hr
   have b2 : ¬ (k : Int) = (L : Int) - 1 := by omega
   have b3 : decide ((k : Int) = (L : Int) - 1) = false := decide_eq_false b2
   have b4 : ((k : Int) == (L : Int) - 1) = false := beq_eq_false_iff_ne.2 b2
   have b5 : ((k : Int) != (L : Int) - 1) = true := by simpa using b2
   clear hlt hln hkl b2
   replace S := hide S
   replace hr := hide hr
   go_wp2_with fail
   refine (give_any _ _).mono ?_
   rintro e W9 ⟨rfl, rfl⟩
   go_wp2
   exact ⟨rfl, hno.out _ hr.out S.out.ext⟩
end
section
open Go.RowKit
set_option linter.unusedVariables false
set_option linter.unusedSimpArgs false
theorem But.set7 {w0 w : World} {g : Nat} (h : But g w0 w) (u0 u1 u2 u3 u4 u5 u6 : Value) :
  But g w0 (((((((w.setCell ⟨g, 0, none⟩ u0).setCell ⟨g, 1, none⟩ u1).setCell ⟨g, 2, none⟩ u2).setCell ⟨g, 3, none⟩ u3).setCell ⟨g, 4, none⟩ u4).setCell ⟨g, 5, none⟩ u5).setCell ⟨g, 6, none⟩ u6) :=
 ((((((h.set 0 u0).set 1 u1).set 2 u2).set 3 u3).set 4 u4).set 5 u5).set 6 u6
/-- Reading, as it is done under guard. -/
def DoneP (s : List UInt8) (eb : Nat) (W : World) (e : Ending) (W' : World) : Prop :=
 (∃ v, evO s = some v ∧ e = .returned (.tuple #[]) ∧ But eb W W' ∧ Blk W' eb 31 (evCs v).toArray) ∨ (evO s = none ∧ e = .panicked (wrongP 9) ∧ Ext W W')
set_option maxRecDepth 20000 in
set_option maxHeartbeats 2000000 in
theorem Event1_any (s : List UInt8) (hs : s.length ≤ 4194304) (hA : s.length ≤ 1048576 ∨ ∀ r, spl 32 s ≠ [105, 110] :: r) (sb eb : Nat) (W : World) (hT : Tab W) (hV : Vars W) (hD : Deb W) (h1 : W.cell? ⟨sb, 0, none⟩ = some (.string ⟨s.toArray⟩)) (h2 : Blk W eb 31 #[.int .i64 0, .int .i64 0, .string ⟨#[]⟩, .string ⟨#[]⟩, .string ⟨#[]⟩, .int .i64 0, .int .u32 0]) :
    Calls Tryz.prog 33 #[.pointer (some ⟨sb, 0, none⟩), .pointer (some ⟨eb, 0, none⟩)] W (DoneP s eb W) := by
  have q := SRead_any s hs hA W hT hV hD
  unfold ReadP at q
  have hok : ∀ v W', evO s = some v → But eb W W' → Blk W' eb 31 (evCs v).toArray → DoneP s eb W (.returned (.tuple #[])) W' := fun v W' h b k => .inl ⟨v, h, rfl, b, k⟩
  have hno : ∀ W', evO s = none → Ext W W' → DoneP s eb W (.panicked (wrongP 9)) W' := fun W' h b => .inr ⟨h, rfl, b⟩
  generalize DoneP s eb W = Post at *
  clear hT hV hD hs hA
  cases ho : evO s with
  | none =>
    rw [ho] at q
    replace hno := fun W' => hno W' ho
    clear hok ho h2
    replace q := hide q
    replace hno := hide hno
    go_enter Tryz.func33, Tryz.ntmps33
    go_wp2_with fail
    refine q.out.mono ?_
    rintro e W1 ⟨rfl, he⟩
    go_wp2
    exact ⟨rfl, hno.out _ he⟩
  | some v =>
    rw [ho] at q
    replace hok := fun W' => hok v W' ho
    clear hno ho
    replace q := hide q
    replace hok := hide hok
    replace h2 := hide h2
    go_enter Tryz.func33, Tryz.ntmps33
    go_wp2_with fail
    refine q.out.mono ?_
    rintro e W1 ⟨rfl, he⟩
    have B := h2.out.ext he
    have c0 : W1.cell? ⟨eb, 0, none⟩ = some (.int .i64 0) := B.cell 0
    have c1 : W1.cell? ⟨eb, 1, none⟩ = some (.int .i64 0) := B.cell 1
    have c2 : W1.cell? ⟨eb, 2, none⟩ = some (.string ⟨#[]⟩) := B.cell 2
    have c3 : W1.cell? ⟨eb, 3, none⟩ = some (.string ⟨#[]⟩) := B.cell 3
    have c4 : W1.cell? ⟨eb, 4, none⟩ = some (.string ⟨#[]⟩) := B.cell 4
    have c5 : W1.cell? ⟨eb, 5, none⟩ = some (.int .i64 0) := B.cell 5
    have c6 : W1.cell? ⟨eb, 6, none⟩ = some (.int .u32 0) := B.cell 6
    have cf := fun i => B.frozen i
    obtain ⟨kd, cn, ad, pr, by_, tk, dr⟩ := v
    have B7 := B.fill7 (.int .i64 kd) (.int .i64 cn) (.string ⟨ad.toArray⟩) (.string ⟨pr.toArray⟩) (.string ⟨by_.toArray⟩) (.int .i64 tk) (.int .u32 (dr.toNat : Int))
    have H7 := (But.of (g := eb) he).set7 (.int .i64 kd) (.int .i64 cn) (.string ⟨ad.toArray⟩) (.string ⟨pr.toArray⟩) (.string ⟨by_.toArray⟩) (.int .i64 tk) (.int .u32 (dr.toNat : Int))
    have hfin := hok.out _ H7 B7
    clear B he B7 H7 h2 hok q
    replace hfin := hide hfin
    simp only [evCs]
    go_wp2
    go_end0
    exact hfin.out
/-- What script.Event answers. -/
def EvP (s : List UInt8) (w : World) (e : Ending) (w' : World) : Prop :=
 (match evO s with
  | some v => e = .returned (.tuple #[.agg (evCs v).toArray, .nilIface])
  | none => ∃ f : Nat, e = .returned (.tuple #[.agg (evCs zeroEv).toArray, .iface 44 (.pointer (some ⟨f, 0, none⟩))]) ∧ w.heap.size ≤ f ∧ Blk w' f 48 #[.int .i64 9, .int .i64 0]) ∧ Ext w w'
theorem But.late {g h : Nat} {w0 w w' : World} (b : But g w0 w) (c : But h w w') (hh : w0.heap.size ≤ h) : But g w0 w' :=
 ⟨c.os.trans b.os, c.tape.trans b.tape, c.output.trans b.output, Nat.le_trans b.size c.size, fun x hx hg => (c.block x (Nat.lt_of_lt_of_le hx b.size) (by omega)).trans (b.block x hx hg)⟩
theorem event_mem (s : List UInt8) (w : World) : ∃ W3 : World, ((w.alloc (Obj.cells #[.string ⟨s.toArray⟩] 9)).alloc (Obj.cells #[.int .i64 0, .int .i64 0, .string ⟨#[]⟩, .string ⟨#[]⟩, .string ⟨#[]⟩, .int .i64 0, .int .u32 0] 31)).alloc (Obj.cells #[.int .i64 0, .int .i64 0, .string ⟨#[]⟩, .string ⟨#[]⟩, .string ⟨#[]⟩, .int .i64 0, .int .u32 0] 31) = W3 ∧ Ext w W3 ∧ W3.heap.size = w.heap.size + 3 ∧
  W3.cell? ⟨w.heap.size, 0, none⟩ = some (.string ⟨s.toArray⟩) ∧ Blk W3 (w.heap.size + 1) 31 #[.int .i64 0, .int .i64 0, .string ⟨#[]⟩, .string ⟨#[]⟩, .string ⟨#[]⟩, .int .i64 0, .int .u32 0] ∧ Blk W3 (w.heap.size + 2) 31 #[.int .i64 0, .int .i64 0, .string ⟨#[]⟩, .string ⟨#[]⟩, .string ⟨#[]⟩, .int .i64 0, .int .u32 0] := by
 refine ⟨_, rfl, ?_⟩
 have a1 := Blk.new w 9 #[.string ⟨s.toArray⟩]
 have e1 := (Ext.refl w).alloc (Obj.cells #[.string ⟨s.toArray⟩] 9)
 have z1 : (w.alloc (Obj.cells #[.string ⟨s.toArray⟩] 9)).heap.size = w.heap.size + 1 := by simp
 generalize w.alloc (Obj.cells #[.string ⟨s.toArray⟩] 9) = V1 at *
 have a2 := Blk.new V1 31 #[.int .i64 0, .int .i64 0, .string ⟨#[]⟩, .string ⟨#[]⟩, .string ⟨#[]⟩, .int .i64 0, .int .u32 0]
 have e2 := e1.alloc (Obj.cells #[.int .i64 0, .int .i64 0, .string ⟨#[]⟩, .string ⟨#[]⟩, .string ⟨#[]⟩, .int .i64 0, .int .u32 0] 31)
 have b1 := a1.alloc (Obj.cells #[.int .i64 0, .int .i64 0, .string ⟨#[]⟩, .string ⟨#[]⟩, .string ⟨#[]⟩, .int .i64 0, .int .u32 0] 31)
 have z2 : (V1.alloc (Obj.cells #[.int .i64 0, .int .i64 0, .string ⟨#[]⟩, .string ⟨#[]⟩, .string ⟨#[]⟩, .int .i64 0, .int .u32 0] 31)).heap.size = w.heap.size + 2 := by simp [z1]
 rw [z1] at a2
 generalize V1.alloc (Obj.cells #[.int .i64 0, .int .i64 0, .string ⟨#[]⟩, .string ⟨#[]⟩, .string ⟨#[]⟩, .int .i64 0, .int .u32 0] 31) = V2 at *
 have a3 := Blk.new V2 31 #[.int .i64 0, .int .i64 0, .string ⟨#[]⟩, .string ⟨#[]⟩, .string ⟨#[]⟩, .int .i64 0, .int .u32 0]
 rw [z2] at a3
 exact ⟨e2.alloc _, by simp [z2], (b1.alloc _).cell 0, a2.alloc _, a3⟩
set_option maxRecDepth 20000 in
set_option maxHeartbeats 2000000 in
theorem SEvent_any (s : List UInt8) (hs : s.length ≤ 4194304) (hA : s.length ≤ 1048576 ∨ ∀ r, spl 32 s ≠ [105, 110] :: r) (w : World) (hT : Tab w) (hV : Vars w) (hD : Deb w) : Calls Tryz.prog 14 #[.string ⟨s.toArray⟩] w (EvP s w) := by
  have hmf : ∀ (fn : Fn) (first cap : Array Value) (w : World), (Instr.makeFunc fn first cap).run Tryz.prog w = .ok (.func fn first cap) w := fun _ _ _ _ => rfl
  have hok : ∀ W v, evO s = some v → Ext w W → EvP s w (.returned (.tuple #[.agg (evCs v).toArray, .nilIface])) W := fun W v h he => by unfold EvP; rw [h]; exact ⟨rfl, he⟩
  have hno : ∀ W f, evO s = none → w.heap.size ≤ f → Blk W f 48 #[.int .i64 9, .int .i64 0] → Ext w W → EvP s w (.returned (.tuple #[.agg #[.int .i64 0, .int .i64 0, .string ⟨#[]⟩, .string ⟨#[]⟩, .string ⟨#[]⟩, .int .i64 0, .int .u32 0], .iface 44 (.pointer (some ⟨f, 0, none⟩))])) W := fun W f h hf hb he => by unfold EvP; rw [h]; exact ⟨⟨f, rfl, hf, hb⟩, he⟩
  generalize EvP s w = Post at *
  obtain ⟨W3, hW3, E3, hz, c1, B2, B3⟩ := event_mem s w
  have EA := (Ext.refl W3).alloc (Obj.cells #[.int .i64 0] 23)
  have q1 := Event1_any s hs hA w.heap.size (w.heap.size + 2) (W3.alloc (Obj.cells #[.int .i64 0] 23)) (hT.ext (E3.trans EA)) (hV.ext (E3.trans EA)) (hD.ext (E3.trans EA)) (EA.cell c1) (B3.alloc _)
  have N := Blk.new W3 23 #[.int .i64 0]
  unfold DoneP at q1
  clear hT hV hD hs hA
  cases ho : evO s with
  | none =>
    rw [ho] at q1
    replace hno := fun W f => hno W f ho
    have q := Guard_any 33 _ (fun _ _ => rfl) W3 (fun _ => False) (fun c W => c = 9 ∧ Ext (W3.alloc (Obj.cells #[.int .i64 0] 23)) W)
      (q1.mono fun e W h => by
        rcases h with ⟨v, h, _⟩ | ⟨_, h1, h2⟩
        · cases h
        · exact .inr ⟨9, h1, rfl, h2⟩)
      (fun W h => h.elim) (fun c W h => N.ext h.2) (fun e W => e = .returned (.int .i64 9) ∧ Ext W3 W) (fun _ _ h _ => h.elim) (fun c W W' h hb => ⟨by rw [h.1], But.ext (EA.trans h.2) hb (Nat.le_refl _)⟩)
    clear q1 hok ho EA N B3
    replace q := hide q
    replace hno := hide hno
    replace E3 := hide E3
    replace B2 := hide B2
    replace hz := hide hz
    go_enter Tryz.func14, Tryz.ntmps14
    go_wp2_with fail
    clear hW3
    refine q.out.mono ?_
    rintro e W4 ⟨rfl, h4⟩
    have E4 := E3.out.trans h4
    have B4 := B2.out.ext h4
    have hz4 : w.heap.size + 3 ≤ W4.heap.size := by have := h4.size; have := hz.out; omega
    have hs4 := h4.size
    have F := Blk.new W4 48 #[.int .i64 9, .int .i64 0]
    have E5 := E4.alloc (Obj.cells #[.int .i64 9, .int .i64 0] 48)
    have B5 := B4.alloc (Obj.cells #[.int .i64 9, .int .i64 0] 48)
    generalize hW5 : W4.alloc (Obj.cells #[.int .i64 9, .int .i64 0] 48) = W5 at *
    generalize hf4 : W4.heap.size = f4 at *
    have r0 : W5.cell? ⟨w.heap.size + 1, 0, none⟩ = some (.int .i64 0) := B5.cell 0
    have r1 : W5.cell? ⟨w.heap.size + 1, 1, none⟩ = some (.int .i64 0) := B5.cell 1
    have r2 : W5.cell? ⟨w.heap.size + 1, 2, none⟩ = some (.string ⟨#[]⟩) := B5.cell 2
    have r3 : W5.cell? ⟨w.heap.size + 1, 3, none⟩ = some (.string ⟨#[]⟩) := B5.cell 3
    have r4 : W5.cell? ⟨w.heap.size + 1, 4, none⟩ = some (.string ⟨#[]⟩) := B5.cell 4
    have r5 : W5.cell? ⟨w.heap.size + 1, 5, none⟩ = some (.int .i64 0) := B5.cell 5
    have r6 : W5.cell? ⟨w.heap.size + 1, 6, none⟩ = some (.int .u32 0) := B5.cell 6
    have rf := fun i => B5.frozen i
    have hE := E5.set7 (show w.heap.size ≤ w.heap.size + 1 by omega) (.int .i64 0) (.int .i64 0) (.string ⟨#[]⟩) (.string ⟨#[]⟩) (.string ⟨#[]⟩) (.int .i64 0) (.int .u32 0)
    have hRZ := B5.fill7 (.int .i64 0) (.int .i64 0) (.string ⟨#[]⟩) (.string ⟨#[]⟩) (.string ⟨#[]⟩) (.int .i64 0) (.int .u32 0)
    have F7 := (((((((F.far (p := ⟨w.heap.size + 1, 0, none⟩) (show f4 ≠ w.heap.size + 1 by omega) (.int .i64 0)).far (p := ⟨w.heap.size + 1, 1, none⟩) (show f4 ≠ w.heap.size + 1 by omega) (.int .i64 0)).far (p := ⟨w.heap.size + 1, 2, none⟩) (show f4 ≠ w.heap.size + 1 by omega) (.string ⟨#[]⟩)).far (p := ⟨w.heap.size + 1, 3, none⟩) (show f4 ≠ w.heap.size + 1 by omega) (.string ⟨#[]⟩)).far (p := ⟨w.heap.size + 1, 4, none⟩) (show f4 ≠ w.heap.size + 1 by omega) (.string ⟨#[]⟩)).far (p := ⟨w.heap.size + 1, 5, none⟩) (show f4 ≠ w.heap.size + 1 by omega) (.int .i64 0)).far (p := ⟨w.heap.size + 1, 6, none⟩) (show f4 ≠ w.heap.size + 1 by omega) (.int .u32 0))
    have z0 := hRZ.cell 0
    have z1 := hRZ.cell 1
    have z2 := hRZ.cell 2
    have z3 := hRZ.cell 3
    have z4 := hRZ.cell 4
    have z5 := hRZ.cell 5
    have z6 := hRZ.cell 6
    simp at z0 z1 z2 z3 z4 z5 z6
    have hfin := hno.out _ f4 (by omega) F7 hE
    clear hE hRZ F7 F E5 B5 E4 B4 h4 q E3 B2 hno hz hz4 hs4
    replace hfin := hide hfin
    go_wp2
    exact bodyPost_ret (v := .tuple #[.agg #[.int .i64 0, .int .i64 0, .string ⟨#[]⟩, .string ⟨#[]⟩, .string ⟨#[]⟩, .int .i64 0, .int .u32 0], .iface 44 (.pointer (some ⟨f4, 0, none⟩))]) (by simp [results, Tryz.results14, go_sem, z0, z1, z2, z3, z4, z5, z6]) rfl hfin.out
  | some v =>
    rw [ho] at q1
    replace hok := fun W => hok W v ho
    have q := Guard_any 33 _ (fun _ _ => rfl) W3 (fun W => But (w.heap.size + 2) (W3.alloc (Obj.cells #[.int .i64 0] 23)) W ∧ Blk W (w.heap.size + 2) 31 (evCs v).toArray) (fun c W => False)
      (q1.mono fun e W h => by
        rcases h with ⟨v', h, h1, h2, h3⟩ | ⟨h, _⟩
        · injection h with h
          subst h
          exact .inl ⟨h1, h2, h3⟩
        · cases h)
      (fun W h => N.but h.1 (by omega)) (fun c W h => h.elim) (fun e W => e = .returned (.int .i64 0) ∧ But (w.heap.size + 2) W3 W ∧ Blk W (w.heap.size + 2) 31 (evCs v).toArray) (fun W W' h hb => ⟨rfl, ((But.of EA).trans h.1).late hb (Nat.le_refl _), h.2.but hb (by omega)⟩) (fun _ _ _ h _ => h.elim)
    clear q1 hno ho EA N B3
    replace q := hide q
    replace hok := hide hok
    replace E3 := hide E3
    replace B2 := hide B2
    go_enter Tryz.func14, Tryz.ntmps14
    go_wp2_with fail
    clear hW3
    refine q.out.mono ?_
    rintro e W4 ⟨rfl, h4, B3⟩
    have E4 := But.ext E3.out h4 (by omega)
    have B4 := B2.out.but h4 (by omega)
    obtain ⟨kd, cn, ad, pr, by_, tk, dr⟩ := v
    have zz0 : W4.cell? ⟨w.heap.size + 2, 0, none⟩ = some (.int .i64 kd) := B3.cell 0
    have zz1 : W4.cell? ⟨w.heap.size + 2, 1, none⟩ = some (.int .i64 cn) := B3.cell 1
    have zz2 : W4.cell? ⟨w.heap.size + 2, 2, none⟩ = some (.string ⟨ad.toArray⟩) := B3.cell 2
    have zz3 : W4.cell? ⟨w.heap.size + 2, 3, none⟩ = some (.string ⟨pr.toArray⟩) := B3.cell 3
    have zz4 : W4.cell? ⟨w.heap.size + 2, 4, none⟩ = some (.string ⟨by_.toArray⟩) := B3.cell 4
    have zz5 : W4.cell? ⟨w.heap.size + 2, 5, none⟩ = some (.int .i64 tk) := B3.cell 5
    have zz6 : W4.cell? ⟨w.heap.size + 2, 6, none⟩ = some (.int .u32 (dr.toNat : Int)) := B3.cell 6
    have r0 : W4.cell? ⟨w.heap.size + 1, 0, none⟩ = some (.int .i64 0) := B4.cell 0
    have r1 : W4.cell? ⟨w.heap.size + 1, 1, none⟩ = some (.int .i64 0) := B4.cell 1
    have r2 : W4.cell? ⟨w.heap.size + 1, 2, none⟩ = some (.string ⟨#[]⟩) := B4.cell 2
    have r3 : W4.cell? ⟨w.heap.size + 1, 3, none⟩ = some (.string ⟨#[]⟩) := B4.cell 3
    have r4 : W4.cell? ⟨w.heap.size + 1, 4, none⟩ = some (.string ⟨#[]⟩) := B4.cell 4
    have r5 : W4.cell? ⟨w.heap.size + 1, 5, none⟩ = some (.int .i64 0) := B4.cell 5
    have r6 : W4.cell? ⟨w.heap.size + 1, 6, none⟩ = some (.int .u32 0) := B4.cell 6
    have rf := fun i => B4.frozen i
    have hE := E4.set7 (show w.heap.size ≤ w.heap.size + 1 by omega) (.int .i64 kd) (.int .i64 cn) (.string ⟨ad.toArray⟩) (.string ⟨pr.toArray⟩) (.string ⟨by_.toArray⟩) (.int .i64 tk) (.int .u32 (dr.toNat : Int))
    have hRZ := B4.fill7 (.int .i64 kd) (.int .i64 cn) (.string ⟨ad.toArray⟩) (.string ⟨pr.toArray⟩) (.string ⟨by_.toArray⟩) (.int .i64 tk) (.int .u32 (dr.toNat : Int))
    have z0 := hRZ.cell 0
    have z1 := hRZ.cell 1
    have z2 := hRZ.cell 2
    have z3 := hRZ.cell 3
    have z4 := hRZ.cell 4
    have z5 := hRZ.cell 5
    have z6 := hRZ.cell 6
    simp at z0 z1 z2 z3 z4 z5 z6
    have hfin := hok.out _ hE
    clear hE hRZ B4 B3 h4 q E3 B2 hok E4
    replace hfin := hide hfin
    go_wp2
    exact bodyPost_ret (v := .tuple #[.agg #[.int .i64 kd, .int .i64 cn, .string ⟨ad.toArray⟩, .string ⟨pr.toArray⟩, .string ⟨by_.toArray⟩, .int .i64 tk, .int .u32 (dr.toNat : Int)], .nilIface]) (by simp [results, Tryz.results14, go_sem, z0, z1, z2, z3, z4, z5, z6]) rfl hfin.out
end
section
open Go.RowKit Go.Sort
set_option linter.unusedVariables false
set_option linter.unusedSimpArgs false
theorem SLine_any (g c : Nat) (l : List (List UInt8)) (W : World) (hn : l.length ≤ 16) (hc : l.length ≤ c) (hl : (Lib.join l [32]).length ≤ 140737488355328) (h : Blk W g 9 (l.map fun s => Value.string ⟨s.toArray⟩).toArray) :
  Calls Tryz.prog 48 #[.slice (some ⟨g, 0, none⟩) l.length c] W fun e w' => e = .returned (.string ⟨(Lib.join l [32]).toArray⟩) ∧ Ext W w' := by
 have hm : (l.map fun s => (⟨s.toArray⟩ : ByteArray)).map (·.data.toList) = l := by rw [List.map_map]; exact List.map_id'' (fun _ => rfl) l
 have q := Tryz.strings_Join g 0 c (l.map fun s => (⟨s.toArray⟩ : ByteArray)) ⟨#[32]⟩ W (fun j x hx => by
  have := h.cell j
  simp only [List.getElem?_toArray, List.getElem?_map] at this hx
  cases hj : l[j]? with
  | none => rw [hj] at hx; cases hx
  | some y => rw [hj] at this hx; injection hx with hx; rw [← hx]; simpa using this) h.lt (by simp; omega) (by simpa using hc) (by rw [hm]; exact hl)
 rw [hm] at q
 simp only [List.length_map] at q
 clear h hc hl hm
 replace q := q.mono (R' := fun e w' => e = .returned (.string ⟨(Lib.join l [32]).toArray⟩) ∧ Ext W w') fun e w' h => h
 generalize Lib.join l [32] = j at *
 generalize l.length = n at *
 replace q := hide q
 replace hn := hide hn
 go_enter Tryz.func48, Tryz.ntmps48
 go_wp2_with fail
 refine q.out.mono ?_
 rintro e w1 ⟨rfl, he⟩
 go_wp2
 go_ret
 exact ⟨rfl, he⟩
/- tell -/
theorem ItoaI_any (n : Int) (h : i64 n) (w : World) (hT : Tab w) : Calls Tryz.prog 50 #[.int .i64 n] w fun e w' => e = .returned (.string ⟨(Lib.itoa n).toArray⟩) ∧ Ext w w' := by
 refine (Tryz.strconv_Itoa n h.1 h.2 w hT).mono ?_
 rintro e w' ⟨rfl, k, os, rfl⟩
 refine ⟨rfl, ?_⟩
 refine ⟨rfl, rfl, rfl, by simp [grow, World.drewN], fun j hj => ?_⟩
 simp only [grow, World.drewN]
 rw [Array.getElem?_append_left hj]
/-- An event as it lies in memory. -/
structure EvIn (e : EvS) : Prop where
  kind : i64 e.kind
  conn : i64 e.conn
  addr : e.addr.length ≤ 1048576
  peer : e.peer.length ≤ 1048576
  bytes : e.bytes.length ≤ 1048576
  ticks : i64 e.ticks
theorem join2_len (a b : List UInt8) : (Lib.join [a, b] [32]).length = a.length + 1 + b.length := by
 rw [show Lib.join [a, b] [32] = a ++ ([32] ++ Lib.join [b] [32]) from rfl, Lib.join_one]; simp; omega
theorem join3_len (a b c : List UInt8) : (Lib.join [a, b, c] [32]).length = a.length + 1 + b.length + 1 + c.length := by
 rw [show Lib.join [a, b, c] [32] = a ++ ([32] ++ Lib.join [b, c] [32]) from rfl]; simp [join2_len]; omega
theorem itoa_len (n : Int) (h : i64 n) : (Lib.itoa n).length ≤ 21 := by
 have := Lib.itoa_length_le n h.1 h.2
 omega
set_option maxRecDepth 20000 in
set_option maxHeartbeats 4000000 in
theorem STell_any (e : EvS) (hin : EvIn e) (w : World) (hT : Tab w) (hD : Deb w) : Calls Tryz.prog 31 #[.agg (evCs e).toArray] w fun e' w' => e' = .returned (.string ⟨(tellS e).toArray⟩) ∧ Ext w w' := by
 have hR : ∀ s W, tellS e = s → Ext w W → (Ending.returned (.string ⟨s.toArray⟩) = Ending.returned (.string ⟨(tellS e).toArray⟩) ∧ Ext w W) := fun s W h he => ⟨by rw [h], he⟩
 have hPost : (fun e' w' => e' = Ending.returned (.string ⟨(tellS e).toArray⟩) ∧ Ext w w') = (fun e' w' => e' = Ending.returned (.string ⟨(tellS e).toArray⟩) ∧ Ext w w') := rfl
 obtain ⟨kd, cn, ad, pr, by_, tk, dr⟩ := e
 obtain ⟨h1, h2, h3, h4, h5, h6⟩ := hin
 dsimp only at h1 h2 h3 h4 h5 h6
 generalize hQ : (fun e' w' => e' = Ending.returned (.string ⟨(tellS ⟨kd, cn, ad, pr, by_, tk, dr⟩).toArray⟩) ∧ Ext w w') = Post
 replace hR : ∀ s W, tellS ⟨kd, cn, ad, pr, by_, tk, dr⟩ = s → Ext w W → Post (.returned (.string ⟨s.toArray⟩)) W := by rw [← hQ]; exact hR
 clear hQ hPost
 have B := Blk.new w 31 #[.int .i64 kd, .int .i64 cn, .string ⟨ad.toArray⟩, .string ⟨pr.toArray⟩, .string ⟨by_.toArray⟩, .int .i64 tk, .int .u32 (dr.toNat : Int)]
 have E := (Ext.refl w).alloc (Obj.cells #[.int .i64 kd, .int .i64 cn, .string ⟨ad.toArray⟩, .string ⟨pr.toArray⟩, .string ⟨by_.toArray⟩, .int .i64 tk, .int .u32 (dr.toNat : Int)] 31)
 generalize hW1 : w.alloc (Obj.cells #[.int .i64 kd, .int .i64 cn, .string ⟨ad.toArray⟩, .string ⟨pr.toArray⟩, .string ⟨by_.toArray⟩, .int .i64 tk, .int .u32 (dr.toNat : Int)] 31) = W1 at *
 generalize hp : w.heap.size = p at B
 have q := ItoaI_any cn h2 W1 (hT.ext E)
 have hil := itoa_len cn h2
 have hil2 := itoa_len tk h6
 have c1 : W1.cell? ⟨p, 1, none⟩ = some (.int .i64 cn) := B.cell 1
 simp only [evCs]
 replace hW1 := hide hW1
 replace hp := hide hp
 replace hT := hide hT
 replace hD := hide hD
 replace hR := hide hR
 replace h1 := hide h1
 replace h3 := hide h3
 replace h4 := hide h4
 replace h5 := hide h5
 replace B := hide B
 replace E := hide E
 replace q := hide q
 replace hil := hide hil
 replace hil2 := hide hil2
 replace h2 := hide h2
 replace h6 := hide h6
 go_enter Tryz.func31, Tryz.ntmps31
 go_upto_region 1 with fail
 rw [hW1.out, hp.out]
 clear hW1
 go_wp2_with fail
 refine q.out.mono ?_
 rintro e W2 ⟨rfl, he⟩
 clear c1 q
 have B2 := B.out.ext he
 have E2 := E.out.trans he
 clear B E he
 have c0 : W2.cell? ⟨p, 0, none⟩ = some (.int .i64 kd) := B2.cell 0
 have c2 : W2.cell? ⟨p, 2, none⟩ = some (.string ⟨ad.toArray⟩) := B2.cell 2
 have c3 : W2.cell? ⟨p, 3, none⟩ = some (.string ⟨pr.toArray⟩) := B2.cell 3
 have c4 : W2.cell? ⟨p, 4, none⟩ = some (.string ⟨by_.toArray⟩) := B2.cell 4
 have c5 : W2.cell? ⟨p, 5, none⟩ = some (.int .i64 tk) := B2.cell 5
 have c6 : W2.cell? ⟨p, 6, none⟩ = some (.int .u32 (dr.toNat : Int)) := B2.cell 6
 clear B2
 have hit : ∃ it, Lib.itoa cn = it := ⟨_, rfl⟩
 obtain ⟨it, hit⟩ := hit
 rw [hit] at hil ⊢
 have qL : ∀ (g c : Nat) (l : List (List UInt8)) (W : World), l.length ≤ 16 → l.length ≤ c → (Lib.join l [32]).length ≤ 140737488355328 → Blk W g 9 (l.map fun s => Value.string ⟨s.toArray⟩).toArray → Calls Tryz.prog 48 #[.slice (some ⟨g, 0, none⟩) l.length c] W fun e w' => e = .returned (.string ⟨(Lib.join l [32]).toArray⟩) ∧ Ext W w' := fun g c l W a b d h => SLine_any g c l W a b d h
 replace hit := hide hit
 replace qL := hide qL
 replace E2 := hide E2
 by_cases hk1 : kd = 1
 ·subst hk1
  have q := AAddrText_any ad h3.out W2 (hT.out.ext E2.out) (hD.out.ext E2.out)
  have hat : ∃ a ec, addrT ad = (a, ec) := ⟨_, _, rfl⟩
  obtain ⟨a, ec, hat⟩ := hat
  have hal := addrT_len (a := ad)
  rw [hat] at q hal
  replace q := hide q
  replace hat := hide hat
  replace hal := hide hal
  go_wp2_with fail
  refine q.out.mono ?_
  rintro e W3 ⟨rfl, he3⟩
  have E3 := E2.out.trans he3
  clear q he3
  replace E3 := hide E3
  have qB := Blk.new W3 9 #[.string ⟨#[105, 110]⟩, .string ⟨it.toArray⟩, .string ⟨a.toArray⟩]
  have qE := (E3.out).alloc (Obj.cells #[.string ⟨#[105, 110]⟩, .string ⟨it.toArray⟩, .string ⟨a.toArray⟩] 9)
  have qj : (Lib.join [[105, 110], it, a] [32]).length ≤ 140737488355328 := by rw [join3_len]; have := hil.out; have := hal.out; simp only [List.length_cons, List.length_nil] at *; omega
  have q := qL.out W3.heap.size 3 [[105, 110], it, a] _ (by simp) (by simp) qj qB
  replace q : Calls Tryz.prog 48 #[.slice (some ⟨W3.heap.size, 0, none⟩) 3 3] _ _ := q
  have hr : tellS ⟨1, cn, ad, pr, by_, tk, dr⟩ = Lib.join [[105, 110], it, a] [32] := (by simp [tellS, hit.out, hat.out])
  generalize Lib.join [[105, 110], it, a] [32] = J at q hr
  clear qB qj
  replace q := hide q
  replace qE := hide qE
  replace hr := hide hr
  go_wp2_with fail
  refine q.out.mono ?_
  rintro e W9 ⟨rfl, he⟩
  go_wp2
  try go_ret
  exact hR.out _ _ hr.out (qE.out.trans he)
 have g1 : (kd == 1) = false := beq_eq_false_iff_ne.2 hk1
 have g1b : decide (kd = 1) = false := decide_eq_false hk1
 by_cases hk2 : kd = 2
 ·subst hk2
  have qB := Blk.new W2 9 #[.string ⟨#[117, 112]⟩, .string ⟨it.toArray⟩, .string ⟨pr.toArray⟩]
  have qE := (E2.out).alloc (Obj.cells #[.string ⟨#[117, 112]⟩, .string ⟨it.toArray⟩, .string ⟨pr.toArray⟩] 9)
  have qj : (Lib.join [[117, 112], it, pr] [32]).length ≤ 140737488355328 := by rw [join3_len]; have := hil.out; have := h4.out; simp only [List.length_cons, List.length_nil]; omega
  have q := qL.out W2.heap.size 3 [[117, 112], it, pr] _ (by simp) (by simp) qj qB
  replace q : Calls Tryz.prog 48 #[.slice (some ⟨W2.heap.size, 0, none⟩) 3 3] _ _ := q
  have hr : tellS ⟨2, cn, ad, pr, by_, tk, dr⟩ = Lib.join [[117, 112], it, pr] [32] := (by simp [tellS, hit.out])
  generalize Lib.join [[117, 112], it, pr] [32] = J at q hr
  clear qB qj
  replace q := hide q
  replace qE := hide qE
  replace hr := hide hr
  go_wp2_with fail
  refine q.out.mono ?_
  rintro e W9 ⟨rfl, he⟩
  go_wp2
  try go_ret
  exact hR.out _ _ hr.out (qE.out.trans he)
 have g2 : (kd == 2) = false := beq_eq_false_iff_ne.2 hk2
 have g2b : decide (kd = 2) = false := decide_eq_false hk2
 by_cases hk3 : kd = 3
 ·subst hk3
  have qB := Blk.new W2 9 #[.string ⟨#[114, 101, 102, 117, 115, 101]⟩, .string ⟨pr.toArray⟩]
  have qE := (E2.out).alloc (Obj.cells #[.string ⟨#[114, 101, 102, 117, 115, 101]⟩, .string ⟨pr.toArray⟩] 9)
  have qj : (Lib.join [[114, 101, 102, 117, 115, 101], pr] [32]).length ≤ 140737488355328 := by rw [join2_len]; have := h4.out; simp only [List.length_cons, List.length_nil]; omega
  have q := qL.out W2.heap.size 2 [[114, 101, 102, 117, 115, 101], pr] _ (by simp) (by simp) qj qB
  replace q : Calls Tryz.prog 48 #[.slice (some ⟨W2.heap.size, 0, none⟩) 2 2] _ _ := q
  have hr : tellS ⟨3, cn, ad, pr, by_, tk, dr⟩ = Lib.join [[114, 101, 102, 117, 115, 101], pr] [32] := (by simp [tellS, hit.out])
  generalize Lib.join [[114, 101, 102, 117, 115, 101], pr] [32] = J at q hr
  clear qB qj
  replace q := hide q
  replace qE := hide qE
  replace hr := hide hr
  go_wp2_with fail
  refine q.out.mono ?_
  rintro e W9 ⟨rfl, he⟩
  go_wp2
  try go_ret
  exact hR.out _ _ hr.out (qE.out.trans he)
 have g3 : (kd == 3) = false := beq_eq_false_iff_ne.2 hk3
 have g3b : decide (kd = 3) = false := decide_eq_false hk3
 by_cases hk4 : kd = 4
 ·subst hk4
  have q := SWord_any by_ h5.out W2
  have hwl := wordB_len by_
  have hwd : ∃ wd, wordB by_ = wd := ⟨_, rfl⟩
  obtain ⟨wd, hwd⟩ := hwd
  rw [hwd] at q hwl
  replace q := hide q
  replace hwl := hide hwl
  replace hwd := hide hwd
  go_wp2_with fail
  refine q.out.mono ?_
  rintro e W3 ⟨rfl, he3⟩
  have E3 := E2.out.trans he3
  clear q he3
  replace E3 := hide E3
  have qB := Blk.new W3 9 #[.string ⟨#[100, 97, 116, 97]⟩, .string ⟨it.toArray⟩, .string ⟨wd.toArray⟩]
  have qE := (E3.out).alloc (Obj.cells #[.string ⟨#[100, 97, 116, 97]⟩, .string ⟨it.toArray⟩, .string ⟨wd.toArray⟩] 9)
  have qj : (Lib.join [[100, 97, 116, 97], it, wd] [32]).length ≤ 140737488355328 := by rw [join3_len]; have := hil.out; have := hwl.out; have := h5.out; simp only [List.length_cons, List.length_nil]; omega
  have q := qL.out W3.heap.size 3 [[100, 97, 116, 97], it, wd] _ (by simp) (by simp) qj qB
  replace q : Calls Tryz.prog 48 #[.slice (some ⟨W3.heap.size, 0, none⟩) 3 3] _ _ := q
  have hr : tellS ⟨4, cn, ad, pr, by_, tk, dr⟩ = Lib.join [[100, 97, 116, 97], it, wd] [32] := (by simp [tellS, hit.out, hwd.out])
  generalize Lib.join [[100, 97, 116, 97], it, wd] [32] = J at q hr
  clear qB qj
  replace q := hide q
  replace qE := hide qE
  replace hr := hide hr
  go_wp2_with fail
  refine q.out.mono ?_
  rintro e W9 ⟨rfl, he⟩
  go_wp2
  try go_ret
  exact hR.out _ _ hr.out (qE.out.trans he)
 have g4 : (kd == 4) = false := beq_eq_false_iff_ne.2 hk4
 have g4b : decide (kd = 4) = false := decide_eq_false hk4
 by_cases hk5 : kd = 5
 ·subst hk5
  have qB := Blk.new W2 9 #[.string ⟨#[99, 108, 111, 115, 101]⟩, .string ⟨it.toArray⟩]
  have qE := (E2.out).alloc (Obj.cells #[.string ⟨#[99, 108, 111, 115, 101]⟩, .string ⟨it.toArray⟩] 9)
  have qj : (Lib.join [[99, 108, 111, 115, 101], it] [32]).length ≤ 140737488355328 := by rw [join2_len]; have := hil.out; simp only [List.length_cons, List.length_nil]; omega
  have q := qL.out W2.heap.size 2 [[99, 108, 111, 115, 101], it] _ (by simp) (by simp) qj qB
  replace q : Calls Tryz.prog 48 #[.slice (some ⟨W2.heap.size, 0, none⟩) 2 2] _ _ := q
  have hr : tellS ⟨5, cn, ad, pr, by_, tk, dr⟩ = Lib.join [[99, 108, 111, 115, 101], it] [32] := (by simp [tellS, hit.out])
  generalize Lib.join [[99, 108, 111, 115, 101], it] [32] = J at q hr
  clear qB qj
  replace q := hide q
  replace qE := hide qE
  replace hr := hide hr
  go_wp2_with fail
  refine q.out.mono ?_
  rintro e W9 ⟨rfl, he⟩
  go_wp2
  try go_ret
  exact hR.out _ _ hr.out (qE.out.trans he)
 have g5 : (kd == 5) = false := beq_eq_false_iff_ne.2 hk5
 have g5b : decide (kd = 5) = false := decide_eq_false hk5
 by_cases hk6 : kd = 6
 ·subst hk6
  have q := ItoaI_any tk h6.out W2 (hT.out.ext E2.out)
  have hit2 : ∃ it2, Lib.itoa tk = it2 := ⟨_, rfl⟩
  obtain ⟨it2, hit2⟩ := hit2
  rw [hit2] at q hil2
  replace q := hide q
  replace hit2 := hide hit2
  go_wp2_with fail
  refine q.out.mono ?_
  rintro e W3 ⟨rfl, he3⟩
  have E3 := E2.out.trans he3
  clear q he3
  replace E3 := hide E3
  have qB := Blk.new W3 9 #[.string ⟨#[116, 105, 99, 107]⟩, .string ⟨it2.toArray⟩]
  have qE := (E3.out).alloc (Obj.cells #[.string ⟨#[116, 105, 99, 107]⟩, .string ⟨it2.toArray⟩] 9)
  have qj : (Lib.join [[116, 105, 99, 107], it2] [32]).length ≤ 140737488355328 := by rw [join2_len]; have := hil2.out; simp only [List.length_cons, List.length_nil]; omega
  have q := qL.out W3.heap.size 2 [[116, 105, 99, 107], it2] _ (by simp) (by simp) qj qB
  replace q : Calls Tryz.prog 48 #[.slice (some ⟨W3.heap.size, 0, none⟩) 2 2] _ _ := q
  have hr : tellS ⟨6, cn, ad, pr, by_, tk, dr⟩ = Lib.join [[116, 105, 99, 107], it2] [32] := (by simp [tellS, hit2.out])
  generalize Lib.join [[116, 105, 99, 107], it2] [32] = J at q hr
  clear qB qj
  replace q := hide q
  replace qE := hide qE
  replace hr := hide hr
  go_wp2_with fail
  refine q.out.mono ?_
  rintro e W9 ⟨rfl, he⟩
  go_wp2
  try go_ret
  exact hR.out _ _ hr.out (qE.out.trans he)
 have g6 : (kd == 6) = false := beq_eq_false_iff_ne.2 hk6
 have g6b : decide (kd = 6) = false := decide_eq_false hk6
 by_cases hk7 : kd = 7
 ·subst hk7
  have q := SWord_any by_ h5.out W2
  have hwl := wordB_len by_
  have hwd : ∃ wd, wordB by_ = wd := ⟨_, rfl⟩
  obtain ⟨wd, hwd⟩ := hwd
  rw [hwd] at q hwl
  replace q := hide q
  replace hwl := hide hwl
  replace hwd := hide hwd
  go_wp2_with fail
  refine q.out.mono ?_
  rintro e W3 ⟨rfl, he3⟩
  have E3 := E2.out.trans he3
  clear q he3
  replace E3 := hide E3
  have qB := Blk.new W3 9 #[.string ⟨#[108, 111, 97, 100]⟩, .string ⟨wd.toArray⟩]
  have qE := (E3.out).alloc (Obj.cells #[.string ⟨#[108, 111, 97, 100]⟩, .string ⟨wd.toArray⟩] 9)
  have qj : (Lib.join [[108, 111, 97, 100], wd] [32]).length ≤ 140737488355328 := by rw [join2_len]; have := hil.out; have := hwl.out; have := h5.out; simp only [List.length_cons, List.length_nil]; omega
  have q := qL.out W3.heap.size 2 [[108, 111, 97, 100], wd] _ (by simp) (by simp) qj qB
  replace q : Calls Tryz.prog 48 #[.slice (some ⟨W3.heap.size, 0, none⟩) 2 2] _ _ := q
  have hr : tellS ⟨7, cn, ad, pr, by_, tk, dr⟩ = Lib.join [[108, 111, 97, 100], wd] [32] := (by simp [tellS, hit.out, hwd.out])
  generalize Lib.join [[108, 111, 97, 100], wd] [32] = J at q hr
  clear qB qj
  replace q := hide q
  replace qE := hide qE
  replace hr := hide hr
  go_wp2_with fail
  refine q.out.mono ?_
  rintro e W9 ⟨rfl, he⟩
  go_wp2
  try go_ret
  exact hR.out _ _ hr.out (qE.out.trans he)
 have g7 : (kd == 7) = false := beq_eq_false_iff_ne.2 hk7
 have g7b : decide (kd = 7) = false := decide_eq_false hk7
 by_cases hk8 : kd = 8
 ·subst hk8
  have q := SWord_any by_ h5.out W2
  have hwl := wordB_len by_
  have hwd : ∃ wd, wordB by_ = wd := ⟨_, rfl⟩
  obtain ⟨wd, hwd⟩ := hwd
  rw [hwd] at q hwl
  replace q := hide q
  replace hwl := hide hwl
  replace hwd := hide hwd
  go_wp2_with fail
  refine q.out.mono ?_
  rintro e W3 ⟨rfl, he3⟩
  have E3 := E2.out.trans he3
  clear q he3
  replace E3 := hide E3
  have qB := Blk.new W3 9 #[.string ⟨#[97, 115, 107]⟩, .string ⟨wd.toArray⟩]
  have qE := (E3.out).alloc (Obj.cells #[.string ⟨#[97, 115, 107]⟩, .string ⟨wd.toArray⟩] 9)
  have qj : (Lib.join [[97, 115, 107], wd] [32]).length ≤ 140737488355328 := by rw [join2_len]; have := hil.out; have := hwl.out; have := h5.out; simp only [List.length_cons, List.length_nil]; omega
  have q := qL.out W3.heap.size 2 [[97, 115, 107], wd] _ (by simp) (by simp) qj qB
  replace q : Calls Tryz.prog 48 #[.slice (some ⟨W3.heap.size, 0, none⟩) 2 2] _ _ := q
  have hr : tellS ⟨8, cn, ad, pr, by_, tk, dr⟩ = Lib.join [[97, 115, 107], wd] [32] := (by simp [tellS, hit.out, hwd.out])
  generalize Lib.join [[97, 115, 107], wd] [32] = J at q hr
  clear qB qj
  replace q := hide q
  replace qE := hide qE
  replace hr := hide hr
  go_wp2_with fail
  refine q.out.mono ?_
  rintro e W9 ⟨rfl, he⟩
  go_wp2
  try go_ret
  exact hR.out _ _ hr.out (qE.out.trans he)
 have g8 : (kd == 8) = false := beq_eq_false_iff_ne.2 hk8
 have g8b : decide (kd = 8) = false := decide_eq_false hk8
 by_cases hk9 : kd = 9
 ·subst hk9
  have hdl := dr.toNat_lt
  have hw : IntKind.u64.wrap (dr.toNat : Int) = (dr.toNat : Int) := by rw [IntKind.wrap_u64]; omega
  have q := FormatUint_any dr.toNat (by omega) W2 (hT.out.ext E2.out)
  unfold dec at q
  rw [← digS_dec] at q
  have hdg := dig10 (n := dr.toNat) (by omega)
  have hds : ∃ ds, digS 10 dr.toNat = ds := ⟨_, rfl⟩
  obtain ⟨ds, hds⟩ := hds
  rw [hds] at q hdg
  clear hdl
  replace q := hide q
  replace hdg := hide hdg
  replace hds := hide hds
  go_wp2_with fail
  refine q.out.mono ?_
  rintro e W3 ⟨rfl, he3⟩
  have E3 := E2.out.trans he3
  clear q he3
  replace E3 := hide E3
  have qB := Blk.new W3 9 #[.string ⟨#[100, 114, 97, 119]⟩, .string ⟨ds.toArray⟩]
  have qE := (E3.out).alloc (Obj.cells #[.string ⟨#[100, 114, 97, 119]⟩, .string ⟨ds.toArray⟩] 9)
  have qj : (Lib.join [[100, 114, 97, 119], ds] [32]).length ≤ 140737488355328 := by rw [join2_len]; have := hdg.out; simp only [List.length_cons, List.length_nil]; omega
  have q := qL.out W3.heap.size 2 [[100, 114, 97, 119], ds] _ (by simp) (by simp) qj qB
  replace q : Calls Tryz.prog 48 #[.slice (some ⟨W3.heap.size, 0, none⟩) 2 2] _ _ := q
  have hr : tellS ⟨9, cn, ad, pr, by_, tk, dr⟩ = Lib.join [[100, 114, 97, 119], ds] [32] := (by simp [tellS, hds.out])
  generalize Lib.join [[100, 114, 97, 119], ds] [32] = J at q hr
  clear qB qj
  replace q := hide q
  replace qE := hide qE
  replace hr := hide hr
  go_wp2_with fail
  refine q.out.mono ?_
  rintro e W9 ⟨rfl, he⟩
  go_wp2
  try go_ret
  exact hR.out _ _ hr.out (qE.out.trans he)
 have g9 : (kd == 9) = false := beq_eq_false_iff_ne.2 hk9
 have g9b : decide (kd = 9) = false := decide_eq_false hk9
 by_cases hk10 : kd = 10
 ·subst hk10
  go_wp2_with fail
  try go_ret
  exact hR.out _ _ (by simp [tellS]) E2.out
 have g10 : (kd == 10) = false := beq_eq_false_iff_ne.2 hk10
 have g10b : decide (kd = 10) = false := decide_eq_false hk10
 have hr : tellS ⟨kd, cn, ad, pr, by_, tk, dr⟩ = [] := by simp [tellS, hk1, hk2, hk3, hk4, hk5, hk6, hk7, hk8, hk9, hk10]
 clear hk1 hk2 hk3 hk4 hk5 hk6 hk7 hk8 hk9 hk10
 replace hr := hide hr
 go_wp2_with fail
 try go_ret
 exact hR.out _ _ hr.out E2.out
end
section
open Go.RowKit
set_option linter.unusedVariables false
set_option linter.unusedSimpArgs false
def EEv : Enc EvS := Enc.cells evCs EvIn 7 (fun _ => rfl) (fun x u hu => by simp only [evCs, List.mem_cons, List.not_mem_nil, or_false] at hu; rcases hu with rfl | rfl | rfl | rfl | rfl | rfl | rfl <;> rfl)
theorem EEv.at {w : World} {S : Nat → Prop} {a : Option Addr} {l : List EvS} (h : Sl EEv w S a l) (k : Nat) (hk : k < l.length) :
  ∃ b off, a = some ⟨b, off, none⟩ ∧ S b ∧ EvIn l[k] ∧ ∀ j u, (evCs l[k])[j]? = some u → w.cell? ⟨b, off + k * 7 + j, none⟩ = some u := by
 obtain ⟨b, off, cs, rfl, hb, ⟨rfl, hi⟩, hc⟩ := h.at k hk
 exact ⟨b, off, rfl, hb, hi, hc⟩
theorem okEv : ElemOk Tryz.prog 22 31 EEv.sz 80 := elemOk (z := .agg #[.int .i64 0, .int .i64 0, .string ⟨#[]⟩, .string ⟨#[]⟩, .string ⟨#[]⟩, .int .i64 0, .int .u32 0]) Tryz.underlying22 (by kernel_rfl) rfl
theorem i64_of {x : Int} (h1 : 0 ≤ x) (h2 : x ≤ 1048576) : i64 x := by unfold i64; omega
theorem nameOk_len {s : List UInt8} (h : nameOk s = true) : s.length ≤ 16 := by
 unfold nameOk at h
 simp only [Bool.and_eq_true, decide_eq_true_eq] at h
 exact h.2.1
theorem EvIn.mk' {e : EvS} (k c : Int) (a p b : List UInt8) (t : Int) (d : UInt32) (he : e = ⟨k, c, a, p, b, t, d⟩) (h1 : 0 ≤ k ∧ k ≤ 10) (h2 : 0 ≤ c ∧ c ≤ 64) (h3 : a.length ≤ 16) (h4 : p.length ≤ 16) (h5 : b.length ≤ 65536) (h6 : 0 ≤ t ∧ t ≤ 4096) : EvIn e := by
 subst he
 exact ⟨i64_of h1.1 (by show k ≤ _; omega), i64_of h2.1 (by show c ≤ _; omega), by show a.length ≤ _; omega, by show p.length ≤ _; omega, by show b.length ≤ _; omega, i64_of h6.1 (by show t ≤ _; omega)⟩
theorem evOk_in {e : EvS} (h : evOk e = true) : EvIn e := by
 unfold evOk connOk at h
 by_cases k1 : e.kind = 1
 ·rw [if_pos k1] at h
  simp only [Bool.and_eq_true, decide_eq_true_eq] at h
  obtain ⟨he, hc, ha⟩ := h
  exact EvIn.mk' _ _ _ _ _ _ _ he (by decide) ⟨by omega, by omega⟩ (by rcases ha with h | h <;> omega) (by simp) (by simp) (by simp)
 rw [if_neg k1] at h
 by_cases k2 : e.kind = 2
 ·rw [if_pos k2] at h
  simp only [Bool.and_eq_true, decide_eq_true_eq] at h
  obtain ⟨he, hc, ha⟩ := h
  exact EvIn.mk' _ _ _ _ _ _ _ he (by decide) ⟨by omega, by omega⟩ (by simp) (nameOk_len ha) (by simp) (by simp)
 rw [if_neg k2] at h
 by_cases k3 : e.kind = 3
 ·rw [if_pos k3] at h
  simp only [Bool.and_eq_true, decide_eq_true_eq] at h
  obtain ⟨he, ha⟩ := h
  exact EvIn.mk' _ _ _ _ _ _ _ he (by decide) (by decide) (by simp) (nameOk_len ha) (by simp) (by simp)
 rw [if_neg k3] at h
 by_cases k4 : e.kind = 4
 ·rw [if_pos k4] at h
  simp only [Bool.and_eq_true, decide_eq_true_eq] at h
  obtain ⟨he, hc, ha⟩ := h
  exact EvIn.mk' _ _ _ _ _ _ _ he (by decide) ⟨by omega, by omega⟩ (by simp) (by simp) (by omega) (by simp)
 rw [if_neg k4] at h
 by_cases k5 : e.kind = 5
 ·rw [if_pos k5] at h
  simp only [Bool.and_eq_true, decide_eq_true_eq] at h
  obtain ⟨he, hc⟩ := h
  exact EvIn.mk' _ _ _ _ _ _ _ he (by decide) ⟨by omega, by omega⟩ (by simp) (by simp) (by simp) (by simp)
 rw [if_neg k5] at h
 by_cases k6 : e.kind = 6
 ·rw [if_pos k6] at h
  simp only [Bool.and_eq_true, decide_eq_true_eq] at h
  obtain ⟨he, ht⟩ := h
  exact EvIn.mk' _ _ _ _ _ _ _ he (by decide) (by decide) (by simp) (by simp) (by simp) (⟨by omega, by omega⟩)
 rw [if_neg k6] at h
 by_cases k7 : e.kind = 7
 ·rw [if_pos k7] at h
  simp only [Bool.and_eq_true, decide_eq_true_eq] at h
  obtain ⟨he, hb⟩ := h
  exact EvIn.mk' _ _ _ _ _ _ _ he (by decide) (by decide) (by simp) (by simp) (hb) (by simp)
 rw [if_neg k7] at h
 by_cases k8 : e.kind = 8
 ·rw [if_pos k8] at h
  simp only [Bool.and_eq_true, decide_eq_true_eq] at h
  obtain ⟨he, hb⟩ := h
  exact EvIn.mk' _ _ _ _ _ _ _ he (by decide) (by decide) (by simp) (by simp) (by omega) (by simp)
 rw [if_neg k8] at h
 by_cases k9 : e.kind = 9
 ·rw [if_pos k9] at h
  simp only [Bool.and_eq_true, decide_eq_true_eq] at h
  have he := h
  exact EvIn.mk' _ _ _ _ _ _ _ he (by decide) (by decide) (by simp) (by simp) (by simp) (by simp)
 rw [if_neg k9] at h
 by_cases k10 : e.kind = 10
 ·rw [if_pos k10] at h
  simp only [Bool.and_eq_true, decide_eq_true_eq] at h
  have he := h
  exact EvIn.mk' _ _ _ _ _ _ _ he (by decide) (by decide) (by simp) (by simp) (by simp) (by simp)
 rw [if_neg k10] at h
 cases h
/-- The lines of a text, in a variable. -/
def LinesP (W : World) (p : Nat) (L : List (List UInt8)) : Prop := ∃ b c, Blk W p 63 #[.slice (some ⟨b, 0, none⟩) L.length c] ∧ b < p ∧ ∀ (j : Nat) (hj : j < L.length), W.cell? ⟨b, j, none⟩ = some (.string ⟨L[j].toArray⟩)
theorem LinesP.keep {W W' : World} {p : Nat} {L : List (List UInt8)} (h : LinesP W p L) (hb : ∀ x, x ≤ p → W'.heap[x]? = W.heap[x]?) : LinesP W' p L := by
 obtain ⟨b, c, h1, h2, h3⟩ := h
 exact ⟨b, c, (hb p (by omega)).trans h1, h2, fun j hj => (World.cell?_of_block (a := ⟨b, j, none⟩) (hb b (by omega))).trans (h3 j hj)⟩
/-- What lies in the variables of script.Parse: the lines, the last one's place, the place, the configuration's size, the events; behind them the guard's code. -/
structure PS (w W : World) (p m : Nat) (L : List (List UInt8)) (k cf : Nat) (v : Value) (out : List EvS) : Prop where
  lo : w.heap.size ≤ p
  up : p + 6 ≤ W.heap.size
  ext : Ext w W
  len : L.length = m + 1
  few : m ≤ 1048576
  lines : LinesP W p L
  last : Blk W (p + 1) 3 #[.int .i64 (m : Int)]
  at_ : Blk W (p + 2) 3 #[.int .i64 (k : Int)]
  cfb : Blk W (p + 3) 3 #[.int .i64 (cf : Int)]
  ob : Blk W (p + 4) 22 #[v]
  pe : Blk W (p + 5) 23 #[.int .i64 0]
  own : Own EEv 31 W (p + 6) v out
section
variable {w W W' : World} {p m k cf : Nat} {L : List (List UInt8)} {v : Value} {out : List EvS}
theorem PS.setAt (h : PS w W p m L k cf v out) (k' : Nat) : PS w (W.setCell ⟨p + 2, 0, none⟩ (.int .i64 (k' : Int))) p m L k' cf v out := by
 have h1 := h.lo
 exact ⟨h1, by simpa [World.setCell] using h.up, h.ext.setCell (p := ⟨p + 2, 0, none⟩) (show w.heap.size ≤ p + 2 by omega) _, h.len, h.few, h.lines.keep fun x hx => Below.heap_setCell _ _ _ _ (show x ≠ p + 2 by omega),
  h.last.far (p := ⟨p + 2, 0, none⟩) (show p + 1 ≠ p + 2 by omega) _, by simpa using h.at_.set_ 0 (.int .i64 (k' : Int)), h.cfb.far (p := ⟨p + 2, 0, none⟩) (show p + 3 ≠ p + 2 by omega) _, h.ob.far (p := ⟨p + 2, 0, none⟩) (show p + 4 ≠ p + 2 by omega) _, h.pe.far (p := ⟨p + 2, 0, none⟩) (show p + 5 ≠ p + 2 by omega) _,
  h.own.kept (by simp [World.setCell]) fun b h1 h2 => Below.heap_setCell _ _ _ _ (show b ≠ p + 2 by omega)⟩
theorem PS.setCf (h : PS w W p m L k cf v out) (c' : Nat) : PS w (W.setCell ⟨p + 3, 0, none⟩ (.int .i64 (c' : Int))) p m L k c' v out := by
 have h1 := h.lo
 exact ⟨h1, by simpa [World.setCell] using h.up, h.ext.setCell (p := ⟨p + 3, 0, none⟩) (show w.heap.size ≤ p + 3 by omega) _, h.len, h.few, h.lines.keep fun x hx => Below.heap_setCell _ _ _ _ (show x ≠ p + 3 by omega),
  h.last.far (p := ⟨p + 3, 0, none⟩) (show p + 1 ≠ p + 3 by omega) _, h.at_.far (p := ⟨p + 3, 0, none⟩) (show p + 2 ≠ p + 3 by omega) _, by simpa using h.cfb.set_ 0 (.int .i64 (c' : Int)), h.ob.far (p := ⟨p + 3, 0, none⟩) (show p + 4 ≠ p + 3 by omega) _, h.pe.far (p := ⟨p + 3, 0, none⟩) (show p + 5 ≠ p + 3 by omega) _,
  h.own.kept (by simp [World.setCell]) fun b h1 h2 => Below.heap_setCell _ _ _ _ (show b ≠ p + 3 by omega)⟩
theorem PS.ext' (h : PS w W p m L k cf v out) (he : Ext W W') : PS w W' p m L k cf v out := by
 have hu := h.up
 exact ⟨h.lo, Nat.le_trans hu he.size, h.ext.trans he, h.len, h.few, h.lines.keep fun x hx => he.block x (by omega), h.last.ext he, h.at_.ext he, h.cfb.ext he, h.ob.ext he, h.pe.ext he, h.own.ext he⟩
/-- The events' row, grown, and laid into its variable. -/
theorem PS.pushed {v' : Value} {out' : List EvS} (h : PS w W p m L k cf v out) (hg : W.grownBy W' v.ownBlock) (ho : Own EEv 31 W' (p + 6) v' out') :
  PS w (W'.setCell ⟨p + 4, 0, none⟩ v') p m L k cf v' out' := by
 have h1 := h.lo
 have hu := h.up
 have hn : ∀ x, x < p + 6 → some x ≠ v.ownBlock := fun x hx e => by have := (h.own.lt x e.symm).1; omega
 have hx : Ext w W' := h.ext.push (fun j hj => Nat.le_trans (by omega) (h.own.lt j hj).1) hg
 have hgu := hg.size
 refine ⟨h1, by simp [World.setCell]; omega, hx.setCell (p := ⟨p + 4, 0, none⟩) (show w.heap.size ≤ p + 4 by omega) _, h.len, h.few, (h.lines.keep fun x hx => hg.block x (by omega) (hn x (by omega))).keep fun x hx => Below.heap_setCell _ _ _ _ (show x ≠ p + 4 by omega),
  (h.last.grown hg (hn _ (by omega))).far (p := ⟨p + 4, 0, none⟩) (show p + 1 ≠ p + 4 by omega) _, (h.at_.grown hg (hn _ (by omega))).far (p := ⟨p + 4, 0, none⟩) (show p + 2 ≠ p + 4 by omega) _, (h.cfb.grown hg (hn _ (by omega))).far (p := ⟨p + 4, 0, none⟩) (show p + 3 ≠ p + 4 by omega) _, by simpa using (h.ob.grown hg (hn _ (by omega))).set_ 0 v', (h.pe.grown hg (hn _ (by omega))).far (p := ⟨p + 4, 0, none⟩) (show p + 5 ≠ p + 4 by omega) _,
  ho.kept (by simp [World.setCell]) fun b h1 h2 => Below.heap_setCell _ _ _ _ (show b ≠ p + 4 by omega)⟩
end
def atOf (W : World) (p : Nat) : Nat := match W.cell? ⟨p + 2, 0, none⟩ with | some (.int _ n) => n.toNat | _ => 0
theorem PS.atOf {w W : World} {p m k cf : Nat} {L : List (List UInt8)} {v : Value} {out : List EvS} (h : PS w W p m L k cf v out) : atOf W p = k := by
 have := h.at_.cell 0
 unfold Go.Proofs.YtkinghadgmbhbaaGreatDoor.atOf
 rw [this]
 rfl
/-- What the reading of a script leaves. -/
def ParD (s : List UInt8) (w : World) (p m : Nat) (L : List (List UInt8)) (e : Ending) (W' : World) : Prop :=
 (∃ k cf v out, e = .returned (.tuple #[]) ∧ PS w W' p m L k cf v out ∧ restC s 0 0 L = (s.take cf, out, 0, 0) ∧ cf ≤ s.length) ∨
 (∃ (c : Int) (k cf : Nat) (v : Value) (out : List EvS), e = .panicked (wrongP c) ∧ PS w W' p m L k cf v out ∧ restC s 0 0 L = ([], [], c, k) ∧ c ≠ 0)
theorem sum_drop (L : List (List UInt8)) (k : Nat) (hk : k < L.length) : ((L.drop k).map fun x => x.length + 1).sum = L[k].length + 1 + ((L.drop (k + 1)).map fun x => x.length + 1).sum := by
 rw [List.drop_eq_getElem_cons hk, List.map_cons, List.sum_cons]
set_option maxRecDepth 20000 in
set_option maxHeartbeats 4000000 in
theorem Parse1_any (s : List UInt8) (hs : s.length ≤ 1048576) (w W0 : World) (p m : Nat) (L : List (List UInt8)) (hT : Tab w) (hV : Vars w) (hD : Deb w) (h0 : PS w W0 p m L 0 0 (.slice none 0 0) [])
    (hL : ∀ y ∈ L, y.length ≤ 1048576) (hsum : (L.map fun x => x.length + 1).sum = s.length + 1) :
    Calls Tryz.prog 36 #[.pointer (some ⟨p + 2, 0, none⟩), .pointer (some ⟨p + 1, 0, none⟩), .pointer (some ⟨p, 0, none⟩), .pointer (some ⟨p + 3, 0, none⟩), .pointer (some ⟨p + 4, 0, none⟩)] W0 (ParD s w p m L) := by
  have mixed : Tryz.prog.follows Departure.mixedOrders = true := by kernel_rfl
  have hok : ∀ W k cf v out, PS w W p m L k cf v out → restC s 0 0 L = (s.take cf, out, 0, 0) → cf ≤ s.length → ParD s w p m L (.returned (.tuple #[])) W := fun W k cf v out h1 h2 h3 => .inl ⟨k, cf, v, out, rfl, h1, h2, h3⟩
  have hno : ∀ W c k cf v out, PS w W p m L k cf v out → restC s 0 0 L = ([], [], c, k) → c ≠ 0 → ParD s w p m L (.panicked (wrongP c)) W := fun W c k cf v out h1 h2 h3 => .inr ⟨c, k, cf, v, out, rfl, h1, h2, h3⟩
  generalize ParD s w p m L = Post at *
  replace hok := hide hok
  replace hno := hide hno
  replace hT := hide hT
  replace hV := hide hV
  replace hD := hide hD
  replace h0 := hide h0
  replace hs := hide hs
  replace hL := hide hL
  go_enter Tryz.func36, Tryz.ntmps36
  go_wp2_with fail
  go_loopw [6] (fun s6 wr => ∃ k cf : Nat, PS w wr p m L k cf (.slice none 0 0) [] ∧ k < L.length ∧ restC s 0 0 L = restC s k cf (L.drop k) ∧ cf + ((L.drop k).map fun x => x.length + 1).sum = s.length + 1) (fun _ wr => L.length - atOf wr p)
  case atStart => exact ⟨0, 0, h0.out, by rw [h0.out.len]; omega, rfl, by simpa using hsum⟩
  case round =>
    clear h0
    obtain ⟨k, cf, S, hk, hr, hsm⟩ := hrel
    rw [sum_drop L k hk] at hsm
    have hlen := S.len
    have hfew := S.few
    obtain ⟨b, c, hb, hbp, hlx⟩ := S.lines
    have c0 : wr.cell? ⟨p + 2, 0, none⟩ = some (.int .i64 (k : Int)) := S.at_.cell 0
    have c1 : wr.cell? ⟨p + 1, 0, none⟩ = some (.int .i64 (m : Int)) := S.last.cell 0
    have c2 : wr.cell? ⟨p, 0, none⟩ = some (.slice (some ⟨b, 0, none⟩) L.length c) := hb.cell 0
    have c3 : wr.cell? ⟨p + 3, 0, none⟩ = some (.int .i64 (cf : Int)) := S.cfb.cell 0
    have c4 : wr.cell? ⟨b, k, none⟩ = some (.string ⟨L[k].toArray⟩) := hlx k hk
    have f2 := fun i => S.at_.frozen i
    have f3 := fun i => S.cfb.frozen i
    rw [hlen] at c2
    clear hb hlx
    have hd : L.drop k = L[k] :: L.drop (k + 1) := List.drop_eq_getElem_cons hk
    have hxl := hL.out _ (List.getElem_mem hk)
    have hcfs : cf ≤ s.length := by omega
    generalize L[k] = x at *
    by_cases hkm : k = m
    · subst hkm
      have hd0 : L.drop (k + 1) = [] := List.drop_eq_nil_of_le (by omega)
      rw [hd, hd0, restC_end] at hr
      clear hd hd0 hsm hlen hfew hk hbp hxl hcfs hsum
      replace S := hide S
      replace hr := hide hr
      go_wp2_with fail
      refine (give_any _ _).mono ?_
      rintro e w3 ⟨rfl, rfl⟩
      go_wp2
      exact ⟨rfl, hno.out _ _ _ _ _ _ S.out hr.out (by decide)⟩
    have hkm2 : k < m := by omega
    obtain ⟨y, r, hyr⟩ : ∃ y r, L.drop (k + 1) = y :: r := ⟨_, _, List.drop_eq_getElem_cons (show k + 1 < L.length by omega)⟩
    obtain ⟨k2, hk2⟩ : ∃ n : Nat, n = k + 1 := ⟨_, rfl⟩
    have w1 : IntKind.i64.wrap ((k : Int) + 1) = (k2 : Int) := by rw [IntKind.wrap_i64]; omega
    have b1 : decide (k < m) = true := decide_eq_true hkm2
    have b2 : (k == m) = false := beq_eq_false_iff_ne.2 hkm
    have b3 : decide (k = m) = false := decide_eq_false hkm
    have b4 : ((k : Int) == (m : Int)) = false := beq_eq_false_iff_ne.2 (by omega)
    have hkm3 : k < m + 1 := by omega
    rw [hd, hyr] at hr
    by_cases hxr : x = [114, 117, 110]
    · rw [restC_run s k cf hxr, ← hyr, ← hk2] at hr
      subst hxr
      have S2 := S.setAt k2
      have hkl : k2 < L.length := by omega
      rw [← hk2] at hyr
      clear hd hsm hfew hk hxl hkm hkm2 hsum
      replace S := hide S
      replace S2 := hide S2
      replace hr := hide hr
      replace hcfs := hide hcfs
      replace hk2 := hide hk2
      replace hyr := hide hyr
      replace hkl := hide hkl
      replace hlen := hide hlen
      go_wp2_with fail
      generalize wr.setCell ⟨p + 2, 0, none⟩ (.int .i64 (k2 : Int)) = wa at S2 ⊢
      try simp only [b4]
      clear c0 c1 c2 c3 c4 f2 f3 w1 b1 b2 b3 b4 hkm3 S
      go_loopw [32] (fun s32 wx => ∃ (k : Nat) (v : Value) (out : List EvS), PS w wx p m L k cf v out ∧ k < L.length ∧ restC s 0 0 L = restE s cf k out (L.drop k) ∧ out.length ≤ k) (fun _ wx => L.length - atOf wx p)
      case atStart => exact ⟨k2, _, [], S2.out, hkl.out, by rw [hr.out, hyr.out], Nat.zero_le _⟩
      case round =>
        clear S2 hr hyr hk2 hkl
        obtain ⟨k, v, out, S, hk, hr, hol⟩ := hrel
        rename World => wx
        have hlen := S.len
        have hfew := S.few
        obtain ⟨b, c, hb, hbp, hlx⟩ := S.lines
        have c0 : wx.cell? ⟨p + 2, 0, none⟩ = some (.int .i64 (k : Int)) := S.at_.cell 0
        have c1 : wx.cell? ⟨p + 1, 0, none⟩ = some (.int .i64 (m : Int)) := S.last.cell 0
        have c2 : wx.cell? ⟨p, 0, none⟩ = some (.slice (some ⟨b, 0, none⟩) L.length c) := hb.cell 0
        have c4 : wx.cell? ⟨b, k, none⟩ = some (.string ⟨L[k].toArray⟩) := hlx k hk
        rw [hlen] at c2
        clear hb hlx
        have hd : L.drop k = L[k] :: L.drop (k + 1) := List.drop_eq_getElem_cons hk
        have hxl := hL.out _ (List.getElem_mem hk)
        generalize L[k] = x at *
        by_cases hkm : k = m
        · subst hkm
          have hd0 : L.drop (k + 1) = [] := List.drop_eq_nil_of_le (by omega)
          rw [hd, hd0, restE_end] at hr
          have hkk : k < k + 1 := Nat.lt_succ_self k
          clear hd hd0 hlen hfew hk hbp hxl hol
          by_cases hx0 : x = []
          · subst hx0
            rw [if_pos rfl] at hr
            replace S := hide S
            replace hr := hide hr
            go_wp2_with fail
            go_end0
            exact hok.out _ _ _ _ _ S.out hr.out hcfs.out
          · have e1 : (x == []) = false := beq_eq_false_iff_ne.2 hx0
            have e2 : (x != []) = true := by simpa using hx0
            rw [if_neg hx0] at hr
            replace S := hide S
            replace hr := hide hr
            replace hx0 := hide hx0
            go_wp2_with fail
            refine (give_any _ _).mono ?_
            rintro e w3 ⟨rfl, rfl⟩
            go_wp2
            exact ⟨rfl, hno.out _ _ _ _ _ _ S.out hr.out (by decide)⟩
        have hkm2 : k < m := by omega
        obtain ⟨y, r, hyr⟩ : ∃ y r, L.drop (k + 1) = y :: r := ⟨_, _, List.drop_eq_getElem_cons (show k + 1 < L.length by omega)⟩
        obtain ⟨k2, hk2⟩ : ∃ n : Nat, n = k + 1 := ⟨_, rfl⟩
        have w1 : IntKind.i64.wrap ((k : Int) + 1) = (k2 : Int) := by rw [IntKind.wrap_i64]; omega
        have b1 : decide (k < m) = true := decide_eq_true hkm2
        have hkm3 : k < m + 1 := by omega
        rw [hd, hyr] at hr
        have q := SRead_any x (Nat.le_trans hxl (by decide)) (.inl hxl) wx (hT.out.ext S.ext) (hV.out.ext S.ext) (hD.out.ext S.ext)
        unfold ReadP at q
        cases ho : evO x with
        | none =>
          rw [ho] at q
          rw [restE_bad s cf k out ho] at hr
          clear hd hyr hlen hfew hk hbp hxl hol hkm hkm2 ho
          replace S := hide S
          replace hr := hide hr
          replace q := hide q
          go_wp2_with fail
          refine q.out.mono ?_
          rintro e w3 ⟨rfl, he⟩
          go_wp2
          exact ⟨rfl, hno.out _ _ _ _ _ _ (S.out.ext' he) hr.out (by decide)⟩
        | some ev =>
          rw [ho] at q
          have hein := evOk_in (evO_some ho).1
          have hlong := fun h : out.length = 512 => restE_long s cf k (y := y) (r := r) ho h
          have hon := fun h : out.length ≠ 512 => restE_on s cf k (y := y) (r := r) ho h
          obtain ⟨va, vc, rfl⟩ := S.own.form
          obtain ⟨kd, cn, ad, pr, by_, tk, dr⟩ := ev
          simp only [evCs] at q
          have hkm4 := hide hkm2
          clear hd hfew hbp hxl hkm hkm2 ho
          replace S := hide S
          replace q := hide q
          replace hlong := hide hlong
          replace hon := hide hon
          replace hr := hide hr
          replace hein := hide hein
          replace hyr := hide hyr
          replace hlen := hide hlen
          replace hk := hide hk
          replace hk2 := hide hk2
          replace hol := hide hol
          go_wp2_with fail
          refine q.out.mono ?_
          rintro e W2 ⟨rfl, he⟩
          have N := Blk.new W2 31 #[.int .i64 kd, .int .i64 cn, .string ⟨ad.toArray⟩, .string ⟨pr.toArray⟩, .string ⟨by_.toArray⟩, .int .i64 tk, .int .u32 (dr.toNat : Int)]
          have S3 := (S.out.ext' he).ext' ((Ext.refl W2).alloc (Obj.cells #[.int .i64 kd, .int .i64 cn, .string ⟨ad.toArray⟩, .string ⟨pr.toArray⟩, .string ⟨by_.toArray⟩, .int .i64 tk, .int .u32 (dr.toNat : Int)] 31))
          clear q c0 c1 c2 c4 he b1 hkm3
          go_upto_region 9 with fail
          generalize W2.alloc (Obj.cells #[.int .i64 kd, .int .i64 cn, .string ⟨ad.toArray⟩, .string ⟨pr.toArray⟩, .string ⟨by_.toArray⟩, .int .i64 tk, .int .u32 (dr.toNat : Int)] 31) = W3 at N S3 ⊢
          generalize W2.heap.size = n2 at N ⊢
          have c5 : W3.cell? ⟨p + 4, 0, none⟩ = some (.slice va out.length vc) := S3.ob.cell 0
          have d0 : W3.cell? ⟨n2, 0, none⟩ = some (.int .i64 kd) := N.cell 0
          have d1 : W3.cell? ⟨n2, 1, none⟩ = some (.int .i64 cn) := N.cell 1
          have d2 : W3.cell? ⟨n2, 2, none⟩ = some (.string ⟨ad.toArray⟩) := N.cell 2
          have d3 : W3.cell? ⟨n2, 3, none⟩ = some (.string ⟨pr.toArray⟩) := N.cell 3
          have d4 : W3.cell? ⟨n2, 4, none⟩ = some (.string ⟨by_.toArray⟩) := N.cell 4
          have d5 : W3.cell? ⟨n2, 5, none⟩ = some (.int .i64 tk) := N.cell 5
          have d6 : W3.cell? ⟨n2, 6, none⟩ = some (.int .u32 (dr.toNat : Int)) := N.cell 6
          by_cases hl : out.length = 512
          · have e1 : (out.length == 512) = true := beq_iff_eq.2 hl
            have e2 : decide (out.length = 512) = true := decide_eq_true hl
            have h9 := hr.out.trans (hlong.out hl)
            clear hl N
            replace S3 := hide S3
            replace h9 := hide h9
            go_wp2_with fail
            refine (give_any _ _).mono ?_
            rintro e w3 ⟨rfl, rfl⟩
            go_wp2
            exact ⟨rfl, hno.out _ _ _ _ _ _ S3.out h9.out (by decide)⟩
          · have e1 : (out.length == 512) = false := beq_eq_false_iff_ne.2 hl
            have e2 : decide (out.length = 512) = false := decide_eq_false hl
            have h9 := hr.out.trans (hon.out hl)
            have hol2 : out.length ≤ 1048576 := by have := hol.out; have := hk.out; have := S3.len; have := S3.few; omega
            have S4 := S3.ext' ((Ext.refl W3).alloc (Obj.cells #[.int .i64 kd, .int .i64 cn, .string ⟨ad.toArray⟩, .string ⟨pr.toArray⟩, .string ⟨by_.toArray⟩, .int .i64 tk, .int .u32 (dr.toNat : Int)] 31))
            clear hl N
            replace S3 := hide S3
            replace h9 := hide h9
            replace S4 := hide S4
            replace hol2 := hide hol2
            go_upto_region 11 with fail
            go_wp2_with
              (at_builtin
               go_must (refine wpList_push (E := EEv) (l := out) rfl _ _ _ rfl okEv (by decide) (by decide) rfl S4.out.own (by have := hol2.out; omega) S4.out.up rfl (y := ⟨kd, cn, ad, pr, by_, tk, dr⟩) (cs := evCs ⟨kd, cn, ad, pr, by_, tk, dr⟩) ⟨rfl, hein.out⟩ (cells_new W3 (evCs ⟨kd, cn, ad, pr, by_, tk, dr⟩).toArray _) ?_)
               intro v' w5 hown1 hg5 hat5
               have S5 := S4.out.pushed hg5 hown1
               have hn4 : ∀ x, x < p + 6 → some x ≠ (Value.slice va out.length vc).ownBlock := fun x hx e => by have := (S4.out.own.lt x e.symm).1; omega
               have c6 : w5.cell? ⟨p + 4, 0, none⟩ = some (.slice va out.length vc) := (S4.out.ob.grown hg5 (hn4 _ (by omega))).cell 0
               have f6 := fun i => (S4.out.ob.grown hg5 (hn4 _ (by omega))).frozen i
               have c7 : w5.cell? ⟨p + 2, 0, none⟩ = some (.int .i64 (k : Int)) := (S4.out.at_.grown hg5 (hn4 _ (by omega))).cell 0
               have f7 := fun i => (S4.out.at_.grown hg5 (hn4 _ (by omega))).frozen i
               obtain ⟨va5, vc5, rfl⟩ := hown1.form
               have S6 := S5.setAt k2
               clear hown1 hg5 hat5 hn4 S5
               simp only [List.length_append, List.length_cons, List.length_nil, Nat.zero_add] at S6 ⊢
               replace S6 := hide S6)
            go_roundw
            case rel =>
              have r1 : k2 < L.length := by have := S6.out.len; have := hlen.out; have := hk2.out; have := hkm4.out; omega
              have r2 := h9.out
              rw [← hk2.out, ← hyr.out, ← hk2.out] at r2
              have r3 : (out ++ [(⟨kd, cn, ad, pr, by_, tk, dr⟩ : EvS)]).length ≤ k2 := by have := hol.out; have := hk2.out; simp; omega
              (repeat apply Exists.intro); exact ⟨S6.out, r1, r2, r3⟩
            case measure => rw [S6.out.atOf, S.out.atOf]; have := hk2.out; have := hk.out; omega
    · have hw1 : x ≠ runW := hxr
      obtain ⟨cf2, hcf2⟩ : ∃ n : Nat, n = cf + x.length + 1 := ⟨_, rfl⟩
      rw [restC_on s k cf hw1, ← hyr, ← hk2, ← hcf2] at hr
      have e1 : (x == [114, 117, 110]) = false := beq_eq_false_iff_ne.2 hxr
      have e2 : (x != [114, 117, 110]) = true := by simpa using hxr
      have w2 : IntKind.i64.wrap ((x.length : Int) + 1) = (x.length : Int) + 1 := by rw [IntKind.wrap_i64]; omega
      have hsl := hs.out
      have w3 : IntKind.i64.wrap ((cf : Int) + ((x.length : Int) + 1)) = (cf2 : Int) := by rw [IntKind.wrap_i64]; omega
      have S2 := ((S.setCf cf2).setAt k2).ext' (Ext.refl _).drew
      have hkl : k2 < L.length := by omega
      have hsm2 : cf2 + ((L.drop k2).map fun x => x.length + 1).sum = s.length + 1 := by rw [hk2, hcf2]; omega
      clear hd hsm hfew hxl hkm hkm2 hsum hxr hw1 hsl hyr y r hcfs hcf2 hbp hlen
      replace S := hide S
      replace S2 := hide S2
      replace hr := hide hr
      replace hk2 := hide hk2
      replace hkl := hide hkl
      replace hsm2 := hide hsm2
      replace hk := hide hk
      go_upto_region 2 with fail
      go_region
      go_wp2_with fail
      go_roundw
      case rel => exact ⟨k2, cf2, S2.out, hkl.out, hr.out, hsm2.out⟩
      case measure => rw [S2.out.atOf, S.out.atOf]; have := hk2.out; have := hk.out; omega
end
section
open Go.RowKit
set_option linter.unusedVariables false
set_option linter.unusedSimpArgs false
/-- What is left of the variables behind the guard. -/
structure PS2 (w W : World) (p k cf : Nat) (v : Value) (out : List EvS) : Prop where
  ext : Ext w W
  at_ : Blk W (p + 2) 3 #[.int .i64 (k : Int)]
  cfb : Blk W (p + 3) 3 #[.int .i64 (cf : Int)]
  ob : Blk W (p + 4) 22 #[v]
  own : Own EEv 31 W (p + 6) v out
theorem PS.two {w W W' : World} {p m k cf : Nat} {L : List (List UInt8)} {v : Value} {out : List EvS} (h : PS w W p m L k cf v out) (hb : But (p + 5) W W') : PS2 w W' p k cf v out :=
 have h1 := h.lo
 ⟨But.ext h.ext hb (by omega), h.at_.but hb (by omega), h.cfb.but hb (by omega), h.ob.but hb (by omega), h.own.kept hb.size fun b h1 h2 => hb.block b h2 (by omega)⟩
theorem parse_mem (w W2 : World) (L : List (List UInt8)) (m d : Nat) (E : Ext w W2) (hL : L.length = m + 1) (hm : m ≤ 1048576) (hb : w.heap.size < W2.heap.size) (hc : ∀ (j : Nat) (hj : j < L.length), W2.cell? ⟨w.heap.size, j, none⟩ = some (.string ⟨L[j].toArray⟩)) :
  ∃ W3 : World, (((((W2.alloc (Obj.cells #[.slice (some ⟨w.heap.size, 0, none⟩) (m + 1) d] 63)).alloc (Obj.cells #[.int .i64 (m : Int)] 3)).alloc (Obj.cells #[.int .i64 0] 3)).alloc (Obj.cells #[.int .i64 0] 3)).alloc (Obj.cells #[.slice none 0 0] 22)) = W3 ∧ W3.heap.size = W2.heap.size + 5 ∧ Ext w W3 ∧ PS w (W3.alloc (Obj.cells #[.int .i64 0] 23)) W2.heap.size m L 0 0 (.slice none 0 0) [] := by
 refine ⟨_, rfl, ?_⟩
 have z0 : W2.heap.size = W2.heap.size + 0 := rfl
 have a0 := Blk.new W2 63 #[.slice (some ⟨w.heap.size, 0, none⟩) (m + 1) d]
 have e0 := (Ext.refl W2).alloc (Obj.cells #[.slice (some ⟨w.heap.size, 0, none⟩) (m + 1) d] 63)
 have z1 : (W2.alloc (Obj.cells #[.slice (some ⟨w.heap.size, 0, none⟩) (m + 1) d] 63)).heap.size = W2.heap.size + 1 := by simp
 generalize W2.alloc (Obj.cells #[.slice (some ⟨w.heap.size, 0, none⟩) (m + 1) d] 63) = V1 at *
 have a1 := Blk.new V1 3 #[.int .i64 (m : Int)]
 have e1 := e0.alloc (Obj.cells #[.int .i64 (m : Int)] 3)
 replace a0 := a0.alloc (Obj.cells #[.int .i64 (m : Int)] 3)
 have z2 : (V1.alloc (Obj.cells #[.int .i64 (m : Int)] 3)).heap.size = W2.heap.size + 2 := by simp [z1]
 rw [z1] at a1
 generalize V1.alloc (Obj.cells #[.int .i64 (m : Int)] 3) = V2 at *
 have a2 := Blk.new V2 3 #[.int .i64 0]
 have e2 := e1.alloc (Obj.cells #[.int .i64 0] 3)
 replace a0 := a0.alloc (Obj.cells #[.int .i64 0] 3)
 replace a1 := a1.alloc (Obj.cells #[.int .i64 0] 3)
 have z3 : (V2.alloc (Obj.cells #[.int .i64 0] 3)).heap.size = W2.heap.size + 3 := by simp [z2]
 rw [z2] at a2
 generalize V2.alloc (Obj.cells #[.int .i64 0] 3) = V3 at *
 have a3 := Blk.new V3 3 #[.int .i64 0]
 have e3 := e2.alloc (Obj.cells #[.int .i64 0] 3)
 replace a0 := a0.alloc (Obj.cells #[.int .i64 0] 3)
 replace a1 := a1.alloc (Obj.cells #[.int .i64 0] 3)
 replace a2 := a2.alloc (Obj.cells #[.int .i64 0] 3)
 have z4 : (V3.alloc (Obj.cells #[.int .i64 0] 3)).heap.size = W2.heap.size + 4 := by simp [z3]
 rw [z3] at a3
 generalize V3.alloc (Obj.cells #[.int .i64 0] 3) = V4 at *
 have a4 := Blk.new V4 22 #[.slice none 0 0]
 have e4 := e3.alloc (Obj.cells #[.slice none 0 0] 22)
 replace a0 := a0.alloc (Obj.cells #[.slice none 0 0] 22)
 replace a1 := a1.alloc (Obj.cells #[.slice none 0 0] 22)
 replace a2 := a2.alloc (Obj.cells #[.slice none 0 0] 22)
 replace a3 := a3.alloc (Obj.cells #[.slice none 0 0] 22)
 have z5 : (V4.alloc (Obj.cells #[.slice none 0 0] 22)).heap.size = W2.heap.size + 5 := by simp [z4]
 rw [z4] at a4
 generalize V4.alloc (Obj.cells #[.slice none 0 0] 22) = V5 at *
 have a5 := Blk.new V5 23 #[.int .i64 0]
 have e5 := e4.alloc (Obj.cells #[.int .i64 0] 23)
 replace a0 := a0.alloc (Obj.cells #[.int .i64 0] 23)
 replace a1 := a1.alloc (Obj.cells #[.int .i64 0] 23)
 replace a2 := a2.alloc (Obj.cells #[.int .i64 0] 23)
 replace a3 := a3.alloc (Obj.cells #[.int .i64 0] 23)
 replace a4 := a4.alloc (Obj.cells #[.int .i64 0] 23)
 rw [z5] at a5
 refine ⟨z5, E.trans e4, ⟨by omega, by simp [z5], E.trans e5, hL, hm, ⟨w.heap.size, d, by rw [hL]; exact a0, hb, fun j hj => e5.cell (hc j hj)⟩, a1, a2, a3, a4, a5, Own.nil⟩⟩
/-- What script.Parse answers. -/
def ParP (s : List UInt8) (w : World) (e : Ending) (w' : World) : Prop :=
  ((∃ cfg evs v, parseS s = (cfg, evs, 0, 0) ∧ e = .returned (.tuple #[.string ⟨cfg.toArray⟩, v, .nilIface]) ∧ Own EEv 31 w' w.heap.size v evs) ∨
   (∃ (c : Int) (k f : Nat), c ≠ 0 ∧ parseS s = ([], [], c, k) ∧ e = .returned (.tuple #[.string ⟨#[]⟩, .slice none 0 0, .iface 44 (.pointer (some ⟨f, 0, none⟩))]) ∧ w.heap.size ≤ f ∧ Blk w' f 48 #[.int .i64 c, .int .i64 (k : Int)])) ∧ Ext w w'
set_option maxRecDepth 20000 in
set_option maxHeartbeats 4000000 in
theorem SParse_any (s : List UInt8) (hs : s.length ≤ 1048576) (w : World) (hT : Tab w) (hV : Vars w) (hD : Deb w) : Calls Tryz.prog 15 #[.string ⟨s.toArray⟩] w (ParP s w) := by
 have hmf : ∀ (fn : Fn) (first cap : Array Value) (w : World), (Instr.makeFunc fn first cap).run Tryz.prog w = .ok (.func fn first cap) w := fun _ _ _ _ => rfl
 have hps := parse_rest hs
 have hok : ∀ W cfg evs v, parseS s = (cfg, evs, 0, 0) → Own EEv 31 W w.heap.size v evs → Ext w W → ParP s w (.returned (.tuple #[.string ⟨cfg.toArray⟩, v, .nilIface])) W := fun W cfg evs v h1 h2 h3 => ⟨.inl ⟨cfg, evs, v, h1, rfl, h2⟩, h3⟩
 have hno : ∀ W c k f, c ≠ 0 → parseS s = ([], [], c, k) → w.heap.size ≤ f → Blk W f 48 #[.int .i64 c, .int .i64 (k : Int)] → Ext w W → ParP s w (.returned (.tuple #[.string ⟨#[]⟩, .slice none 0 0, .iface 44 (.pointer (some ⟨f, 0, none⟩))])) W := fun W c k f h1 h2 h3 h4 h5 => ⟨.inr ⟨c, k, f, h1, h2, rfl, h3, h4⟩, h5⟩
 generalize ParP s w = Post at *
 rw [hps] at hok hno
 have hsum := spl_size s
 have hwl : ∀ y ∈ spl 10 s, y.length ≤ 1048576 := fun y hy => Nat.le_trans (spl_len 10 s y hy) hs
 have hcnt := spl_cnt 10 s.length s (Nat.le_refl _)
 have qs := Split_any s 10 w hV hs
 obtain ⟨m, hm⟩ : ∃ m, (spl 10 s).length = m + 1 := ⟨(spl 10 s).length - 1, by have := List.length_pos_iff.2 (spl_ne 10 s); omega⟩
 have hq1 := fun W0 p h0 => Parse1_any s hs w W0 p m (spl 10 s) hT hV hD h0 hwl hsum
 have hm2 : m ≤ 1048576 := by omega
 have b1 : decide ((1048576 : Int) < (s.length : Int)) = false := decide_eq_false (by omega)
 generalize spl 10 s = L at *
 clear hT hV hD hwl hcnt hsum hps
 have w1 : IntKind.i64.wrap ((L.length : Int) - 1) = (m : Int) := by rw [IntKind.wrap_i64]; omega
 replace qs := hide qs
 replace hok := hide hok
 replace hno := hide hno
 replace hq1 := hide hq1
 replace hs := hide hs
 replace hm2 := hide hm2
 go_enter Tryz.func15, Tryz.ntmps15
 go_wp2_with fail
 refine qs.out.mono ?_
 rintro e W2 ⟨d, hd, rfl, he, hc⟩
 rw [hm] at hd ⊢
 clear w1
 have w2 : wrap64 (m : Int) = (m : Int) := wrap64_id (m : Int) (by omega) (by have := hm2.out; omega)
 have hb : w.heap.size < W2.heap.size := World.block_lt_of_cell? W2 _ (hc 0 (by omega))
 obtain ⟨W3, hW3, hz, E3, P3⟩ := parse_mem w W2 L m d he hm hm2.out hb hc
 have q1 := hq1.out _ _ P3
 have q := Guard_any 36 _ (fun _ _ => rfl) W3 (fun W => ∃ k cf v out, PS w W W2.heap.size m L k cf v out ∧ restC s 0 0 L = (s.take cf, out, 0, 0) ∧ cf ≤ s.length) (fun c W => ∃ k cf v out, PS w W W2.heap.size m L k cf v out ∧ restC s 0 0 L = ([], [], c, k) ∧ c ≠ 0)
  (q1.mono fun e W h => by
   rcases h with ⟨k, cf, v, out, h1, h2⟩ | ⟨c, k, cf, v, out, h1, h2⟩
   ·exact .inl ⟨h1, k, cf, v, out, h2⟩
   ·exact .inr ⟨c, h1, k, cf, v, out, h2⟩)
  (fun W ⟨k, cf, v, out, h, _⟩ => by rw [hz]; exact h.pe) (fun c W ⟨k, cf, v, out, h, _⟩ => by rw [hz]; exact h.pe)
  (fun e W => (∃ k cf v out, e = .returned (.int .i64 0) ∧ PS2 w W W2.heap.size k cf v out ∧ restC s 0 0 L = (s.take cf, out, 0, 0) ∧ cf ≤ s.length) ∨ (∃ (c : Int) (k cf : Nat) (v : Value) (out : List EvS), e = .returned (.int .i64 c) ∧ PS2 w W W2.heap.size k cf v out ∧ restC s 0 0 L = ([], [], c, k) ∧ c ≠ 0))
  (fun W W' ⟨k, cf, v, out, h, h2⟩ hb => .inl ⟨k, cf, v, out, rfl, h.two (hz ▸ hb), h2⟩) (fun c W W' ⟨k, cf, v, out, h, h2⟩ hb => .inr ⟨c, k, cf, v, out, rfl, h.two (hz ▸ hb), h2⟩)
 have hp : w.heap.size ≤ W2.heap.size := by omega
 clear q1 hq1 P3 hc he hd hb
 replace q := hide q
 replace E3 := hide E3
 replace hz := hide hz
 go_wp2_with fail
 refine q.out.mono ?_
 rintro e W4 (⟨k, cf, v, out, rfl, S, hr, hcf⟩ | ⟨c, k, cf, v, out, rfl, S, hr, hc⟩)
 ·have c0 : W4.cell? ⟨W2.heap.size + 3, 0, none⟩ = some (.int .i64 (cf : Int)) := S.cfb.cell 0
  have c1 : W4.cell? ⟨W2.heap.size + 4, 0, none⟩ = some v := S.ob.cell 0
  have hfin := fun n => hok.out (W4.drewN n) _ out v hr ((S.own.low (by omega)).drewN n) (S.ext.drewN n)
  have hx : (ByteArray.mk s.toArray).extract 0 cf = ⟨(s.take cf).toArray⟩ := by rw [ba_extract]; simp
  obtain ⟨va, vc, rfl⟩ := S.own.form
  clear S hr hok hno q
  generalize s.take cf = tk at *
  replace hfin := hide hfin
  go_upto_region 10 with fail
  go_quiet (fail)
  go_wp2
  exact bodyPost_ret (v := .tuple #[.string ⟨tk.toArray⟩, .slice va out.length vc, .nilIface]) (by simp [results, Tryz.results15, go_sem]) rfl (hfin.out _)
 ·have hFB := Blk.new W4 48 #[.int .i64 c, .int .i64 (k : Int)]
  have E5 := S.ext.alloc (Obj.cells #[.int .i64 c, .int .i64 (k : Int)] 48)
  have c0 : W4.cell? ⟨W2.heap.size + 2, 0, none⟩ = some (.int .i64 (k : Int)) := S.at_.cell 0
  have hsz := S.ext.size
  have hfin := hno.out _ c k W4.heap.size hc hr hsz hFB.drew E5.drew
  have e1 : (c == 0) = false := beq_eq_false_iff_ne.2 hc
  have e2 : (c != 0) = true := by simpa using hc
  have e3 : decide (c = 0) = false := decide_eq_false hc
  clear S hr hok hno q hFB E5 hsz hc
  replace hfin := hide hfin
  go_upto_region 9 with fail
  go_region
  all_goals go_wp2
  exact bodyPost_ret (v := .tuple #[.string ⟨#[]⟩, .slice none 0 0, .iface 44 (.pointer (some ⟨W4.heap.size, 0, none⟩))]) (by simp [results, Tryz.results15, go_sem]) rfl hfin.out
end
section
open Go.RowKit
theorem SParse35_any (s : List UInt8) (hs : s.length ≤ 1048576) (w : World) (hT : Tab w) (hV : Vars w) (hD : Deb w) : Calls Tryz.prog 15 #[.string ⟨s.toArray⟩] w (ParP s w) := SParse_any s hs w hT hV hD
end
end Go.Proofs.YtkinghadgmbhbaaGreatDoor
