/- Walks: has a set a prefix (sets.Prefix). Walks: a pattern read of any text (sets.Parse). -/
import Derived.Test.YtoghdmoldcjedaaDoorV17
import Derived.Test.YtoghdmoldcjedaaDoorVA
import Derived.Test.YtoghdmoldcjedaaDoorS5
namespace Go.Proofs.YtoghdmoldcjedaaDoor
open Go.RowKit Go.Sort
set_option linter.unusedVariables false

set_option maxRecDepth 20000 in
set_option maxHeartbeats 1000000 in
theorem Is_any (s : StS) (k : Int) (a1 : Option Addr) (c1 : Nat) (a2 : Option Addr) (c2 : Nat) (a3 : Option Addr) (c3 : Nat) (w : World) (hs : SetIn w (· < w.heap.size) s a1 a2 a3) :
    Calls Tryd.prog 27 #[.agg #[.string ⟨s.name.toArray⟩, .int .i64 s.kind, .slice a1 s.items.length c1, .slice a2 s.comms.length c2, .slice a3 s.paths.length c3], .int .i64 k] w fun e w' => e = .returned (.bool (decide (s.kind = k) && setOk s)) ∧ Ext w w' := by
  have qc := fun W (h : Ext w W) => SCheck_any s a1 c1 a2 c2 a3 c3 W (hs.ext h)
  generalize setOk s = ok at qc ⊢
  have hcs : ∃ b : Bool, (s.kind == k) = b ∧ decide (s.kind = k) = b := ⟨_, rfl, rfl⟩
  obtain ⟨b, e1, e2⟩ := hcs
  rw [e2]
  clear e2 hs
  obtain ⟨nm0, kd, items, comms, paths⟩ := s
  dsimp only at *
  generalize items.length = n1 at *
  generalize comms.length = n2 at *
  generalize paths.length = n3 at *
  replace qc := hide qc
  go_enter Tryd.func27, Tryd.ntmps27
  have S := Blk.new w 45 #[.string ⟨nm0.toArray⟩, .int .i64 kd, .slice a1 n1 c1, .slice a2 n2 c2, .slice a3 n3 c3]
  have E := (Ext.refl w).alloc (Obj.cells #[.string ⟨nm0.toArray⟩, .int .i64 kd, .slice a1 n1 c1, .slice a2 n2 c2, .slice a3 n3 c3] 45)
  generalize hW0 : w.alloc (Obj.cells #[.string ⟨nm0.toArray⟩, .int .i64 kd, .slice a1 n1 c1, .slice a2 n2 c2, .slice a3 n3 c3] 45) = W0 at S E
  generalize hg0 : w.heap.size = g0 at S
  replace S := hide S
  replace E := hide E
  have S_0 : W0.cell? ⟨g0, 0, none⟩ = some (.string ⟨nm0.toArray⟩) := S.out.cell 0
  have S_1 : W0.cell? ⟨g0, 1, none⟩ = some (.int .i64 kd) := S.out.cell 1
  have S_2 : W0.cell? ⟨g0, 2, none⟩ = some (.slice a1 n1 c1) := S.out.cell 2
  have S_3 : W0.cell? ⟨g0, 3, none⟩ = some (.slice a2 n2 c2) := S.out.cell 3
  have S_4 : W0.cell? ⟨g0, 4, none⟩ = some (.slice a3 n3 c3) := S.out.cell 4
  cases b with
  | false =>
    go_wp2
    go_ret
    exact ⟨rfl, E.out⟩
  | true =>
    cases ok <;> (
      have qc' := qc.out
      simp only [show errOf true = 0 from rfl, show errOf false = 2 from rfl] at qc'
      clear qc
      replace qc' := hide qc'
      go_wp2_with fail
      refine (qc'.out _ E.out).mono ?_
      rintro e W1 ⟨rfl, he⟩
      replace E := hide (E.out.trans he)
      go_wp2
      go_ret
      exact ⟨rfl, E.out⟩)
set_option maxRecDepth 20000 in
set_option maxHeartbeats 1000000 in
theorem Prefix1_any (x : Itm) (hx : x.p.addr.length ≤ 1048576) (q : Pfx) (hq : q.addr.length ≤ 1048576) (gp : Nat) (w : World) (hB : Blk w gp 37 #[.int .i64 q.fam, .int .u64 (q.rd : Int), .string ⟨q.addr.toArray⟩, .int .i64 q.len]) :
    Calls Tryd.prog 28 #[.agg #[.int .i64 x.p.fam, .int .u64 (x.p.rd : Int), .string ⟨x.p.addr.toArray⟩, .int .i64 x.p.len, .int .i64 x.low, .int .i64 x.high], .pointer (some ⟨gp, 0, none⟩)] w fun e w' => e = .returned (.bool (itmHas q x)) ∧ Ext w w' := by
  have qc := fun W => ACov_any x.p q W hx hq
  have hcs : ∃ b1 b2 b3 r : Bool, decide (x.low ≤ q.len) = b1 ∧ decide (q.len ≤ x.high) = b2 ∧ covB x.p q = b3 ∧ itmHas q x = r ∧ (b1 && (b2 && b3)) = r := ⟨_, _, _, _, rfl, rfl, rfl, rfl, rfl⟩
  obtain ⟨b1, b2, b3, r, e1, e2, e3, e4, hr⟩ := hcs
  rw [e3] at qc
  rw [e4]
  clear e3 e4 hx hq
  obtain ⟨⟨f, rd, ad, ln⟩, lo, hi⟩ := x
  obtain ⟨qf, qrd, qad, qln⟩ := q
  simp only [valP] at qc
  dsimp only at *
  replace qc := hide qc
  go_enter Tryd.func28, Tryd.ntmps28
  have S := Blk.new w 42 #[.int .i64 f, .int .u64 (rd : Int), .string ⟨ad.toArray⟩, .int .i64 ln, .int .i64 lo, .int .i64 hi]
  have E := (Ext.refl w).alloc (Obj.cells #[.int .i64 f, .int .u64 (rd : Int), .string ⟨ad.toArray⟩, .int .i64 ln, .int .i64 lo, .int .i64 hi] 42)
  have B := hB.alloc (Obj.cells #[.int .i64 f, .int .u64 (rd : Int), .string ⟨ad.toArray⟩, .int .i64 ln, .int .i64 lo, .int .i64 hi] 42)
  generalize hW0 : w.alloc (Obj.cells #[.int .i64 f, .int .u64 (rd : Int), .string ⟨ad.toArray⟩, .int .i64 ln, .int .i64 lo, .int .i64 hi] 42) = W0 at S E B
  generalize hg0 : w.heap.size = g0 at S
  clear hB
  replace S := hide S
  replace E := hide E
  replace B := hide B
  have S_0 : W0.cell? ⟨g0, 0, none⟩ = some (.int .i64 f) := S.out.cell 0
  have S_1 : W0.cell? ⟨g0, 1, none⟩ = some (.int .u64 (rd : Int)) := S.out.cell 1
  have S_2 : W0.cell? ⟨g0, 2, none⟩ = some (.string ⟨ad.toArray⟩) := S.out.cell 2
  have S_3 : W0.cell? ⟨g0, 3, none⟩ = some (.int .i64 ln) := S.out.cell 3
  have S_4 : W0.cell? ⟨g0, 4, none⟩ = some (.int .i64 lo) := S.out.cell 4
  have S_5 : W0.cell? ⟨g0, 5, none⟩ = some (.int .i64 hi) := S.out.cell 5
  have B_0 : W0.cell? ⟨gp, 0, none⟩ = some (.int .i64 qf) := B.out.cell 0
  have B_1 : W0.cell? ⟨gp, 1, none⟩ = some (.int .u64 (qrd : Int)) := B.out.cell 1
  have B_2 : W0.cell? ⟨gp, 2, none⟩ = some (.string ⟨qad.toArray⟩) := B.out.cell 2
  have B_3 : W0.cell? ⟨gp, 3, none⟩ = some (.int .i64 qln) := B.out.cell 3
  subst hr
  cases b1 with
  | false =>
    go_wp2
    go_ret
    exact ⟨rfl, E.out⟩
  | true =>
    cases b2 with
    | false =>
      go_wp2
      go_ret
      exact ⟨rfl, E.out⟩
    | true =>
      go_wp2_with fail
      refine (qc.out _).mono ?_
      rintro e W1 ⟨rfl, he⟩
      replace E := hide (E.out.trans he)
      go_wp2
      go_ret
      exact ⟨rfl, E.out⟩
set_option maxRecDepth 20000 in
set_option maxHeartbeats 1000000 in
theorem SPrefix_any (s : StS) (q : Pfx) (hq : q.addr.length ≤ 1048576) (a1 : Option Addr) (c1 : Nat) (a2 : Option Addr) (c2 : Nat) (a3 : Option Addr) (c3 : Nat) (w : World) (hs : SetIn w (· < w.heap.size) s a1 a2 a3) :
    Calls Tryd.prog 13 #[.agg #[.string ⟨s.name.toArray⟩, .int .i64 s.kind, .slice a1 s.items.length c1, .slice a2 s.comms.length c2, .slice a3 s.paths.length c3], .agg #[.int .i64 q.fam, .int .u64 (q.rd : Int), .string ⟨q.addr.toArray⟩, .int .i64 q.len]] w fun e w' => e = .returned (.bool (setPfx s q)) ∧ Ext w w' := by
  have qi := fun W (h : Ext w W) => Is_any s 1 a1 c1 a2 c2 a3 c3 W (hs.ext h)
  have qh := fun gp W (h : Ext w W) (hB : Blk W gp 37 #[.int .i64 q.fam, .int .u64 (q.rd : Int), .string ⟨q.addr.toArray⟩, .int .i64 q.len]) => HasItm_any 28 #[.pointer (some ⟨gp, 0, none⟩)] (fun _ _ => rfl) (itmHas q) a1 c1 s.items W hs.nItems (hs.items.ext h) (fun x _ hx W' hW => Prefix1_any x hx.p.addr q hq gp W' (hB.ext hW))
  have hcs : ∃ ok b r : Bool, (decide (s.kind = 1) && setOk s) = ok ∧ s.items.any (itmHas q) = b ∧ setPfx s q = r ∧ (ok && b) = r := ⟨_, _, _, rfl, rfl, rfl, by unfold setPfx; rw [Bool.and_comm (decide (s.kind = 1)), Bool.and_assoc]⟩
  obtain ⟨ok, b, r, e1, e2, e3, hr⟩ := hcs
  rw [e1] at qi
  rw [e2] at qh
  rw [e3]
  clear e1 e2 e3 hs hq
  obtain ⟨nm0, kd, items, comms, paths⟩ := s
  obtain ⟨qf, qrd, qad, qln⟩ := q
  dsimp only at *
  generalize items.length = n1 at *
  generalize comms.length = n2 at *
  generalize paths.length = n3 at *
  subst hr
  replace qi := hide qi
  replace qh := hide qh
  go_enter Tryd.func13, Tryd.ntmps13
  have S := (Blk.new w 45 #[.string ⟨nm0.toArray⟩, .int .i64 kd, .slice a1 n1 c1, .slice a2 n2 c2, .slice a3 n3 c3]).alloc (Obj.cells #[.int .i64 qf, .int .u64 (qrd : Int), .string ⟨qad.toArray⟩, .int .i64 qln] 37)
  have E := ((Ext.refl w).alloc (Obj.cells #[.string ⟨nm0.toArray⟩, .int .i64 kd, .slice a1 n1 c1, .slice a2 n2 c2, .slice a3 n3 c3] 45)).alloc (Obj.cells #[.int .i64 qf, .int .u64 (qrd : Int), .string ⟨qad.toArray⟩, .int .i64 qln] 37)
  have B := Blk.new (w.alloc (Obj.cells #[.string ⟨nm0.toArray⟩, .int .i64 kd, .slice a1 n1 c1, .slice a2 n2 c2, .slice a3 n3 c3] 45)) 37 #[.int .i64 qf, .int .u64 (qrd : Int), .string ⟨qad.toArray⟩, .int .i64 qln]
  rw [show (w.alloc (Obj.cells #[.string ⟨nm0.toArray⟩, .int .i64 kd, .slice a1 n1 c1, .slice a2 n2 c2, .slice a3 n3 c3] 45)).heap.size = w.heap.size + 1 by simp] at B
  generalize hW0 : (w.alloc (Obj.cells #[.string ⟨nm0.toArray⟩, .int .i64 kd, .slice a1 n1 c1, .slice a2 n2 c2, .slice a3 n3 c3] 45)).alloc (Obj.cells #[.int .i64 qf, .int .u64 (qrd : Int), .string ⟨qad.toArray⟩, .int .i64 qln] 37) = W0 at S E B
  generalize hg0 : w.heap.size = g0 at S B
  replace S := hide S
  replace E := hide E
  replace B := hide B
  have S_0 : W0.cell? ⟨g0, 0, none⟩ = some (.string ⟨nm0.toArray⟩) := S.out.cell 0
  have S_1 : W0.cell? ⟨g0, 1, none⟩ = some (.int .i64 kd) := S.out.cell 1
  have S_2 : W0.cell? ⟨g0, 2, none⟩ = some (.slice a1 n1 c1) := S.out.cell 2
  have S_3 : W0.cell? ⟨g0, 3, none⟩ = some (.slice a2 n2 c2) := S.out.cell 3
  have S_4 : W0.cell? ⟨g0, 4, none⟩ = some (.slice a3 n3 c3) := S.out.cell 4
  have B_0 : W0.cell? ⟨g0 + 1, 0, none⟩ = some (.int .i64 qf) := B.out.cell 0
  have B_1 : W0.cell? ⟨g0 + 1, 1, none⟩ = some (.int .u64 (qrd : Int)) := B.out.cell 1
  have B_2 : W0.cell? ⟨g0 + 1, 2, none⟩ = some (.string ⟨qad.toArray⟩) := B.out.cell 2
  have B_3 : W0.cell? ⟨g0 + 1, 3, none⟩ = some (.int .i64 qln) := B.out.cell 3
  go_wp2_with fail
  refine (qi.out _ E.out).mono ?_
  rintro e W1 ⟨rfl, he_⟩
  clear S_0 S_1 S_2 S_3 S_4 B_0 B_1 B_2 B_3
  replace E := hide (E.out.trans he_)
  replace S := hide (S.out.ext he_)
  replace B := hide (B.out.ext he_)
  clear he_
  have S_0 : W1.cell? ⟨g0, 0, none⟩ = some (.string ⟨nm0.toArray⟩) := S.out.cell 0
  have S_1 : W1.cell? ⟨g0, 1, none⟩ = some (.int .i64 kd) := S.out.cell 1
  have S_2 : W1.cell? ⟨g0, 2, none⟩ = some (.slice a1 n1 c1) := S.out.cell 2
  have S_3 : W1.cell? ⟨g0, 3, none⟩ = some (.slice a2 n2 c2) := S.out.cell 3
  have S_4 : W1.cell? ⟨g0, 4, none⟩ = some (.slice a3 n3 c3) := S.out.cell 4
  have B_0 : W1.cell? ⟨g0 + 1, 0, none⟩ = some (.int .i64 qf) := B.out.cell 0
  have B_1 : W1.cell? ⟨g0 + 1, 1, none⟩ = some (.int .u64 (qrd : Int)) := B.out.cell 1
  have B_2 : W1.cell? ⟨g0 + 1, 2, none⟩ = some (.string ⟨qad.toArray⟩) := B.out.cell 2
  have B_3 : W1.cell? ⟨g0 + 1, 3, none⟩ = some (.int .i64 qln) := B.out.cell 3
  clear hW0 hg0
  cases ok with
  | false =>
    go_wp2
    go_ret
    exact ⟨rfl, E.out⟩
  | true =>
    go_wp2_with fail
    refine (qh.out _ _ E.out B.out).mono ?_
    rintro e W2 ⟨rfl, he⟩
    replace E := hide (E.out.trans he)
    go_wp2
    go_ret
    exact ⟨rfl, E.out⟩
open Go.RowKit Go.Sort

theorem PU32_any (s : List UInt8) (w : World) (hV : Vars w) (hs : s.length ≤ 1048576) :
    Calls Tryd.prog 30 #[.string ⟨s.toArray⟩, .int .i64 10, .int .i64 32] w (PuP 10 4294967295 s w) := by
  obtain ⟨t1, p1, h1⟩ := hV.es
  obtain ⟨t2, p2, h2⟩ := hV.er
  have hz : (ByteArray.mk s.toArray).size = s.length := ba_size s
  have hrd := fun n => rd_dec (B := 32) (s := s) (n := n) (by decide)
  rcases hp : Lib.parseUintB 32 s with u | _ | _
  · rw [hp] at hrd
    refine (Any.strconv_ParseUint_10_at32_ok Tryd.laysPu14 ⟨s.toArray⟩ (by omega) u hp w).mono ?_
    rintro e w' ⟨rfl, hw⟩
    refine ⟨?_, .inl ⟨u, Lib.parseUintB_le hp, rfl, fun n hn => by have := hrd n hn; injection this with this; exact this.symm⟩⟩
    rcases hw with rfl | rfl
    · exact Ext.refl _
    · exact ext_bytes _ _ _
  · rw [hp] at hrd
    refine (Any.strconv_ParseUint_10_at32_syntax Tryd.laysPu14 ⟨s.toArray⟩ (by omega) hp _ w h1 (.inr ⟨_, _, rfl⟩)).mono ?_
    rintro e w' ⟨N, rfl, _, _, hb⟩
    refine ⟨hb, .inr ⟨?_, _, _, _, rfl⟩⟩
    cases hr : rdN 10 4294967295 s with
    | none => rfl
    | some n => cases hrd n hr
  · rw [hp] at hrd
    refine (Any.strconv_ParseUint_10_at32_range Tryd.laysPu14 ⟨s.toArray⟩ (by omega) hp _ w h2 (.inr ⟨_, _, rfl⟩)).mono ?_
    rintro e w' ⟨N, rfl, _, _, hb⟩
    refine ⟨hb, .inr ⟨?_, _, _, _, rfl⟩⟩
    cases hr : rdN 10 4294967295 s with
    | none => rfl
    | some n => cases hrd n hr
theorem splC_len (c : UInt8) (f : Nat) (s : List UInt8) (h : s.length ≤ f) : (spl c s).length ≤ s.length + 1 := by
  refine spl_ind (P := fun s => (spl c s).length ≤ s.length + 1) c (fun s hs => ?_) (fun a b ha ih => ?_) f s h
  · rw [spl_no hs]; simp
  · rw [spl_at ha]
    simp only [List.length_cons, List.length_append] at ih ⊢
    omega
theorem okAtm : ElemOk Tryd.prog 23 52 EAtm.sz 16 := elemOk (z := .agg #[.int .i64 0, .int .u32 0]) Tryd.underlying23 (by kernel_rfl) rfl
theorem parseA_bad {s : List UInt8} {k : Nat} (hd : s ≠ [45]) (hk : k < (spl 32 s).length) (h : wordA (spl 32 s)[k] = none) : parseA s = ([], 4) := by
  unfold parseA
  rw [if_neg hd, wordsA_bad (List.getElem_mem hk) h]
theorem word_num {wd : List UInt8} {u : Nat} (h46 : ¬ wd = [46]) (h42 : ¬ wd = [42]) (hu : u ≤ 4294967295) (h0 : 0 < u) (hd : digS 10 u = wd) : wordA wd = some (1, UInt32.ofNat u) := by
  unfold wordA
  rw [if_neg h46, if_neg h42, (rdN_iff (by decide) (by decide)).2 ⟨hu, hd⟩]
  show (if u = 0 then none else _) = _
  rw [if_neg (by omega)]
theorem word_no {wd : List UInt8} (h46 : ¬ wd = [46]) (h42 : ¬ wd = [42]) (h : ∀ n, rdN 10 4294967295 wd = some n → n = 0) : wordA wd = none := by
  unfold wordA
  rw [if_neg h46, if_neg h42]
  cases hr : rdN 10 4294967295 wd with
  | none => rfl
  | some n => exact if_pos (h n hr)
/-- What reading a pattern answers. -/
def PaP (s : List UInt8) (w : World) (e : Ending) (w' : World) : Prop :=
  (∃ v, e = .returned (.tuple #[v, .int .i64 (parseA s).2]) ∧ Own EAtm 52 w' w.heap.size v (parseA s).1) ∧ Ext w w'
theorem PaP.bad {s : List UInt8} {w w' : World} (h : parseA s = ([], 4)) (he : Ext w w') : PaP s w (.returned (.tuple #[.slice none 0 0, .int .i64 4])) w' := by
  refine ⟨⟨.slice none 0 0, ?_, ?_⟩, he⟩
  · rw [h]
  · rw [h]; exact Own.nil
set_option maxRecDepth 20000 in
set_option maxHeartbeats 4000000 in
theorem SParse_any (s : List UInt8) (hs : s.length ≤ 1048576) (w : World) (hT : Tab w) (hV : Vars w) :
    Calls Tryd.prog 16 #[.string ⟨s.toArray⟩] w (PaP s w) := by
  have mixed : Tryd.prog.follows Departure.mixedOrders = true := by kernel_rfl
  by_cases hd : s = [45]
  · subst hd
    go_enter Tryd.func16, Tryd.ntmps16
    go_wp2
    go_ret2
    exact ⟨⟨.slice none 0 0, rfl, Own.nil⟩, Ext.refl _⟩
  have hS := fun W (h : Ext w W) => Split_eq s 32 W (hV.ext h) hs
  have hwl : ∀ x ∈ spl 32 s, x.length ≤ 1048576 := fun x hx => Nat.le_trans (spl_len 32 s x hx) hs
  have hbad := fun k hk h => parseA_bad (s := s) (k := k) hd hk h
  have hpl : (spl 32 s).length ≤ 1048577 := by
    have := splC_len 32 s.length s (Nat.le_refl _)
    omega
  have hend : parseA s = (match wordsA (spl 32 s) with | some l => if l.length ≤ 64 then (l, 0) else ([], 4) | none => ([], 4)) := if_neg hd
  have hB := fun (h : parseA s = ([], 4)) (W : World) (he : Ext w W) => PaP.bad h he
  have hP : PaP s w = fun e w' => (∃ v, e = .returned (.tuple #[v, .int .i64 (parseA s).2]) ∧ Own EAtm 52 w' w.heap.size v (parseA s).1) ∧ Ext w w' := rfl
  generalize PaP s w = Post at hB hP ⊢
  generalize hpa : parseA s = R at *
  generalize spl 32 s = P at *
  clear hpa
  have e1 : (s == [45]) = false := beq_eq_false_iff_ne.2 hd
  clear hd
  replace hS := hide hS
  replace hwl := hide hwl
  replace hbad := hide hbad
  replace hend := hide hend
  replace hB := hide hB
  replace hP := hide hP
  replace hT := hide hT
  replace hV := hide hV
  have h0 := hS.out w (Ext.refl w)
  replace h0 := hide h0
  go_enter Tryd.func16, Tryd.ntmps16
  go_wp2_with fail
  refine h0.out.mono ?_
  rintro e W1 ⟨rfl, he1, hc⟩
  replace he1 := hide he1
  replace hc := hide hc
  go_wp2_with fail
  go_loopw [4, 14] (fun v i wr => ∃ (k : Nat) (x : List Atm), k ≤ P.length ∧ i = .int .i64 k ∧ wordsA (P.take k) = some x ∧ Own EAtm 52 wr W1.heap.size v x ∧ Ext W1 wr) (fun _ i _ => P.length - (intOf i).toNat)
  case atStart => exact ⟨0, [], Nat.zero_le _, rfl, rfl, Own.nil, Ext.refl _⟩
  case round =>
    obtain ⟨k, x, hk, rfl, hx, hown, hE⟩ := hrel
    have hxk : x.length = k := by have := wordsA_len hx; rw [List.length_take] at this; omega
    have hxl : x.length ≤ 1048577 := by omega
    have hsz := hE.size
    replace hown := hide hown
    replace hE := hide hE
    replace hxl := hide hxl
    by_cases hlt : k < P.length
    · have hc1 := hE.out.cell (hc.out k hlt)
      have q := PU32_any P[k] wr (hV.out.ext (he1.out.trans hE.out)) (hwl.out _ (List.getElem_mem hlt))
      have hnext := fun a (h : wordA P[k] = some a) => wordsA_next hlt hx h
      have hno := fun (h : wordA P[k] = none) W (h2 : Ext W1 W) => hB.out (hbad.out k hlt h) W (he1.out.trans h2)
      generalize P[k] = wd at hc1 q hnext hno
      clear hx hB hbad hwl hend hP
      replace q := hide q
      replace hnext := hide hnext
      replace hno := hide hno
      go_wp2_with fail
      refine q.out.mono ?_
      rintro e W2 ⟨he2, hres⟩
      clear q hc1
      have hsz2 := (hE.out.trans he2).size
      have hE2 := hide (hE.out.trans he2)
      replace hown := hide (hown.out.ext he2)
      clear he2 hE hsz
      by_cases h46 : wd = [46]
      · obtain ⟨z, er, rfl⟩ : ∃ z er, e = .returned (.tuple #[.int .u64 z, er]) := by
          rcases hres with ⟨u, _, rfl, _⟩ | ⟨_, z, T, p, rfl⟩
          · exact ⟨_, _, rfl⟩
          · exact ⟨_, _, rfl⟩
        clear hres
        subst h46
        have hwa : wordA [46] = some ((2, 0) : Atm) := rfl
        have hnx := hide (hnext.out ((2, 0) : Atm) hwa)
        have hcs : ∀ j y, (atmCs ((2, 0) : Atm))[j]? = some y → (W2.alloc (Obj.cells #[.int .i64 2, .int .u32 0] 52)).cell? ((⟨W2.heap.size, 0, none⟩ : Addr).add j) = some y := cells_new W2 #[.int .i64 2, .int .u32 0] 52
        replace hcs := hide hcs
        clear hnext hno hwa
        go_wp2_with (at_builtin
                     have hox := hown.out.alloc (Obj.cells #[.int .i64 2, .int .u32 0] 52)
                     refine wpList_push (E := EAtm) rfl _ _ _ rfl okAtm (by decide) (by decide) rfl hox (by have := hxl.out; omega) (by simp; omega) rfl (y := ((2, 0) : Atm)) (cs := atmCs ((2, 0) : Atm)) ⟨rfl, by decide, by decide⟩ hcs.out ?_
                     intro v' w5 hown1 hg hat)
        go_roundw
        case rel => exact ⟨k + 1, x ++ [((2, 0) : Atm)], by omega, by go_num, hnx.out, hown1, (hE2.out.alloc _).push (fun j hj => (hown.out.lt j hj).1) hg⟩
        case measure => simp [intOf]; omega
      by_cases h42 : wd = [42]
      · obtain ⟨z, er, rfl⟩ : ∃ z er, e = .returned (.tuple #[.int .u64 z, er]) := by
          rcases hres with ⟨u, _, rfl, _⟩ | ⟨_, z, T, p, rfl⟩
          · exact ⟨_, _, rfl⟩
          · exact ⟨_, _, rfl⟩
        clear hres h46
        subst h42
        have hwa : wordA [42] = some ((3, 0) : Atm) := rfl
        have hnx := hide (hnext.out ((3, 0) : Atm) hwa)
        have hcs : ∀ j y, (atmCs ((3, 0) : Atm))[j]? = some y → (W2.alloc (Obj.cells #[.int .i64 3, .int .u32 0] 52)).cell? ((⟨W2.heap.size, 0, none⟩ : Addr).add j) = some y := cells_new W2 #[.int .i64 3, .int .u32 0] 52
        replace hcs := hide hcs
        clear hnext hno hwa
        go_wp2_with (at_builtin
                     have hox := hown.out.alloc (Obj.cells #[.int .i64 3, .int .u32 0] 52)
                     refine wpList_push (E := EAtm) rfl _ _ _ rfl okAtm (by decide) (by decide) rfl hox (by have := hxl.out; omega) (by simp; omega) rfl (y := ((3, 0) : Atm)) (cs := atmCs ((3, 0) : Atm)) ⟨rfl, by decide, by decide⟩ hcs.out ?_
                     intro v' w5 hown1 hg hat)
        go_roundw
        case rel => exact ⟨k + 1, x ++ [((3, 0) : Atm)], by omega, by go_num, hnx.out, hown1, (hE2.out.alloc _).push (fun j hj => (hown.out.lt j hj).1) hg⟩
        case measure => simp [intOf]; omega
      have g46 : (wd == [46]) = false := beq_eq_false_iff_ne.2 h46
      have g42 : (wd == [42]) = false := beq_eq_false_iff_ne.2 h42
      rcases hres with ⟨u, hu, rfl, hrd⟩ | ⟨hrd, z, T, p, rfl⟩
      · rcases Nat.eq_zero_or_pos u with rfl | hpos
        · have hwn := hide (word_no h46 h42 hrd)
          clear hu hrd h46 h42 hnext
          go_wp2
          try go_ret2
          exact hno.out hwn.out _ hE2.out
        · have qf := fun W (h : Ext W1 W) => FormatUint_any u (by omega) W (hT.out.ext (he1.out.trans h))
          rw [show dec u = ⟨(digS 10 u).toArray⟩ by unfold dec; rw [digS_dec]] at qf
          replace qf := hide qf
          by_cases hdg : digS 10 u = wd
          · have eb : (digS 10 u == wd) = true := beq_iff_eq.2 hdg
            have hwa := word_num h46 h42 hu hpos hdg
            obtain ⟨cv, rfl⟩ : ∃ cv : UInt32, cv.toNat = u := ⟨UInt32.ofNat u, by rw [UInt32.toNat_ofNat']; omega⟩
            rw [UInt32.ofNat_toNat] at hwa
            have hw : IntKind.u32.wrap (cv.toNat : Int) = (cv.toNat : Int) := by rw [IntKind.wrap_u32]; omega
            have hnx := hide (hnext.out _ hwa)
            clear hrd h46 h42 hno hu hnext hwa hdg
            go_wp2_with fail
            refine (qf.out _ hE2.out).mono ?_
            rintro e W3 ⟨rfl, he3⟩
            have hsz3 := he3.size
            replace hE2 := hide (hE2.out.trans he3)
            replace hown := hide (hown.out.ext he3)
            clear he3
            have hcs : ∀ j y, (atmCs ((1, cv) : Atm))[j]? = some y → (W3.alloc (Obj.cells #[.int .i64 1, .int .u32 (cv.toNat : Int)] 52)).cell? ((⟨W3.heap.size, 0, none⟩ : Addr).add j) = some y := cells_new W3 #[.int .i64 1, .int .u32 (cv.toNat : Int)] 52
            replace hcs := hide hcs
            go_wp2_with (at_builtin
                         have hox := hown.out.alloc (Obj.cells #[.int .i64 1, .int .u32 (cv.toNat : Int)] 52)
                         refine wpList_push (E := EAtm) rfl _ _ _ rfl okAtm (by decide) (by decide) rfl hox (by have := hxl.out; omega) (by simp; omega) rfl (y := ((1, cv) : Atm)) (cs := atmCs ((1, cv) : Atm)) ⟨rfl, by show i64 1; exact ⟨by decide, by decide⟩⟩ hcs.out ?_
                         intro v' w5 hown1 hg hat)
            go_roundw
            case rel => exact ⟨k + 1, x ++ [((1, cv) : Atm)], by omega, by go_num, hnx.out, hown1, (hE2.out.alloc _).push (fun j hj => (hown.out.lt j hj).1) hg⟩
            case measure => simp [intOf]; omega
          · have eb : (digS 10 u == wd) = false := beq_eq_false_iff_ne.2 hdg
            have hwn := hide (word_no h46 h42 fun n hn => by
              have h1 := hrd n hn
              obtain ⟨_, h2⟩ := (rdN_iff (by decide) (by decide)).1 hn
              rw [h1] at h2
              exact absurd h2 hdg)
            clear hu hrd h46 h42 hnext hdg
            go_wp2_with fail
            refine (qf.out _ hE2.out).mono ?_
            rintro e W3 ⟨rfl, he3⟩
            replace hE2 := hide (hE2.out.trans he3)
            clear he3
            go_wp2
            try go_ret2
            exact hno.out hwn.out _ hE2.out
      · have hwn := hide (word_no h46 h42 fun n hn => by rw [hrd] at hn; cases hn)
        clear hrd h46 h42 hnext
        go_wp2
        try go_ret2
        exact hno.out hwn.out _ hE2.out
    · obtain rfl : k = P.length := by omega
      rw [List.take_length] at hx
      replace hend := hend.out
      rw [hx] at hend
      obtain ⟨av, cv, rfl⟩ := hown.out.form
      by_cases h64 : x.length ≤ 64
      · have e6 : decide ((64 : Int) < (x.length : Int)) = false := decide_eq_false (by omega)
        have hR : R = (x, 0) := hend.trans (if_pos h64)
        clear hend h64 hx hB hbad hwl hxk
        replace hR := hide hR
        go_wp2
        try go_ret2
        rw [hP.out]
        exact ⟨⟨_, by rw [hR.out]; rfl, by rw [hR.out]; exact hown.out.low he1.out.size⟩, he1.out.trans hE.out⟩
      · have e6 : decide ((64 : Int) < (x.length : Int)) = true := decide_eq_true (by omega)
        have hR : R = ([], 4) := hend.trans (if_neg h64)
        clear hend h64 hx hbad hwl hxk
        replace hR := hide hR
        go_wp2
        try go_ret2
        exact hB.out hR.out _ (he1.out.trans hE.out)
end Go.Proofs.YtoghdmoldcjedaaDoor
