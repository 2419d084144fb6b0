/- Chapter 35, plain: a line that is none among events' lines (ScriptTold). Chapter 35, plain: 'run' stands alone in a line of a configuration. Chapter 35, walks: a script's text (script.Print). errors.Is and errors.As at a fault of the program (a pointer to an api.Fault), by their contracts. Chapter 35, walks: the example of the law (works). The law ScriptTold, walked. Chapter 35, plain: a script's text without its last byte; configurations of equal lines (ScriptBack). A map that remembers answers: every entry holds what a function says at its key. Keys of two whole numbers. The keys of sets.Match's memory; the recursion of sets.Match, walked. The recursion of sets.Match, walked. The recursion of sets.Match, walked: every spot. Walks: may a pattern be (sets.atoms); does a pattern match (sets.Match). Walks: which prefix covers which. Walks: which prefix covers which: the document's. Walks:  -/
import Derived.WalkKit
import Derived.Below
import Derived.Outline
import Derived.LoopTactic
import Derived.Laws.OwnMore
import Derived.Deep.AppendLies
import Derived.Deep.Draws
import Derived.Lib.Hide
import Derived.BigQuiet
import Derived.Deep.QuietTactic
import Derived.WalkSpells
import Derived.WalkLawsBesides
import Derived.Deep.RegionHeld3
import Derived.Deep.DrawnRows
import Derived.Deep.RegionLaw
import Derived.Test.YtkinghadgmbhbaaGreatDoorProg
import Derived.Test.YtkinghadgmbhbaaGreatDoorShelf
import Derived.Lib.ConvBytes
import Derived.Lib.Bytealg
import Derived.Lib.Small
import Derived.Lib.SplitLaws
import Derived.Lib.ParseIntB
import Derived.Lib.ParseIntBCases
import Derived.Lib.ItoaNum
import Derived.Lib.Join
import Derived.Test.YtkinghadgmbhbaaGreatDoorShelf2
import Derived.Lib.UnsafeStr
import Derived.Shelf.RegionOpenPlain
import Derived.Laws.StructEq
import Derived.Lib.QuietBelow
import Derived.Test.YtkinghadgmbhbaaGreatDoorRows
import Derived.ProofKit
import Derived.Deep.Slices
import Derived.Shelf.GgClosure.StringsRunes
import Derived.Lib.ItoaMem
import Derived.Lib.ItoaLen
import Derived.Shelf.Strings.Builder1
import Derived.Orders
import Derived.StillTail
import Derived.Defers
import Derived.Recover
import Derived.Laws.EntriesVeiled
import Derived.Deep.DeepCutAuto
import Derived.LaidEql
import Derived.Stop.Asserts
import Derived.RowKitTokens
import Derived.Deep.MidRow
import Derived.Maps.OwnSet
import Derived.Maps.Views
import Derived.Maps.Range
import Derived.DeepKeys5
import Derived.Deep.Cut
import Derived.OpenShut
import Derived.Test.YtkinghadgmbhbaaGreatDoorPC01
import Derived.Test.YtkinghadgmbhbaaGreatDoorPC02
import Derived.Test.YtkinghadgmbhbaaGreatDoorPC03
import Derived.Test.YtkinghadgmbhbaaGreatDoorPC04
import Derived.Test.YtkinghadgmbhbaaGreatDoorPC05
namespace Go.Proofs.YtkinghadgmbhbaaGreatDoor
section
open Go.RowKit
set_option linter.unusedVariables false
set_option linter.unusedSimpArgs false
theorem spl_tellt : ∀ (l : List EvS) (t : List UInt8), l.all evOk = true → spl 10 (tellL l ++ t) = l.map evW ++ spl 10 t
  | [], t, _ => by simp [tellL]
  | e :: r, t, h => by
    simp only [List.all_cons, Bool.and_eq_true] at h
    have ih := spl_tellt r t h.2
    have e1 : tellL (e :: r) ++ t = evW e ++ 10 :: (tellL r ++ t) := by simp [tellL]
    rw [e1, spl_at (evW_no h.1), ih]
    rfl
theorem restE_evs (s : List UInt8) (cf : Nat) : ∀ (l : List EvS) (at_ : Nat) (out : List EvS) (y : List UInt8) (r : List (List UInt8)), l.all evOk = true → out.length + l.length ≤ 512 → restE s cf at_ out (l.map evW ++ y :: r) = restE s cf (at_ + l.length) (out ++ l) (y :: r)
  | [], at_, out, y, r, _, _ => by simp
  | e :: l, at_, out, y, r, h, hl => by
    simp only [List.all_cons, Bool.and_eq_true] at h
    simp only [List.length_cons] at hl
    have ih := restE_evs s cf l (at_ + 1) (out ++ [e]) y r h.2 (by simp; omega)
    obtain ⟨y2, r2, hy⟩ : ∃ y2 r2, l.map evW ++ y :: r = y2 :: r2 := by cases l <;> exact ⟨_, _, rfl⟩
    rw [List.map_cons, List.cons_append, hy, restE_on s cf at_ (evO_ev h.1) (by omega), ← hy, ih]
    simp only [List.length_cons, List.append_assoc, List.singleton_append]
    congr 1
    omega
theorem evW_of (d : DoS) : (evW (ofS d)).length ≤ 200 := by
 have i3 := wordB_len (d.bytes.take 40)
 have hb : (d.bytes.take 40).length ≤ 40 := by rw [List.length_take]; omega
 have i4 := addrT_len (a := if d.six = true then d.bs else d.bs.take 4)
 have i5 : (digS 10 d.draw.toNat).length ≤ 10 := dig10 (by have := d.draw.toNat_lt; omega)
 have i6 : (digS 10 (conS d)).length ≤ 10 := dig10 (by unfold conS; omega)
 have i7 : (digS 10 (d.ticks % 4096 + 1)).length ≤ 10 := dig10 (by omega)
 have i8 : (perS d).length = 2 := rfl
 unfold evW evWs ofS
 split
 all_goals simp only [if_true, if_false, Int.toNat_natCast, join2_len, join3_len, List.length_cons, List.length_nil, Int.reduceEq, reduceIte, Lib.join_one]
 all_goals omega
end
section
open Go.RowKit
set_option linter.unusedVariables false
set_option linter.unusedSimpArgs false
/-- In a configuration that ends in a line's end, a line is 'run' just if it stands between two lines' ends. -/
theorem nlRun_iff (c : List UInt8) (hc : c = [] ∨ c.getLast? = some 10) : nlRun <:+: 10 :: c ↔ runW ∈ spl 10 c := by
  revert hc
  refine spl_ind (P := fun c => (c = [] ∨ c.getLast? = some 10) → (nlRun <:+: 10 :: c ↔ runW ∈ spl 10 c)) 10 (fun s hs hc => ?_) (fun a b ha ih hc => ?_) c.length c (Nat.le_refl _)
  · have h0 : s = [] := by
      rcases hc with h | h
      · exact h
      · exact absurd (List.mem_of_getLast? h) hs
    subst h0
    constructor
    · rintro ⟨p, q, h⟩
      have := congrArg List.length h
      simp [nlRun, runW] at this
      omega
    · intro h
      rw [spl_no hs] at h
      simp [runW] at h
  · rw [nlRun_step ha, spl_at ha]
    have hb : b = [] ∨ b.getLast? = some 10 := by
      rcases hc with h | h
      · simp at h
      · rw [List.getLast?_append] at h
        cases b with
        | nil => exact .inl rfl
        | cons x r =>
          right
          rw [List.getLast?_cons_cons] at h
          cases hq : (x :: r).getLast? with
          | none => simp at hq
          | some y => rw [hq] at h; simpa using h
    rw [ih hb]
    simp only [List.cons_append, List.nil_append, List.mem_cons, List.singleton_append]
    constructor
    · rintro (h | h)
      · exact .inl h.symm
      · exact .inr h
    · rintro (h | h)
      · exact .inl h.symm
      · exact .inr h
theorem cfgOk_iff (c : List UInt8) (hc : c = [] ∨ c.getLast? = some 10) : cfgOk c = true ↔ ¬ nlRun <:+: 10 :: c := by
 unfold cfgOk
 rw [nlRun_iff c hc]
 have : (decide (c = []) || decide (c.getLast? = some 10)) = true := by simpa using hc
 rw [this]
 simp
theorem cfgOk_end {c : List UInt8} (hc : ¬ (c = [] ∨ c.getLast? = some 10)) : cfgOk c = false := by
 unfold cfgOk
 have : (decide (c = []) || decide (c.getLast? = some 10)) = false := by simpa using hc
 rw [this]
 rfl
theorem contains_iff (s sub : List UInt8) : Lib.contains s sub = true ↔ sub <:+: s := by
 unfold Lib.contains
 rw [decide_eq_true_eq]
 constructor
 ·intro h
  rcases Lib.index_spec s sub with ⟨h1, _⟩ | ⟨i, h1, h2, h3, _⟩
  ·omega
  ·have h4 : sub <+: s.drop i := by simpa [Lib.occAt] using h3
   exact h4.isInfix.trans (List.drop_suffix i s).isInfix
 ·rintro ⟨p, q, rfl⟩
  rcases Lib.index_spec (p ++ sub ++ q) sub with ⟨h1, h2⟩ | ⟨i, h1, _⟩
  ·have := h2 p.length (by simp)
   simp only [Lib.occAt, List.append_assoc, List.drop_left] at this
   have h9 : sub.isPrefixOf (sub ++ q) = true := List.isPrefixOf_iff_prefix.2 (List.prefix_append _ _)
   rw [h9] at this
   cases this
  ·omega
theorem suffix_iff (c : List UInt8) : Lib.hasSuffix c [10] = decide (c.getLast? = some 10) := by
 rw [Bool.eq_iff_iff, decide_eq_true_eq]
 unfold Lib.hasSuffix
 rw [List.isSuffixOf_iff_suffix]
 constructor
 ·rintro ⟨p, rfl⟩; simp
 ·intro h
  obtain ⟨p, hp⟩ := List.getLast?_eq_some_iff.1 h
  exact ⟨p, hp.symm⟩
/-- A configuration that may stand ahead of a script, as the program asks. -/
theorem cfgOk_prog (c : List UInt8) : cfgOk c = ((decide (c = []) || Lib.hasSuffix c [10]) && !Lib.contains (10 :: c) nlRun) := by
 rw [suffix_iff]
 by_cases h : c = [] ∨ c.getLast? = some 10
 ·have h1 : (decide (c = []) || decide (c.getLast? = some 10)) = true := by simpa using h
  rw [h1, Bool.true_and, Bool.eq_iff_iff, cfgOk_iff c h, Bool.not_eq_true', ← Bool.not_eq_true, contains_iff]
 ·have h1 : (decide (c = []) || decide (c.getLast? = some 10)) = false := by simpa using h
  rw [h1, cfgOk_end h]
  rfl
/-- The events' lines that are told up to the first one that may not be. -/
theorem tellL_len (l : List EvS) (h : l.all evOk = true) : (tellL l).length ≤ 131113 * l.length := by
  induction l with
  | nil => simp [tellL]
  | cons e r ih =>
    simp only [List.all_cons, Bool.and_eq_true] at h
    have h1 := evW_len h.1
    have h2 := ih h.2
    have : tellL (e :: r) = (evW e ++ [10]) ++ tellL r := rfl
    rw [this]
    simp only [List.length_append, List.length_cons, List.length_nil]
    omega
theorem tellL_snoc (l : List EvS) (e : EvS) : tellL (l ++ [e]) = tellL l ++ (evW e ++ [10]) := by simp [tellL]
end
section
open Go.RowKit
set_option linter.unusedVariables false
set_option linter.unusedSimpArgs false
theorem Bd.ext {B b : Nat} {l : List UInt8} {w w' : World} (h : Bd B b l w) (he : Ext w w') : Bd B b l w' := by
 have key : ∀ p, Lib.BuilderAt 69 5 B b p (Lib.byteCells l) w → Lib.BuilderAt 69 5 B b p (Lib.byteCells l) w' := fun p h => by
  have hlt := h.lt
  obtain ⟨hB, v, hbk, ⟨hl, h3⟩, hne⟩ := h
  refine ⟨hB, v, (he.block b hlt).trans hbk, ⟨hl, ?_⟩, hne⟩
  rcases h3 with h3 | ⟨g, cap, cur, rfl, hg, hh, r⟩
  ·exact .inl h3
  ·exact .inr ⟨g, cap, cur, rfl, hg, by rw [he.block g (Array.getElem?_eq_some_iff.1 hh).1]; exact hh, r⟩
 rcases h with h | h
 ·exact .inl (key _ h)
 ·exact .inr (key _ h)
theorem meas_step {n k : Nat} (h : k < n) : n - (intOf (.int .i64 ((k : Int) + 1))).toNat < n - (intOf (.int .i64 (k : Int))).toNat := by
 show n - ((k : Int) + 1).toNat < n - ((k : Int)).toNat
 omega
set_option maxRecDepth 20000 in
set_option maxHeartbeats 4000000 in
theorem SPrint_any (c : List UInt8) (hc : c.length ≤ 1048576) (l : List EvS) (a : Option Addr) (cp : Nat) (hl : l.length ≤ 16777216) (w : World) (hT : Tab w) (hV : Vars w) (hD : Deb w) (hs : Sl EEv w (· < w.heap.size) a l) :
    Calls Tryz.prog 9 #[.string ⟨c.toArray⟩, .slice a l.length cp] w fun e w' => e = .returned (.tuple #[.string ⟨(printS c l).1.toArray⟩, .int .i64 (printS c l).2]) ∧ Ext w w' := by
  have hR : ∀ s (x : Int) W, printS c l = (s, x) → Ext w W → (Ending.returned (.tuple #[.string ⟨s.toArray⟩, .int .i64 x]) = Ending.returned (.tuple #[.string ⟨(printS c l).1.toArray⟩, .int .i64 (printS c l).2]) ∧ Ext w W) := fun s x W h he => ⟨by rw [h], he⟩
  generalize hQ : (fun e w' => e = Ending.returned (.tuple #[.string ⟨(printS c l).1.toArray⟩, .int .i64 (printS c l).2]) ∧ Ext w w') = Post
  replace hR : ∀ s (x : Int) W, printS c l = (s, x) → Ext w W → Post (.returned (.tuple #[.string ⟨s.toArray⟩, .int .i64 x])) W := by rw [← hQ]; exact hR
  clear hQ
  obtain ⟨mx, hmx⟩ := hV.max
  have q1 := Tryz.strings_HasSuffix ⟨c.toArray⟩ ⟨#[10]⟩ w (by simp [ByteArray.size]; omega)
  have g1 : ((ByteArray.mk #[10]) ++ ⟨c.toArray⟩).data.toList = 10 :: c := by simp
  have g2 : (ByteArray.mk #[10, 114, 117, 110, 10]).data.toList = nlRun := rfl
  have g3 : (ByteArray.mk #[10]).data.toList = [10] := rfl
  have g4 : (ByteArray.mk c.toArray).data.toList = c := rfl
  have q2 := Tryz.strings_Contains ((ByteArray.mk #[10]) ++ ⟨c.toArray⟩) ⟨#[10, 114, 117, 110, 10]⟩ mx w (by simp [ByteArray.size]; omega) hmx
  rw [g1, g2] at q2
  rw [g3, g4] at q1
  have hcp := cfgOk_prog c
  have hp1 : cfgOk c = false → printS c l = ([], 2) := fun h => by unfold printS; rw [if_pos h]
  have z1 : ¬ 9223372036854775807 < 1 + c.length := by omega
  have z2 : ¬ 9223372036854775807 < c.length + 3 := by omega
  have z3 : ¬ 9223372036854775807 < c.length + 3 + 1 := by omega
  clear g1 g2 g3 g4 hmx
  generalize Lib.contains (10 :: c) nlRun = bc at *
  generalize Lib.hasSuffix c [10] = bs at *
  replace hR := hide hR
  replace hT := hide hT
  replace hV := hide hV
  replace hD := hide hD
  replace hs := hide hs
  replace hp1 := hide hp1
  replace q1 := hide q1
  replace q2 := hide q2
  replace hc := hide hc
  replace hcp := hide hcp
  go_enter Tryz.func9, Tryz.ntmps9
  go_upto_region 1 with fail
  go_cut [22] (fun s22 wx => s22 = .bool (!cfgOk c) ∧ w = wx)
  case first =>
    by_cases hc0 : c = []
    · have e0 : c.isEmpty = true := by simpa using hc0
      have e1 : (c == []) = true := beq_iff_eq.2 hc0
      have hk : cfgOk c = !bc := by rw [hcp.out, decide_eq_true hc0]; simp
      clear hc0
      replace hk := hide hk
      go_wp2_with (first | (go_at_call 25; refine q1.out.mono ?_; rintro e w1 ⟨rfl, rfl⟩) | (go_at_call 26; refine q2.out.mono ?_; rintro e w1 ⟨rfl, rfl⟩))
      go_meet
      case rel => exact ⟨by rw [hk.out, Bool.not_not], rfl⟩
    · have e0 : c.isEmpty = false := by simpa using hc0
      have e1 : (c == []) = false := beq_eq_false_iff_ne.2 hc0
      have hk : cfgOk c = (bs && !bc) := by rw [hcp.out, decide_eq_false hc0]; simp
      clear hc0
      replace hk := hide hk
      cases bs
      · go_wp2_with (first | (go_at_call 25; refine q1.out.mono ?_; rintro e w1 ⟨rfl, rfl⟩) | (go_at_call 26; refine q2.out.mono ?_; rintro e w1 ⟨rfl, rfl⟩))
        go_meet
        case rel => exact ⟨by rw [hk.out]; rfl, rfl⟩
      · go_wp2_with (first | (go_at_call 25; refine q1.out.mono ?_; rintro e w1 ⟨rfl, rfl⟩) | (go_at_call 26; refine q2.out.mono ?_; rintro e w1 ⟨rfl, rfl⟩))
        go_meet
        case rel => exact ⟨by rw [hk.out, Bool.true_and, Bool.not_not], rfl⟩
  case rest =>
    obtain ⟨rfl, rfl⟩ := hcut
    cases hk : cfgOk c with
    | false =>
      have hf := hide (hp1.out hk)
      clear hk
      go_wp2
      try go_ret2
      exact hR.out _ _ _ hf.out (Ext.refl _)
    | true =>
      by_cases hl5 : 512 < l.length
      · have b1 : decide ((512 : Int) < (l.length : Int)) = true := decide_eq_true (by omega)
        have hf : printS c l = ([], 3) := by unfold printS; rw [if_neg (by rw [hk]; decide), if_pos hl5]
        clear hk hl5 hl z1 z2 z3
        replace hf := hide hf
        go_wp2
        try go_ret2
        exact hR.out _ _ _ hf.out (Ext.refl _)
      have b1 : decide ((512 : Int) < (l.length : Int)) = false := decide_eq_false (by omega)
      have hpr : printS c l = if l.all evOk = false then ([], 2) else if 1048576 < (textScr c l).length then ([], 3) else (textScr c l, 0) := by unfold printS; rw [if_neg (by rw [hk]; decide), if_neg hl5]
      have hl6 : l.length ≤ 512 := by omega
      clear hl5 hl
      have hB0 : Bd w.heap.size w.heap.size [] (w.alloc (Obj.cells #[.pointer none, .slice none 0 0] 69)) := .inl ⟨Nat.le_refl _, _, Array.getElem?_push_size, World.ownsRow_nil _ _ _ _, by simp [Value.ownBlock]⟩
      have hs6 : ((ByteArray.mk c.toArray) ++ ⟨#[114, 117, 110]⟩) ++ ⟨#[10]⟩ = (⟨(c ++ (runW ++ [10])).toArray⟩ : ByteArray) := by apply ByteArray.ext; simp [runW]
      have qW := BWriteString_any w.heap.size w.heap.size [] (c ++ (runW ++ [10])) _ hB0 (by have := hc.out; simp [runW]; omega) (by simp)
      replace hpr := hide hpr
      replace hl6 := hide hl6
      replace qW := hide qW
      replace hs6 := hide hs6
      go_wp2_with (go_at_call 27; rw [hs6.out]; refine qW.out.mono ?_; rintro e W1 ⟨rfl, hB1, hE1⟩)
      have E1 : Ext w W1 := Below.trans ((Ext.refl w).alloc _) hE1
      rw [List.nil_append] at hB1
      clear hE1 qW hs6 hB0 hp1 hcp q1 q2 z1 z2 z3 b1 bc bs
      generalize hT0 : c ++ (runW ++ [10]) = T0 at *
      have hT0l : T0.length ≤ 1048580 := by have := hc.out; rw [← hT0]; simp [runW]; omega
      have htx : textScr c l = T0 ++ tellL l := by rw [← hT0]; simp [textScr]
      rw [htx] at hpr
      clear htx hT0 hk
      replace hT0l := hide hT0l
      go_loopw [32] (fun i wr => ∃ k : Nat, k ≤ l.length ∧ i = .int .i64 k ∧ Bd w.heap.size w.heap.size (T0 ++ tellL (l.take k)) wr ∧ Ext w wr ∧ (l.take k).all evOk = true) (fun i _ => l.length - (intOf i).toNat)
      case atStart => exact ⟨0, Nat.zero_le _, rfl, by simpa [tellL] using hB1, E1, rfl⟩
      case round =>
        clear hB1 E1
        obtain ⟨k, hk, rfl, hB, E, hall⟩ := hrel
        have hsz := E.size
        have hlen : (T0 ++ tellL (l.take k)).length ≤ 1048580 + 131113 * 512 := by
          have h1 := tellL_len _ hall
          have h2 : (l.take k).length ≤ 512 := by rw [List.length_take]; have := hl6.out; omega
          rw [List.length_append]
          have := Nat.mul_le_mul_left 131113 h2
          have := hT0l.out
          omega
        by_cases hlt : k < l.length
        · obtain ⟨b, off, rfl, _, hin, hcell⟩ := EEv.at (hs.out.ext E) k hlt
          have hsn : l.take (k + 1) = l.take k ++ [l[k]] := List.take_succ_eq_append_getElem hlt
          have q := fun W (h : Ext w W) => SLineE_any l[k] hin W (hT.out.ext h) (hV.out.ext h) (hD.out.ext h)
          have hbad : evOk l[k] = false → printS c l = ([], 2) := fun h => by
            rw [hpr.out, if_pos]
            rw [← Bool.not_eq_true, List.all_eq_true]
            intro h9
            rw [h9 _ (List.getElem_mem hlt)] at h
            cases h
          have hgd : evOk l[k] = true → (l.take (k + 1)).all evOk = true := fun h => by rw [hsn, List.all_append, hall]; simp [h]
          have htl : tellL (l.take (k + 1)) = tellL (l.take k) ++ (evW l[k] ++ [10]) := by rw [hsn, tellL_snoc]
          have hwl := fun h : evOk l[k] = true => evW_len h
          generalize hX : T0 ++ tellL (l.take k) = X at *
          generalize l[k] = e at *
          obtain ⟨kd, cn, ad, pr, by_, tk, dr⟩ := e
          have x0 : wr.cell? ⟨b, off + k * 7, none⟩ = some (.int .i64 kd) := hcell 0 _ rfl
          have x1 : wr.cell? ⟨b, off + k * 7 + 1, none⟩ = some (.int .i64 cn) := hcell 1 _ rfl
          have x2 : wr.cell? ⟨b, off + k * 7 + 2, none⟩ = some (.string ⟨ad.toArray⟩) := hcell 2 _ rfl
          have x3 : wr.cell? ⟨b, off + k * 7 + 3, none⟩ = some (.string ⟨pr.toArray⟩) := hcell 3 _ rfl
          have x4 : wr.cell? ⟨b, off + k * 7 + 4, none⟩ = some (.string ⟨by_.toArray⟩) := hcell 4 _ rfl
          have x5 : wr.cell? ⟨b, off + k * 7 + 5, none⟩ = some (.int .i64 tk) := hcell 5 _ rfl
          have x6 : wr.cell? ⟨b, off + k * 7 + 6, none⟩ = some (.int .u32 (dr.toNat : Int)) := hcell 6 _ rfl
          simp only [evCs] at q
          have E2 := E.alloc (Obj.cells #[.int .i64 kd, .int .i64 cn, .string ⟨ad.toArray⟩, .string ⟨pr.toArray⟩, .string ⟨by_.toArray⟩, .int .i64 tk, .int .u32 (dr.toNat : Int)] 31)
          replace q := q _ E2
          unfold evT at q
          clear hcell hin
          cases hok : evOk ⟨kd, cn, ad, pr, by_, tk, dr⟩ with
          | false =>
            rw [if_neg (by rw [hok]; decide)] at q
            have hf := hbad hok
            clear hbad hgd htl hwl hok hsn hX hlen hall hB hk
            replace q := hide q
            replace hf := hide hf
            replace E := hide E
            replace E2 := hide E2
            go_wp2_with fail
            refine q.out.mono ?_
            rintro e1 W3 ⟨rfl, he⟩
            have E3 := E2.out.trans he
            clear q he
            replace E3 := hide E3
            go_wp2
            try go_ret2
            exact hR.out _ _ _ hf.out E3.out
          | true =>
            rw [if_pos hok] at q
            have hwl2 := hwl hok
            have hgd2 := hgd hok
            have hB2 : Bd w.heap.size w.heap.size X (wr.alloc (Obj.cells #[.int .i64 kd, .int .i64 cn, .string ⟨ad.toArray⟩, .string ⟨pr.toArray⟩, .string ⟨by_.toArray⟩, .int .i64 tk, .int .u32 (dr.toNat : Int)] 31)) := hB.ext ((Ext.refl wr).alloc _)
            clear hbad hgd hwl hok hsn hall hB
            have w9 : wrap64 ((k : Int) + 1) = (k : Int) + 1 := wrap64_id _ (by omega) (by have := hl6.out; omega)
            generalize evW ⟨kd, cn, ad, pr, by_, tk, dr⟩ = tw at *
            have z9 : ¬ 9223372036854775807 < tw.length + 1 := by omega
            have hs9 : (ByteArray.mk tw.toArray) ++ ⟨#[10]⟩ = (⟨(tw ++ [10]).toArray⟩ : ByteArray) := by apply ByteArray.ext; simp
            replace q := hide q
            replace E := hide E
            replace E2 := hide E2
            replace hwl2 := hide hwl2
            replace hgd2 := hide hgd2
            replace hB2 := hide hB2
            replace htl := hide htl
            replace hX := hide hX
            replace hlen := hide hlen
            replace hs9 := hide hs9
            go_wp2_with fail
            refine q.out.mono ?_
            rintro e1 W3 ⟨rfl, he⟩
            have E3 := E2.out.trans he
            have hB3 : Bd w.heap.size w.heap.size X W3 := hB2.out.ext he
            have hsz3 := E3.size
            have qW := BWriteString_any w.heap.size w.heap.size X (tw ++ [10]) W3 hB3 (by have := hlen.out; have := hwl2.out; simp; omega) hsz3
            clear q he
            replace E3 := hide E3
            replace qW := hide qW
            replace hB3 := hide hB3
            go_wp2_with (go_at_call 27; rw [hs9.out]; refine qW.out.mono ?_; rintro e W4 ⟨rfl, hB4, hE4⟩; have E4 := hide (Below.trans E3.out hE4 : Ext w W4); replace hB4 := hide hB4; clear hE4)
            go_roundw
            case rel => exact ⟨k + 1, by omega, by go_num, by rw [htl.out, ← List.append_assoc, hX.out]; exact hB4.out, E4.out, hgd2.out⟩
            case measure => rw [w9]; exact meas_step hlt
        · obtain rfl : k = l.length := by omega
          rw [List.take_length] at hB hall hlen
          have hpr2 := hpr.out
          rw [if_neg (by rw [hall]; decide)] at hpr2
          generalize T0 ++ tellL l = X at *
          have q := Tryz.Builder_Len w.heap.size w.heap.size (Lib.byteCells X) wr hB
          rw [byteCells_len] at q
          have q2 := Tryz.Builder_String_any w.heap.size w.heap.size X wr hB hsz
          by_cases hx : 1048576 < X.length
          · have b1 : decide ((1048576 : Int) < (X.length : Int)) = true := decide_eq_true (by omega)
            rw [if_pos hx] at hpr2
            clear hall hlen hB hx hk q2
            replace q := hide q
            replace hpr2 := hide hpr2
            replace E := hide E
            go_wp2_with (go_at_call 28; refine q.out.mono ?_; rintro e W2 ⟨rfl, rfl⟩)
            try go_ret2
            exact hR.out _ _ _ hpr2.out E.out
          · have b1 : decide ((1048576 : Int) < (X.length : Int)) = false := decide_eq_false (by omega)
            rw [if_neg hx] at hpr2
            clear hall hlen hB hx hk
            replace q := hide q
            replace q2 := hide q2
            replace hpr2 := hide hpr2
            replace E := hide E
            go_wp2_with (first | (go_at_call 28; refine q.out.mono ?_; rintro e W2 ⟨rfl, rfl⟩) | (go_at_call 29; refine q2.out.mono ?_; rintro e W3 ⟨rfl, hE3⟩; have E3 := hide (Below.trans E.out hE3 : Ext w W3); clear hE3))
            try go_ret2
            exact hR.out _ _ _ hpr2.out E3.out
end
section
section
open Go.RowKit Go.Extern.Stop Go.Stop Go.Extern
set_option linter.unusedVariables false
theorem as_valueOf27 (t : Addr) (w : World) : (ReflectliteValue.unpack (.iface 46 (.pointer (some t)))).run Tryz.prog w
  = .ok (.agg #[.pointer (some ⟨Tryz.prog.globals.size, 46, none⟩), .pointer (some ⟨w.heap.size, 0, none⟩), .int .u64 150]) (w.alloc (.cells #[.pointer (some t)] 46)) := by kernel_rfl
theorem as_type27 (a : Addr) (w : World) : (ReflectliteValue.methodAny (ReflectliteValue.valueError "reflectlite.Value.Type" 0) (fun t _ _ _ => ReflectliteType.toType t) #[.agg #[.pointer (some ⟨Tryz.prog.globals.size, 46, none⟩), .pointer (some a), .int .u64 150]]).run Tryz.prog w
  = .ok (.iface 113 (.agg #[.pointer (some ⟨Tryz.prog.globals.size, 46, none⟩)])) w := by kernel_rfl
theorem as_methodKind (n : Nat) (h : Value) (w : World) : (Go.method (n + 1) 113 (.agg #[h]) "Kind").run Tryz.prog w = .ok (150, h) w := by kernel_rfl
theorem as_kind27 (w : World) : ((ReflectliteType.abiMethod fun t => (fun a : Nat => Value.int IntKind.u8 (a : Int)) <$> Rtype.kind t) #[.pointer (some ⟨Tryz.prog.globals.size, 46, none⟩)]).run Tryz.prog w = .ok (.int .u8 22) w := by kernel_rfl
theorem as_kind25 (w : World) : ((ReflectliteType.abiMethod fun t => (fun a : Nat => Value.int IntKind.u8 (a : Int)) <$> Rtype.kind t) #[.pointer (some ⟨Tryz.prog.globals.size, 44, none⟩)]).run Tryz.prog w = .ok (.int .u8 22) w := by kernel_rfl
theorem as_rlm (z : Sem Value) (f : TypeId → Addr → Nat → Nat → Sem Value) (v : Value) :
  ReflectliteValue.method z f #[v] = (do match ← ReflectliteValue.parts v with | none => z | some (t, a, fl) => f t a fl (fl % 32)) := rfl
theorem as_parts27 (a : Addr) (w : World) : (ReflectliteValue.parts (.agg #[.pointer (some ⟨Tryz.prog.globals.size, 46, none⟩), .pointer (some a), .int .u64 150])).run Tryz.prog w = .ok (some (46, a, 150)) w := by kernel_rfl
/-- (Value).IsNil at the Value of a **p.E that is not nil. -/
theorem as_isNil27 (a p : Addr) (W : World) (ha : W.cell? a = some (.pointer (some p))) :
  (ReflectliteValue.method (ReflectliteValue.valueError "reflectlite.Value.IsNil" 0) ReflectliteValue.isNil #[.agg #[.pointer (some ⟨Tryz.prog.globals.size, 46, none⟩), .pointer (some a), .int .u64 150]]).run Tryz.prog W = .ok (.bool false) W := by
 rw [as_rlm]
 simp only [Sem.run_bind, as_parts27, Result.andThen]
 simp [ReflectliteValue.isNil, loadVar, isAgg, underlying, Tryz.underlying46, ha, Result.andThen]
theorem as_methodElem (n : Nat) (h : Value) (w : World) : (Go.method (n + 1) 113 (.agg #[h]) "Elem").run Tryz.prog w = .ok (163, .agg #[h]) w := by kernel_rfl
theorem as_methodImplements (n : Nat) (h : Value) (w : World) : (Go.method (n + 1) 113 (.agg #[h]) "Implements").run Tryz.prog w = .ok (164, .agg #[h]) w := by kernel_rfl
theorem as_methodAssignableTo (n : Nat) (h : Value) (w : World) : (Go.method (n + 1) 113 (.agg #[h]) "AssignableTo").run Tryz.prog w = .ok (161, .agg #[h]) w := by kernel_rfl
theorem as_elem27 (w : World) : (ReflectliteType.method ReflectliteType.elem #[.agg #[.pointer (some ⟨Tryz.prog.globals.size, 46, none⟩)]]).run Tryz.prog w = .ok (.iface 113 (.agg #[.pointer (some ⟨Tryz.prog.globals.size, 44, none⟩)])) w := by kernel_rfl
theorem as_implements25 (w : World) : (ReflectliteType.relation "Implements" ReflectliteType.implements_ #[.agg #[.pointer (some ⟨Tryz.prog.globals.size, 44, none⟩)], .iface 113 (.agg #[.pointer (some ⟨Tryz.prog.globals.size, 39, none⟩)])]).run Tryz.prog w = .ok (.bool true) w := by kernel_rfl
theorem as_typeOf25 (v : Value) (w : World) : (ReflectliteType.typeOf #[.iface 44 v]).run Tryz.prog w = .ok (.iface 113 (.agg #[.pointer (some ⟨Tryz.prog.globals.size, 44, none⟩)])) w := by kernel_rfl
theorem as_assignable25 (w : World) : (ReflectliteType.relation "AssignableTo" ReflectliteType.assignableTo #[.agg #[.pointer (some ⟨Tryz.prog.globals.size, 44, none⟩)], .iface 113 (.agg #[.pointer (some ⟨Tryz.prog.globals.size, 44, none⟩)])]).run Tryz.prog w = .ok (.bool true) w := by kernel_rfl
theorem as_valueOf25 (e : Addr) (w : World) : (ReflectliteValue.unpack (.iface 44 (.pointer (some e)))).run Tryz.prog w
  = .ok (.agg #[.pointer (some ⟨Tryz.prog.globals.size, 44, none⟩), .pointer (some ⟨w.heap.size, 0, none⟩), .int .u64 150]) (w.alloc (.cells #[.pointer (some e)] 44)) := by kernel_rfl
theorem as_elemOf27 (w : World) : (Rtype.elem? 46).run Tryz.prog w = .ok (some 44) w := by kernel_rfl
theorem as_mk25 (p : Addr) (w : World) : (ReflectliteValue.mk 44 p ReflectliteValue.flagAddr).run Tryz.prog w = .ok (.agg #[.pointer (some ⟨Tryz.prog.globals.size, 44, none⟩), .pointer (some p), .int .u64 406]) w := by kernel_rfl
/-- (Value).Elem at the Value of a **p.E that is not nil: the Value of the *p.E variable that it points to, addressable. -/
theorem as_elemV27 (a p : Addr) (W : World) (ha : W.cell? a = some (.pointer (some p))) :
  (ReflectliteValue.method (ReflectliteValue.valueError "reflectlite.Value.Elem" 0) ReflectliteValue.elem #[.agg #[.pointer (some ⟨Tryz.prog.globals.size, 46, none⟩), .pointer (some a), .int .u64 150]]).run Tryz.prog W
   = .ok (.agg #[.pointer (some ⟨Tryz.prog.globals.size, 44, none⟩), .pointer (some p), .int .u64 406]) W := by
 rw [as_rlm]
 simp only [Sem.run_bind, as_parts27, Result.andThen]
 simp [ReflectliteValue.elem, loadVar, isAgg, underlying, Tryz.underlying46, ha, Result.andThen, as_elemOf27, as_mk25]
theorem as_rls (v x : Value) : ReflectliteValue.set #[v, x] = (do
  let (some (dst, a, fl), some (src, b, _)) := (← ReflectliteValue.parts v, ← ReflectliteValue.parts x)
   | unsupported (.noEntry "extern/(internal/reflectlite.Value).Set.zeroValue")
  if fl / ReflectliteValue.flagAddr % 2 == 0 then unsupported (.noEntry "extern/(internal/reflectlite.Value).Set.unaddressable")
  let val ← loadVar src b
  if ← Rtype.directlyAssignable dst src then storeVar dst a val
  else if ← Rtype.implements dst src then
   if (← Rtype.kind src) == 20 then
    match val with
    | .nilIface => unsupported (.noEntry "extern/reflectlite: a nil value of one interface type handed on as a value of another")
    | _ => storeVar dst a val
   else storeVar dst a (.iface src val)
  else panicString ("reflectlite.Set: value of type " ++ (← Rtype.spelt src) ++ " is not assignable to type " ++ (← Rtype.spelt dst))
  pure (.tuple #[])) := rfl
theorem as_parts25a (a : Addr) (w : World) : (ReflectliteValue.parts (.agg #[.pointer (some ⟨Tryz.prog.globals.size, 44, none⟩), .pointer (some a), .int .u64 406])).run Tryz.prog w = .ok (some (44, a, 406)) w := by kernel_rfl
theorem as_parts25 (a : Addr) (w : World) : (ReflectliteValue.parts (.agg #[.pointer (some ⟨Tryz.prog.globals.size, 44, none⟩), .pointer (some a), .int .u64 150])).run Tryz.prog w = .ok (some (44, a, 150)) w := by kernel_rfl
theorem as_direct25 (w : World) : (Rtype.directlyAssignable 44 44).run Tryz.prog w = .ok true w := by kernel_rfl
/-- (Value).Set: the *p.E variable at 'ta' gets what the Value's own variable 'b' holds. -/
theorem as_set25 (ta b e : Addr) (old : Value) (W : World) (hb : W.cell? b = some (.pointer (some e))) (ht : W.cell? ta = some old) (hf : W.frozen? ta = false) :
  (ReflectliteValue.set #[.agg #[.pointer (some ⟨Tryz.prog.globals.size, 44, none⟩), .pointer (some ta), .int .u64 406], .agg #[.pointer (some ⟨Tryz.prog.globals.size, 44, none⟩), .pointer (some b), .int .u64 150]]).run Tryz.prog W
   = .ok (.tuple #[]) (W.setCell ta (.pointer (some e))) := by
 rw [as_rls]
 simp only [Sem.run_bind, as_parts25a, as_parts25, Result.andThen]
 simp [ReflectliteValue.flagAddr, loadVar, isAgg, underlying, Tryz.underlying44, hb, Result.andThen, as_direct25, storeVar, Value.cells, storeCells, Addr.add]
 rw [run_store Tryz.prog W ta _ _ (by rfl)]
 simp [ht, hf]
def kindF : TypeId → Sem Value := fun t => do pure (.int .u8 (← Rtype.kind t))
theorem as_kd : (fun t => (fun a : Nat => Value.int IntKind.u8 (a : Int)) <$> Rtype.kind t) = kindF := by funext t; simp [kindF]
set_option maxRecDepth 20000 in
set_option maxHeartbeats 8000000 in
theorem asF_hit0 (e t : Addr) (old : Value) (w : World) (hg : w.cell? ⟨0, 0, none⟩ = some (.iface 113 (.agg #[.pointer (some ⟨Tryz.prog.globals.size, 39, none⟩)]))) (ht0 : w.cell? t = some old) (hf0 : w.frozen? t = false) :
  Calls Tryz.prog 16 #[.iface 44 (.pointer (some e)), .iface 46 (.pointer (some t))] w fun ev w' => ev = .returned (.bool true) ∧ w' = ((((w.alloc (.cells #[.pointer (some t)] 46)).alloc (.cells #[.pointer (some ⟨Tryz.prog.globals.size, 46, none⟩), .pointer (some ⟨w.heap.size, 0, none⟩), .int .u64 150] 83)).alloc (.cells #[.pointer (some ⟨Tryz.prog.globals.size, 46, none⟩), .pointer (some ⟨w.heap.size, 0, none⟩), .int .u64 150] 83)).alloc (.cells #[.pointer (some e)] 44)).setCell t (.pointer (some e)) := by
 have h6 := @run_callFunc_extern Tryz.prog 38 _ (fun args => ReflectliteValue.unpack (args.getD 0 (.tuple #[]))) Tryz.func38 (by kernel_rfl) (by kernel_rfl) (by kernel_rfl) (by kernel_rfl)
 have h7 := @run_callFunc_extern Tryz.prog 39 _ (ReflectliteValue.methodAny (ReflectliteValue.valueError "reflectlite.Value.Type" 0) (fun t _ _ _ => ReflectliteType.toType t)) Tryz.func39 (by kernel_rfl) (by kernel_rfl) (by kernel_rfl) (by kernel_rfl)
 have h8 := @run_callFunc_extern Tryz.prog 40 _ (ReflectliteValue.method (ReflectliteValue.valueError "reflectlite.Value.IsNil" 0) ReflectliteValue.isNil) Tryz.func40 (by kernel_rfl) (by kernel_rfl) (by kernel_rfl) (by kernel_rfl)
 have h27 := @run_callFunc_extern Tryz.prog 150 _ (ReflectliteType.abiMethod kindF) Tryz.func150 (by kernel_rfl) (by kernel_rfl) (by kernel_rfl) (by kernel_rfl)
 have h37 := @run_callFunc_extern Tryz.prog 163 _ (ReflectliteType.method ReflectliteType.elem) Tryz.func163 (by kernel_rfl) (by kernel_rfl) (by kernel_rfl) (by kernel_rfl)
 have h38 := @run_callFunc_extern Tryz.prog 164 _ (ReflectliteType.relation "Implements" ReflectliteType.implements_) Tryz.func164 (by kernel_rfl) (by kernel_rfl) (by kernel_rfl) (by kernel_rfl)
 have h10 := @run_callFunc_extern Tryz.prog 42 _ ReflectliteType.typeOf Tryz.func42 (by kernel_rfl) (by kernel_rfl) (by kernel_rfl) (by kernel_rfl)
 have h35 := @run_callFunc_extern Tryz.prog 161 _ (ReflectliteType.relation "AssignableTo" ReflectliteType.assignableTo) Tryz.func161 (by kernel_rfl) (by kernel_rfl) (by kernel_rfl) (by kernel_rfl)
 have h11 := @run_callFunc_extern Tryz.prog 71 _ (ReflectliteValue.method (ReflectliteValue.valueError "reflectlite.Value.Elem" 0) ReflectliteValue.elem) Tryz.func71 (by kernel_rfl) (by kernel_rfl) (by kernel_rfl) (by kernel_rfl)
 have h12 := @run_callFunc_extern Tryz.prog 72 _ ReflectliteValue.set Tryz.func72 (by kernel_rfl) (by kernel_rfl) (by kernel_rfl) (by kernel_rfl)
 have tO := as_typeOf25
 have mA := as_methodAssignableTo 312
 have a25 := as_assignable25
 have v25 := as_valueOf25
 have f6 := as_valueOf27
 have f7 := as_type27
 have mK := as_methodKind 312
 have mE := as_methodElem 312
 have mI := as_methodImplements 312
 simp only [Nat.reduceAdd] at mA mK mE mI
 have k27 := as_kind27
 have k25 := as_kind25
 rw [as_kd] at k27 k25
 have e27 := as_elem27
 have i25 := as_implements25
 have n8 := as_isNil27 ⟨w.heap.size, 0, none⟩ t ((w.alloc (.cells #[.pointer (some t)] 46)).alloc (.cells #[.pointer (some ⟨Tryz.prog.globals.size, 46, none⟩), .pointer (some ⟨w.heap.size, 0, none⟩), .int .u64 150] 83)) (by simp)
 have hlt : 0 < w.heap.size := World.block_lt_of_cell? w ⟨0, 0, none⟩ hg
 have hg2 : ((w.alloc (.cells #[.pointer (some t)] 46)).alloc (.cells #[.pointer (some ⟨Tryz.prog.globals.size, 46, none⟩), .pointer (some ⟨w.heap.size, 0, none⟩), .int .u64 150] 83)).cell? ⟨0, 0, none⟩ = some (.iface 113 (.agg #[.pointer (some ⟨Tryz.prog.globals.size, 39, none⟩)])) := by
  rw [World.cell?_alloc_lt _ _ ⟨0, 0, none⟩ (by first | (simp; done) | (simp; omega)), World.cell?_alloc_lt _ _ ⟨0, 0, none⟩ hlt]; exact hg
 have htl : t.block < w.heap.size := by
  rcases Nat.lt_or_ge t.block w.heap.size with h | h
  ·exact h
  ·simp [World.cell?, Array.getElem?_eq_none h] at ht0
 have el := as_elemV27 ⟨w.heap.size, 0, none⟩ t (((w.alloc (.cells #[.pointer (some t)] 46)).alloc (.cells #[.pointer (some ⟨Tryz.prog.globals.size, 46, none⟩), .pointer (some ⟨w.heap.size, 0, none⟩), .int .u64 150] 83)).alloc (.cells #[.pointer (some ⟨Tryz.prog.globals.size, 46, none⟩), .pointer (some ⟨w.heap.size, 0, none⟩), .int .u64 150] 83)) (by rw [World.cell?_alloc_lt _ _ ⟨w.heap.size, 0, none⟩ (by simp; omega)]; simp)
 have st := as_set25 t ⟨w.heap.size + 1 + 1 + 1, 0, none⟩ e old ((((w.alloc (.cells #[.pointer (some t)] 46)).alloc (.cells #[.pointer (some ⟨Tryz.prog.globals.size, 46, none⟩), .pointer (some ⟨w.heap.size, 0, none⟩), .int .u64 150] 83)).alloc (.cells #[.pointer (some ⟨Tryz.prog.globals.size, 46, none⟩), .pointer (some ⟨w.heap.size, 0, none⟩), .int .u64 150] 83)).alloc (.cells #[.pointer (some e)] 44))
  (by rw [World.cell?_alloc_at _ _ _ _ (by simp)]; rfl)
  (by rw [World.cell?_alloc_lt _ _ t (by simp; omega), World.cell?_alloc_lt _ _ t (by simp; omega), World.cell?_alloc_lt _ _ t (by simp; omega), World.cell?_alloc_lt _ _ t htl]; exact ht0)
  (by rw [World.frozen?_alloc_old _ _ t (by simp; omega), World.frozen?_alloc_old _ _ t (by simp; omega), World.frozen?_alloc_old _ _ t (by simp; omega), World.frozen?_alloc_old _ _ t (Nat.ne_of_lt htl)]; exact hf0)
 clear hg
 generalize Tryz.prog.globals.size = K at *
 go_enter Tryz.func16, Tryz.ntmps16
 go_wp2
 refine wp_loop_rounds 1 ?_
 rw [rounds_succ]
 go_wp2
 go_ret
 exact ⟨rfl, rfl⟩
/-- What the library's variable errors.errorType holds. -/
def ErT (w : World) : Prop := w.cell? ⟨0, 0, none⟩ = some (.iface 113 (.agg #[.pointer (some ⟨Tryz.prog.globals.size, 39, none⟩)]))
theorem ErT.ext {w w' : World} (h : ErT w) (he : Ext w w') : ErT w' := he.cell h
theorem asF_hit (e t : Addr) (old : Value) (w : World) (hg : ErT w) (ht0 : w.cell? t = some old) (hf0 : w.frozen? t = false) :
  Calls Tryz.prog 16 #[.iface 44 (.pointer (some e)), .iface 46 (.pointer (some t))] w fun ev w' => ev = .returned (.bool true) ∧ ∃ w1, Ext w w1 ∧ w' = w1.setCell t (.pointer (some e)) :=
 (asF_hit0 e t old w hg ht0 hf0).mono fun _ _ ⟨h1, h2⟩ => ⟨h1, _, ((((Ext.refl w).alloc _).alloc _).alloc _).alloc _, h2⟩
end
end
section
open Go.RowKit
set_option linter.unusedVariables false
set_option linter.unusedSimpArgs false
def wkC : List UInt8 := [97, 115, 32, 49, 10]
def wkL : List EvS := [⟨6, 0, [], [], [], 5, 0⟩, ⟨4, 1, [], [], [0, 255], 0, 0⟩, ⟨10, 0, [], [], [], 0, 0⟩]
def wkT : List UInt8 := [97, 115, 32, 49, 10, 114, 117, 110, 10, 116, 105, 99, 107, 32, 53, 10, 100, 97, 116, 97, 32, 49, 32, 48, 48, 102, 102, 10, 100, 114, 97, 105, 110, 10]
theorem wk_text : textScr wkC wkL = wkT := by decide +kernel
theorem wk_ok : cfgOk wkC = true ∧ wkL.all evOk = true := by decide +kernel
theorem wk_parse : parseS wkT = (wkC, wkL, 0, 0) := by
 rw [← wk_text]
 exact parse_print wk_ok.1 (by decide) wk_ok.2 (by rw [wk_text]; decide)
theorem wk_print : printS wkC wkL = (wkT, 0) := by
 unfold printS
 rw [if_neg (by rw [wk_ok.1]; decide), if_neg (by decide), if_neg (by rw [wk_ok.2]; decide), wk_text, if_neg (by decide)]
set_option maxRecDepth 20000 in
set_option maxHeartbeats 4000000 in
theorem Works35_any (w : World) (hT : Tab w) (hV : Vars w) (hD : Deb w) : Calls Tryz.prog 11 #[] w fun e w' => e = .returned (.bool true) ∧ Ext w w' := by
 have q1 := SParse_any wkT (by decide) w hT hV hD
 unfold ParP at q1
 rw [wk_parse] at q1
 have q2 := fun W a cp (h : Ext w W) hs => SPrint_any wkC (by decide) wkL a cp (by decide) W (hT.ext h) (hV.ext h) (hD.ext h) hs
 rw [wk_print] at q2
 clear hT hV hD
 unfold wkT at q1 q2
 unfold wkC at q1 q2
 replace q1 := hide q1
 replace q2 := hide q2
 go_enter Tryz.func11, Tryz.ntmps11
 go_wp2_with fail
 refine q1.out.mono ?_
 rintro e W1 ⟨⟨cfg, evs, v, h1, rfl, O⟩ | ⟨c, k, f, h0, h1, _⟩, E⟩
 ·injection h1 with h1 h2
  injection h2 with h2 _
  subst h1 h2
  obtain ⟨a, cp, rfl, hsl⟩ := O.sl
  have q := q2.out W1 a cp E (hsl.mono fun b h => h.2)
  obtain ⟨b, off, rfl, _, _, hc0⟩ := EEv.at hsl 0 (by decide)
  obtain ⟨b', off', hbb, _, _, hc1⟩ := EEv.at hsl 1 (by decide)
  injection hbb with hbb
  injection hbb with hbb hoo
  subst hbb hoo
  have x0 : W1.cell? ⟨b, off + 5, none⟩ = some (.int .i64 5) := hc0 5 _ rfl
  have x1 : W1.cell? ⟨b, off + 7 + 4, none⟩ = some (.string ⟨#[0, 255]⟩) := hc1 4 _ rfl
  clear hc0 hc1 hsl O q1 q2
  replace q := hide q
  replace E := hide E
  simp only [show wkL.length = 3 from rfl] at *
  go_wp2_with fail
  refine q.out.mono ?_
  rintro e W2 ⟨rfl, E2⟩
  have y0 := E2.cell x0
  have y1 := E2.cell x1
  have E3 := E.out.trans E2
  clear x0 x1 E2 E q
  replace E3 := hide E3
  go_wp2
  go_ret
  exact ⟨rfl, E3.out⟩
 ·injection h1 with _ h1
  injection h1 with _ h1
  injection h1 with h1 _
  exact absurd h1.symm h0
end
section
open Go.RowKit
set_option linter.unusedVariables false
set_option linter.unusedSimpArgs false
structure DoIn (d : DoS) : Prop where
  ticks : d.ticks < 65536
  bytes : d.bytes.length ≤ 1048576
def EDo : Enc DoS := Enc.cells doCs DoIn 23 (fun _ => rfl) (fun x u hu => by simp only [doCs, List.mem_cons, List.not_mem_nil, or_false] at hu; rcases hu with rfl | rfl | rfl | rfl | rfl | rfl | rfl | rfl | rfl | rfl | rfl | rfl | rfl | rfl | rfl | rfl | rfl | rfl | rfl | rfl | rfl | rfl | rfl <;> rfl)
theorem EDo.at {w : World} {S : Nat → Prop} {a : Option Addr} {l : List DoS} (h : Sl EDo w S a l) (k : Nat) (hk : k < l.length) :
  ∃ b off, a = some ⟨b, off, none⟩ ∧ S b ∧ DoIn l[k] ∧ ∀ j u, (doCs l[k])[j]? = some u → w.cell? ⟨b, off + k * 23 + j, none⟩ = some u := by
 obtain ⟨b, off, cs, rfl, hb, ⟨rfl, hi⟩, hc⟩ := h.at k hk
 exact ⟨b, off, rfl, hb, hi, hc⟩
theorem EvIn.of (d : DoS) : EvIn (ofS d) := evOk_in (ofS_ok d)
theorem evT_of (d : DoS) : evT (ofS d) = (evW (ofS d), 0) := by unfold evT; rw [if_pos (ofS_ok d)]
end
section
open Go.RowKit
set_option linter.unusedVariables false
set_option linter.unusedSimpArgs false
def runsW : List UInt8 := [114, 117, 110, 115]
/-- A configuration of n equal lines. -/
def cfgR : Nat → List UInt8
 | 0 => []
 | n + 1 => cfgR n ++ (runsW ++ [10])
theorem cfgR_len : ∀ n, (cfgR n).length = 5 * n
 | 0 => rfl
 | n + 1 => by rw [cfgR, List.length_append, cfgR_len n]; simp [runsW]; omega
theorem cfgR_ok : ∀ n, n < 5 → cfgOk (cfgR n) = true := by
 have h : ∀ n : Fin 5, cfgOk (cfgR n.val) = true := by decide +kernel
 exact fun n hn => h ⟨n, hn⟩
theorem spl_cfgR : ∀ (n : Nat) (t : List UInt8), spl 10 (cfgR n ++ t) = List.replicate n runsW ++ spl 10 t
  | 0, t => rfl
  | n + 1, t => by
    have e1 : cfgR (n + 1) ++ t = cfgR n ++ (runsW ++ 10 :: t) := by rw [cfgR]; simp
    rw [e1, spl_cfgR n, spl_at (by decide), List.replicate_succ', List.append_assoc]
    rfl
theorem restC_runs (s : List UInt8) : ∀ (n at_ cf : Nat) (y : List UInt8) (r : List (List UInt8)), restC s at_ cf (List.replicate n runsW ++ y :: r) = restC s (at_ + n) (cf + 5 * n) (y :: r)
  | 0, at_, cf, y, r => by simp
  | n + 1, at_, cf, y, r => by
    have ih := restC_runs s n (at_ + 1) (cf + 5) y r
    obtain ⟨y2, r2, hy⟩ : ∃ y2 r2, List.replicate n runsW ++ y :: r = y2 :: r2 := by cases n <;> exact ⟨_, _, rfl⟩
    rw [List.replicate_succ, List.cons_append, hy, restC_on s _ _ (by decide), ← hy]
    rw [show cf + runsW.length + 1 = cf + 5 from rfl, ih]
    congr 1 <;> omega
theorem evO_nil : evO [] = none := by
 unfold evO
 rw [show spl 32 ([] : List UInt8) = [[]] by decide +kernel]
 simp [readE]
theorem evW_ne {e : EvS} (h : evOk e = true) : evW e ≠ [] := fun h0 => by
 have h1 := evO_ev h
 rw [h0, evO_nil] at h1
 cases h1
theorem take_cut (a : List UInt8) (x : UInt8) : (a ++ [x]).take ((a ++ [x]).length - 1) = a := by
 rw [List.length_append, List.length_singleton, Nat.add_sub_cancel, List.take_left]
/-- Without its last byte a script is refused in its last line. -/
theorem cut_parse (n : Nat) (E : List EvS) (hE : E.all evOk = true) (hl : E.length ≤ 512) (hs : (textScr (cfgR n) E).length ≤ 1048576) : parseS ((textScr (cfgR n) E).take ((textScr (cfgR n) E).length - 1)) = ([], [], 9, n + E.length) := by
 have hs2 : ((textScr (cfgR n) E).take ((textScr (cfgR n) E).length - 1)).length ≤ 1048576 := by rw [List.length_take]; omega
 rw [parse_rest hs2]
 rcases List.eq_nil_or_concat E with rfl | ⟨E', e, rfl⟩
 ·have h1 : (textScr (cfgR n) []).take ((textScr (cfgR n) []).length - 1) = cfgR n ++ runW := by
   have e1 : textScr (cfgR n) [] = (cfgR n ++ runW) ++ [10] := by simp [textScr, tellL]
   rw [e1]
   exact take_cut _ _
  rw [h1, spl_cfgR, show spl 10 runW = [runW] from spl_no (by decide), restC_runs, restC_end]
  simp
 ·rw [List.concat_eq_append] at *
  rw [List.all_append, Bool.and_eq_true] at hE
  have he : evOk e = true := by simpa using hE.2
  have h1 : (textScr (cfgR n) (E' ++ [e])).take ((textScr (cfgR n) (E' ++ [e])).length - 1) = cfgR n ++ (runW ++ 10 :: (tellL E' ++ evW e)) := by
   have e1 : textScr (cfgR n) (E' ++ [e]) = (cfgR n ++ (runW ++ 10 :: (tellL E' ++ evW e))) ++ [10] := by simp [textScr, tellL]
   rw [e1]
   exact take_cut _ _
  rw [h1, spl_cfgR, spl_at (by decide), spl_tellt _ _ hE.1, spl_no (evW_no he), restC_runs]
  obtain ⟨y2, r2, hy2⟩ : ∃ y2 r2, E'.map evW ++ [evW e] = y2 :: r2 := by cases E' <;> exact ⟨_, _, rfl⟩
  rw [List.length_append] at hl
  rw [hy2, restC_run _ _ _ rfl, ← hy2, restE_evs _ _ _ _ _ _ _ hE.1 (by simp; omega), restE_end, if_neg (evW_ne he)]
  simp
  omega
theorem tellL_200 : ∀ (E : List EvS), (∀ e ∈ E, (evW e).length ≤ 200) → (tellL E).length ≤ 201 * E.length
  | [], _ => by simp [tellL]
  | e :: r, h => by
    have ih := tellL_200 r fun x hx => h x (List.mem_cons_of_mem _ hx)
    have h1 := h e List.mem_cons_self
    have : tellL (e :: r) = (evW e ++ [10]) ++ tellL r := rfl
    rw [this]
    simp only [List.length_append, List.length_cons, List.length_nil]
    omega
theorem back_len (n : Nat) (E : List EvS) (hn : n < 5) (hl : E.length ≤ 30) (hE : ∀ e ∈ E, (evW e).length ≤ 200) : (textScr (cfgR n) E).length ≤ 7000 := by
 have h1 := tellL_200 E hE
 have h2 := cfgR_len n
 unfold textScr
 simp only [List.length_append, List.length_cons]
 have : runW.length = 3 := rfl
 omega
theorem back_print (n : Nat) (E : List EvS) (hn : n < 5) (hl : E.length ≤ 30) (hE : ∀ e ∈ E, (evW e).length ≤ 200) (ho : E.all evOk = true) : printS (cfgR n) E = (textScr (cfgR n) E, 0) := by
 have h1 := back_len n E hn hl hE
 unfold printS
 rw [if_neg (by rw [cfgR_ok n hn]; decide), if_neg (by omega), if_neg (by rw [ho]; decide), if_neg (by omega)]
end
section
open Go.RowKit Go.Maps
set_option linter.unusedVariables false
open Classical in
theorem nodup_le {α : Type} : ∀ {a b : List α}, a.Pairwise (· ≠ ·) → (∀ x ∈ a, x ∈ b) → a.length ≤ b.length
  | [], b, _, _ => Nat.zero_le _
  | x :: a, b, hp, hs => by
    have hp' := List.pairwise_cons.1 hp
    have h1 : a.length ≤ (b.erase x).length := nodup_le hp'.2 fun y hy => by
      have hne : y ≠ x := fun e => hp'.1 y hy e.symm
      exact (List.mem_erase_of_ne hne).2 (hs y (List.mem_cons_of_mem _ hy))
    rw [List.length_erase_of_mem (hs x (List.mem_cons_self ..))] at h1
    have h2 := List.length_pos_of_mem (hs x (List.mem_cons_self ..))
    simp only [List.length_cons]
    omega
section
variable {P : Program} {k e t : TypeId} {w w' : World} {b : Nat}
/-- Every entry of the map at block b: its key is that of an x of the list G, its element what f says at x. -/
def Memo {α : Type} (P : Program) (k e : TypeId) (key : α → Value) (G : List α) (f : α → Bool) (w : World) (b : Nat) : Prop :=
 ∃ D : DataW Unit, w.ownsMap P k (plainElem P e) b (Maps.size D) D ∧ ∀ l, Maps.has D l = true → ∃ x ∈ G, keyOf P k (key x) = some l ∧ ∀ z, D.atKey l z = .lit (.bool (f x))
variable {α : Type} {key : α → Value} {G : List α} {f : α → Bool}
theorem Memo.lt (h : Memo P k e key G f w b) : b < w.heap.size := by
 obtain ⟨D, h, _⟩ := h
 exact h.lt
theorem Memo.kept {row : Option Nat} (h : Memo P k e key G f w b) (hg : w.grownBy w' row) (hne : some b ≠ row) : Memo P k e key G f w' b := by
 obtain ⟨D, h, hh⟩ := h
 exact ⟨D, h.kept hg hne, hh⟩
theorem Memo.frame (h : Memo P k e key G f w b) (hb : w'.heap[b]? = w.heap[b]?) : Memo P k e key G f w' b := by
 obtain ⟨D, ⟨es, clock, h1, F, hs, hD⟩, hh⟩ := h
 exact ⟨D, ⟨es, clock, hb.trans h1, F, hs, hD⟩, hh⟩
theorem Memo.size (K : Keyed P k) {D : DataW Unit} (h : w.ownsMap P k (plainElem P e) b (Maps.size D) D) (hh : ∀ l, Maps.has D l = true → ∃ x ∈ G, keyOf P k (key x) = some l) : Maps.size D ≤ G.length := by
 obtain ⟨es, rfl, hp, hk⟩ := h.entries K
 have h1 : (es.map (·.1)).Pairwise (· ≠ ·) := by rw [List.pairwise_map]; exact hp
 have h2 : ∀ l ∈ es.map (·.1), l ∈ G.filterMap fun x => keyOf P k (key x) := fun l hl => by
  obtain ⟨p, hp', rfl⟩ := List.mem_map.1 hl
  have hs : p.1.sameKey p.1 = true := by
   have := hk p hp'
   cases h : p.1 <;> simp [h, WideAt.IsKeyLit, Lit.sameKey] at this ⊢
  obtain ⟨x, hx, hkx⟩ := hh p.1 (by rw [has_eq]; exact List.any_eq_true.2 ⟨p, hp', hs⟩)
  exact List.mem_filterMap.2 ⟨x, hx, hkx⟩
 have h3 := nodup_le h1 h2
 rw [List.length_map] at h3
 have h4 := List.length_filterMap_le (fun x => keyOf P k (key x)) G
 rw [size_eq]
 omega
end
open Go.RowKit Go.Maps
open Go.RowKit Go.Maps
theorem Sl.grown {α : Type} {E : Enc α} {w w' : World} {b : Nat} {a : Option Addr} {l : List α} (h : Sl E w (fun x => x < w.heap.size ∧ x ≠ b) a l) (hg : w.grownBy w' (some b)) : Sl E w' (fun x => x < w'.heap.size ∧ x ≠ b) a l :=
 (h.frame fun x hx => hg.block x hx.1 (fun e => hx.2 (Option.some.inj e))).mono fun x hx => ⟨Nat.lt_of_lt_of_le hx.1 hg.size, hx.2⟩
section
variable {p : List Atm} {l : List UInt32} {gp gl gk gf b : Nat} {ap al : Option Addr} {cp cl : Nat} {w w' : World}
end
open Go.RowKit Go.Maps
open Go.RowKit Go.Maps
end
section
open Go.RowKit Go.Sort
set_option linter.unusedVariables false
noncomputable instance (a b : Pfx) : Decidable (Cov a b) := Classical.propDecidable _
open Go.RowKit Go.Sort
end
section
open Go.RowKit
/-- A path at an address in a world, all below its heap's end. -/
def Path (w : World) (a : Option Addr) (l : List Seg) : Prop := Sl ESeg w (· < w.heap.size) a l
theorem Path.ext {w w' : World} {a : Option Addr} {l : List Seg} (h : Path w a l) (he : Ext w w') : Path w' a l := Sl.ext h he
theorem Path.take {w : World} {a : Option Addr} {l : List Seg} (h : Path w a l) (n : Nat) : Path w a (l.take n) := Sl.take h n
set_option linter.unusedVariables false
end
section
open Go.RowKit Go.Sort
set_option linter.unusedVariables false
/-! ### functions over lists of numbers -/
end
section
open Go.RowKit
set_option linter.unusedVariables false
set_option linter.unusedSimpArgs false
/-- An event that may be is small. -/
structure EvSm (e : EvS) : Prop where
  conn : 0 ≤ e.conn ∧ e.conn ≤ 64
  addr : e.addr.length ≤ 16
  peer : e.peer.length ≤ 16
  bytes : e.bytes.length ≤ 65536
  ticks : 0 ≤ e.ticks ∧ e.ticks ≤ 4096
theorem EvSm.mk' {e : EvS} (k c : Int) (a p b : List UInt8) (t : Int) (d : UInt32) (he : e = ⟨k, c, a, p, b, t, d⟩) (h2 : 0 ≤ c ∧ c ≤ 64) (h3 : a.length ≤ 16) (h4 : p.length ≤ 16) (h5 : b.length ≤ 65536) (h6 : 0 ≤ t ∧ t ≤ 4096) : EvSm e := by
 subst he
 exact ⟨h2, h3, h4, h5, h6⟩
end
section
open Go.RowKit
set_option linter.unusedVariables false
set_option linter.unusedSimpArgs false
/-- Where the document stands: the bytes ahead, those of this line, those behind. -/
structure DP (s : List UInt8) (cf : Nat) (run : Bool) (fr ln : Nat) (out : List EvS) (i : Nat) : Prop where
  h1 : ln ≤ fr
  h2 : fr ≤ i
  h3 : i ≤ s.length
  h4 : cf ≤ s.length
  no : (10 : UInt8) ∉ (s.drop fr).take (i - fr)
  few : out.length ≤ ln
  main : parseS s = if run = true then restE s cf ln out (spl 10 (s.drop fr)) else restC s ln fr (spl 10 (s.drop fr))
  emp : run = false → out = [] ∧ cf = 0
def tOf (s : List UInt8) (fr i : Nat) : List UInt8 := (s.drop fr).take (i - fr)
section
variable {s : List UInt8} {cf fr ln i : Nat} {run : Bool} {out : List EvS}
theorem drop_byte (h2 : fr ≤ i) (hi : i < s.length) : s.drop fr = tOf s fr i ++ s[i] :: s.drop (i + 1) := by
 have h1 : s.drop i = s[i] :: s.drop (i + 1) := List.drop_eq_getElem_cons hi
 rw [← h1]
 have h3 : (s.drop fr).drop (i - fr) = s.drop i := by rw [List.drop_drop]; congr 1; omega
 rw [← h3]
 exact (List.take_append_drop _ _).symm
theorem DP.next (h : DP s cf run fr ln out i) (hi : i < s.length) (hc : s[i] ≠ 10) : DP s cf run fr ln out (i + 1) := by
 refine ⟨h.h1, Nat.le_succ_of_le h.h2, hi, h.h4, ?_, h.few, h.main, h.emp⟩
 have hf := h.h2
 have h5 : (s.drop fr).take (i + 1 - fr) = tOf s fr i ++ [s[i]] := by
  rw [drop_byte hf hi]
  have hl : (tOf s fr i).length = i - fr := by unfold tOf; rw [List.length_take, List.length_drop]; omega
  rw [show i + 1 - fr = (tOf s fr i).length + 1 by omega]
  rw [List.take_append, List.take_of_length_le (by omega), Nat.add_sub_cancel_left]
  rfl
 rw [h5, List.mem_append]
 rintro (h6 | h6)
 ·exact h.no h6
 ·rw [List.mem_singleton] at h6; exact hc h6.symm
theorem DP.spl (h : DP s cf run fr ln out i) (hi : i < s.length) (hc : s[i] = 10) : ∃ y r, spl 10 (s.drop fr) = tOf s fr i :: y :: r ∧ spl 10 (s.drop (i + 1)) = y :: r := by
 obtain ⟨y, r, hy⟩ := List.exists_cons_of_ne_nil (spl_ne 10 (s.drop (i + 1)))
 refine ⟨y, r, ?_, hy⟩
 have hno : (10 : UInt8) ∉ tOf s fr i := h.no
 rw [drop_byte h.h2 hi, hc, spl_at hno, hy]
theorem tOf_len (h2 : fr ≤ i) (h3 : i ≤ s.length) : (tOf s fr i).length = i - fr := by
 unfold tOf; rw [List.length_take, List.length_drop]; omega
theorem DP.push (h : DP s cf true fr ln out i) (hi : i < s.length) (hc : s[i] = 10) {e : EvS} (ho : evO (tOf s fr i) = some e) (hl : out.length ≠ 512) : DP s cf true (i + 1) (ln + 1) (out ++ [e]) (i + 1) := by
 obtain ⟨y, r, h1, h2⟩ := h.spl hi hc
 refine ⟨by have := h.h1; have := h.h2; omega, Nat.le_refl _, hi, h.h4, by simp, by have := h.few; simp; omega, ?_, fun h => by cases h⟩
 rw [h.main, if_pos rfl, if_pos rfl, h1, restE_on _ _ _ ho hl, h2]
theorem DP.on (h : DP s cf false fr ln out i) (hi : i < s.length) (hc : s[i] = 10) (ht : tOf s fr i ≠ runW) : DP s cf false (i + 1) (ln + 1) out (i + 1) := by
 obtain ⟨y, r, h1, h2⟩ := h.spl hi hc
 have hl := tOf_len h.h2 h.h3
 refine ⟨by have := h.h1; have := h.h2; omega, Nat.le_refl _, hi, h.h4, by simp, by have := h.few; omega, ?_, h.emp⟩
 rw [h.main, if_neg (by decide), if_neg (by decide), h1, restC_on _ _ _ ht, h2, hl]
 congr 1
 have := h.h2
 omega
end
end
section
open Go.RowKit
set_option linter.unusedVariables false
set_option linter.unusedSimpArgs false
set_option maxRecDepth 20000 in
set_option maxHeartbeats 8000000 in
theorem ScriptBack_walk (a : Option Addr) (cp : Nat) (l : List DoS) (ln : UInt8) (w : World) (hl : l.length ≤ 16777216) (hs : Sl EDo w (· < w.heap.size) a l) (hT : Tab w) (hD : Deb w) (hV : Vars w) (hg : ErT w) :
    Calls Tryz.prog 4 #[.slice a l.length cp, .int .u8 (ln.toNat : Int)] w fun e w' => e = .returned (.bool true) ∧ Ext w w' := by
  have qw := fun W (h : Ext w W) => Works35_any W (hT.ext h) (hV.ext h) (hD.ext h)
  have qo := fun d W => Of35_any d W
  have ql := fun d W (h : Ext w W) => SLineE_any (ofS d) (EvIn.of d) W (hT.ext h) (hV.ext h) (hD.ext h)
  have qe := fun s (hs : s.length ≤ 200) W (h : Ext w W) => SEvent_any s (by omega) (.inl (by omega)) W (hT.ext h) (hV.ext h) (hD.ext h)
  have qr := fun c hc E a cp hE W (h : Ext w W) => SPrint_any c hc E a cp hE W (hT.ext h) (hV.ext h) (hD.ext h)
  have qp := fun s hs W (h : Ext w W) => SParse35_any s hs W (hT.ext h) (hV.ext h) (hD.ext h)
  have hg2 := fun W (h : Ext w W) => hg.ext h
  clear hT hD hV hg
  obtain ⟨n, hn⟩ : ∃ n, ln.toNat % 5 = n := ⟨_, rfl⟩
  have hn5 : n < 5 := by omega
  have hmod : Int.tmod (ln.toNat : Int) 5 = (n : Int) := by
    rw [Int.tmod_eq_emod_of_nonneg (by omega), ← hn]
    rfl
  have w0 : wrap64 (n : Int) = (n : Int) := wrap64_id _ (by omega) (by omega)
  obtain ⟨E, hE⟩ : ∃ E, (l.take 30).map ofS = E := ⟨_, rfl⟩
  obtain ⟨m, hm⟩ : ∃ m, E.length = m := ⟨_, rfl⟩
  have hm2 : m = min 30 l.length := by rw [← hm, ← hE, List.length_map, List.length_take]
  have hm30 : m ≤ 30 := by omega
  have hml : m ≤ l.length := by omega
  have hEi : ∀ i, (h : i < m) → E[i]? = some (ofS (l[i]'(Nat.lt_of_lt_of_le h hml))) := fun i h => by
    rw [← hE, List.getElem?_map, List.getElem?_take_of_lt (by omega), List.getElem?_eq_getElem (show i < l.length by omega)]
    rfl
  have hEo : E.all evOk = true := by
    rw [List.all_eq_true, ← hE]
    intro e he
    obtain ⟨d, _, rfl⟩ := List.mem_map.1 he
    exact ofS_ok d
  have hEw : ∀ e ∈ E, (evW e).length ≤ 200 := by
    rw [← hE]
    intro e he
    obtain ⟨d, _, rfl⟩ := List.mem_map.1 he
    exact evW_of d
  have hlen := back_len n E hn5 (by omega) hEw
  have hpr := back_print n E hn5 (by omega) hEw hEo
  have hpp := parse_print (cfgR_ok n hn5) (by omega) hEo (by omega : (textScr (cfgR n) E).length ≤ 1048576)
  have hcut := cut_parse n E hEo (by omega) (by omega)
  rw [hm] at hcut
  have hTne : 0 < (textScr (cfgR n) E).length := by unfold textScr; rw [List.length_append, List.length_append, List.length_cons]; omega
  generalize textScr (cfgR n) E = T at *
  have hcl := cfgR_len n
  clear hE hEo hEw hn
  replace qw := hide qw
  replace qo := hide qo
  replace ql := hide ql
  replace qe := hide qe
  replace qr := hide qr
  replace qp := hide qp
  replace hg2 := hide hg2
  replace hs := hide hs
  replace hl := hide hl
  replace hEi := hide hEi
  replace hm := hide hm
  replace hlen := hide hlen
  replace hpr := hide hpr
  replace hpp := hide hpp
  replace hcut := hide hcut
  replace hTne := hide hTne
  replace hml := hide hml
  replace hm2 := hide hm2
  go_enter Tryz.func4, Tryz.ntmps4
  go_wp2_with fail
  try simp only [hmod, w0]
  go_loopw [5, 7] (fun t i wr => ∃ j : Nat, i = .int .i64 (j : Int) ∧ j ≤ n ∧ t = .string ⟨(cfgR j).toArray⟩ ∧ w = wr) (fun _ i _ => n - (intOf i).toNat)
  case atStart => exact ⟨0, rfl, Nat.zero_le _, rfl, rfl⟩
  case round =>
    obtain ⟨j, rfl, hj, rfl, rfl⟩ := hrel
    have w1 : IntKind.i64.wrap ((j : Int) + 1) = (j : Int) + 1 := by rw [IntKind.wrap_i64]; omega
    by_cases hjn : j < n
    · have bj : decide (j < n) = true := decide_eq_true hjn
      have hcj := cfgR_len j
      have z1 : ¬ 9223372036854775807 < (cfgR j).length + 5 := by omega
      clear hcj
      go_wp2_with fail
      go_roundw
      case rel => exact ⟨j + 1, by go_num, by omega, by rw [cfgR]; exact congrArg Value.string (by apply ByteArray.ext; simp [runsW]), by first | rfl | trivial⟩
      case measure => exact meas_step hjn
    · obtain rfl : j = n := by omega
      have bj : decide (j < j) = false := decide_eq_false (by omega)
      generalize cfgR j = C at *
      clear w1 hjn hj bj w0 hmod
      replace hcl := hide hcl
      replace hm30 := hide hm30
      go_wp2_with fail
      go_loopw [8, 9] (fun v i wr => ∃ k : Nat, i = .int .i64 (k : Int) ∧ k ≤ m ∧ Own EEv 31 wr w.heap.size v (E.take k) ∧ Ext w wr) (fun _ i _ => m - (intOf i).toNat)
      case atStart => exact ⟨0, rfl, Nat.zero_le _, Own.nil, Ext.refl _⟩
      case round =>
        obtain ⟨k, rfl, hk, O, X⟩ := hrel
        have hk30 : k ≤ 30 := by have := hm30.out; omega
        have w1 : IntKind.i64.wrap ((k : Int) + 1) = (k : Int) + 1 := by rw [IntKind.wrap_i64]; omega
        by_cases hkm : k < m
        · have hkl : k < l.length := Nat.lt_of_lt_of_le hkm hml.out
          have bl : decide (k < l.length) = true := decide_eq_true hkl
          have b30 : decide ((k : Int) < 30) = true := decide_eq_true (by have := hm30.out; omega)
          obtain ⟨b, off, rfl, _, _, hc⟩ := EDo.at (hs.out.ext X) k hkl
          have hei := hEi.out k hkm
          have hsn : E.take (k + 1) = E.take k ++ [ofS l[k]] := by
            obtain ⟨h8, h9⟩ := List.getElem?_eq_some_iff.1 hei
            rw [List.take_succ_eq_append_getElem h8, h9]
          generalize l[k] = d at *
          have q1 := qo.out d wr
          have q2 := fun W h => ql.out d W h
          rw [evT_of] at q2
          have hwl := evW_of d
          have q3 := fun W h => qe.out (evW (ofS d)) hwl W h
          unfold EvP at q3
          rw [evO_ev (ofS_ok d)] at q3
          dsimp only at q3
          have hin := EvIn.of d
          have hCl : (doCs d).length = 23 := rfl
          generalize doCs d = CS at *
          have hra := hide (show wr.rangeAt b (off + k * 23) CS from fun j v hj => hc j v hj)
          have hi23 : (Tryz.prog.info? 36).map (·.size) = some CS.length := by rw [hCl]; kernel_rfl
          replace hi23 := hide hi23
          clear hCl
          generalize evW (ofS d) = t at *
          generalize ofS d = ev at *
          clear hc hei hwl
          have hq := fun W => run_neq_ofB (run_eqEv W ev ev)
          rw [decide_eq_true rfl] at hq
          obtain ⟨kd, cn, ad, pr, by_, tk, dr⟩ := ev
          simp only [evCs] at q1 q2 q3
          have hol0 : (E.take k).length = k := by rw [List.length_take, hm.out]; omega
          generalize E.take k = out at *
          obtain ⟨va, vc, rfl⟩ := O.form
          replace X := hide X
          replace q1 := hide q1
          replace q2 := hide q2
          replace q3 := hide q3
          replace O := hide O
          replace hin := hide hin
          replace hsn := hide hsn
          replace hkm := hide hkm
          replace hol0 := hide hol0
          go_wp2_with (with_reducible refine wpList_load_mid rfl 36 _ rfl b (off + k * 23) rfl CS _ hra.out Tryz.underlying36 rfl hi23.out ?_)
          refine q1.out.mono ?_
          rintro e V1 ⟨rfl, he⟩
          have X1 := (X.out.trans he).alloc (Obj.cells #[.int .i64 kd, .int .i64 cn, .string ⟨ad.toArray⟩, .string ⟨pr.toArray⟩, .string ⟨by_.toArray⟩, .int .i64 tk, .int .u32 (dr.toNat : Int)] 31)
          have O1 := (O.out.ext he).alloc (Obj.cells #[.int .i64 kd, .int .i64 cn, .string ⟨ad.toArray⟩, .string ⟨pr.toArray⟩, .string ⟨by_.toArray⟩, .int .i64 tk, .int .u32 (dr.toNat : Int)] 31)
          have N1 := Blk.new V1 31 #[.int .i64 kd, .int .i64 cn, .string ⟨ad.toArray⟩, .string ⟨pr.toArray⟩, .string ⟨by_.toArray⟩, .int .i64 tk, .int .u32 (dr.toNat : Int)]
          clear q1 he hra hi23 X O
          replace X1 := hide X1
          replace O1 := hide O1
          replace N1 := hide N1
          go_wp2_with fail
          generalize V1.alloc (Obj.cells #[.int .i64 kd, .int .i64 cn, .string ⟨ad.toArray⟩, .string ⟨pr.toArray⟩, .string ⟨by_.toArray⟩, .int .i64 tk, .int .u32 (dr.toNat : Int)] 31) = V2 at X1 O1 N1 ⊢
          generalize V1.heap.size = n1 at N1 ⊢
          have q4 := q2.out V2 X1.out
          clear q2
          refine q4.mono ?_
          rintro e V3 ⟨rfl, he⟩
          have X3 := X1.out.trans he
          have O3 := O1.out.ext he
          have N3 := N1.out.ext he
          have c0 : V3.cell? ⟨n1, 0, none⟩ = some (.int .i64 kd) := N3.cell 0
          clear q4 he X1 O1 N1
          have q5 := q3.out V3 X3
          clear q3
          replace q5 := hide q5
          replace X3 := hide X3
          replace O3 := hide O3
          replace N3 := hide N3
          go_wp2_with fail
          refine q5.out.mono ?_
          rintro e V4 ⟨rfl, he⟩
          have M := Blk.new V4 31 #[.int .i64 kd, .int .i64 cn, .string ⟨ad.toArray⟩, .string ⟨pr.toArray⟩, .string ⟨by_.toArray⟩, .int .i64 tk, .int .u32 (dr.toNat : Int)]
          have X4 := (X3.out.trans he).alloc (Obj.cells #[.int .i64 kd, .int .i64 cn, .string ⟨ad.toArray⟩, .string ⟨pr.toArray⟩, .string ⟨by_.toArray⟩, .int .i64 tk, .int .u32 (dr.toNat : Int)] 31)
          have O4 := (O3.out.ext he).alloc (Obj.cells #[.int .i64 kd, .int .i64 cn, .string ⟨ad.toArray⟩, .string ⟨pr.toArray⟩, .string ⟨by_.toArray⟩, .int .i64 tk, .int .u32 (dr.toNat : Int)] 31)
          have N4 := (N3.out.ext he).alloc (Obj.cells #[.int .i64 kd, .int .i64 cn, .string ⟨ad.toArray⟩, .string ⟨pr.toArray⟩, .string ⟨by_.toArray⟩, .int .i64 tk, .int .u32 (dr.toNat : Int)] 31)
          clear q5 he X3 O3 N3 c0
          replace M := hide M
          replace X4 := hide X4
          replace O4 := hide O4
          replace N4 := hide N4
          go_upto_region 14 with fail
          generalize V4.alloc (Obj.cells #[.int .i64 kd, .int .i64 cn, .string ⟨ad.toArray⟩, .string ⟨pr.toArray⟩, .string ⟨by_.toArray⟩, .int .i64 tk, .int .u32 (dr.toNat : Int)] 31) = V5 at M X4 O4 N4 ⊢
          generalize V4.heap.size = n2 at M ⊢
          have c0 : V5.cell? ⟨n1, 0, none⟩ = some (.int .i64 kd) := N4.out.cell 0
          have c1 : V5.cell? ⟨n1, 1, none⟩ = some (.int .i64 cn) := N4.out.cell 1
          have c2 : V5.cell? ⟨n1, 2, none⟩ = some (.string ⟨ad.toArray⟩) := N4.out.cell 2
          have c3 : V5.cell? ⟨n1, 3, none⟩ = some (.string ⟨pr.toArray⟩) := N4.out.cell 3
          have c4 : V5.cell? ⟨n1, 4, none⟩ = some (.string ⟨by_.toArray⟩) := N4.out.cell 4
          have c5 : V5.cell? ⟨n1, 5, none⟩ = some (.int .i64 tk) := N4.out.cell 5
          have c6 : V5.cell? ⟨n1, 6, none⟩ = some (.int .u32 (dr.toNat : Int)) := N4.out.cell 6
          have d0 : V5.cell? ⟨n2, 0, none⟩ = some (.int .i64 kd) := M.out.cell 0
          have d1 : V5.cell? ⟨n2, 1, none⟩ = some (.int .i64 cn) := M.out.cell 1
          have d2 : V5.cell? ⟨n2, 2, none⟩ = some (.string ⟨ad.toArray⟩) := M.out.cell 2
          have d3 : V5.cell? ⟨n2, 3, none⟩ = some (.string ⟨pr.toArray⟩) := M.out.cell 3
          have d4 : V5.cell? ⟨n2, 4, none⟩ = some (.string ⟨by_.toArray⟩) := M.out.cell 4
          have d5 : V5.cell? ⟨n2, 5, none⟩ = some (.int .i64 tk) := M.out.cell 5
          have d6 : V5.cell? ⟨n2, 6, none⟩ = some (.int .u32 (dr.toNat : Int)) := M.out.cell 6
          have O6 := O4.out.alloc (Obj.cells #[.int .i64 kd, .int .i64 cn, .string ⟨ad.toArray⟩, .string ⟨pr.toArray⟩, .string ⟨by_.toArray⟩, .int .i64 tk, .int .u32 (dr.toNat : Int)] 31)
          have X6 := X4.out.alloc (Obj.cells #[.int .i64 kd, .int .i64 cn, .string ⟨ad.toArray⟩, .string ⟨pr.toArray⟩, .string ⟨by_.toArray⟩, .int .i64 tk, .int .u32 (dr.toNat : Int)] 31)
          have hol : out.length ≤ 17179869184 := by have := hol0.out; omega
          have hup : w.heap.size ≤ (V5.alloc (Obj.cells #[.int .i64 kd, .int .i64 cn, .string ⟨ad.toArray⟩, .string ⟨pr.toArray⟩, .string ⟨by_.toArray⟩, .int .i64 tk, .int .u32 (dr.toNat : Int)] 31)).heap.size := X6.size
          clear O4 X4 M N4
          replace O6 := hide O6
          replace X6 := hide X6
          replace hol := hide hol
          replace hup := hide hup
          go_wp2_with
            (at_builtin
             go_must (refine wpList_push (E := EEv) (l := out) rfl _ _ _ rfl okEv (by decide) (by decide) rfl O6.out hol.out hup.out rfl (y := ⟨kd, cn, ad, pr, by_, tk, dr⟩) (cs := evCs ⟨kd, cn, ad, pr, by_, tk, dr⟩) ⟨rfl, hin.out⟩ (cells_new V5 (evCs ⟨kd, cn, ad, pr, by_, tk, dr⟩).toArray _) ?_)
             intro v' w5 hown1 hg5 hat5
             have E5 := X6.out.push (fun k hk => by have := (O6.out.lt k hk).1; omega) hg5
             obtain ⟨va5, vc5, rfl⟩ := hown1.form
             clear hg5 hat5
             simp only [List.length_append, List.length_cons, List.length_nil, Nat.zero_add] at hown1 ⊢
             replace hown1 := hide hown1; replace E5 := hide E5)
          go_roundw
          case rel => exact ⟨k + 1, by go_num, hkm.out, by rw [hsn.out]; exact hown1.out, E5.out⟩
          case measure => exact meas_step hkm.out
        · obtain rfl : k = m := by omega
          have ht : E.take k = E := List.take_of_length_le (by rw [hm.out]; exact Nat.le_refl _)
          rw [ht] at O
          clear ht
          have hkl : ¬ (k < l.length ∧ (k : Int) < 30) := by have := hm2.out; omega
          clear w1 hk30 hk hkm
          replace O := hide O
          replace X := hide X
          go_upto_region 9 with fail
          go_cut [39] (fun s39 wx => s39 = .bool false ∧ wr = wx)
          case first =>
            by_cases hk1 : k < l.length
            · have b1 : decide (k < l.length) = true := decide_eq_true hk1
              have b2 : decide ((k : Int) < 30) = false := decide_eq_false fun h => hkl ⟨hk1, h⟩
              clear hkl hk1
              go_wp2_with fail
              go_meet
              case rel => exact ⟨by first | rfl | rw [b2], rfl⟩
            · have b1 : decide (k < l.length) = false := decide_eq_false hk1
              clear hkl hk1
              go_wp2_with fail
              go_meet
              case rel => exact ⟨rfl, rfl⟩
          case rest =>
            obtain ⟨rfl, rfl⟩ := hcut
            clear hkl
            obtain ⟨va, vc, rfl, hs0⟩ := O.out.sl
            have hsl : Sl EEv wr (· < wr.heap.size) va E := hs0.mono fun b h => h.2
            have q1 := qr.out C (by have := hcl.out; omega) E va vc (by rw [hm.out]; have := hm30.out; omega) wr X.out hsl
            rw [hpr.out] at q1
            clear hs0 O
            replace q1 := hide q1
            replace hsl := hide hsl
            go_wp2_with fail
            refine q1.out.mono ?_
            rintro e W1 ⟨rfl, he⟩
            have X1 := X.out.trans he
            have hs1 := hsl.out.ext he
            have q2 := qp.out T (by have := hlen.out; omega) W1 X1
            unfold ParP at q2
            rw [hpp.out] at q2
            clear q1 he hsl X
            replace q2 := hide q2
            replace X1 := hide X1
            replace hs1 := hide hs1
            go_wp2_with fail
            refine q2.out.mono ?_
            rintro e W2 ⟨⟨cfg, evs, v, h1, rfl, O⟩ | ⟨c, kk, f, h0, h1, rfl, hf, F⟩, E1⟩
            case inr =>
              injection h1 with _ h1
              injection h1 with _ h1
              injection h1 with h1 _
              exact absurd h1.symm h0
            injection h1 with h1 h2
            injection h2 with h2 _
            subst h1 h2
            obtain ⟨vb, vd, rfl, hs0⟩ := O.sl
            have hsB : Sl EEv W2 (· < W2.heap.size) vb E := hs0.mono fun b h => h.2
            have hsA := hs1.out.ext E1
            have X2 := X1.out.trans E1
            clear hs0 O q2 E1 hs1 X1
            have hk9 : k ≤ 30 := hm30.out
            have hm8 := hm.out
            obtain ⟨h, hh⟩ : ∃ h, E.length = h := ⟨_, rfl⟩
            rw [hh]
            rw [hh] at hm8
            subst hm8
            replace hsA := hide hsA
            replace hsB := hide hsB
            replace X2 := hide X2
            replace hh := hide hh
            go_wp2_with fail
            go_loopw [20] (fun s wr => ∃ i : Nat, s = .int .i64 (i : Int) ∧ i ≤ h ∧ Ext W2 wr) (fun s _ => h - (intOf s).toNat)
            case atStart => exact ⟨0, rfl, Nat.zero_le _, Ext.refl _⟩
            case round =>
              obtain ⟨i, rfl, hi, XX⟩ := hrel
              have w1 : IntKind.i64.wrap ((i : Int) + 1) = (i : Int) + 1 := by rw [IntKind.wrap_i64]; omega
              by_cases hih : i < h
              · have bi : decide (i < h) = true := decide_eq_true hih
                obtain ⟨b, off, rfl, _, _, hc⟩ := EEv.at (hsA.out.ext XX) i (by rw [hh.out]; exact hih)
                obtain ⟨b', off', rfl, _, _, hc'⟩ := EEv.at (hsB.out.ext XX) i (by rw [hh.out]; exact hih)
                generalize E[i]'(by rw [hh.out]; exact hih) = x at *
                have hq := fun W => run_neq_ofB (run_eqEv W x x)
                rw [decide_eq_true rfl] at hq
                obtain ⟨kd, cn, ad, pr, by_, tk, dr⟩ := x
                have x0 : wr.cell? ⟨b, off + i * 7, none⟩ = some (.int .i64 kd) := hc 0 _ rfl
                have x1 : wr.cell? ⟨b, off + i * 7 + 1, none⟩ = some (.int .i64 cn) := hc 1 _ rfl
                have x2 : wr.cell? ⟨b, off + i * 7 + 2, none⟩ = some (.string ⟨ad.toArray⟩) := hc 2 _ rfl
                have x3 : wr.cell? ⟨b, off + i * 7 + 3, none⟩ = some (.string ⟨pr.toArray⟩) := hc 3 _ rfl
                have x4 : wr.cell? ⟨b, off + i * 7 + 4, none⟩ = some (.string ⟨by_.toArray⟩) := hc 4 _ rfl
                have x5 : wr.cell? ⟨b, off + i * 7 + 5, none⟩ = some (.int .i64 tk) := hc 5 _ rfl
                have x6 : wr.cell? ⟨b, off + i * 7 + 6, none⟩ = some (.int .u32 (dr.toNat : Int)) := hc 6 _ rfl
                have y0 : wr.cell? ⟨b', off' + i * 7, none⟩ = some (.int .i64 kd) := hc' 0 _ rfl
                have y1 : wr.cell? ⟨b', off' + i * 7 + 1, none⟩ = some (.int .i64 cn) := hc' 1 _ rfl
                have y2 : wr.cell? ⟨b', off' + i * 7 + 2, none⟩ = some (.string ⟨ad.toArray⟩) := hc' 2 _ rfl
                have y3 : wr.cell? ⟨b', off' + i * 7 + 3, none⟩ = some (.string ⟨pr.toArray⟩) := hc' 3 _ rfl
                have y4 : wr.cell? ⟨b', off' + i * 7 + 4, none⟩ = some (.string ⟨by_.toArray⟩) := hc' 4 _ rfl
                have y5 : wr.cell? ⟨b', off' + i * 7 + 5, none⟩ = some (.int .i64 tk) := hc' 5 _ rfl
                have y6 : wr.cell? ⟨b', off' + i * 7 + 6, none⟩ = some (.int .u32 (dr.toNat : Int)) := hc' 6 _ rfl
                clear hc hc'
                replace XX := hide XX
                go_upto_region 24 with fail
                go_quiet (fail)
                go_wp2_with fail
                go_roundw
                case rel => exact ⟨i + 1, by go_num, by omega, XX.out.drewN _⟩
                case measure => exact meas_step hih
              · obtain rfl : i = h := by omega
                have bi : decide (i < i) = false := decide_eq_false (by omega)
                have X3 := X2.out.trans XX
                obtain ⟨q, hq⟩ : ∃ q, T.length = q + 1 := ⟨T.length - 1, by have := hTne.out; omega⟩
                have e1 : ((T.length : Int) == 0) = false := beq_eq_false_iff_ne.2 (by omega)
                have e2 : decide (T.length = 0) = false := decide_eq_false (by omega)
                have e3 : (T.length == 0) = false := beq_eq_false_iff_ne.2 (by omega)
                have e4 : T.isEmpty = false := by cases T with | nil => cases hq | cons => rfl
                have e5 : ¬ T = [] := by rintro rfl; cases hq
                have wq : IntKind.i64.wrap ((T.length : Int) - 1) = (q : Int) := by rw [IntKind.wrap_i64]; have := hlen.out; omega
                have wq2 : wrap64 ((T.length : Int) - 1) = (q : Int) := by rw [hq, wrap64_id _ (by omega) (by have := hlen.out; omega)]; omega
                have hql : q ≤ T.length := by omega
                have hx : (ByteArray.mk T.toArray).extract 0 q = ⟨(T.take q).toArray⟩ := by rw [ba_extract]; simp
                have hct := hcut.out
                rw [hq, Nat.add_sub_cancel] at hct
                have hUl : (T.take q).length ≤ 1048576 := by rw [List.length_take]; have := hlen.out; omega
                generalize T.take q = U at *
                have q3 := qp.out U hUl wr X3
                unfold ParP at q3
                rw [hct] at q3
                clear hct XX hUl hq
                replace q3 := hide q3
                replace X3 := hide X3
                go_wp2_with fail
                refine q3.out.mono ?_
                rintro e W3 ⟨⟨cfg, evs, v, h1, rfl, O⟩ | ⟨c, kk, f, h0, h1, rfl, hf, F⟩, E1⟩
                case inl =>
                  injection h1 with _ h1
                  injection h1 with _ h1
                  injection h1 with h1 _
                  cases h1
                injection h1 with _ h1
                injection h1 with _ h1
                injection h1 with h1 h2
                subst h1 h2
                have E2 := X3.out.trans E1
                have hfl := F.lt
                have P := Blk.new W3 44 #[.pointer none]
                have E3 := E2.alloc (Obj.cells #[.pointer none] 44)
                have F3 := F.alloc (Obj.cells #[.pointer none] 44)
                go_upto_region 30 with fail
                generalize hpp2 : W3.heap.size = p at P hfl
                generalize hW4 : W3.alloc (Obj.cells #[.pointer none] 44) = W4 at P E3 F3
                have hE1s := E2.size
                have q1 := asF_hit ⟨f, 0, none⟩ ⟨p, 0, none⟩ (.pointer none) W4 (hg2.out _ E3) (P.cell 0) (P.frozen 0)
                have hwp : w.heap.size ≤ p := by omega
                try rw [hW4]
                try simp only [hpp2]
                clear hW4 hpp2 E2 F E1 q3 X3
                replace q1 := hide q1
                replace P := hide P
                replace E3 := hide E3
                replace F3 := hide F3
                replace hfl := hide hfl
                replace hwp := hide hwp
                go_wp2_with fail
                refine q1.out.mono ?_
                rintro e W5 ⟨rfl, W5', he, rfl⟩
                have F1 := (F3.out.ext he).far (p := ⟨p, 0, none⟩) (show f ≠ p by have := hfl.out; omega) (.pointer (some ⟨f, 0, none⟩))
                have P1 : Blk (W5'.setCell ⟨p, 0, none⟩ (.pointer (some ⟨f, 0, none⟩))) p 44 #[.pointer (some ⟨f, 0, none⟩)] := (P.out.ext he).set_ 0 _
                have E4 := (E3.out.trans he).setCell (p := ⟨p, 0, none⟩) hwp.out (.pointer (some ⟨f, 0, none⟩))
                generalize W5'.setCell ⟨p, 0, none⟩ (.pointer (some ⟨f, 0, none⟩)) = W6 at P1 F1 E4 ⊢
                have p0 : W6.cell? ⟨p, 0, none⟩ = some (.pointer (some ⟨f, 0, none⟩)) := P1.cell 0
                have f0 : W6.cell? ⟨f, 0, none⟩ = some (.int .i64 9) := F1.cell 0
                have f1 : W6.cell? ⟨f, 1, none⟩ = some (.int .i64 ((j + i : Nat) : Int)) := F1.cell 1
                rw [show ((j + i : Nat) : Int) = (j : Int) + (i : Int) by omega] at f1
                have wk2 : IntKind.i64.wrap ((j : Int) + (i : Int)) = (j : Int) + (i : Int) := by rw [IntKind.wrap_i64]; omega
                have wk3 : wrap64 ((j : Int) + (i : Int)) = (j : Int) + (i : Int) := wrap64_id _ (by omega) (by omega)
                clear P1 F1 he P F3 E3 hfl q1
                replace E4 := hide E4
                go_wp2_with fail
                refine (qw.out _ E4.out).mono ?_
                rintro e W7 ⟨rfl, he⟩
                have E5 := hide (E4.out.trans he)
                clear he p0 f0 f1
                go_wp2
                try go_ret
                exact ⟨rfl, E5.out⟩
end
section
open Go.RowKit Go.ChangeShapes Go.WideShapes Go.Deep
set_option linter.unusedVariables false
def EU16 : Enc Nat := Enc.cells (fun n => [.int .u16 (n : Int)]) (fun n => n < 65536) 1 (fun _ => rfl) (fun x u hu => by obtain rfl := List.mem_singleton.1 hu; rfl)
def EB1 : Enc Bool := Enc.cells (fun b => [.bool b]) (fun _ => True) 1 (fun _ => rfl) (fun x u hu => by obtain rfl := List.mem_singleton.1 hu; rfl)
def ar16Cs (b : Nat → UInt8) : List Value := [.int .u8 ((b 0).toNat : Int), .int .u8 ((b 1).toNat : Int), .int .u8 ((b 2).toNat : Int), .int .u8 ((b 3).toNat : Int), .int .u8 ((b 4).toNat : Int), .int .u8 ((b 5).toNat : Int), .int .u8 ((b 6).toNat : Int), .int .u8 ((b 7).toNat : Int), .int .u8 ((b 8).toNat : Int), .int .u8 ((b 9).toNat : Int), .int .u8 ((b 10).toNat : Int), .int .u8 ((b 11).toNat : Int), .int .u8 ((b 12).toNat : Int), .int .u8 ((b 13).toNat : Int), .int .u8 ((b 14).toNat : Int), .int .u8 ((b 15).toNat : Int)]
def EAr16 : Enc (Nat → UInt8) := Enc.cells ar16Cs (fun _ => True) 16 (fun _ => rfl) (fun x u hu => by simp only [ar16Cs, List.mem_cons, List.not_mem_nil, or_false] at hu; rcases hu with rfl | rfl | rfl | rfl | rfl | rfl | rfl | rfl | rfl | rfl | rfl | rfl | rfl | rfl | rfl | rfl <;> rfl)
section
variable {P : Program} {T : TypeId}
theorem opens_u16g (h : P.underlying T = some (.int .u16)) (hc : P.cellsOf T = 1) : Opens P T EU16 := by
 refine ⟨hc, fun enc W fuel cs x hx _ => ?_⟩
 obtain ⟨n, rfl, _, hw⟩ := DataW.trod_int h hx
 have : 0 ≤ n ∧ n ≤ 65535 := by simpa [Lit.wf, IntKind.min, IntKind.max, IntKind.signed, IntKind.bits] using hw
 refine ⟨n.toNat, ?_, by show n.toNat < 65536; omega⟩
 show [Value.int .u16 n] = [Value.int .u16 _]
 rw [show ((n.toNat : Nat) : Int) = n by omega]
theorem opens_bool1 (h : P.underlying T = some .bool) (hc : P.cellsOf T = 1) : Opens P T EB1 := by
 refine ⟨hc, fun enc W fuel cs x hx _ => ?_⟩
 obtain ⟨b, rfl, _⟩ := DataW.trod_bool h hx
 exact ⟨b, rfl, trivial⟩
theorem open_u8L {e : TypeId} (he : P.underlying e = some (.int .u8)) {H : Type} {enc : TypeId × Value → H} {W : World} : ∀ {n : Nat} {l : List Value} {xs : List (DataW H × List MemPlace)}, (∀ i, i < l.length → DataW.trod enc P W 0 (fun _ => true) true n e ((l.drop i).take 1) = xs[i]?) → xs.length = l.length → ∃ us : List UInt8, l = us.map fun u => Value.int .u8 (u.toNat : Int)
  | n, [], xs, _, _ => ⟨[], rfl⟩
  | n, c :: l, [], _, hl => by simp at hl
  | n, c :: l, x :: xs, h, hl => by
    have h0 : DataW.trod enc P W 0 (fun _ => true) true n e [c] = some x := h 0 (by simp)
    obtain ⟨z, e1, _, hw⟩ := DataW.trod_int he h0
    obtain rfl : c = .int .u8 z := by simpa using e1
    have hz : 0 ≤ z ∧ z ≤ 255 := by simpa [Lit.wf, IntKind.min, IntKind.max, IntKind.signed, IntKind.bits] using hw
    obtain ⟨us, rfl⟩ := open_u8L he (n := n) (l := l) (xs := xs) (fun i hi => by have := h (i + 1) (by simp; omega); simpa using this) (by simpa using hl)
    refine ⟨UInt8.ofNat z.toNat :: us, ?_⟩
    rw [List.map_cons]
    congr 1
    congr 1
    rw [UInt8.toNat_ofNat']
    omega
theorem opens_ar16 {e : TypeId} (h : P.underlying T = some (.array 16 e)) (he : P.underlying e = some (.int .u8)) (h1 : P.cellsOf e = 1) (hc : P.cellsOf T = 16) : Opens P T EAr16 := by
  refine ⟨hc, fun enc W fuel cs x hx _ => ?_⟩
  obtain ⟨xs, m, _, _, hcl, hl, hi⟩ := DataW.trod_array h hx
  rw [h1] at hi
  rw [hc] at hcl
  obtain ⟨us, rfl⟩ := open_u8L he (n := m) (l := cs) (xs := xs) (fun i hi' => by have := hi i (by omega); rw [Nat.mul_one] at this; exact this) (by omega)
  have hlen : us.length = 16 := by simpa using hcl
  match us, hlen with
  | [a0, a1, a2, a3, a4, a5, a6, a7, a8, a9, a10, a11, a12, a13, a14, a15], _ =>
    exact ⟨fun i => [a0, a1, a2, a3, a4, a5, a6, a7, a8, a9, a10, a11, a12, a13, a14, a15].getD i 0, rfl, trivial⟩
end
theorem opens_u16_ : Opens Tryz.prog 33 EU16 := opens_u16g Tryz.underlying33 (by kernel_rfl)
theorem opens_B1 : Opens Tryz.prog 4 EB1 := opens_bool1 Tryz.underlying4 (by kernel_rfl)
theorem opens_A16 : Opens Tryz.prog 34 EAr16 := opens_ar16 Tryz.underlying34 Tryz.underlying5 (by kernel_rfl) (by kernel_rfl)
set_option maxRecDepth 100000 in
theorem opens_EDo : Opens Tryz.prog 36 EDo :=
 opens_of (opens_struct Tryz.underlying36 (by kernel_rfl) (opensF_cons rfl rfl opens_EU8 (opensF_cons rfl rfl opens_EU8 (opensF_cons rfl rfl opens_EU8 (opensF_cons rfl rfl opens_u16_ (opensF_cons rfl rfl opens_u32_ (opensF_cons rfl rfl opens_text (opensF_cons rfl rfl opens_A16 (opensF_last rfl rfl opens_B1 rfl))))))))) rfl
  (fun p => (⟨p.1, p.2.1, p.2.2.1, p.2.2.2.1, p.2.2.2.2.1, p.2.2.2.2.2.1, p.2.2.2.2.2.2.1, p.2.2.2.2.2.2.2⟩ : DoS)) (fun {w S x cs} h => by
   obtain ⟨c, d, rfl, ⟨rfl, _⟩, c, d, rfl, ⟨rfl, _⟩, c, d, rfl, ⟨rfl, _⟩, c, d, rfl, ⟨rfl, h3⟩, c, d, rfl, ⟨rfl, _⟩, c, d, rfl, ⟨rfl, h5⟩, c, d, rfl, ⟨rfl, _⟩, ⟨rfl, _⟩⟩ := h
   exact ⟨rfl, ⟨h3, h5⟩⟩)
end
end Go.Proofs.YtkinghadgmbhbaaGreatDoor
