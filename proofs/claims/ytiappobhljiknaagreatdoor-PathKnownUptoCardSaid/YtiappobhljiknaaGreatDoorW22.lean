/- aspath.Prepend. -/
import Derived.Test.YtiappobhljiknaaGreatDoorA9
import Derived.Test.YtiappobhljiknaaGreatDoorW17
import Derived.Test.YtiappobhljiknaaGreatDoorW20
import Derived.Test.YtiappobhljiknaaGreatDoorW15
namespace Go.Proofs.YtiappobhljiknaaGreatDoor
open Go.RowKit
set_option linter.unusedVariables false

theorem not_fit {s : Seg} {conf : Bool} (hk : ¬ (s.kind = prepK conf ∧ s.as.length < 255)) : (s.kind = prepK conf ∧ ¬ (s.as.length < 255)) ∨ (s.kind == prepK conf) = false := by
  by_cases hkk : s.kind = prepK conf
  · exact .inl ⟨hkk, fun h => hk ⟨hkk, h⟩⟩
  · exact .inr (by simpa using hkk)
theorem u32_ne0 {x : UInt32} (h : x ≠ 0) : ((x.toNat : Int) == 0) = false := by
  have := u32_beq x 0
  simp only [UInt32.toNat_zero] at this
  rw [show ((0 : Nat) : Int) = 0 from rfl] at this
  rw [this]
  simpa using h

set_option maxRecDepth 20000 in
set_option maxHeartbeats 1000000 in
theorem APrepend_no (a : Option Addr) (c : Nat) (l : List Seg) (x : UInt32) (conf : Bool) (w : World) (hl : l.length ≤ 16777216) (hs : Path w a l) (hck : ¬ (chk l = true ∧ x ≠ 0)) :
    Calls Tryz.prog 10 #[.slice a l.length c, .int .u32 (x.toNat : Int), .bool conf] w fun e w' => e = .returned (.tuple #[.slice none 0 0, .int .i64 2]) ∧ Ext w w' := by
  replace hs := hide hs
  cases hk : chk l with
  | false =>
    replace hk := hide hk
    clear hck
    go_enter Tryz.func10, Tryz.ntmps10
    go_wp2_with (go_at_call 17; refine (Check_no _ _ l _ hl hs.out hk.out).mono ?_; rintro e w1 ⟨rfl, he0⟩; replace he0 := hide he0)
    go_ret2
    exact ⟨rfl, he0.out⟩
  | true =>
    have hx : x = 0 := Decidable.byContradiction fun h => hck ⟨hk, h⟩
    subst hx
    replace hk := hide hk
    clear hck
    go_enter Tryz.func10, Tryz.ntmps10
    go_wp2_with (go_at_call 17; refine (Check_ok _ _ l _ hl hs.out hk.out).mono ?_; rintro e w1 ⟨rfl, he0⟩; replace he0 := hide he0)
    go_ret2
    exact ⟨rfl, he0.out⟩

set_option maxRecDepth 20000 in
set_option maxHeartbeats 1000000 in
theorem APrepend_in (a : Option Addr) (c : Nat) (l t : List Seg) (s : Seg) (x : UInt32) (conf : Bool) (w : World) (hls : l = s :: t) (hl : l.length ≤ 16777216) (hs : Path w a l) (hck : chk l = true) (hx : x ≠ 0) (hk : s.kind = prepK conf) (h255 : s.as.length < 255) :
    Calls Tryz.prog 10 #[.slice a l.length c, .int .u32 (x.toNat : Int), .bool conf] w fun e w' => ∃ v, e = .returned (.tuple #[v, .int .i64 0]) ∧ Ext w w' ∧ Own ESegW 24 w' w.heap.size v (⟨s.kind, x :: s.as⟩ :: t) := by
  replace hs := hide hs
  replace hck := hide hck
  replace hls := hide hls
  have hx0 := u32_ne0 hx
  have hl0 : 0 < l.length := by rw [hls.out]; simp
  cases conf
  all_goals
    go_enter Tryz.func10, Tryz.ntmps10
    go_wp2_with fail
    refine (Check_ok _ _ l _ hl hs.out hck.out).mono ?_
    rintro e w1 ⟨rfl, he1⟩
    have p1 := hide (hs.out.ext he1)
    replace he1 := hide he1
    go_wp2_with fail
    refine (cloneB_any _ _ l _ hl p1.out).mono ?_
    rintro e w2 ⟨v2, ls, rfl, he2, o2, hm2, hp2⟩
    obtain ⟨hb, ls', rfl, ht⟩ : ∃ hb ls', ls = (s, hb) :: ls' ∧ ls'.map (·.1) = t := by
      rw [hls.out] at hm2
      cases ls with
      | nil => cases hm2
      | cons p q =>
        obtain ⟨p1, p2⟩ := p
        simp only [List.map_cons, List.cons.injEq] at hm2
        obtain ⟨rfl, h⟩ := hm2
        exact ⟨p2, q, rfl, h⟩
    obtain ⟨g, d, rfl⟩ : ∃ g d, v2 = .slice (some ⟨g, 0, none⟩) l.length d := by
      obtain ⟨xs, ho, _⟩ := o2
      have hll : ((s, hb) :: ls').length = l.length := by rw [← hm2, List.length_map]
      rcases ho.2 with ⟨_, h0⟩ | ⟨g, cap, cur, h1, _⟩
      · cases h0
      · exact ⟨g, cap, by rw [h1, hll]⟩
    obtain ⟨u, c0, c1, hk1, hk2, hma, hu, hub⟩ := own_headB o2
    obtain ⟨b, d', rfl⟩ := hu.form
    have f1 := o2.thaw 1
    have hgl := o2.blockLt
    have hpw : (hb :: ls'.map (·.2)).Pairwise (· < ·) := hp2
    clear hp2 hm2
    have hsz1 := he1.out.size
    have hsz2 := he2.size
    replace he2 := hide he2
    replace o2 := hide o2
    replace hu := hide hu
    replace hub := hide hub
    replace hpw := hide hpw
    replace ht := hide ht
    rw [hk, prepK] at c0
    simp only [if_false, if_true, Bool.false_eq_true] at c0
    have hk9 := hide hk
    have hvv : (Value.slice b s.as.length d').ownBlock ≠ some w2.heap.size := fun he => by
      have := (hub.out _ he).2.1
      omega
    replace hvv := hide hvv
    clear hk
    go_wp2_with fail
    have hgne : some w2.heap.size ≠ (Value.slice b s.as.length d').ownBlock := fun h => hvv.out h.symm
    refine (Ins32_any (E := EU32) rfl okU32q (.slice b s.as.length d') s.as x [.int .u32 (x.toNat : Int)] _ w1.heap.size w2.heap.size hma (by simp; omega) (hu.out.alloc _) (heap_alloc_new w2 _) ⟨rfl, trivial⟩ hgne).mono ?_
    rintro e w3 ⟨v3, rfl, o3, hg3, hat3⟩
    obtain ⟨b3, d3, rfl⟩ := o3.form
    have hgr : w2.grownBy w3 (Value.slice b s.as.length d').ownBlock := ⟨hg3.os, hg3.tape, hg3.output, Nat.le_trans (by simp) hg3.size, fun k hk hne => (hg3.block k (by simp; omega) hne).trans (Below.heap_alloc _ _ _ hk)⟩
    have hat4 : (Value.slice b3 (x :: s.as).length d3).ownBlock = (Value.slice b s.as.length d').ownBlock ∨ ∃ k, (Value.slice b3 (x :: s.as).length d3).ownBlock = some k ∧ w2.heap.size ≤ k := hat3.imp id fun ⟨k, h1, h2⟩ => ⟨k, h1, by simp at h2; omega⟩
    have c3 : w3.cell? ⟨g, 1, none⟩ = some (.slice b s.as.length d') := (World.cell?_of_block (a := ⟨g, 1, none⟩) (hgr.block g hgl.2 (fun h => (hub.out _ h.symm).1 rfl))).trans c1
    have f3 : w3.frozen? ⟨g, 1, none⟩ = false := (frozen_frame (hgr.block g hgl.2 (fun h => (hub.out _ h.symm).1 rfl)) 1).trans f1
    have hfin := own_headSet o2.out hpw.out hub.out hgr o3 (by omega) hat4
    rw [ht.out] at hfin
    have hext : Ext w w3 := (he1.out.trans he2.out).grown hgr fun k hk => by
      have := (hu.out.lt k hk).1
      omega
    replace hfin := hide hfin
    replace hext := hide hext
    replace hgr := hide hgr
    clear o3 hg3 hat3 hat4 c0 c1 f1
    go_wp2
    go_ret2
    exact ⟨_, rfl, hext.out.setCell (by show w.heap.size ≤ g; omega) _, hfin.out.low hsz1⟩

set_option maxRecDepth 20000 in
set_option maxHeartbeats 1000000 in
theorem APrepend_long (a : Option Addr) (c : Nat) (l t : List Seg) (s : Seg) (x : UInt32) (conf : Bool) (w : World) (hls : l = s :: t) (hl : l.length = 16) (hs : Path w a l) (hck : chk l = true) (hx : x ≠ 0) (hk : ¬ (s.kind = prepK conf ∧ s.as.length < 255)) :
    Calls Tryz.prog 10 #[.slice a l.length c, .int .u32 (x.toNat : Int), .bool conf] w fun e w' => e = .returned (.tuple #[.slice none 0 0, .int .i64 3]) ∧ Ext w w' := by
  replace hs := hide hs
  replace hck := hide hck
  replace hls := hide hls
  have hx0 := u32_ne0 hx
  have hl0 : 0 < l.length := by rw [hls.out]; simp
  have hl' : l.length ≤ 16777216 := by omega
  have hs0 : l[0] = s := by simp [hls.out]
  replace hl := hide hl
  rcases not_fit hk with ⟨hkk, hge⟩ | hge
  all_goals
    clear hk
    cases conf
  all_goals
    try simp only [prepK, if_false, if_true, Bool.false_eq_true] at hge
    try simp only [prepK, if_false, if_true, Bool.false_eq_true] at hkk
    try replace hkk := hide hkk
    go_enter Tryz.func10, Tryz.ntmps10
    go_wp2_with fail
    refine (Check_ok _ _ l _ hl' hs.out hck.out).mono ?_
    rintro e w1 ⟨rfl, he1⟩
    have p1 := hide (hs.out.ext he1)
    replace he1 := hide he1
    go_wp2_with fail
    refine (cloneW_any _ _ l _ hl' p1.out).mono ?_
    rintro e w2 ⟨v2, rfl, he2, o2⟩
    obtain ⟨a2, d, rfl, _, q2⟩ := o2.weak.toPath
    obtain ⟨g, off, b, d', rfl, _, c0, c1, hma, _, hk1, hk2⟩ := ESeg.at q2 0 hl0
    simp only [hs0, Nat.zero_mul, Nat.add_zero] at c0 c1 hma hk1 hk2
    try rw [hkk.out] at c0
    replace he2 := hide he2
    have hl16 := hl.out
    rw [hl16]
    clear o2 q2
    go_wp2_with fail
    go_ret2
    exact ⟨rfl, he1.out.trans he2.out⟩

set_option maxRecDepth 20000 in
set_option maxHeartbeats 1000000 in
theorem APrepend_new0 (a : Option Addr) (c : Nat) (x : UInt32) (conf : Bool) (w : World) (hs : Path w a []) (hck : chk [] = true) (hx : x ≠ 0) :
    Calls Tryz.prog 10 #[.slice a 0 c, .int .u32 (x.toNat : Int), .bool conf] w fun e w' => ∃ v, e = .returned (.tuple #[v, .int .i64 0]) ∧ Ext w w' ∧ Own ESegW 24 w' w.heap.size v [⟨prepK conf, [x]⟩] := by
  replace hs := hide hs
  replace hck := hide hck
  have hx0 := u32_ne0 hx
  have hl' : ([] : List Seg).length ≤ 16777216 := by simp
  have hk1 := Check_ok a c [] w hl' hs.out hck.out
  have hk2 : ∀ w1, Path w1 a [] → Calls Tryz.prog 20 #[.slice a 0 c] w1 fun e w' => ∃ v, e = .returned v ∧ Ext w1 w' ∧ Own ESegW 24 w' w1.heap.size v [] := fun w1 h => cloneW_any a c [] w1 hl' h
  simp only [List.length_nil] at hk1
  replace hk1 := hide hk1
  replace hk2 := hide hk2
  replace hl' := hide hl'
  cases conf
  all_goals
    go_enter Tryz.func10, Tryz.ntmps10
    go_wp2_with fail
    refine hk1.out.mono ?_
    rintro e w1 ⟨rfl, he1⟩
    have p1 := hide (hs.out.ext he1)
    replace he1 := hide he1
    go_wp2_with fail
    refine (hk2.out _ p1.out).mono ?_
    rintro e w2 ⟨v2, rfl, he2, o2⟩
    obtain ⟨a2, d, hv2⟩ := o2.form
    replace hv2 : v2 = .slice a2 0 d := hv2
    subst hv2
    have hsz1 := he1.out.size
    have hsz2 := he2.size
    have hlt2 := hide o2.lt
    replace o2 := hide o2
    replace he2 := hide he2
    replace hl' := hl'.out
    go_wp2_with fail
    have hnv : some (w2.heap.size + 1) ≠ (Value.slice a2 0 d).ownBlock := fun h => by have := (hlt2.out _ h.symm).2; omega
    have hlv : ∀ k, (Value.slice a2 0 d).ownBlock = some k → k < w2.heap.size := fun k hk => (hlt2.out k hk).2
    have hnb : ∀ K : Int, ((w2.alloc (Obj.cells #[Value.int IntKind.u32 ↑x.toNat] 26)).alloc (Obj.cells #[Value.int IntKind.i64 K, Value.slice (some { block := w2.heap.size, off := 0 }) 1 1] 24)).heap[w2.heap.size + 1]? = some (.cells [Value.int IntKind.i64 K, Value.slice (some { block := w2.heap.size, off := 0 }) 1 1].toArray 24 (0, 0)) := fun K => by
      have := heap_alloc_new (w2.alloc (Obj.cells #[Value.int IntKind.u32 ↑x.toNat] 26)) (Obj.cells #[Value.int IntKind.i64 K, Value.slice (some { block := w2.heap.size, off := 0 }) 1 1] 24)
      simpa using this
    have hwb : ∀ K : Int, w1.heap.size ≤ ((w2.alloc (Obj.cells #[Value.int IntKind.u32 ↑x.toNat] 26)).alloc (Obj.cells #[Value.int IntKind.i64 K, Value.slice (some { block := w2.heap.size, off := 0 }) 1 1] 24)).heap.size := fun K => by simp; omega
    refine (InsSg_any (E := ESegW) rfl okSegW' (.slice a2 0 d) [] ⟨_, [x]⟩ [.int .i64 _, .slice (some ⟨w2.heap.size, 0, none⟩) 1 1] _ w1.heap.size (w2.heap.size + 1) hl' (hwb _) ((o2.out.alloc _).alloc _) (hnb _) (segNew hsz2 hlv (by decide) (by decide)) hnv).mono ?_
    rintro e w3 ⟨v3, rfl, o3, hg3, _⟩
    have hext := hide ((((he1.out.trans he2.out).alloc _).alloc _).grown hg3 fun k hk => by
      have := (hlt2.out k hk).1
      omega)
    replace o3 := hide (o3.low hsz1)
    clear hg3
    go_wp2
    go_ret2
    exact ⟨_, rfl, hext.out, o3.out⟩

set_option maxRecDepth 20000 in
set_option maxHeartbeats 1000000 in
theorem APrepend_new1 (a : Option Addr) (c : Nat) (l : List Seg) (x : UInt32) (conf : Bool) (w : World) (hl' : l.length ≤ 16777216) (hl : l.length < 16) (hs : Path w a l) (hck : chk l = true) (hx : x ≠ 0) (hl0 : 0 < l.length) (hkk : l[0].kind = prepK conf) (hge : ¬ (l[0].as.length < 255)) :
    Calls Tryz.prog 10 #[.slice a l.length c, .int .u32 (x.toNat : Int), .bool conf] w fun e w' => ∃ v, e = .returned (.tuple #[v, .int .i64 0]) ∧ Ext w w' ∧ Own ESegW 24 w' w.heap.size v (⟨prepK conf, [x]⟩ :: l) := by
  replace hs := hide hs
  replace hck := hide hck
  have hx0 := u32_ne0 hx
  cases conf
  all_goals
    try simp only [prepK, if_false, if_true, Bool.false_eq_true] at hge
    try simp only [prepK, if_false, if_true, Bool.false_eq_true] at hkk
    try replace hkk := hide hkk
    go_enter Tryz.func10, Tryz.ntmps10
    go_wp2_with fail
    refine (Check_ok _ _ l _ hl' hs.out hck.out).mono ?_
    rintro e w1 ⟨rfl, he1⟩
    have p1 := hide (hs.out.ext he1)
    replace he1 := hide he1
    go_wp2_with fail
    refine (cloneW_any _ _ l _ hl' p1.out).mono ?_
    rintro e w2 ⟨v2, rfl, he2, o2⟩
    obtain ⟨a2, d, rfl, _, q2⟩ := o2.weak.toPath
    have hsz1 := he1.out.size
    have hsz2 := he2.size
    have hlt2 := hide o2.lt
    replace o2 := hide o2
    replace he2 := hide he2
    obtain ⟨g, off, b, d', rfl, _, c0, c1, hma, _, hk1, hk2⟩ := ESeg.at q2 0 hl0
    simp only [Nat.zero_mul, Nat.add_zero] at c0 c1 hma hk1 hk2
    rw [hkk.out] at c0
    clear q2
    go_wp2_with fail
    have hnv : some (w2.heap.size + 1) ≠ (Value.slice (some ⟨g, off, none⟩) l.length d).ownBlock := fun h => by have := (hlt2.out _ h.symm).2; omega
    have hlv : ∀ k, (Value.slice (some ⟨g, off, none⟩) l.length d).ownBlock = some k → k < w2.heap.size := fun k hk => (hlt2.out k hk).2
    have hnb : ∀ K : Int, ((w2.alloc (Obj.cells #[Value.int IntKind.u32 ↑x.toNat] 26)).alloc (Obj.cells #[Value.int IntKind.i64 K, Value.slice (some { block := w2.heap.size, off := 0 }) 1 1] 24)).heap[w2.heap.size + 1]? = some (.cells [Value.int IntKind.i64 K, Value.slice (some { block := w2.heap.size, off := 0 }) 1 1].toArray 24 (0, 0)) := fun K => by
      have := heap_alloc_new (w2.alloc (Obj.cells #[Value.int IntKind.u32 ↑x.toNat] 26)) (Obj.cells #[Value.int IntKind.i64 K, Value.slice (some { block := w2.heap.size, off := 0 }) 1 1] 24)
      simpa using this
    have hwb : ∀ K : Int, w1.heap.size ≤ ((w2.alloc (Obj.cells #[Value.int IntKind.u32 ↑x.toNat] 26)).alloc (Obj.cells #[Value.int IntKind.i64 K, Value.slice (some { block := w2.heap.size, off := 0 }) 1 1] 24)).heap.size := fun K => by simp; omega
    refine (InsSg_any (E := ESegW) rfl okSegW' (.slice (some ⟨g, off, none⟩) l.length d) l ⟨_, [x]⟩ [.int .i64 _, .slice (some ⟨w2.heap.size, 0, none⟩) 1 1] _ w1.heap.size (w2.heap.size + 1) hl' (hwb _) ((o2.out.alloc _).alloc _) (hnb _) (segNew hsz2 hlv (by decide) (by decide)) hnv).mono ?_
    rintro e w3 ⟨v3, rfl, o3, hg3, _⟩
    have hext := hide ((((he1.out.trans he2.out).alloc _).alloc _).grown hg3 fun k hk => by
      have := (hlt2.out k hk).1
      omega)
    replace o3 := hide (o3.low hsz1)
    clear hg3
    go_wp2
    go_ret2
    exact ⟨_, rfl, hext.out, o3.out⟩

set_option maxRecDepth 20000 in
set_option maxHeartbeats 1000000 in
theorem APrepend_new2 (a : Option Addr) (c : Nat) (l : List Seg) (x : UInt32) (conf : Bool) (w : World) (hl' : l.length ≤ 16777216) (hl : l.length < 16) (hs : Path w a l) (hck : chk l = true) (hx : x ≠ 0) (hl0 : 0 < l.length) (hge : (l[0].kind == prepK conf) = false) :
    Calls Tryz.prog 10 #[.slice a l.length c, .int .u32 (x.toNat : Int), .bool conf] w fun e w' => ∃ v, e = .returned (.tuple #[v, .int .i64 0]) ∧ Ext w w' ∧ Own ESegW 24 w' w.heap.size v (⟨prepK conf, [x]⟩ :: l) := by
  replace hs := hide hs
  replace hck := hide hck
  have hx0 := u32_ne0 hx
  cases conf
  all_goals
    try simp only [prepK, if_false, if_true, Bool.false_eq_true] at hge
    try simp only [prepK, if_false, if_true, Bool.false_eq_true] at hkk
    try replace hkk := hide hkk
    go_enter Tryz.func10, Tryz.ntmps10
    go_wp2_with fail
    refine (Check_ok _ _ l _ hl' hs.out hck.out).mono ?_
    rintro e w1 ⟨rfl, he1⟩
    have p1 := hide (hs.out.ext he1)
    replace he1 := hide he1
    go_wp2_with fail
    refine (cloneW_any _ _ l _ hl' p1.out).mono ?_
    rintro e w2 ⟨v2, rfl, he2, o2⟩
    obtain ⟨a2, d, rfl, _, q2⟩ := o2.weak.toPath
    have hsz1 := he1.out.size
    have hsz2 := he2.size
    have hlt2 := hide o2.lt
    replace o2 := hide o2
    replace he2 := hide he2
    obtain ⟨g, off, b, d', rfl, _, c0, c1, hma, _, hk1, hk2⟩ := ESeg.at q2 0 hl0
    simp only [Nat.zero_mul, Nat.add_zero] at c0 c1 hma hk1 hk2
    clear q2
    go_wp2_with fail
    have hnv : some (w2.heap.size + 1) ≠ (Value.slice (some ⟨g, off, none⟩) l.length d).ownBlock := fun h => by have := (hlt2.out _ h.symm).2; omega
    have hlv : ∀ k, (Value.slice (some ⟨g, off, none⟩) l.length d).ownBlock = some k → k < w2.heap.size := fun k hk => (hlt2.out k hk).2
    have hnb : ∀ K : Int, ((w2.alloc (Obj.cells #[Value.int IntKind.u32 ↑x.toNat] 26)).alloc (Obj.cells #[Value.int IntKind.i64 K, Value.slice (some { block := w2.heap.size, off := 0 }) 1 1] 24)).heap[w2.heap.size + 1]? = some (.cells [Value.int IntKind.i64 K, Value.slice (some { block := w2.heap.size, off := 0 }) 1 1].toArray 24 (0, 0)) := fun K => by
      have := heap_alloc_new (w2.alloc (Obj.cells #[Value.int IntKind.u32 ↑x.toNat] 26)) (Obj.cells #[Value.int IntKind.i64 K, Value.slice (some { block := w2.heap.size, off := 0 }) 1 1] 24)
      simpa using this
    have hwb : ∀ K : Int, w1.heap.size ≤ ((w2.alloc (Obj.cells #[Value.int IntKind.u32 ↑x.toNat] 26)).alloc (Obj.cells #[Value.int IntKind.i64 K, Value.slice (some { block := w2.heap.size, off := 0 }) 1 1] 24)).heap.size := fun K => by simp; omega
    refine (InsSg_any (E := ESegW) rfl okSegW' (.slice (some ⟨g, off, none⟩) l.length d) l ⟨_, [x]⟩ [.int .i64 _, .slice (some ⟨w2.heap.size, 0, none⟩) 1 1] _ w1.heap.size (w2.heap.size + 1) hl' (hwb _) ((o2.out.alloc _).alloc _) (hnb _) (segNew hsz2 hlv (by decide) (by decide)) hnv).mono ?_
    rintro e w3 ⟨v3, rfl, o3, hg3, _⟩
    have hext := hide ((((he1.out.trans he2.out).alloc _).alloc _).grown hg3 fun k hk => by
      have := (hlt2.out k hk).1
      omega)
    replace o3 := hide (o3.low hsz1)
    clear hg3
    go_wp2
    go_ret2
    exact ⟨_, rfl, hext.out, o3.out⟩

theorem APrepend_new (a : Option Addr) (c : Nat) (l : List Seg) (x : UInt32) (conf : Bool) (w : World) (hl : l.length < 16) (hs : Path w a l) (hck : chk l = true) (hx : x ≠ 0) (hk : ∀ s t, l = s :: t → ¬ (s.kind = prepK conf ∧ s.as.length < 255)) :
    Calls Tryz.prog 10 #[.slice a l.length c, .int .u32 (x.toNat : Int), .bool conf] w fun e w' => ∃ v, e = .returned (.tuple #[v, .int .i64 0]) ∧ Ext w w' ∧ Own ESegW 24 w' w.heap.size v (⟨prepK conf, [x]⟩ :: l) := by
  have hl' : l.length ≤ 16777216 := by omega
  cases l with
  | nil => exact APrepend_new0 a c x conf w hs hck hx
  | cons s t =>
    rcases not_fit (hk s t rfl) with ⟨hkk, hge⟩ | hge
    · exact APrepend_new1 a c _ x conf w hl' hl hs hck hx (by simp) hkk hge
    · exact APrepend_new2 a c _ x conf w hl' hl hs hck hx (by simp) hge

theorem APrepend_any (a : Option Addr) (c : Nat) (l : List Seg) (x : UInt32) (conf : Bool) (w : World) (hl : l.length ≤ 16777216) (hs : Path w a l) :
    Calls Tryz.prog 10 #[.slice a l.length c, .int .u32 (x.toNat : Int), .bool conf] w fun e w' => ∃ v, e = .returned (.tuple #[v, .int .i64 (prepS l x conf).2]) ∧ Ext w w' ∧ Own ESegW 24 w' w.heap.size v (prepS l x conf).1 := by
  by_cases hck : chk l = true ∧ x ≠ 0
  · have h16 := chk_len hck.1
    cases l with
    | nil =>
      have := APrepend_new a c [] x conf w (by simp) hs hck.1 hck.2 (fun s t h => by cases h)
      simpa [prepS, hck] using this
    | cons s t =>
      have h16' : t.length + 1 ≤ 16 := h16
      by_cases hk : s.kind = prepK conf ∧ s.as.length < 255
      · have := APrepend_in a c _ t s x conf w rfl hl hs hck.1 hck.2 hk.1 hk.2
        simp only [prepS, if_pos hck, if_pos hk]
        exact this
      · by_cases hn : 16 ≤ t.length + 1
        · refine (APrepend_long a c _ t s x conf w rfl (by simp; omega) hs hck.1 hck.2 hk).mono ?_
          rintro e w' ⟨rfl, he⟩
          simp only [prepS, if_pos hck, if_neg hk, if_pos hn]
          exact ⟨_, rfl, he, Own.nil⟩
        · have := APrepend_new a c _ x conf w (by simp; omega) hs hck.1 hck.2 (fun s' t' h => by injection h with h1 h2; subst h1; exact hk)
          simp only [prepS, if_pos hck, if_neg hk, if_neg hn]
          exact this
  · refine (APrepend_no a c l x conf w hl hs hck).mono ?_
    rintro e w' ⟨rfl, he⟩
    simp only [prepS, if_neg hck]
    exact ⟨_, rfl, he, Own.nil⟩
end Go.Proofs.YtiappobhljiknaaGreatDoor
