/- Walks: communities laid as bytes, or refused (comm.Encode). Walks: communities laid as bytes, or refused (comm.Encode), whole. Walks: what sets.Check calls: comm.Encode, the functions over items and patterns. -/
import Derived.Test.YtoghdmoldcjedaaGreatDoorVC
import Derived.Test.YtoghdmoldcjedaaGreatDoorWP
namespace Go.Proofs.YtoghdmoldcjedaaGreatDoor
open Go.RowKit Go.Sort
set_option linter.unusedVariables false

set_option maxHeartbeats 1000000 in
theorem IsNaNU32_any (x : Int) (w : World) : Calls Tryz.prog 105 #[.int .u32 x] w fun e w' => e = .returned (.bool false) ∧ w' = w := by
  go_enter Tryz.func105, Tryz.ntmps105
  go_wp2
  go_ret
  exact ⟨rfl, rfl⟩
set_option maxHeartbeats 1000000 in
theorem CmpU32_any (x y : Int) (w : World) : Calls Tryz.prog 79 #[.int .u32 x, .int .u32 y] w fun e w' => e = .returned (.int .i64 (Lib.compareInt x y)) ∧ w' = w := by
  have q := IsNaNU32_any
  rcases ci_cases x y with ⟨h, hxy⟩ | ⟨h, hxy⟩ | ⟨h, hxy⟩
  · have e1 : decide (x < y) = true := decide_eq_true hxy
    rw [h]
    clear h hxy
    replace q := hide q
    go_enter Tryz.func79, Tryz.ntmps79
    go_wp2_with (go_at_call 105; refine (q.out _ _).mono ?_; rintro e w' ⟨rfl, rfl⟩)
    go_ret
    exact ⟨rfl, rfl⟩
  · have e1 : decide (x < y) = false := decide_eq_false (by omega)
    have e2 : decide (y < x) = false := decide_eq_false (by omega)
    rw [h]
    clear h hxy
    replace q := hide q
    go_enter Tryz.func79, Tryz.ntmps79
    go_wp2_with (go_at_call 105; refine (q.out _ _).mono ?_; rintro e w' ⟨rfl, rfl⟩)
    go_ret
    exact ⟨rfl, rfl⟩
  · have e1 : decide (x < y) = false := decide_eq_false (by omega)
    have e2 : decide (y < x) = true := decide_eq_true hxy
    rw [h]
    clear h hxy
    replace q := hide q
    go_enter Tryz.func79, Tryz.ntmps79
    go_wp2_with (go_at_call 105; refine (q.out _ _).mono ?_; rintro e w' ⟨rfl, rfl⟩)
    go_ret
    exact ⟨rfl, rfl⟩
theorem put_size (s : ByteArray) (n v : Nat) : (put s n v).size = s.size + n := by
  show ((s.data.toList ++ be n v).toArray).size = s.data.size + n
  rw [List.size_toArray, List.length_append, be_length, Array.length_toList]
set_option maxRecDepth 20000 in
set_option maxHeartbeats 1000000 in
theorem CPut_any (a : Option Addr) (c : Nat) (l : List UInt32) (s : ByteArray) (w : World) (hl : l.length ≤ 64) (hs : s.size ≤ 1048576) (hsl : Sl EU32 w (· < w.heap.size) a l) :
    Calls Tryz.prog 81 #[.string s, .slice a l.length c] w fun e w' => (∃ t : ByteArray, e = .returned (.string t) ∧ t.size = s.size + 4 * l.length) ∧ Ext w w' := by
  replace hsl := hide hsl
  go_enter Tryz.func81, Tryz.ntmps81
  go_wp2
  go_loopw [0, 9] (fun u i wr => ∃ (k : Nat) (t : ByteArray), k ≤ l.length ∧ i = .int .i64 k ∧ u = .string t ∧ t.size = s.size + 4 * k ∧ Ext w wr) (fun _ i _ => l.length - (intOf i).toNat)
  case atStart => exact ⟨0, s, Nat.zero_le _, rfl, rfl, by omega, Ext.refl _⟩
  case round =>
    obtain ⟨k, t, hk, rfl, rfl, ht, he⟩ := hrel
    replace he := hide he
    by_cases hlt : k < l.length
    · obtain ⟨b, off, rfl, _, x0⟩ := EU32.at (hsl.out.ext he.out) k hlt
      have hx := l[k].toNat_lt
      have hw : IntKind.u64.wrap (l[k].toNat : Int) = (l[k].toNat : Int) := by rw [IntKind.wrap_u64]; omega
      have q := fun W => WPut_any t l[k].toNat 4 W (by omega) (by omega) (by omega) (by omega) (by omega)
      rw [← hw] at q
      clear hx hw
      generalize l[k].toNat = v at x0 q
      have hps := put_size t 4 v
      generalize put t 4 v = t2 at q hps
      replace q := hide q
      replace hps := hide hps
      replace ht := hide ht
      go_wp2_with fail
      refine (q.out _).mono ?_
      rintro e W1 ⟨rfl, he1⟩
      replace he1 := hide (he.out.trans he1)
      go_wp2
      go_roundw
      case rel => exact ⟨k + 1, t2, by omega, by go_num, rfl, by have := hps.out; have := ht.out; omega, he1.out⟩
      case measure => simp [intOf]; omega
    · obtain rfl : k = l.length := by omega
      replace ht := hide ht
      go_wp2
      go_ret
      exact ⟨⟨t, rfl, ht.out⟩, he.out⟩
open Go.RowKit Go.Sort

theorem risU_iff : ∀ l : List UInt32, risU l = true ↔ ∀ i (h : i + 1 < l.length), l[i].toNat < l[i + 1].toNat
  | [] => by
    constructor
    · intro _ i h; simp at h
    · intro _; rfl
  | [x] => by
    constructor
    · intro _ i h; simp at h
    · intro _; rfl
  | x :: y :: r => by
    show (decide (x.toNat < y.toNat) && risU (y :: r)) = true ↔ _
    rw [Bool.and_eq_true, decide_eq_true_eq, risU_iff (y :: r)]
    constructor
    · rintro ⟨h1, h2⟩ i h
      cases i with
      | zero => exact h1
      | succ i => exact h2 i (by simpa using h)
    · intro h
      exact ⟨h 0 (by simp), fun i hi => h (i + 1) (by simpa using hi)⟩
theorem risU_bad {l : List UInt32} {k : Nat} (hk : k + 1 < l.length) (h : ¬ l[k].toNat < l[k + 1].toNat) : commsOk l = false := by
  unfold commsOk
  rw [Bool.and_eq_false_iff]
  refine .inl ?_
  rw [Bool.eq_false_iff]
  intro hr
  exact h ((risU_iff l).1 hr k hk)
set_option maxRecDepth 20000 in
set_option maxHeartbeats 1000000 in
theorem Enc1_any (s : ByteArray) (x : UInt32) (w : World) (hs : s.size ≤ 1048576) :
    Calls Tryz.prog 80 #[.string s, .int .u32 (x.toNat : Int)] w fun e w' => (∃ t : ByteArray, e = .returned (.string t) ∧ t.size = s.size + 4) ∧ Ext w w' := by
  have q := CPut_any (some ⟨w.heap.size, 0, none⟩) 1 [x] s (w.alloc (Obj.cells #[.int .u32 (x.toNat : Int)] 37)) (by simp) hs (by
    refine .inr ⟨w.heap.size, 0, rfl, by simp, fun k y hy => ?_⟩
    match k, hy with
    | 0, hy =>
      cases hy
      refine ⟨[.int .u32 (x.toNat : Int)], ⟨rfl, trivial⟩, fun j u hu => ?_⟩
      match j, hu with
      | 0, hu => cases hu; exact (Blk.new w 37 #[.int .u32 (x.toNat : Int)]).cell 0)
  have hE := (Ext.refl w).alloc (Obj.cells #[.int .u32 (x.toNat : Int)] 37)
  replace q := hide q
  replace hE := hide hE
  go_enter Tryz.func80, Tryz.ntmps80
  go_wp2_with fail
  refine q.out.mono ?_
  rintro e W1 ⟨⟨t, rfl, ht⟩, he⟩
  replace ht := hide ht
  replace he := hide (hE.out.trans he)
  go_wp2
  go_ret
  exact ⟨⟨t, rfl, ht.out⟩, he.out⟩
set_option maxRecDepth 20000 in
set_option maxHeartbeats 2000000 in
theorem Lay_any (a : Option Addr) (c : Nat) (l : List UInt32) (w : World) (hl : l.length ≤ 16777216) (hsl : Sl EU32 w (· < w.heap.size) a l) :
    Calls Tryz.prog 78 #[.slice a l.length c, .func (.func 79) #[] #[], .func (.func 80) #[] #[]] w fun e w' => (∃ t : ByteArray, e = .returned (.tuple #[.string t, .int .i64 (errOf (commsOk l))])) ∧ Ext w w' := by
  replace hsl := hide hsl
  by_cases h64 : 64 < l.length
  · have hc : errOf (commsOk l) = 2 := by
      have : commsOk l = false := by unfold commsOk; rw [decide_eq_false (by omega), Bool.and_false]
      rw [this]; rfl
    replace hc := hide hc
    go_enter Tryz.func78, Tryz.ntmps78
    go_wp2
    go_ret2
    exact ⟨⟨⟨#[]⟩, by rw [hc.out]; rfl⟩, Ext.refl _⟩
  · go_enter Tryz.func78, Tryz.ntmps78
    go_wp2
    go_loopw [8, 16] (fun u i wr => ∃ (k : Nat) (t : ByteArray), k ≤ l.length ∧ i = .int .i64 k ∧ u = .string t ∧ t.size = 4 * k ∧ Ext w wr ∧ (∀ i (h : i + 1 < k) (hk : k ≤ l.length), l[i].toNat < l[i + 1].toNat)) (fun _ i _ => l.length - (intOf i).toNat)
    case atStart => exact ⟨0, ⟨#[]⟩, Nat.zero_le _, rfl, rfl, rfl, Ext.refl _, fun i h _ => by omega⟩
    case round =>
      obtain ⟨k, t, hk, rfl, rfl, ht, he, hris⟩ := hrel
      replace he := hide he
      replace hris := hide hris
      by_cases hlt : k < l.length
      · have hx := EU32.at (hsl.out.ext he.out) k hlt
        have q2 := fun W => Enc1_any t l[k] W (by omega)
        rcases Nat.eq_zero_or_pos k with rfl | hpos
        · obtain ⟨b, off, rfl, _, x0⟩ := hx
          rw [Nat.add_zero] at x0
          replace q2 := hide q2
          replace ht := hide ht
          go_wp2_with fail
          refine (q2.out _).mono ?_
          rintro e W1 ⟨⟨t2, rfl, ht2⟩, he1⟩
          replace ht2 := hide ht2
          replace he1 := hide (he.out.trans he1)
          go_wp2
          go_roundw
          case rel => exact ⟨1, t2, by omega, by go_num, rfl, by have := ht2.out; have := ht.out; omega, he1.out, fun i h _ => by omega⟩
          case measure => simp [intOf]; omega
        · have hy := EU32.at (hsl.out.ext he.out) (k - 1) (by omega)
          obtain ⟨b, off, rfl, _, x0⟩ := hx
          obtain ⟨b', off', hbb, _, y0⟩ := hy
          injection hbb with hbb
          injection hbb with hb1 hb2 _
          subst hb1 hb2
          have hsub : ((k - 1 : Nat) : Int) = (k : Int) - 1 := by omega
          have q1 := fun W => CmpU32_any (l[k - 1].toNat : Int) (l[k].toNat : Int) W
          have hci := ci_cases (l[k - 1].toNat : Int) (l[k].toNat : Int)
          have hbad := risU_bad (l := l) (k := k - 1) (by omega)
          have hk1 : k - 1 + 1 = k := by omega
          simp only [hk1] at hbad
          generalize Lib.compareInt (l[k - 1].toNat : Int) (l[k].toNat : Int) = cz at q1 hci
          by_cases hlt2 : l[k - 1].toNat < l[k].toNat
          · have e1 : decide (0 ≤ cz) = false := decide_eq_false (by omega)
            have hris2 : ∀ i (h : i + 1 < k + 1) (hk : k + 1 ≤ l.length), l[i].toNat < l[i + 1].toNat := fun i h hkl => by
              by_cases hi : i + 1 < k
              · exact hris.out i hi (by omega)
              · obtain rfl : i = k - 1 := by omega
                simp only [hk1]
                exact hlt2
            clear hci hbad
            replace q1 := hide q1
            replace q2 := hide q2
            replace ht := hide ht
            replace hris2 := hide hris2
            clear hlt2
            go_wp2_with fail
            refine (q1.out _).mono ?_
            rintro e W0 ⟨rfl, rfl⟩
            go_wp2_with fail
            refine (q2.out _).mono ?_
            rintro e W1 ⟨⟨t2, rfl, ht2⟩, he1⟩
            replace ht2 := hide ht2
            replace he1 := hide (he.out.trans he1)
            go_wp2
            go_roundw
            case rel => exact ⟨k + 1, t2, by omega, by go_num, rfl, by have := ht2.out; have := ht.out; omega, he1.out, hris2.out⟩
            case measure => simp [intOf]; omega
          · have e1 : decide (0 ≤ cz) = true := decide_eq_true (by omega)
            have hc : errOf (commsOk l) = 2 := by rw [hbad hlt2]; rfl
            clear hci hbad hlt2
            replace q1 := hide q1
            replace q2 := hide q2
            replace ht := hide ht
            replace hc := hide hc
            go_wp2_with fail
            refine (q1.out _).mono ?_
            rintro e W0 ⟨rfl, rfl⟩
            go_wp2
            go_ret2
            exact ⟨⟨⟨#[]⟩, by rw [hc.out]; rfl⟩, he.out⟩
      · have hc : errOf (commsOk l) = 0 := by
          obtain rfl : k = l.length := by omega
          have : commsOk l = true := by
            unfold commsOk
            rw [Bool.and_eq_true, decide_eq_true_eq, risU_iff]
            exact ⟨fun i h => hris.out i h (Nat.le_refl _), by omega⟩
          rw [this]; rfl
        replace hc := hide hc
        go_wp2
        go_ret2
        exact ⟨⟨t, by rw [hc.out]; rfl⟩, he.out⟩
open Go.RowKit Go.Sort

set_option maxHeartbeats 1000000 in
theorem Encode_any (a : Option Addr) (c : Nat) (l : List UInt32) (w : World) (hl : l.length ≤ 16777216) (hsl : Sl EU32 w (· < w.heap.size) a l) :
    Calls Tryz.prog 47 #[.slice a l.length c] w fun e w' => (∃ t : ByteArray, e = .returned (.tuple #[.string t, .int .i64 (errOf (commsOk l))])) ∧ Ext w w' := by
  have q := Lay_any a c l w hl hsl
  generalize errOf (commsOk l) = r at q ⊢
  replace q := hide q
  go_enter Tryz.func47, Tryz.ntmps47
  go_wp2_with fail
  refine q.out.mono ?_
  rintro e W1 ⟨⟨t, rfl⟩, he⟩
  replace he := hide he
  go_wp2
  go_ret2
  exact ⟨⟨t, rfl⟩, he.out⟩
set_option maxHeartbeats 1000000 in
theorem Check1_any (x : Itm) (hx : x.p.addr.length ≤ 1048576) (w : World) :
    Calls Tryz.prog 45 #[.agg #[.int .i64 x.p.fam, .int .u64 (x.p.rd : Int), .string ⟨x.p.addr.toArray⟩, .int .i64 x.p.len, .int .i64 x.low, .int .i64 x.high]] w fun e w' => e = .returned (.bool (!decide (itmOk x))) ∧ Ext w w' := by
  have q := fun W => Item_any x hx W
  obtain ⟨⟨f, rd, ad, ln⟩, lo, hi⟩ := x
  dsimp only at *
  generalize decide (itmOk ⟨⟨f, rd, ad, ln⟩, lo, hi⟩) = r at q ⊢
  replace q := hide q
  go_enter Tryz.func45, Tryz.ntmps45
  have S := Blk.new w 36 #[.int .i64 f, .int .u64 (rd : Int), .string ⟨ad.toArray⟩, .int .i64 ln, .int .i64 lo, .int .i64 hi]
  have E := (Ext.refl w).alloc (Obj.cells #[.int .i64 f, .int .u64 (rd : Int), .string ⟨ad.toArray⟩, .int .i64 ln, .int .i64 lo, .int .i64 hi] 36)
  generalize hW0 : w.alloc (Obj.cells #[.int .i64 f, .int .u64 (rd : Int), .string ⟨ad.toArray⟩, .int .i64 ln, .int .i64 lo, .int .i64 hi] 36) = W0 at S E
  generalize hg0 : w.heap.size = g0 at S
  replace S := hide S
  replace E := hide E
  have S_0 : W0.cell? ⟨g0, 0, none⟩ = some (.int .i64 f) := S.out.cell 0
  have S_1 : W0.cell? ⟨g0, 1, none⟩ = some (.int .u64 (rd : Int)) := S.out.cell 1
  have S_2 : W0.cell? ⟨g0, 2, none⟩ = some (.string ⟨ad.toArray⟩) := S.out.cell 2
  have S_3 : W0.cell? ⟨g0, 3, none⟩ = some (.int .i64 ln) := S.out.cell 3
  have S_4 : W0.cell? ⟨g0, 4, none⟩ = some (.int .i64 lo) := S.out.cell 4
  have S_5 : W0.cell? ⟨g0, 5, none⟩ = some (.int .i64 hi) := S.out.cell 5
  go_wp2_with fail
  refine (q.out _).mono ?_
  rintro e W1 ⟨rfl, he_⟩
  clear S_0 S_1 S_2 S_3 S_4 S_5
  replace E := hide (E.out.trans he_)
  clear he_
  go_wp2
  go_ret
  exact ⟨rfl, E.out⟩
set_option maxHeartbeats 1000000 in
theorem Check2_any (a : Option Addr) (c : Nat) (l : List Atm) (w : World) (hl : l.length ≤ 16777216) (hs : Sl EAtm w (· < w.heap.size) a l) :
    Calls Tryz.prog 49 #[.slice a l.length c] w fun e w' => e = .returned (.bool (!atmsOk l)) ∧ Ext w w' := by
  have q := Atoms_any a c l w hl hs
  generalize atmsOk l = r at q ⊢
  replace q := hide q
  go_enter Tryz.func49, Tryz.ntmps49
  go_wp2_with fail
  refine q.out.mono ?_
  rintro e W1 ⟨rfl, he⟩
  replace he := hide he
  go_wp2
  go_ret
  exact ⟨rfl, he.out⟩
set_option maxHeartbeats 1000000 in
theorem IdxPat_any (g : Nat) (lb : Array Value) (eg : ∀ args w, (callFunc g args).run Tryz.prog w = .ok (.enter g args) w) (pr : List Atm → Bool) (a : Option Addr) (c : Nat) (l : List (List Atm)) (w : World) (hl : l.length ≤ 16777216) (hs : Sl EAtm.slice w (· < w.heap.size) a l)
    (hq : ∀ x ∈ l, ∀ W b d, Ext w W → x.length ≤ 16777216 → Sl EAtm W (· < W.heap.size) b x → Calls Tryz.prog g (#[.slice b x.length d] ++ lb) W fun e w' => e = .returned (.bool (pr x)) ∧ Ext W w') :
    Calls Tryz.prog 82 #[.slice a l.length c, .func (.func g) #[] lb] w fun e w' => e = .returned (.int .i64 (idxT pr l)) ∧ Ext w w' := by
  replace hs := hide hs
  replace hq := hide hq
  go_enter Tryz.func82, Tryz.ntmps82
  go_wp2
  go_loopw [8] (fun i wr => ∃ k : Nat, k ≤ l.length ∧ i = .int .i64 k ∧ Ext w wr ∧ (l.take k).any pr = false) (fun i _ => l.length - (intOf i).toNat)
  case atStart => exact ⟨0, Nat.zero_le _, rfl, Ext.refl _, rfl⟩
  case round =>
    obtain ⟨k, hk, rfl, he, ha⟩ := hrel
    replace ha := hide ha
    replace he := hide he
    by_cases hlt : k < l.length
    · obtain ⟨b, off, ak, ck, rfl, _, x0, hm, hsk⟩ := EPat.at (hs.out.ext he.out) k hlt
      have q := hq.out l[k] (List.getElem_mem hlt) wr ak ck he.out hm hsk
      have hyes := fun h => idxT_at (pr := pr) hlt h ha.out
      have hno := fun h => any_take (pr := pr) hlt h ha.out
      clear hsk hm
      generalize pr l[k] = r at q hyes hno
      generalize l[k].length = n at *
      replace q := hide q
      replace hyes := hide hyes
      replace hno := hide hno
      go_wp2_with (go_at_fn g; refine q.out.mono ?_; rintro e W1 ⟨rfl, he1⟩; replace he1 := hide (he.out.trans he1); cases r)
      case roundEnd =>
        go_roundw
        case rel => exact ⟨k + 1, by omega, by go_num, he1.out, hno.out (by trivial)⟩
        case measure => simp [intOf]; omega
      all_goals
        go_ret
        exact ⟨ret_int (hyes.out (by trivial)).symm, he1.out⟩
    · have hend : idxT pr l = -1 := idxT_none (by
        obtain rfl : k = l.length := by omega
        have := ha.out
        rwa [List.take_length] at this)
      replace hend := hide hend
      go_wp2
      go_ret
      exact ⟨ret_int hend.out.symm, he.out⟩
set_option maxHeartbeats 1000000 in
theorem HasPat_any (g : Nat) (lb : Array Value) (eg : ∀ args w, (callFunc g args).run Tryz.prog w = .ok (.enter g args) w) (pr : List Atm → Bool) (a : Option Addr) (c : Nat) (l : List (List Atm)) (w : World) (hl : l.length ≤ 16777216) (hs : Sl EAtm.slice w (· < w.heap.size) a l)
    (hq : ∀ x ∈ l, ∀ W b d, Ext w W → x.length ≤ 16777216 → Sl EAtm W (· < W.heap.size) b x → Calls Tryz.prog g (#[.slice b x.length d] ++ lb) W fun e w' => e = .returned (.bool (pr x)) ∧ Ext W w') :
    Calls Tryz.prog 48 #[.slice a l.length c, .func (.func g) #[] lb] w fun e w' => e = .returned (.bool (l.any pr)) ∧ Ext w w' := by
  have q := IdxPat_any g lb eg pr a c l w hl hs hq
  have hd := idxT_any pr l
  generalize idxT pr l = r at q hd
  generalize l.any pr = y at hd ⊢
  clear hs hq
  replace q := hide q
  go_enter Tryz.func48, Tryz.ntmps48
  go_wp2_with fail
  refine q.out.mono ?_
  rintro e W1 ⟨rfl, he⟩
  replace he := hide he
  go_wp2
  go_ret
  exact ⟨rfl, he.out⟩
end Go.Proofs.YtoghdmoldcjedaaGreatDoor
