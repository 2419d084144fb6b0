/- Walks: the first AS, who is in a path, all ASs, the path without the confederation's. -/
import Derived.Test.YtiappobhljiknaaDoorW10
import Derived.Test.YtiappobhljiknaaDoorBytes
namespace Go.Proofs.YtiappobhljiknaaDoor
open Go.RowKit
set_option linter.unusedVariables false

def confB (k : Int) : Bool := k == 3 || k == 4
def bareS (l : List Seg) : List Seg := l.filter fun s => !confB s.kind
def flatS (l : List Seg) : List UInt32 := l.flatMap (·.as)
def hasS (l : List Seg) (x : UInt32) : Bool := l.any fun s => s.as.contains x
def firstV (l : List Seg) : UInt32 × Bool := match bareS l with
  | s :: _ => if s.kind = 2 then (match s.as with | x :: _ => (x, true) | [] => (0, false)) else (0, false)
  | [] => (0, false)
theorem bareS_take_none {l : List Seg} {k : Nat} (h : (l.take k).all (fun s => confB s.kind) = true) : bareS l = bareS (l.drop k) := by
  have : bareS (l.take k) = [] := by
    unfold bareS
    rw [List.filter_eq_nil_iff]
    intro s hs
    have := (List.all_eq_true.1 h) s hs
    simp [this]
  conv => lhs; rw [← List.take_append_drop k l]
  unfold bareS at this ⊢
  rw [List.filter_append, this, List.nil_append]
theorem firstV_at {l : List Seg} {k : Nat} (hk : k < l.length) (h : (l.take k).all (fun s => confB s.kind) = true) (hc : confB l[k].kind = false) :
    firstV l = if l[k].kind = 2 then (match l[k].as with | x :: _ => (x, true) | [] => (0, false)) else (0, false) := by
  have : bareS l = l[k] :: bareS (l.drop (k + 1)) := by
    rw [bareS_take_none h, List.drop_eq_getElem_cons hk]
    unfold bareS
    rw [List.filter_cons, if_pos (by simp [hc])]
  unfold firstV
  rw [this]
theorem firstV_none {l : List Seg} (h : l.all (fun s => confB s.kind) = true) : firstV l = (0, false) := by
  have : bareS l = [] := by
    unfold bareS
    rw [List.filter_eq_nil_iff]
    intro s hs
    have := (List.all_eq_true.1 h) s hs
    simp [this]
  unfold firstV
  rw [this]

set_option maxHeartbeats 1000000 in
theorem confed_any (k : Int) (a : Option Addr) (n c : Nat) (w : World) :
    Calls Tryd.prog 52 #[.agg #[.int .i64 k, .slice a n c]] w fun e w' => e = .returned (.bool (confB k)) ∧ Ext w w' := by
  go_enter Tryd.func52, Tryd.ntmps52
  go_wp2
  all_goals go_ret
  · have hk : k = 3 := ‹k = 3›
    subst hk
    exact ⟨rfl, (Ext.refl _).alloc _⟩
  · exact ⟨rfl, (Ext.refl _).alloc _⟩
theorem rconfed_any (k : Int) (w : World) :
    Calls Tryd.prog 58 #[.int .i64 k] w fun e w' => e = .returned (.bool (confB k)) ∧ w = w' := by
  go_enter Tryd.func58, Tryd.ntmps58
  go_wp2
  all_goals go_ret
  · have hk : k = 3 := ‹k = 3›
    subst hk
    exact ⟨rfl, rfl⟩
  · exact ⟨rfl, rfl⟩

theorem all_take_succ' (l : List Seg) (k : Nat) (hk : k < l.length) (f : Seg → Bool) (h : (l.take k).all f = true) (hf : f l[k] = true) : (l.take (k + 1)).all f = true := by
  rw [all_take_succ l k hk, h, hf]; rfl
def fstOut (p : UInt32 × Bool) : Value := .tuple #[.int .u32 (p.1.toNat : Int), .bool p.2]

set_option maxRecDepth 20000 in
set_option maxHeartbeats 2000000 in
theorem AFirst_any (a : Option Addr) (c : Nat) (l : List Seg) (w : World) (hl : l.length ≤ 16777216) (hs : Path w a l) :
    Calls Tryd.prog 20 #[.slice a l.length c] w fun e w' => e = .returned (fstOut (firstV l)) ∧ Ext w w' := by
  replace hs := hide hs
  go_enter Tryd.func20, Tryd.ntmps20
  go_wp2
  go_loopw [8] (fun i wr => ∃ k : Nat, k ≤ l.length ∧ i = .int .i64 k ∧ Ext w wr ∧ (l.take k).all (fun s => confB s.kind) = true) (fun i _ => l.length - (intOf i).toNat)
  case atStart => exact ⟨0, Nat.zero_le _, rfl, Ext.refl _, rfl⟩
  case round =>
    obtain ⟨k, hk, rfl, hE, ha⟩ := hrel
    replace ha := hide ha
    replace hE := hide hE
    by_cases hlt : k < l.length
    · obtain ⟨b, off, ak, ck, rfl, _, h0, h1, hm, hs', hk1, hk2⟩ := ESeg.at (hs.out.ext hE.out) k hlt
      replace hs' := hide hs'
      by_cases hc : confB l[k].kind = true
      · replace hc := hide hc
        go_wp2_with (go_at_call 52; refine (confed_any _ _ _ _ _).mono ?_; rw [hc.out]; rintro e w1 ⟨rfl, he1⟩; replace he1 := hide he1)
        go_roundw
        case rel => exact ⟨k + 1, by omega, by go_num, (hE.out.alloc _).trans he1.out, all_take_succ' l k hlt _ ha.out hc.out⟩
        case measure => simp [intOf]; omega
      · replace hc : confB l[k].kind = false := by simpa using hc
        have hv := firstV_at hlt ha.out hc
        replace hc := hide hc
        have hblk := hide (Blk.new wr 48 #[.int .i64 l[k].kind, .slice ak l[k].as.length ck])
        by_cases h2 : l[k].kind = 2
        · have e2 : (l[k].kind != 2) = false := by simp [h2]
          rw [if_pos h2] at hv
          replace h2 := hide h2
          by_cases h3 : 0 < l[k].as.length
          · obtain ⟨b4, o4, rfl, _, q0⟩ := EU32.at hs'.out 0 h3
            have hv2 : firstV l = (l[k].as[0], true) := by
              rw [hv]
              split
              · rename_i x r he
                simp [he]
              · rename_i he
                rw [he] at h3
                simp at h3
            have e3 : ((l[k].as.length : Int) == 0) = false := by rw [beq_eq_false_iff_ne]; omega
            replace hv := hide hv2
            clear hv2
            simp only [Nat.add_zero] at q0
            go_wp2_with (go_at_call 52; refine (confed_any _ _ _ _ _).mono ?_; rw [hc.out]; rintro e w1 ⟨rfl, he1⟩; have j0 := (hblk.out.ext he1).cell 0; have j1 := (hblk.out.ext he1).cell 1; have j2 := (Ext.trans ((Ext.refl wr).alloc _) he1).cell q0; simp only [List.getElem?_toArray, List.getElem?_cons_zero, List.getElem?_cons_succ] at j0 j1; replace he1 := hide he1)
            go_ret2
            exact ⟨by rw [hv.out]; rfl, (hE.out.alloc _).trans he1.out⟩
          · have e3 : ((l[k].as.length : Int) == 0) = true := by rw [beq_iff_eq]; omega
            have hv2 : firstV l = (0, false) := by
              rw [hv]
              split
              · rename_i x r he
                rw [he] at h3
                simp at h3
              · rfl
            replace hv := hide hv2
            clear hv2
            go_wp2_with (go_at_call 52; refine (confed_any _ _ _ _ _).mono ?_; rw [hc.out]; rintro e w1 ⟨rfl, he1⟩; have j0 := (hblk.out.ext he1).cell 0; have j1 := (hblk.out.ext he1).cell 1; simp only [List.getElem?_toArray, List.getElem?_cons_zero, List.getElem?_cons_succ] at j0 j1; replace he1 := hide he1)
            go_ret2
            exact ⟨by rw [hv.out]; rfl, (hE.out.alloc _).trans he1.out⟩
        · have e2 : (l[k].kind != 2) = true := by simp [h2]
          rw [if_neg h2] at hv
          replace h2 := hide h2
          replace hv := hide hv
          go_wp2_with (go_at_call 52; refine (confed_any _ _ _ _ _).mono ?_; rw [hc.out]; rintro e w1 ⟨rfl, he1⟩; have j0 := (hblk.out.ext he1).cell 0; have j1 := (hblk.out.ext he1).cell 1; simp only [List.getElem?_toArray, List.getElem?_cons_zero, List.getElem?_cons_succ] at j0 j1; replace he1 := hide he1)
          go_ret2
          exact ⟨by rw [hv.out]; rfl, (hE.out.alloc _).trans he1.out⟩
    · have hv : firstV l = (0, false) := firstV_none (by have := ha.out; rwa [List.take_of_length_le (by omega)] at this)
      replace hv := hide hv
      go_wp2
      go_ret2
      exact ⟨by rw [hv.out]; rfl, hE.out⟩

set_option maxRecDepth 20000 in
set_option maxHeartbeats 2000000 in
theorem RBare_any (a : Option Addr) (c : Nat) (l : List Seg) (w : World) (hl : l.length ≤ 16777216) (hs : Path w a l) :
    Calls Tryd.prog 30 #[.slice a l.length c] w fun e w' => ∃ v, e = .returned v ∧ Ext w w' ∧ Own ESeg 48 w' w.heap.size v (bareS l) := by
  replace hs := hide hs
  go_enter Tryd.func30, Tryd.ntmps30
  go_wp2
  go_loopw [3, 4] (fun v i wr => ∃ k : Nat, k ≤ l.length ∧ i = .int .i64 k ∧ Own ESeg 48 wr w.heap.size v (bareS (l.take k)) ∧ Ext w wr) (fun _ i _ => l.length - (intOf i).toNat)
  case atStart => exact ⟨0, Nat.zero_le _, rfl, Own.nil, Ext.refl _⟩
  case round =>
    obtain ⟨k, hk, rfl, hown, hE⟩ := hrel
    have hsz := hE.size
    replace hE := hide hE
    replace hown := hide hown
    have hbl : (bareS (l.take k)).length ≤ 16777216 := by
      have h1 := List.length_filter_le (fun s : Seg => !confB s.kind) (l.take k)
      simp only [List.length_take] at h1
      unfold bareS
      omega
    by_cases hlt : k < l.length
    · obtain ⟨b1, o1, a1, c1, rfl, _, h0, h1, hm1, hs1, hk1, hk2⟩ := ESeg.at (hs.out.ext hE.out) k hlt
      replace hs1 := hide hs1
      have hsu : bareS (l.take (k + 1)) = if confB l[k].kind = true then bareS (l.take k) else bareS (l.take k) ++ [l[k]] := by
        unfold bareS
        rw [List.take_succ_eq_append_getElem hlt, List.filter_append]
        by_cases h : confB l[k].kind = true <;> simp [h]
      by_cases hc : confB l[k].kind = true
      · rw [if_pos hc] at hsu
        replace hsu := hide hsu
        replace hc := hide hc
        go_wp2_with (go_at_call 58; refine (rconfed_any _ _).mono ?_; rw [hc.out]; rintro e w1 ⟨rfl, rfl⟩)
        go_roundw
        case rel => exact ⟨k + 1, by omega, by go_num, by rw [hsu.out]; exact hown.out, hE.out⟩
        case measure => simp [intOf]; omega
      · rw [if_neg hc] at hsu
        replace hc : confB l[k].kind = false := by simpa using hc
        replace hsu := hide hsu
        replace hc := hide hc
        go_wp2_with (first
          | (go_at_call 58; refine (rconfed_any _ _).mono ?_; rw [hc.out]; rintro e w1 ⟨rfl, rfl⟩)
          | (go_at_call 41; refine (ROwn_any _ _ l[k] _ hm1 hs1.out).mono ?_; rintro e w1 ⟨b2, d2, rfl, he1, hsl⟩; have hsz1 := he1.size; replace he1 := hide he1; replace hsl := hide hsl)
          | (at_builtin
             have hox := (hown.out.ext he1.out).alloc (Obj.cells #[.int .i64 l[k].kind, .slice b2 l[k].as.length d2] 48)
             have hlk : (bareS (l.take k)).length ≤ 17179869184 := by omega
             have hwb : w.heap.size ≤ (w1.alloc (.cells #[.int .i64 l[k].kind, .slice b2 l[k].as.length d2] 48)).heap.size := by simp; omega
             refine wpList_push (E := ESeg) rfl _ _ _ rfl okSeg' (by decide) (by decide) rfl hox hlk hwb rfl (segR (C := wr.heap.size) (fun j hj => (hown.out.lt j hj).2) hsz hk1 hk2 hm1 hsl.out) (cells_new w1 #[.int .i64 l[k].kind, .slice b2 l[k].as.length d2] _) ?_
             intro v' w2 hown' hg hat))
        go_roundw
        case rel => exact ⟨k + 1, by omega, by go_num, by rw [hsu.out]; exact hown', ((hE.out.trans he1.out).alloc _).push (fun j hj => (hown.out.lt j hj).1) hg⟩
        case measure => simp [intOf]; omega
    · have hkl : k = l.length := by omega
      have ho := hown.out
      rw [hkl, List.take_length] at ho
      replace ho := hide ho
      go_wp2
      go_ret
      exact ⟨_, rfl, hE.out, ho.out⟩

theorem Own.toPath {w : World} {v : Value} {B : Nat} {l : List Seg} (h : Own ESeg 48 w B v l) : ∃ a c, v = .slice a l.length c ∧ l.length ≤ c ∧ Path w a l := by
  obtain ⟨a, c, rfl, hc, hs⟩ := h.slc
  exact ⟨a, c, rfl, hc, hs.mono fun _ hb => hb.2⟩
theorem bareS_le (l : List Seg) : (bareS l).length ≤ l.length := List.length_filter_le _ _

set_option maxRecDepth 20000 in
set_option maxHeartbeats 2000000 in
theorem RFirst_any (a : Option Addr) (c : Nat) (l : List Seg) (w : World) (hl : l.length ≤ 16777216) (hs : Path w a l) :
    Calls Tryd.prog 21 #[.slice a l.length c] w fun e w' => e = .returned (fstOut (firstV l)) ∧ Ext w w' := by
  replace hs := hide hs
  have hbl := bareS_le l
  have hv : firstV l = match bareS l with
    | s :: _ => if s.kind = 2 then (match s.as with | x :: _ => (x, true) | [] => (0, false)) else (0, false)
    | [] => (0, false) := rfl
  go_enter Tryd.func21, Tryd.ntmps21
  go_wp2_with fail
  refine (RBare_any _ _ l _ hl hs.out).mono ?_
  rintro e w1 ⟨v, rfl, he1, ho⟩
  obtain ⟨a1, c1, rfl, _, hp⟩ := ho.toPath
  clear ho
  generalize bareS l = m at hv hp hbl ⊢
  replace he1 := hide he1
  rcases m with _ | ⟨s, r⟩
  · replace hv := hide hv
    simp only [List.length_nil]
    go_wp2
    go_ret2
    exact ⟨by rw [hv.out]; rfl, he1.out⟩
  · obtain ⟨b, off, ak, ck, rfl, _, h0, h1, hm, hs', hk1, hk2⟩ := ESeg.at hp 0 (by simp)
    simp only [List.getElem_cons_zero, Nat.zero_mul, Nat.add_zero] at h0 h1 hm hs' hk1 hk2
    have e0 : (((s :: r).length : Int) == 0) = false := by rw [beq_eq_false_iff_ne]; simp; omega
    have e00 : (0 : Int) < ((s :: r).length : Int) := by simp
    replace hp := hide hp
    generalize (s :: r).length = n at e0 e00 hbl
    by_cases h2 : s.kind = 2
    · have e2 : (s.kind != 2) = false := by simp [h2]
      simp only [if_pos h2] at hv
      replace h2 := hide h2
      by_cases h3 : 0 < s.as.length
      · obtain ⟨b4, o4, rfl, _, q0⟩ := EU32.at hs' 0 h3
        have e3 : ((s.as.length : Int) == 0) = false := by rw [beq_eq_false_iff_ne]; omega
        have e4 : (0 : Int) < (s.as.length : Int) := by omega
        have hv2 : firstV l = (s.as[0], true) := by
          rw [hv]
          split
          · rename_i x r he
            simp [he]
          · rename_i he
            rw [he] at h3
            simp at h3
        replace hv := hide hv2
        replace hs' := hide hs'
        clear hv2
        simp only [Nat.add_zero] at q0
        go_wp2
        go_ret2
        exact ⟨by rw [hv.out]; rfl, he1.out⟩
      · have e3 : ((s.as.length : Int) == 0) = true := by rw [beq_iff_eq]; omega
        have hv2 : firstV l = (0, false) := by
          rw [hv]
          split
          · rename_i x r he
            rw [he] at h3
            simp at h3
          · rfl
        replace hv := hide hv2
        replace hs' := hide hs'
        clear hv2
        go_wp2
        go_ret2
        exact ⟨by rw [hv.out]; rfl, he1.out⟩
    · have e2 : (s.kind != 2) = true := by simp [h2]
      simp only [if_neg h2] at hv
      replace h2 := hide h2
      replace hv := hide hv
      replace hs' := hide hs'
      go_wp2
      go_ret2
      exact ⟨by rw [hv.out]; rfl, he1.out⟩
end Go.Proofs.YtiappobhljiknaaDoor
