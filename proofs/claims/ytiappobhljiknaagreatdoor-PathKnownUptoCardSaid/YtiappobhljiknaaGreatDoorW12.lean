/- Walks: IndexFunc over a path; who is in a path; the path without the confederation's. -/
import Derived.Test.YtiappobhljiknaaGreatDoorW5
namespace Go.Proofs.YtiappobhljiknaaGreatDoor
open Go.RowKit
set_option linter.unusedVariables false

def hasP (x : UInt32) : Seg → Bool := fun s => s.as.contains x
def confP : Seg → Bool := fun s => confB s.kind
def idxP (p : Seg → Bool) (l : List Seg) : Int := match l.findIdx? p with | some i => i | none => -1
theorem idxP_at (p : Seg → Bool) (l : List Seg) (k : Nat) (hk : k < l.length) (hx : p l[k] = true) (hj : ∀ j (h : j < l.length), j < k → p l[j] = false) : idxP p l = k := by
  have : l.findIdx? p = some k := by
    rw [List.findIdx?_eq_some_iff_getElem]
    exact ⟨hk, hx, fun j hjk => by rw [hj j (by omega) hjk]; simp⟩
  simp [idxP, this]
theorem idxP_none (p : Seg → Bool) (l : List Seg) (hj : ∀ j (h : j < l.length), p l[j] = false) : idxP p l = -1 := by
  have : l.findIdx? p = none := by
    rw [List.findIdx?_eq_none_iff]
    intro y hy
    obtain ⟨j, hj', rfl⟩ := List.getElem_of_mem hy
    exact hj j hj'
  simp [idxP, this]
theorem idxP_cases (p : Seg → Bool) (l : List Seg) : (idxP p l = -1 ∧ l.any p = false ∧ ∀ x ∈ l, p x = false) ∨ ∃ k : Nat, k < l.length ∧ idxP p l = k ∧ l.any p = true ∧ (∀ (h : k < l.length), p l[k] = true) ∧ ∀ j (h : j < l.length), j < k → p l[j] = false := by
  unfold idxP
  cases h : l.findIdx? p with
  | none =>
    rw [List.findIdx?_eq_none_iff] at h
    left
    refine ⟨rfl, ?_, h⟩
    rw [List.any_eq_false]
    intro x hx
    simp [h x hx]
  | some i =>
    rw [List.findIdx?_eq_some_iff_getElem] at h
    obtain ⟨hi, h1, h2⟩ := h
    right
    refine ⟨i, hi, rfl, ?_, fun _ => h1, fun j hj hji => by simpa using h2 j hji⟩
    rw [List.any_eq_true]
    exact ⟨l[i], List.getElem_mem hi, h1⟩

set_option maxHeartbeats 1000000 in
theorem Has1_any (g : Nat) (x : UInt32) (k : Int) (a : Option Addr) (c : Nat) (xs : List UInt32) (w : World) (hb : w.cell? ⟨g, 0, none⟩ = some (.int .u32 (x.toNat : Int))) (hm : xs.length ≤ 16777216) (hs : Sl EU32 w (· < w.heap.size) a xs) :
    Calls Tryz.prog 22 #[.agg #[.int .i64 k, .slice a xs.length c], .pointer (some ⟨g, 0, none⟩)] w fun e w' => e = .returned (.bool (xs.contains x)) ∧ Ext w w' := by
  replace hs := hide hs
  have hg : g < w.heap.size := World.block_lt_of_cell? w _ hb
  have hb' : (w.alloc (Obj.cells #[.int .i64 k, .slice a xs.length c] 24)).cell? ⟨g, 0, none⟩ = some (.int .u32 (x.toNat : Int)) := ((Ext.refl w).alloc _).cell hb
  go_enter Tryz.func22, Tryz.ntmps22
  go_wp2_with (go_at_call 23; refine (Contains_any _ _ _ x _ _ hm (hs.out.ext ((Ext.refl _).alloc _))).mono ?_; rintro e w' ⟨rfl, rfl⟩)
  go_ret
  exact ⟨ret_bool (by simp), (Ext.refl _).alloc _⟩

set_option maxRecDepth 20000 in
set_option maxHeartbeats 2000000 in
theorem IndexFunc_confed (a : Option Addr) (c : Nat) (l : List Seg) (w : World)  (hl : l.length ≤ 16777216) (hs : Path w a l) :
    Calls Tryz.prog 44 #[.slice a l.length c, .func (.func 18) #[] #[]] w fun e w' => e = .returned (.int .i64 (idxP confP l)) ∧ Ext w w' := by
  replace hs := hide hs
  go_enter Tryz.func44, Tryz.ntmps44
  go_wp2
  go_loopw [5, 8] (fun _ i wr => ∃ k : Nat, k ≤ l.length ∧ i = .int .i64 k ∧ Ext w wr ∧ ∀ j (hj : j < l.length), j < k → (confP) l[j] = false) (fun _ i _ => l.length - (intOf i).toNat)
  case atStart => exact ⟨0, Nat.zero_le _, rfl, Ext.refl _, fun j _ h => by omega⟩
  case round =>
    obtain ⟨k, hk, rfl, hE, hj⟩ := hrel
    replace hj := hide hj
    replace hE := hide hE
    by_cases hlt : k < l.length
    · obtain ⟨b, off, ak, ck, rfl, _, h0, h1, hm, hs', hk1, hk2⟩ := ESeg.at (hs.out.ext hE.out) k hlt
      replace hs' := hide hs'
      by_cases hc : (confP) l[k] = true
      · replace hc := hide hc
        have hcall := hide (confed_any l[k].kind ak l[k].as.length ck wr)
        go_wp2_with (go_at_call 18; refine hcall.out.mono ?_; rw [show confB l[k].kind = true from hc.out]; rintro e w1 ⟨rfl, he1⟩; replace he1 := hide he1)
        go_ret
        exact ⟨ret_int (idxP_at (confP) l k hlt hc.out hj.out).symm, hE.out.trans he1.out⟩
      · replace hc : (confP) l[k] = false := by simpa using hc
        replace hc := hide hc
        have hcall := hide (confed_any l[k].kind ak l[k].as.length ck wr)
        go_wp2_with (go_at_call 18; refine hcall.out.mono ?_; rw [show confB l[k].kind = false from hc.out]; rintro e w1 ⟨rfl, he1⟩; replace he1 := hide he1)
        go_roundw
        case rel => exact ⟨k + 1, by omega, by go_num, hE.out.trans he1.out, fun j hj1 hj2 => by
          rcases Nat.lt_or_ge j k with h | h
          · exact hj.out j hj1 h
          · obtain rfl : j = k := by omega
            exact hc.out⟩
        case measure => simp [intOf]; omega
    · have hv : idxP (confP) l = -1 := idxP_none (confP) l fun j h => hj.out j h (by omega)
      replace hv := hide hv
      go_wp2
      go_ret
      exact ⟨ret_int hv.out.symm, hE.out⟩

set_option maxRecDepth 20000 in
set_option maxHeartbeats 2000000 in
theorem IndexFunc_has (a : Option Addr) (c : Nat) (l : List Seg) (w : World) (g : Nat) (x : UInt32) (hg : w.cell? ⟨g, 0, none⟩ = some (.int .u32 (x.toNat : Int))) (hl : l.length ≤ 16777216) (hs : Path w a l) :
    Calls Tryz.prog 44 #[.slice a l.length c, .func (.func 22) #[] #[.pointer (some ⟨g, 0, none⟩)]] w fun e w' => e = .returned (.int .i64 (idxP (hasP x) l)) ∧ Ext w w' := by
  replace hs := hide hs
  replace hg := hide hg
  go_enter Tryz.func44, Tryz.ntmps44
  go_wp2
  go_loopw [5, 8] (fun _ i wr => ∃ k : Nat, k ≤ l.length ∧ i = .int .i64 k ∧ Ext w wr ∧ ∀ j (hj : j < l.length), j < k → (hasP x) l[j] = false) (fun _ i _ => l.length - (intOf i).toNat)
  case atStart => exact ⟨0, Nat.zero_le _, rfl, Ext.refl _, fun j _ h => by omega⟩
  case round =>
    obtain ⟨k, hk, rfl, hE, hj⟩ := hrel
    replace hj := hide hj
    replace hE := hide hE
    by_cases hlt : k < l.length
    · obtain ⟨b, off, ak, ck, rfl, _, h0, h1, hm, hs', hk1, hk2⟩ := ESeg.at (hs.out.ext hE.out) k hlt
      replace hs' := hide hs'
      by_cases hc : (hasP x) l[k] = true
      · replace hc := hide hc
        have hcall := hide (Has1_any g x l[k].kind ak ck l[k].as wr (hE.out.cell hg.out) hm hs'.out)
        go_wp2_with (go_at_call 22; refine hcall.out.mono ?_; rw [show l[k].as.contains x = true from hc.out]; rintro e w1 ⟨rfl, he1⟩; replace he1 := hide he1)
        go_ret
        exact ⟨ret_int (idxP_at (hasP x) l k hlt hc.out hj.out).symm, hE.out.trans he1.out⟩
      · replace hc : (hasP x) l[k] = false := by simpa using hc
        replace hc := hide hc
        have hcall := hide (Has1_any g x l[k].kind ak ck l[k].as wr (hE.out.cell hg.out) hm hs'.out)
        go_wp2_with (go_at_call 22; refine hcall.out.mono ?_; rw [show l[k].as.contains x = false from hc.out]; rintro e w1 ⟨rfl, he1⟩; replace he1 := hide he1)
        go_roundw
        case rel => exact ⟨k + 1, by omega, by go_num, hE.out.trans he1.out, fun j hj1 hj2 => by
          rcases Nat.lt_or_ge j k with h | h
          · exact hj.out j hj1 h
          · obtain rfl : j = k := by omega
            exact hc.out⟩
        case measure => simp [intOf]; omega
    · have hv : idxP (hasP x) l = -1 := idxP_none (hasP x) l fun j h => hj.out j h (by omega)
      replace hv := hide hv
      go_wp2
      go_ret
      exact ⟨ret_int hv.out.symm, hE.out⟩

set_option maxHeartbeats 1000000 in
theorem ContainsFunc_any (a : Option Addr) (c : Nat) (l : List Seg) (w : World) (g : Nat) (x : UInt32) (hg : w.cell? ⟨g, 0, none⟩ = some (.int .u32 (x.toNat : Int))) (hl : l.length ≤ 16777216) (hs : Path w a l) :
    Calls Tryz.prog 21 #[.slice a l.length c, .func (.func 22) #[] #[.pointer (some ⟨g, 0, none⟩)]] w fun e w' => e = .returned (.bool (hasS l x)) ∧ Ext w w' := by
  have hcall := hide (IndexFunc_has a c l w g x hg hl hs)
  clear hg hs
  have hi := hide (idxP_cases (hasP x) l)
  go_enter Tryz.func21, Tryz.ntmps21
  go_wp2_with (go_at_call 44; refine hcall.out.mono ?_; rintro e w1 ⟨rfl, he1⟩; replace he1 := hide he1)
  go_ret
  refine ⟨ret_bool ?_, he1.out⟩
  show _ = l.any (hasP x)
  rcases hi.out with ⟨h1, h2, _⟩ | ⟨k, _, h1, h2, _⟩
  · rw [h1, h2]; rfl
  · rw [h1, h2]; simp
set_option maxHeartbeats 1000000 in
theorem AHas_any (a : Option Addr) (c : Nat) (l : List Seg) (x : UInt32) (w : World) (hl : l.length ≤ 16777216) (hs : Path w a l) :
    Calls Tryz.prog 9 #[.slice a l.length c, .int .u32 (x.toNat : Int)] w fun e w' => e = .returned (.bool (hasS l x)) ∧ Ext w w' := by
  replace hs := hide hs
  go_enter Tryz.func9, Tryz.ntmps9
  go_wp2_with fail
  have hcall := hide (ContainsFunc_any a c l (w.alloc (.cells #[.int .u32 (x.toNat : Int)] 26)) w.heap.size x ((Blk.new w _ _).cell 0) hl (hs.out.ext ((Ext.refl _).alloc _)))
  refine hcall.out.mono ?_
  rintro e w1 ⟨rfl, he1⟩
  replace he1 := hide he1
  go_wp2
  go_ret
  exact ⟨rfl, ((Ext.refl _).alloc _).trans he1.out⟩
end Go.Proofs.YtiappobhljiknaaGreatDoor
