/- Walks: the law's own helpers; works. -/
import Derived.Test.YtiappobhljiknaaDoorW9
namespace Go.Proofs.YtiappobhljiknaaDoor
open Go.RowKit
set_option linter.unusedVariables false

theorem EU32.blk {w : World} {g : Nat} {t : TypeId} (xs : List UInt32) (h : Blk w g t (xs.map fun x => Value.int .u32 (x.toNat : Int)).toArray) : Sl EU32 w (· < w.heap.size) (some ⟨g, 0, none⟩) xs := by
  refine .inr ⟨g, 0, rfl, h.lt, fun k x hx => ⟨[.int .u32 (x.toNat : Int)], ⟨rfl, trivial⟩, fun j u hu => ?_⟩⟩
  match j, hu with
  | 0, hu =>
    simp at hu
    subst hu
    have := h.cell (0 + k * 1 + 0)
    show w.cell? ⟨g, 0 + k * 1 + 0, none⟩ = _
    rw [this]
    simp [hx]
theorem Path.blk {w : World} {g : Nat} {t : TypeId} {cs : Array Value} (l : List Seg) (h : Blk w g t cs)
    (hl : ∀ (k : Nat) (x : Seg), l[k]? = some x → (-9223372036854775808 ≤ x.kind ∧ x.kind ≤ 9223372036854775807) ∧ x.as.length ≤ 16777216 ∧ ∃ a c, cs[k * 2]? = some (.int .i64 x.kind) ∧ cs[k * 2 + 1]? = some (.slice a x.as.length c) ∧ Sl EU32 w (· < w.heap.size) a x.as) : Path w (some ⟨g, 0, none⟩) l := by
  refine .inr ⟨g, 0, rfl, h.lt, fun k x hx => ?_⟩
  obtain ⟨hb, hm, a, c, h0, h1, hs⟩ := hl k x hx
  refine ⟨[.int .i64 x.kind, .slice a x.as.length c], ⟨[.int .i64 x.kind], [.slice a x.as.length c], rfl, ⟨rfl, hb⟩, a, c, rfl, hm, hs⟩, fun j u hu => ?_⟩
  have hc : ∀ j, w.cell? ⟨g, 0 + k * ESeg.sz + j, none⟩ = cs[k * 2 + j]? := fun j => by
    have := h.cell (k * 2 + j)
    rw [show 0 + k * ESeg.sz + j = k * 2 + j by show 0 + k * 2 + j = _; omega]
    exact this
  rw [hc]
  match j, hu with
  | 0, hu => simpa using h0.trans hu
  | 1, hu => simpa using h1.trans hu

theorem seg_any (k : Int) (a : Option Addr) (n c : Nat) (w : World) :
    Calls Tryd.prog 48 #[.int .i64 k, .slice a n c] w fun e w' => e = .returned (.agg #[.int .i64 k, .slice a n c]) ∧ Ext w w' := by
  go_enter Tryd.func48, Tryd.ntmps48
  go_wp2
  exact bodyPost_ret (v := .agg #[.int .i64 k, .slice a n c]) (by simp [results, Tryd.results48, go_sem]) rfl ⟨rfl, (Ext.refl _).alloc _⟩

def wl : List Seg := [⟨2, [1, 70000]⟩, ⟨1, [3]⟩]
theorem wl_text : textS wl = ⟨#[60, 49, 32, 55, 48, 48, 48, 48, 62, 32, 123, 51, 125]⟩ := by decide +kernel
theorem wl_enc : encS (wl.take 1) false = ⟨#[2, 2, 0, 1, 91, 160]⟩ := by decide +kernel
theorem wl_len : lenS wl = 3 := by decide +kernel
theorem wl_chk : chk wl = true := by decide +kernel
theorem wl_chk1 : chk (wl.take 1) = true := by decide +kernel

set_option maxRecDepth 20000 in
set_option maxHeartbeats 4000000 in
theorem works_any (w : World) (htab : Tab w) : Calls Tryd.prog 18 #[] w fun e w' => e = .returned (.bool true) ∧ Ext w w' := by
  replace htab := hide htab
  go_enter Tryd.func18, Tryd.ntmps18
  go_wp2_with fail
  have bA := Blk.new w 31 #[.int .u32 1, .int .u32 70000]
  generalize hWA : w.alloc (Obj.cells #[Value.int .u32 1, Value.int .u32 70000] 31) = WA at bA ⊢
  have eA : Ext w WA := by rw [← hWA]; exact (Ext.refl _).alloc _
  clear hWA
  refine (seg_any _ _ _ _ _).mono ?_
  rintro e w1 ⟨rfl, he1⟩
  have b1 := bA.ext he1
  have e1 := hide (eA.trans he1)
  clear he1 bA eA
  replace b1 := hide b1
  go_wp2_with fail
  have bB := Blk.new w1 31 #[.int .u32 3]
  have bC := b1.out.alloc (Obj.cells #[.int .u32 3] 31)
  generalize hWB : w1.alloc (Obj.cells #[Value.int .u32 3] 31) = WB at bB bC ⊢
  have eB : Ext w1 WB := by rw [← hWB]; exact (Ext.refl _).alloc _
  clear hWB
  refine (seg_any _ _ _ _ _).mono ?_
  rintro e w2 ⟨rfl, he2⟩
  have b2 := hide (bB.ext he2)
  have b3 := hide (bC.ext he2)
  have e2 := hide ((e1.out.trans eB).trans he2)
  clear he2 bB bC eB
  go_wp2_with fail
  have b4 := Blk.new w2 48 #[.int .i64 2, .slice (some ⟨w.heap.size, 0, none⟩) 2 2, .int .i64 1, .slice (some ⟨w1.heap.size, 0, none⟩) 1 1]
  have b5 := b2.out.alloc (Obj.cells #[.int .i64 2, .slice (some ⟨w.heap.size, 0, none⟩) 2 2, .int .i64 1, .slice (some ⟨w1.heap.size, 0, none⟩) 1 1] 48)
  have b6 := b3.out.alloc (Obj.cells #[.int .i64 2, .slice (some ⟨w.heap.size, 0, none⟩) 2 2, .int .i64 1, .slice (some ⟨w1.heap.size, 0, none⟩) 1 1] 48)
  generalize hWC : w2.alloc (Obj.cells #[.int .i64 2, .slice (some ⟨w.heap.size, 0, none⟩) 2 2, .int .i64 1, .slice (some ⟨w1.heap.size, 0, none⟩) 1 1] 48) = WC at b4 b5 b6 ⊢
  have eC : Ext w WC := by rw [← hWC]; exact e2.out.alloc _
  clear hWC
  have hp : Path WC (some ⟨w2.heap.size, 0, none⟩) wl := by
    refine Path.blk wl b4 fun k x hx => ?_
    match k, hx with
    | 0, hx =>
      obtain rfl : (⟨2, [1, 70000]⟩ : Seg) = x := by simpa [wl] using hx
      exact ⟨by decide, by simp, _, _, rfl, rfl, EU32.blk [1, 70000] b6⟩
    | 1, hx =>
      obtain rfl : (⟨1, [3]⟩ : Seg) = x := by simpa [wl] using hx
      exact ⟨by decide, by simp, _, _, rfl, rfl, EU32.blk [3] b5⟩
  clear b4 b5 b6 b1 b2 b3 e1 e2
  replace eC := hide eC
  replace hp := hide hp
  have hT := AText_any (some ⟨w2.heap.size, 0, none⟩) 2 wl WC (by decide) hp.out (htab.out.ext eC.out)
  rw [wl_text, wl_chk] at hT
  change Calls _ _ #[.slice (some ⟨w2.heap.size, 0, none⟩) 2 2] _ _ at hT
  refine hT.mono ?_
  rintro e w3 ⟨rfl, he3⟩
  clear hT
  simp only [errOf_t]
  have p3 := hide (hp.out.ext he3)
  have e3 := hide (eC.out.trans he3)
  clear he3
  go_wp2_with fail
  have hN := AEncode_any (some ⟨w2.heap.size, 0, none⟩) 2 (wl.take 1) false w3 (by decide) (p3.out.take 1)
  rw [wl_enc, wl_chk1] at hN
  change Calls _ _ #[.slice (some ⟨w2.heap.size, 0, none⟩) 1 2, .bool false] _ _ at hN
  refine hN.mono ?_
  rintro e w4 ⟨rfl, he4⟩
  clear hN
  simp only [errOf_t]
  have p4 := hide (p3.out.ext he4)
  have e4 := hide (e3.out.trans he4)
  clear he4
  go_wp2_with fail
  have hL := Length_any (some ⟨w2.heap.size, 0, none⟩) 2 wl w4 (by decide) p4.out
  rw [wl_len] at hL
  change Calls _ _ #[.slice (some ⟨w2.heap.size, 0, none⟩) 2 2] _ _ at hL
  refine hL.mono ?_
  rintro e w5 ⟨rfl, he5⟩
  clear hL
  have e5 := hide (e4.out.trans he5)
  clear he5
  go_wp2
  go_ret
  exact ⟨rfl, e5.out⟩

set_option maxHeartbeats 1000000 in
theorem cut_any (a : Option Addr) (c : Nat) (l : List Seg) (w : World) (hl : l.length ≤ 16777216) (hc : l.length ≤ c) :
    Calls Tryd.prog 11 #[.slice a l.length c] w fun e w' => e = .returned (.slice a (l.take 20).length c) ∧ w = w' := by
  have e : (l.take 20).length = min l.length 20 := by simp [Nat.min_comm]
  rw [e]
  go_enter Tryd.func11, Tryd.ntmps11
  go_wp2
  go_ret
  refine ⟨?_, rfl⟩
  show Ending.returned (.slice a (min (l.length : Int) 20).toNat c) = _
  rw [show (min (l.length : Int) 20).toNat = min l.length 20 by omega]
end Go.Proofs.YtiappobhljiknaaDoor
