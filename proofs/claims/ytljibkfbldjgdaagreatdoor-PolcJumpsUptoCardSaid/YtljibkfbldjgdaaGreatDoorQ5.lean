/- Walks: a number's digits to the base 16, by the library. -/
import Derived.Test.YtljibkfbldjgdaaGreatDoorLib
import Derived.Test.YtljibkfbldjgdaaGreatDoorPN
import Derived.Test.YtljibkfbldjgdaaGreatDoorPG
namespace Go.Proofs.YtljibkfbldjgdaaGreatDoor
open Go.RowKit Go.Sort
set_option linter.unusedVariables false

/-- The library's table of zeros' counts, at the place that 16 asks. -/
def Deb (w : World) : Prop := w.cell? ⟨8, 15, none⟩ = some (.int .u8 4)
theorem Deb.ext {w w' : World} (h : Deb w) (he : Ext w w') : Deb w' := he.cell h
set_option maxRecDepth 20000 in
theorem TZ64_16 (w : World) (hD : Deb w) : Calls Tryz.prog 194 #[.int .u64 16] w fun e w' => e = .returned (.int .i64 4) ∧ w = w' := by
  unfold Deb at hD
  have e1 : IntKind.u64.wrap (bits BinOp.and IntKind.u64 16 (IntKind.u64.wrap (-16)) * 285870213051353865) / 288230376151711744 = 15 := by decide +kernel
  go_enter Tryz.func194, Tryz.ntmps194
  go_wp2
  go_ret
  exact ⟨rfl, rfl⟩
set_option maxRecDepth 20000 in
theorem TZ_16 (w : World) (hD : Deb w) : Calls Tryz.prog 181 #[.int .u64 16] w fun e w' => e = .returned (.int .i64 4) ∧ w = w' := by
  have q := TZ64_16 w hD
  replace q := hide q
  go_enter Tryz.func181, Tryz.ntmps181
  go_wp2_with fail
  refine q.out.mono ?_
  rintro e w1 ⟨rfl, rfl⟩
  go_wp2
  go_ret
  exact ⟨rfl, rfl⟩
set_option maxRecDepth 20000 in
theorem Pow2_16 (w : World) : Calls Tryz.prog 180 #[.int .i64 16] w fun e w' => e = .returned (.bool true) ∧ w = w' := by
  go_enter Tryz.func180, Tryz.ntmps180
  go_wp2
  go_ret
  exact ⟨rfl, rfl⟩
def cB (L : List UInt8) : Array Value := (L.map fun b => Value.int .u8 (b.toNat : Int)).toArray
theorem cB_set (L : List UInt8) (i : Nat) (b : UInt8) : (cB L).setIfInBounds i (.int .u8 (b.toNat : Int)) = cB (L.set i b) := by
  unfold cB
  simp [List.map_set]
theorem cB_at (L : List UInt8) (i : Nat) (h : i < L.length) : (cB L)[i]? = some (.int .u8 (L[i].toNat : Int)) := by
  unfold cB
  simp [h]
def digS36 : ByteArray := ⟨#[48, 49, 50, 51, 52, 53, 54, 55, 56, 57, 97, 98, 99, 100, 101, 102, 103, 104, 105, 106, 107, 108, 109, 110, 111, 112, 113, 114, 115, 116, 117, 118, 119, 120, 121, 122]⟩
theorem dig_at : ∀ d : Fin 16, (digS36.data[d.val]'(by have := d.isLt; show _ < 36; omega)) = dgt d.val := by decide +kernel
theorem dig_index (d : Nat) (h : d < 16) (W : World) : (Instr.index 9 (.string digS36) (.int .u64 (d : Int))).run Tryz.prog W = .ok (.int .u8 ((dgt d).toNat : Int)) W := by
  have h1 := dig_at ⟨d, h⟩
  have h2 : d < digS36.size := by show d < 36; omega
  simp only [] at h1
  go_simp
  exact congrArg (fun b : UInt8 => (b.toNat : Int)) h1
theorem and_15 (u : Nat) (h : u < 65536) : bits .and .u64 (u : Int) 15 = ((u % 16 : Nat) : Int) := by
  have := (bits_nat .u64 16 (by decide) (fun n h1 h2 => by rw [IntKind.wrap_u64]; have : n < 65536 := h2; omega) u 15 h (by decide)).1
  rw [show (15 : Nat) = 2 ^ 4 - 1 by decide, Nat.and_two_pow_sub_one_eq_mod] at this
  exact this
set_option maxRecDepth 20000 in
theorem FB16 (u0 : Nat) (h0 : u0 < 65536) (w : World) (hD : Deb w) :
    Calls Tryz.prog 160 #[.slice none 0 0, .int .u64 (u0 : Int), .int .i64 16, .bool false, .bool false] w fun e w' => e = .returned (.tuple #[.slice none 0 0, .string ⟨(digS 16 u0).toArray⟩]) ∧ Ext w w' := by
  have q1 := fun W => Pow2_16 W
  have q2 := fun W hD => TZ_16 W hD
  replace q1 := hide q1
  replace q2 := hide q2
  replace hD := hide hD
  replace h0 := hide h0
  go_enter Tryz.func160, Tryz.ntmps160
  have hA : Blk (w.alloc (Obj.cells Tryz.zeroCells232 232)) w.heap.size 232 (cB (List.replicate 65 0)) := by
    rw [show cB (List.replicate 65 0) = Tryz.zeroCells232 by kernel_rfl]
    exact Blk.new _ _ _
  have hE : Ext w (w.alloc (Obj.cells Tryz.zeroCells232 232)) := (Ext.refl w).alloc _
  generalize hg : w.heap.size = g at hA
  have hgw : w.heap.size ≤ g := Nat.le_of_eq hg
  generalize hW : w.alloc (Obj.cells Tryz.zeroCells232 232) = W at hA hE
  replace hA := hide hA
  replace hE := hide hE
  replace hgw := hide hgw
  go_wp2_with fail
  refine (q1.out _).mono ?_
  rintro e w1 ⟨rfl, rfl⟩
  clear hW hg
  go_wp2_with fail
  refine (q2.out _ (hD.out.ext hE.out)).mono ?_
  rintro e w1 ⟨rfl, rfl⟩
  go_wp2
  go_loopw [1, 13] (fun v i wr => ∃ (u k : Nat) (L : List UInt8), v = .int .u64 (u : Int) ∧ i = .int .i64 (k : Int) ∧ 62 ≤ k ∧ k ≤ 65 ∧ u < 16 ^ (k - 61) ∧ L.length = 65 ∧ digS 16 u0 = digS 16 u ++ L.drop k ∧ Blk wr g 232 (cB L) ∧ Ext w wr) (fun v _ _ => (intOf v).toNat)
  case atStart => exact ⟨u0, 65, List.replicate 65 0, rfl, rfl, by decide, by decide, h0.out, rfl, by simp, hA.out, hE.out⟩
  case round =>
    clear hA hE
    obtain ⟨u, k, L, rfl, rfl, hk1, hk2, hu, hL, hdig, hA, hE⟩ := hrel
    obtain ⟨k, rfl⟩ : ∃ j, k = j + 1 := ⟨k - 1, by omega⟩
    have hd16 : u % 16 < 16 := Nat.mod_lt _ (by decide)
    have hx := fun W => dig_index (u % 16) hd16 W
    unfold digS36 at hx
    have hand := and_15 u (Nat.lt_of_lt_of_le hu (Nat.pow_le_pow_right (by decide) (show k + 1 - 61 ≤ 4 by omega)))
    have e0 : ((k + 1 : Nat) : Int) - 1 = (k : Int) := by omega
    have hkL : k < L.length := by omega
    have c1 : wr.cell? ⟨g, k, none⟩ = some (.int .u8 (L[k].toNat : Int)) := (hA.cell k).trans (cB_at L k hkL)
    have f1 := fun i => hA.frozen i
    have hA2 := hA.set_ k (.int .u8 ((dgt (u % 16)).toNat : Int))
    rw [cB_set] at hA2
    have hE2 := hE.setCell (p := ⟨g, k, none⟩) hgw.out (.int .u8 ((dgt (u % 16)).toNat : Int))
    have hbk : (k : Int) < 65 := by omega
    have hbk2 : k < 65 := by omega
    have w1 : IntKind.i64.wrap (k : Int) = (k : Int) := by rw [IntKind.wrap_i64]; omega
    by_cases hlt : 16 ≤ u
    · have b1 : decide ((16 : Int) ≤ (u : Int)) = true := decide_eq_true (by omega)
      have hdig2 : digS 16 u0 = digS 16 (u / 16) ++ (L.set k (dgt (u % 16))).drop k := by
        rw [hdig, digS_big (by decide) hlt, List.append_assoc]
        congr 1
        rw [List.drop_eq_getElem_cons (show k < (L.set k (dgt (u % 16))).length by simp; exact hkL), List.getElem_set_self, List.drop_set_of_lt (by omega)]
        rfl
      have hu2 : u / 16 < 16 ^ (k - 61) := by
        rw [show k + 1 - 61 = (k - 61) + 1 by omega, Nat.pow_succ] at hu
        omega
      have hk62 : 62 ≤ k := by
        rcases Nat.lt_or_ge k 62 with h | h
        · obtain rfl : k = 61 := by omega
          simp at hu; omega
        · exact h
      have hsh : (u : Int) / 16 = ((u / 16 : Nat) : Int) := rfl
      generalize hvv : u / 16 = v at hsh hdig2 hu2
      have hvlt : v < u := by omega
      replace hvlt := hide hvlt
      replace hvv := hide hvv
      generalize u % 16 = d at hx hand hd16 hA2 hE2 hdig2
      generalize hdg : dgt d = c at hx hA2 hE2 hdig2
      replace hu := hide hu
      replace hdig := hide hdig
      replace hA := hide hA
      replace hE := hide hE
      replace hA2 := hide hA2
      replace hE2 := hide hE2
      replace hdig2 := hide hdig2
      replace hu2 := hide hu2
      replace hdg := hide hdg
      go_wp2
      exact ⟨⟨v, k, L.set k c, rfl, rfl, hk62, by omega, hu2.out, by simp [hL], hdig2.out, hA2.out, hE2.out⟩, by simp [intOf]; exact hvlt.out⟩
    · have b1 : decide ((16 : Int) ≤ (u : Int)) = false := decide_eq_false (by omega)
      have hue : u % 16 = u := Nat.mod_eq_of_lt (by omega)
      rw [hue] at hx hA2 hE2
      clear hand hue
      have hdig2 : digS 16 u0 = (L.set k (dgt u)).drop k := by
        rw [hdig, digS_small (by omega), List.drop_eq_getElem_cons (show k < (L.set k (dgt u)).length by simp; exact hkL), List.getElem_set_self, List.drop_set_of_lt (by omega)]
        rfl
      have hal : Tryz.prog.arrayLen 232 = 65 := by simp [Program.arrayLen, Tryz.underlying232]
      have hlen : ((L.set k (dgt u)).drop k).length = 65 - k := by simp [hL]
      have hsl : ∀ W, (Instr.sliceAt 232 (.pointer (some ⟨g, 0, none⟩)) (some (.int .i64 (k : Int))) none none).run Tryz.prog W = .ok (.slice (some ⟨g, k, none⟩) (65 - k) (65 - k)) W := fun W => by
        rw [run_sliceAt_array_l W 232 ⟨g, 0, none⟩ (by simp [Program.arrayLen, Program.elem, Tryz.underlying232]) .i64 (k : Int) (by omega) (by rw [hal]; omega)]
        go_simp
        omega
      generalize hV : wr.setCell ⟨g, k, none⟩ (.int .u8 ((dgt u).toNat : Int)) = V at hA2 hE2
      have hcv : (convert 148 9 (.slice (some ⟨g, k, none⟩) (65 - k) (65 - k))).run Tryz.prog V = .ok (.string ⟨(digS 16 u0).toArray⟩) V := by
        have h := run_convert_bytes_back (P := Tryz.prog) V 148 9 5 ⟨g, k, none⟩ (65 - k) ((L.set k (dgt u)).drop k) Tryz.underlying148 Tryz.underlying5 Tryz.underlying9 (fun j hj => by
          rw [add_lit, hA2.cell, cB_at _ _ (by rw [hlen] at hj; simp [hL]; omega)]
          congr 4
          rw [List.getElem_drop])
        rw [hlen, ← hdig2] at h
        exact h
      generalize 65 - k = N at hsl hcv
      replace hdig := hide hdig
      replace hA := hide hA
      replace hE := hide hE
      replace hA2 := hide hA2
      replace hE2 := hide hE2
      replace hdig2 := hide hdig2
      replace hlen := hide hlen
      replace hu := hide hu
      clear hal
      go_wp2
      go_ret2
      exact ⟨rfl, hE2.out⟩
set_option maxRecDepth 20000 in
theorem IFormat16 (u : Nat) (h : u < 65536) (w : World) (hD : Deb w) :
    Calls Tryz.prog 128 #[.int .u64 (u : Int), .int .i64 16] w fun e w' => e = .returned (.string ⟨(digS 16 u).toArray⟩) ∧ Ext w w' := by
  have q := FB16 u h w hD
  generalize digS 16 u = r at q ⊢
  replace q := hide q
  replace h := hide h
  replace hD := hide hD
  go_enter Tryz.func128, Tryz.ntmps128
  go_wp2_with fail
  refine q.out.mono ?_
  rintro e w1 ⟨rfl, he⟩
  replace he := hide he
  go_wp2
  go_ret
  exact ⟨rfl, he.out⟩
set_option maxRecDepth 20000 in
theorem Format16 (u : Nat) (h : u < 65536) (w : World) (hD : Deb w) :
    Calls Tryz.prog 87 #[.int .u64 (u : Int), .int .i64 16] w fun e w' => e = .returned (.string ⟨(digS 16 u).toArray⟩) ∧ Ext w w' := by
  have q := IFormat16 u h w hD
  generalize digS 16 u = r at q ⊢
  replace q := hide q
  replace h := hide h
  replace hD := hide hD
  go_enter Tryz.func87, Tryz.ntmps87
  go_wp2_with fail
  refine q.out.mono ?_
  rintro e w1 ⟨rfl, he⟩
  replace he := hide he
  go_wp2
  go_ret
  exact ⟨rfl, he.out⟩
end Go.Proofs.YtljibkfbldjgdaaGreatDoor
