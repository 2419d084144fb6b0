/- Walks: an address with its first bits alone. -/
import Derived.Test.YtoghdmoldcjedaaGreatDoorP4
import Derived.Shelf.RegionOpenPlain
namespace Go.Proofs.YtoghdmoldcjedaaGreatDoor
open Go.RowKit
set_option linter.unusedVariables false

theorem shl255 (l : Nat) (h1 : 1 ≤ l) (h7 : l ≤ 7) (x : UInt8) (X : Int) (hX : X = ((256 - 2 ^ (8 - l) : Nat) : Int)) : bits .and .u8 (x.toNat : Int) X = ((maskB (l : Int) x).toNat : Int) := by
  have hp : 2 ^ (8 - l) ≤ 2 ^ 7 := Nat.pow_le_pow_right (by omega) (by omega)
  have hp0 : 0 < 2 ^ (8 - l) := Nat.two_pow_pos _
  rw [hX, u8_and_nat _ _ x.toNat_lt (by omega), mask_and l h1 h7 x]

set_option maxRecDepth 20000 in
set_option maxHeartbeats 1000000 in
theorem masked_any (a : List UInt8) (n : Int) (w : World) (ha : a.length ≤ 16) (ha0 : 0 < a.length) (h1 : 0 ≤ n) (h2 : n ≤ 128) :
    Calls Tryz.prog 104 #[.string ⟨a.toArray⟩, .int .i64 n] w fun e w' => e = .returned (.string ⟨(maskS a n).toArray⟩) ∧ Ext w w' := by
  have mixed : Tryz.prog.follows Departure.mixedOrders = true := by kernel_rfl
  have hz : (ByteArray.mk a.toArray).size = a.length := by simp [ByteArray.size]
  have kc := fun (w : World) => Lib.run_convert_string_bytes (P := Tryz.prog) w 9 62 5 ⟨a.toArray⟩ Tryz.underlying9 Tryz.underlying62 Tryz.underlying5
  go_enter Tryz.func104, Tryz.ntmps104
  go_wp2
  have hcv := OwnB.conv (w := w) (e := 5) ⟨a.toArray⟩ (by unfold maxLen; omega)
  have hEc := ext_bytesWorld w 5 ⟨a.toArray⟩
  rw [hz] at hcv
  generalize hc : grownCap w a.length 0 5 = cp at hcv ⊢
  generalize hW : Lib.bytesWorld w 5 ⟨a.toArray⟩ = W1 at hcv hEc
  replace hc := hide hc
  replace hW := hide hW
  clear kc
  go_loopw [12] (fun q wr => ∃ k : Nat, k ≤ a.length ∧ q = .int .i64 k ∧ OwnB 5 wr w.heap.size (.slice (some ⟨w.heap.size, 0, none⟩) a.length cp) (maskK a n k) ∧ Ext w wr) (fun q _ => a.length - (intOf q).toNat)
  case atStart => exact ⟨0, Nat.zero_le _, rfl, by rw [maskK_zero]; simpa [hz] using hcv, hEc⟩
  case round =>
    clear hcv hEc hW hc W1
    obtain ⟨k, hk, rfl, hown, hE⟩ := hrel
    rename World => W0
    by_cases hlt : k < a.length
    · obtain ⟨x1, f1⟩ := hown.cell rfl k (by rw [maskK_len _ _ _ hk]; exact hlt)
      have hx : (maskK a n k)[k]'(by rw [maskK_len _ _ _ hk]; exact hlt) = a[k] := by
        have := maskK_at a n k hlt
        rw [List.getElem?_eq_getElem (by rw [maskK_len _ _ _ hk]; exact hlt)] at this
        exact Option.some.inj this
      rw [hx] at x1
      have hset := hown.set k (maskB (n - 8 * (k : Int)) a[k])
      rw [maskK_set a n k hlt] at hset
      have hEs := hE.setCell (p := ⟨w.heap.size, k, none⟩) (Nat.le_refl _) (.int .u8 ((maskB (n - 8 * (k : Int)) a[k]).toNat : Int))
      clear hx
      rcases (show n - 8 * (k : Int) ≤ 0 ∨ 8 ≤ n - 8 * (k : Int) ∨ ∃ l : Nat, 1 ≤ l ∧ l ≤ 7 ∧ n = 8 * (k : Int) + l from by
        by_cases h : n - 8 * (k : Int) ≤ 0
        · exact .inl h
        · by_cases h' : 8 ≤ n - 8 * (k : Int)
          · exact .inr (.inl h')
          · exact .inr (.inr ⟨(n - 8 * (k : Int)).toNat, by omega, by omega, by omega⟩)) with hl | hl | ⟨l, hl1, hl7, hnl⟩
      · have hb : (maskB (n - 8 * (k : Int)) a[k]).toNat = 0 := by unfold maskB; rw [if_pos hl]; rfl
        rw [hb] at hset hEs
        replace hset := hide hset
        replace hEs := hide hEs
        replace hown := hide hown
        replace hE := hide hE
        replace hb := hide hb
        go_wp2
        go_roundw
        case rel => exact ⟨k + 1, by omega, by go_num, hset.out, hEs.out⟩
        case measure => simp [intOf]; omega
      · have hsk := maskK_skip a n k hlt hl
        rw [hsk] at hown
        replace hset := hide hset
        replace hEs := hide hEs
        replace hown := hide hown
        replace hE := hide hE
        replace hsk := hide hsk
        go_wp2
        go_roundw
        case rel => exact ⟨k + 1, by omega, by go_num, hown.out, hE.out⟩
        case measure => simp [intOf]; omega
      · have hbm := fun X hX => shl255 l hl1 hl7 a[k] X hX
        rw [show n - 8 * (k : Int) = (l : Int) by omega] at hset hEs
        generalize maskB (l : Int) a[k] = y at hbm hset hEs
        replace hset := hide hset
        replace hEs := hide hEs
        replace hown := hide hown
        replace hE := hide hE
        rcases (show (l = 1 ∧ n - 8 * (k : Int) = 1) ∨ (l = 2 ∧ n - 8 * (k : Int) = 2) ∨ (l = 3 ∧ n - 8 * (k : Int) = 3) ∨ (l = 4 ∧ n - 8 * (k : Int) = 4) ∨ (l = 5 ∧ n - 8 * (k : Int) = 5) ∨ (l = 6 ∧ n - 8 * (k : Int) = 6) ∨ (l = 7 ∧ n - 8 * (k : Int) = 7) by omega) with ⟨rfl, hnl2⟩ | ⟨rfl, hnl2⟩ | ⟨rfl, hnl2⟩ | ⟨rfl, hnl2⟩ | ⟨rfl, hnl2⟩ | ⟨rfl, hnl2⟩ | ⟨rfl, hnl2⟩
        all_goals
          replace hbm := hide hbm
          have gw1 : IntKind.i64.wrap 1 = 1 := by decide
          have gw2 : IntKind.i64.wrap 2 = 2 := by decide
          have gw3 : IntKind.i64.wrap 3 = 3 := by decide
          have gw4 : IntKind.i64.wrap 4 = 4 := by decide
          have gw5 : IntKind.i64.wrap 5 = 5 := by decide
          have gw6 : IntKind.i64.wrap 6 = 6 := by decide
          have gw7 : IntKind.i64.wrap 7 = 7 := by decide
          replace hnl := hide hnl
          go_wp2
          go_region_law_o (fail)
          go_wp2
          go_roundw
          case rel => exact ⟨k + 1, by omega, by go_num, by rw [hbm.out _ (by decide)]; exact hset.out.kept (fun _ _ => rfl), by rw [hbm.out _ (by decide)]; exact hEs.out.drew⟩
          case measure => simp [intOf]; omega
    · obtain rfl : k = a.length := by omega
      rw [maskK_all] at hown
      have kd := run_stringB (P := Tryz.prog) (src := 62) (dst := 9) Tryz.underlying62 Tryz.underlying5 Tryz.underlying9 hown
      replace hown := hide hown
      go_wp2
      go_ret
      exact ⟨rfl, hE⟩
end Go.Proofs.YtoghdmoldcjedaaGreatDoor
