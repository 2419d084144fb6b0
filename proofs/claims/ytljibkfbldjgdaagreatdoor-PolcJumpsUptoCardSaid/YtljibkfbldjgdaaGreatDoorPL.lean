/- The library's reading of texts: cut, split, numerals that are read. -/
import Derived.Test.YtljibkfbldjgdaaGreatDoorShelf2
import Derived.Test.YtljibkfbldjgdaaGreatDoorLib
import Derived.Test.YtljibkfbldjgdaaGreatDoorP1
import Derived.Test.YtljibkfbldjgdaaGreatDoorPN
import Derived.Lib.UnsafeStr
namespace Go.Proofs.YtljibkfbldjgdaaGreatDoor
open Go.RowKit
set_option linter.unusedVariables false

/-- The library's variables that are read: a bound on lengths, the two errors of a numeral. -/
structure Vars (w : World) : Prop where
  max : ∃ m : Int, w.cell? ⟨2, 0, none⟩ = some (.int .i64 m)
  es : ∃ t p, w.cell? ⟨5, 0, none⟩ = some (.iface t p)
  er : ∃ t p, w.cell? ⟨6, 0, none⟩ = some (.iface t p)
theorem Vars.ext {w w' : World} (h : Vars w) (he : Ext w w') : Vars w' :=
  ⟨let ⟨m, hm⟩ := h.max; ⟨m, he.cell hm⟩, let ⟨t, p, hm⟩ := h.es; ⟨t, p, he.cell hm⟩, let ⟨t, p, hm⟩ := h.er; ⟨t, p, he.cell hm⟩⟩
theorem ba_list (s : ByteArray) : (⟨s.data.toList.toArray⟩ : ByteArray) = s := by cases s; simp
theorem Cut_any (s : List UInt8) (c : UInt8) (w : World) (hV : Vars w) (hs : s.length ≤ 1048576) :
    Calls Tryz.prog 138 #[.string ⟨s.toArray⟩, .string ⟨#[c]⟩] w fun e w' => e = .returned (.tuple #[.string ⟨(Lib.cut s [c]).1.toArray⟩, .string ⟨(Lib.cut s [c]).2.1.toArray⟩, .bool (Lib.cut s [c]).2.2]) ∧ Drew w w' := by
  obtain ⟨m, hm⟩ := hV.max
  refine (Tryz.strings_Cut ⟨s.toArray⟩ ⟨#[c]⟩ m w (by simp [ByteArray.size]; omega) hm).mono ?_
  rintro e w' ⟨rfl, n, rfl⟩
  exact ⟨rfl, (Drew.refl _).more n⟩
theorem Split_any (s : List UInt8) (c : UInt8) (w : World) (hV : Vars w) (hs : s.length ≤ 1048576) :
    Calls Tryz.prog 45 #[.string ⟨s.toArray⟩, .string ⟨#[c]⟩] w fun e w' => ∃ d, (spl c s).length ≤ d ∧ e = .returned (.slice (some ⟨w.heap.size, 0, none⟩) (spl c s).length d) ∧ Ext w w' ∧ ∀ k, (h : k < (spl c s).length) → w'.cell? ⟨w.heap.size, k, none⟩ = some (.string ⟨(spl c s)[k].toArray⟩) := by
  obtain ⟨m, hm⟩ := hV.max
  have hm2 : (Lib.splitB ⟨#[c]⟩ 0 (Lib.countB ⟨s.toArray⟩ ⟨#[c]⟩) ⟨s.toArray⟩).map (·.data.toList) = spl c s := Lib.splitB_data _ _ _ _
  have hlen : Lib.countB ⟨s.toArray⟩ ⟨#[c]⟩ + 1 = (spl c s).length := by
    rw [← hm2, List.length_map]
    exact (Lib.splitB_all ⟨#[c]⟩ (Nat.le_refl 1) _ _ _ rfl).symm
  refine (Tryz.strings_Split ⟨s.toArray⟩ ⟨#[c]⟩ m w (by simp [ByteArray.size]; omega) hm (Nat.le_refl 1)).mono ?_
  rintro e w' ⟨rfl, rfl⟩
  refine ⟨_, Nat.le_of_eq hlen.symm, by rw [hlen], (Ext.refl _).alloc _, fun k h => ?_⟩
  rw [(Blk.new w 9 _).cell k]
  have hk : k < (Lib.splitB ⟨#[c]⟩ 0 (Lib.countB ⟨s.toArray⟩ ⟨#[c]⟩) ⟨s.toArray⟩).length := by
    have := congrArg List.length hm2
    rw [List.length_map] at this
    omega
  have he := congrArg (fun l => l[k]?) hm2
  simp only [List.getElem?_map, List.getElem?_eq_getElem hk, List.getElem?_eq_getElem h, Option.map_some, Option.some.injEq] at he
  rw [List.getElem?_toArray, List.getElem?_map, List.getElem?_eq_getElem hk, ← he]
  rw [ba_list]
  rfl
theorem ext_bytes (w : World) (t : TypeId) (s : ByteArray) : Ext w (Lib.bytesWorld w t s) := ext_bytesWorld w t s
theorem PU64_ok (s : List UInt8) (u : Nat) (w : World) (hs : s.length ≤ 1048576) (hp : Lib.parseUintB 64 s = .ok u) :
    Calls Tryz.prog 137 #[.string ⟨s.toArray⟩, .int .i64 10, .int .i64 64] w fun e w' => e = .returned (.tuple #[.int .u64 u, .nilIface]) ∧ Ext w w' := by
  refine (Any.strconv_ParseUint_10_at64_ok Tryz.laysPu14 ⟨s.toArray⟩ (by simp [ByteArray.size]; omega) u hp w).mono ?_
  rintro e w' ⟨rfl, hw⟩
  refine ⟨rfl, ?_⟩
  rcases hw with rfl | rfl
  · exact Ext.refl _
  · exact ext_bytes _ _ _
theorem PU8_ok (s : List UInt8) (u : Nat) (w : World) (hs : s.length ≤ 1048576) (hp : Lib.parseUintB 8 s = .ok u) :
    Calls Tryz.prog 137 #[.string ⟨s.toArray⟩, .int .i64 10, .int .i64 8] w fun e w' => e = .returned (.tuple #[.int .u64 u, .nilIface]) ∧ Ext w w' := by
  refine (Any.strconv_ParseUint_10_at8_ok Tryz.laysPu14 ⟨s.toArray⟩ (by simp [ByteArray.size]; omega) u hp w).mono ?_
  rintro e w' ⟨rfl, hw⟩
  refine ⟨rfl, ?_⟩
  rcases hw with rfl | rfl
  · exact Ext.refl _
  · exact ext_bytes _ _ _
set_option maxRecDepth 20000 in
theorem number_ok (s : List UInt8) (bits : Int) (u : Nat) (w : World) (hb : bits = 8 ∨ bits = 64) (hs : s.length ≤ 1048576) (hp : Lib.parseUintB bits.toNat s = .ok u) (hu : u < 18446744073709551616) (hc : Lib.decDigits u = s) (hT : Tab w) :
    Calls Tryz.prog 139 #[.string ⟨s.toArray⟩, .int .i64 10, .int .i64 bits] w fun e w' => e = .returned (.tuple #[.int .u64 u, .bool true]) ∧ Ext w w' := by
  have hpu : ∀ W, Calls Tryz.prog 137 #[.string ⟨s.toArray⟩, .int .i64 10, .int .i64 bits] W fun e w' => e = .returned (.tuple #[.int .u64 u, .nilIface]) ∧ Ext W w' := by
    rcases hb with rfl | rfl
    · exact fun W => PU8_ok s u W hs hp
    · exact fun W => PU64_ok s u W hs hp
  have hf := fun W hT => FormatUint_any u hu W hT
  have hd : dec u = ⟨s.toArray⟩ := by unfold dec; rw [hc]
  rw [hd] at hf
  replace hpu := hide hpu
  replace hf := hide hf
  replace hd := hide hd
  replace hc := hide hc
  replace hp := hide hp
  replace hT := hide hT
  replace hu := hide hu
  clear hb
  go_enter Tryz.func139, Tryz.ntmps139
  go_wp2_with fail
  refine (hpu.out _).mono ?_
  rintro e w1 ⟨rfl, he1⟩
  replace he1 := hide he1
  go_wp2_with fail
  refine (hf.out _ (hT.out.ext he1.out)).mono ?_
  rintro e w2 ⟨rfl, he2⟩
  replace he2 := hide he2
  go_wp2
  go_ret2
  exact ⟨rfl, he1.out.trans he2.out⟩
end Go.Proofs.YtljibkfbldjgdaaGreatDoor
