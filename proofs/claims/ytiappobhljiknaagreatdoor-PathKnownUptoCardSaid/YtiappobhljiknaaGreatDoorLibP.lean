/- The library's reading of texts: cut, split, prefixes, numerals. -/
import Derived.Test.YtiappobhljiknaaGreatDoorShelf2
import Derived.Test.YtiappobhljiknaaGreatDoorA15
import Derived.Test.YtiappobhljiknaaGreatDoorW5
import Derived.Lib.UnsafeStr
namespace Go.Proofs.YtiappobhljiknaaGreatDoor
open Go.RowKit
set_option linter.unusedVariables false

/-- The library's variables that are read: a bound on lengths, the two errors of a numeral. -/
structure Vars (w : World) : Prop where
  max : ∃ m : Int, w.cell? ⟨0, 0, none⟩ = some (.int .i64 m)
  es : ∃ t p, w.cell? ⟨1, 0, none⟩ = some (.iface t p)
  er : ∃ t p, w.cell? ⟨2, 0, none⟩ = some (.iface t p)
theorem Vars.ext {w w' : World} (h : Vars w) (he : Ext w w') : Vars w' :=
  ⟨let ⟨m, hm⟩ := h.max; ⟨m, he.cell hm⟩, let ⟨t, p, hm⟩ := h.es; ⟨t, p, he.cell hm⟩, let ⟨t, p, hm⟩ := h.er; ⟨t, p, he.cell hm⟩⟩

theorem ext_bytes (w : World) (t : TypeId) (s : ByteArray) : Ext w (Lib.bytesWorld w t s) := by
  unfold Lib.bytesWorld
  exact Lib.below_freeze (Below.alloc (Below.drew (Ext.refl w)) (Nat.le_refl _) _) (Nat.le_refl _) _
theorem ba_list (s : ByteArray) : (⟨s.data.toList.toArray⟩ : ByteArray) = s := by cases s; simp
theorem Cut_any (s : List UInt8) (c : UInt8) (w : World) (hV : Vars w) (hs : s.length ≤ 1048576) :
    Calls Tryz.prog 37 #[.string ⟨s.toArray⟩, .string ⟨#[c]⟩] w fun e w' => e = .returned (.tuple #[.string ⟨(Lib.cut s [c]).1.toArray⟩, .string ⟨(Lib.cut s [c]).2.1.toArray⟩, .bool (Lib.cut s [c]).2.2]) ∧ Drew w w' := by
  obtain ⟨m, hm⟩ := hV.max
  refine (Tryz.strings_Cut ⟨s.toArray⟩ ⟨#[c]⟩ m w (by simp [ByteArray.size]; omega) hm).mono ?_
  rintro e w' ⟨rfl, n, rfl⟩
  exact ⟨rfl, (Drew.refl _).more n⟩
theorem Split_any (s : List UInt8) (c : UInt8) (w : World) (hV : Vars w) (hs : s.length ≤ 1048576) :
    Calls Tryz.prog 38 #[.string ⟨s.toArray⟩, .string ⟨#[c]⟩] w fun e w' => ∃ a d, e = .returned (.slice a (spl c s).length d) ∧ Ext w w' ∧ ∀ k, (h : k < (spl c s).length) → ∃ b o, a = some ⟨b, o, none⟩ ∧ w.heap.size ≤ b ∧ w'.cell? ⟨b, o + k, none⟩ = some (.string ⟨(spl c s)[k].toArray⟩) := by
  obtain ⟨m, hm⟩ := hV.max
  have hm2 : (Lib.splitB ⟨#[c]⟩ 0 (Lib.countB ⟨s.toArray⟩ ⟨#[c]⟩) ⟨s.toArray⟩).map (·.data.toList) = spl c s := Lib.splitB_data _ _ _ _
  have hlen : Lib.countB ⟨s.toArray⟩ ⟨#[c]⟩ + 1 = (spl c s).length := by
    rw [← hm2, List.length_map]
    exact (Lib.splitB_all ⟨#[c]⟩ (Nat.le_refl 1) _ _ _ rfl).symm
  refine (Tryz.strings_Split ⟨s.toArray⟩ ⟨#[c]⟩ m w (by simp [ByteArray.size]; omega) hm (Nat.le_refl 1)).mono ?_
  rintro e w' ⟨rfl, rfl⟩
  refine ⟨_, _, by rw [hlen], (Ext.refl _).alloc _, fun k h => ⟨_, 0, rfl, Nat.le_refl _, ?_⟩⟩
  rw [Nat.zero_add, (Blk.new w 9 _).cell k]
  have hk : k < (Lib.splitB ⟨#[c]⟩ 0 (Lib.countB ⟨s.toArray⟩ ⟨#[c]⟩) ⟨s.toArray⟩).length := by
    have := congrArg List.length hm2
    rw [List.length_map] at this
    omega
  have he := congrArg (fun l => l[k]?) hm2
  simp only [List.getElem?_map, List.getElem?_eq_getElem hk, List.getElem?_eq_getElem h, Option.map_some, Option.some.injEq] at he
  rw [List.getElem?_toArray, List.getElem?_map, List.getElem?_eq_getElem hk, ← he]
  rw [ba_list]
  rfl
theorem CutPrefix_yes (r : List UInt8) (w : World) :
    Calls Tryz.prog 33 #[.string ⟨(32 :: r).toArray⟩, .string ⟨#[32]⟩] w fun e w' => e = .returned (.tuple #[.string ⟨r.toArray⟩, .bool true]) ∧ w = w' := by
  refine (Tryz.strings_CutPrefix ⟨(32 :: r).toArray⟩ ⟨#[32]⟩ w).mono ?_
  rintro e w' ⟨rfl, rfl⟩
  have h1 : Lib.hasPrefix (32 :: r) [32] = true := by simp [Lib.hasPrefix, List.isPrefixOf]
  have h2 : Lib.trimPrefix (32 :: r) [32] = r := by unfold Lib.trimPrefix; rw [h1]; rfl
  refine ⟨?_, rfl⟩
  show Ending.returned (.tuple #[.string ⟨(Lib.trimPrefix (32 :: r) [32]).toArray⟩, .bool (Lib.hasPrefix (32 :: r) [32])]) = _
  rw [h1, h2]
theorem CutPrefix_no (s : List UInt8) (w : World) (hs : ∀ r, s ≠ 32 :: r) :
    Calls Tryz.prog 33 #[.string ⟨s.toArray⟩, .string ⟨#[32]⟩] w fun e w' => e = .returned (.tuple #[.string ⟨s.toArray⟩, .bool false]) ∧ w = w' := by
  refine (Tryz.strings_CutPrefix ⟨s.toArray⟩ ⟨#[32]⟩ w).mono ?_
  rintro e w' ⟨rfl, rfl⟩
  have h1 : Lib.hasPrefix s [32] = false := by
    cases s with
    | nil => rfl
    | cons x r =>
      simp only [Lib.hasPrefix, List.isPrefixOf, Bool.and_true, beq_eq_false_iff_ne]
      intro he
      exact hs r (by rw [← he])
  have h2 : Lib.trimPrefix s [32] = s := by unfold Lib.trimPrefix; rw [h1]; rfl
  refine ⟨?_, rfl⟩
  show Ending.returned (.tuple #[.string ⟨(Lib.trimPrefix s [32]).toArray⟩, .bool (Lib.hasPrefix s [32])]) = _
  rw [h1, h2]
theorem PU32_any (s : ByteArray) (w : World) (hV : Vars w) (hs : s.size ≤ 1048576) :
    Calls Tryz.prog 39 #[.string s, .int .i64 10, .int .i64 32] w fun e w' => Ext w w' ∧ ((∃ u : Nat, Lib.parseUintB 32 s.data.toList = .ok u ∧ e = .returned (.tuple #[.int .u64 u, .nilIface])) ∨ ((∀ u, Lib.parseUintB 32 s.data.toList ≠ .ok u) ∧ ∃ z T p, e = .returned (.tuple #[.int .u64 z, .iface T p]))) := by
  obtain ⟨t1, p1, h1⟩ := hV.es
  obtain ⟨t2, p2, h2⟩ := hV.er
  rcases hp : Lib.parseUintB 32 s.data.toList with u | _ | _
  · refine (Any.strconv_ParseUint_10_at32_ok Tryz.laysPu14 s (by omega) u hp w).mono ?_
    rintro e w' ⟨rfl, hw⟩
    refine ⟨?_, .inl ⟨u, rfl, rfl⟩⟩
    rcases hw with rfl | rfl
    · exact Ext.refl _
    · exact ext_bytes _ _ _
  · refine (Any.strconv_ParseUint_10_at32_syntax Tryz.laysPu14 s (by omega) hp _ w h1 (.inr ⟨_, _, rfl⟩)).mono ?_
    rintro e w' ⟨N, rfl, _, _, hb⟩
    exact ⟨hb, .inr ⟨(fun u h => by cases h), _, _, _, rfl⟩⟩
  · refine (Any.strconv_ParseUint_10_at32_range Tryz.laysPu14 s (by omega) hp _ w h2 (.inr ⟨_, _, rfl⟩)).mono ?_
    rintro e w' ⟨N, rfl, _, _, hb⟩
    exact ⟨hb, .inr ⟨(fun u h => by cases h), _, _, _, rfl⟩⟩
end Go.Proofs.YtiappobhljiknaaGreatDoor
