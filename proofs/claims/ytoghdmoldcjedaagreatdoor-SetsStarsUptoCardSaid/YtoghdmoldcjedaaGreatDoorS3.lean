/- Walks: the library's ParseUint to the base 16, public; prim.number to the base 16. -/
import Derived.Test.YtoghdmoldcjedaaGreatDoorS2
namespace Go.Proofs.YtoghdmoldcjedaaGreatDoor
open Go.RowKit Go.Sort
set_option linter.unusedVariables false

theorem toErr_syn (s : List UInt8) (hs : s.length ≤ 1048576) (w : World) (hV : Vars w) :
    Calls Tryz.prog 97 #[.string ⟨#[80, 97, 114, 115, 101, 85, 105, 110, 116]⟩, .string ⟨s.toArray⟩, .int .i64 16, .int .i64 16, .iface 152 (.int .i64 2)] w fun e w' => (∃ T p, e = .returned (.iface T p)) ∧ Ext w w' := by
  obtain ⟨t1, p1, h1⟩ := hV.es
  refine (AnyPu.strconv_toError_syntax { Tryz.laysPu14 with } ⟨#[80, 97, 114, 115, 101, 85, 105, 110, 116]⟩ ⟨s.toArray⟩ 16 16 _ w (by rw [ba_size]; omega) h1 (.inr ⟨_, _, rfl⟩)).mono ?_
  rintro e w' ⟨N, rfl, _, _, hb⟩
  exact ⟨⟨_, _, rfl⟩, hb⟩
theorem toErr_rng (s : List UInt8) (hs : s.length ≤ 1048576) (w : World) (hV : Vars w) :
    Calls Tryz.prog 97 #[.string ⟨#[80, 97, 114, 115, 101, 85, 105, 110, 116]⟩, .string ⟨s.toArray⟩, .int .i64 16, .int .i64 16, .iface 152 (.int .i64 1)] w fun e w' => (∃ T p, e = .returned (.iface T p)) ∧ Ext w w' := by
  obtain ⟨t1, p1, h1⟩ := hV.er
  refine (AnyPu.strconv_toError_range { Tryz.laysPu14 with } ⟨#[80, 97, 114, 115, 101, 85, 105, 110, 116]⟩ ⟨s.toArray⟩ 16 16 _ w (by rw [ba_size]; omega) h1 (.inr ⟨_, _, rfl⟩)).mono ?_
  rintro e w' ⟨N, rfl, _, _, hb⟩
  exact ⟨⟨_, _, rfl⟩, hb⟩
set_option maxRecDepth 20000 in
theorem PU16_any (s : List UInt8) (w : World) (hV : Vars w) (hs : s.length ≤ 1048576) :
    Calls Tryz.prog 69 #[.string ⟨s.toArray⟩, .int .i64 16, .int .i64 16] w (PuP 16 65535 s w) := by
  have hok : ∀ (u : Nat) (W : World), u ≤ 65535 → (∀ n, rdN 16 65535 s = some n → n = u) → Ext w W → PuP 16 65535 s w (.returned (.tuple #[.int .u64 (u : Int), .nilIface])) W := fun u W h1 h2 h3 => ⟨h3, .inl ⟨u, h1, rfl, h2⟩⟩
  have hbad : ∀ (z : Int) T p (W : World), rdN 16 65535 s = none → Ext w W → PuP 16 65535 s w (.returned (.tuple #[.int .u64 z, .iface T p])) W := fun z T p W h1 h2 => ⟨h2, .inr ⟨h1, z, T, p, rfl⟩⟩
  have q := fun W => IPu16 s hs W
  have q1 := fun W h => toErr_syn s hs W h
  have q2 := fun W h => toErr_rng s hs W h
  replace q := hide q
  replace q1 := hide q1
  replace q2 := hide q2
  replace hok := hide hok
  replace hbad := hide hbad
  replace hV := hide hV
  replace hs := hide hs
  go_enter Tryz.func69, Tryz.ntmps69
  go_wp2_with fail
  refine (q.out _).mono ?_
  rintro e w1 ⟨he, ⟨u, hu, rfl, hn⟩ | ⟨hn, z, k, hk, rfl⟩⟩
  · have hr := hok.out u w1 hu hn he
    replace hr := hide hr
    replace hn := hide hn
    replace hu := hide hu
    replace he := hide he
    go_wp2
    go_ret2
    exact hr.out
  · replace hn := hide hn
    replace he := hide he
    rcases hk with rfl | rfl
    · go_wp2_with fail
      refine (q2.out _ (hV.out.ext he.out)).mono ?_
      rintro e w2 ⟨⟨T, p, rfl⟩, he2⟩
      have hr := hbad.out z T p w2 hn.out (he.out.trans he2)
      replace hr := hide hr
      clear he2
      go_wp2
      go_ret2
      exact hr.out
    · go_wp2_with fail
      refine (q1.out _ (hV.out.ext he.out)).mono ?_
      rintro e w2 ⟨⟨T, p, rfl⟩, he2⟩
      have hr := hbad.out z T p w2 hn.out (he.out.trans he2)
      replace hr := hide hr
      clear he2
      go_wp2
      go_ret2
      exact hr.out
theorem number16 (s : List UInt8) (w : World) (hD : Deb w) (hV : Vars w) (hs : s.length ≤ 1048576) :
    Calls Tryz.prog 100 #[.string ⟨s.toArray⟩, .int .i64 16, .int .i64 16] w (NumP 16 65535 s w) :=
  number_of 16 65535 16 (by decide) (by decide) s w (fun W h => PU16_any s W (hV.ext h) hs) fun u hu W h => Format16 u (by omega) W (hD.ext h)
end Go.Proofs.YtoghdmoldcjedaaGreatDoor
