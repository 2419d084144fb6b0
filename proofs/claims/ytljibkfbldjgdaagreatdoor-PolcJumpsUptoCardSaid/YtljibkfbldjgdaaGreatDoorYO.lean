/- Arguments of chapter 15 by value, opened, with what their slices' capacities are. -/
import Derived.Test.YtljibkfbldjgdaaGreatDoorVZ
import Derived.Test.YtljibkfbldjgdaaGreatDoorO4
namespace Go.Proofs.YtljibkfbldjgdaaGreatDoor
open Go.RowKit Go.ChangeShapes Go.WideShapes Go.Deep
set_option linter.unusedVariables false

section
variable {P : Program} {T : TypeId}
theorem opens_sliceC {α : Type} {E : Enc α} {e : TypeId} (h : P.underlying T = some (.slice e)) (hc : P.cellsOf T = 1) (hE : Opens P e E) (hsz : 0 < E.sz) : Opens P T E.sliceC := by
  refine ⟨hc, fun enc W fuel cs x hx hb => ?_⟩
  obtain ⟨l, a, c, hcs, hlc, hl, hs⟩ := slice_opens h hE hsz hx hb
  have hm : c ≤ maxLen := by
    rcases open_slice h hx with ⟨h1, _⟩ | ⟨a', len, cap, m, k, D, Pl, h1, _, _, hm, _⟩
    · rw [hcs] at h1
      injection h1 with h1 _
      injection h1 with _ _ h2
      rw [h2]
      exact Nat.zero_le _
    · rw [hcs] at h1
      injection h1 with h1 _
      injection h1 with _ _ h2
      rw [h2]
      exact hm
  exact ⟨l, a, c, hcs, by omega, hlc, hm, hs⟩
/-- A struct by value. -/
theorem open_struct_val {α : Type} {E : Enc α} {fs : Array Field} (hO : Opens P T E) (hs : P.underlying T = some (.struct fs)) {H : Type} {enc : TypeId × Value → H} {W : World} {r : Reach} {b0 : Nat} {v : Value} {d : DataW H} {p : List MemPlace}
    (hv : Value.okWide P W r b0 T v) (h : DataW.Trod enc P W 0 (fun _ => true) true T v d p) (hb : Rows.uptoBulk d ≤ 1048576) : ∃ (x : α) (cs : List Value), v = .agg cs.toArray ∧ E.R W (fun b => b < W.heap.size) x cs := by
  obtain ⟨cs, rfl, hsz⟩ := okWide_struct hs hv
  obtain ⟨fuel, hf⟩ := h
  obtain ⟨x, hx⟩ := hO.2 enc W fuel _ _ hf hb
  exact ⟨x, _, by simp [Value.cells], hx⟩
end
def ESetC : Enc StS := (EByt.pair (EI64.pair (EItm.sliceC.pair (EU32.sliceC.pair EAtm.slice.sliceC)))).map fun s => (s.name, s.kind, s.items, s.comms, s.paths)
structure SetCap (s : StS) (c1 c2 c3 : Nat) : Prop where
  h1 : s.items.length ≤ c1
  m1 : c1 ≤ 9223372036854775807
  h2 : s.comms.length ≤ c2
  m2 : c2 ≤ 9223372036854775807
  h3 : s.paths.length ≤ c3
  m3 : c3 ≤ 9223372036854775807
theorem ESetC.iff {w : World} {S : Nat → Prop} {s : StS} {cs : List Value} (h : ESetC.R w S s cs) : ∃ a1 c1 a2 c2 a3 c3, cs = setCs s a1 c1 a2 c2 a3 c3 ∧ SetIn w S s a1 a2 a3 ∧ SetCap s c1 c2 c3 := by
  obtain ⟨c, d, rfl, ⟨rfl, h1⟩, c, d, rfl, ⟨rfl, h2⟩, c, d, rfl, ⟨a1, c1, rfl, n1, u1, v1, s1⟩, c, d, rfl, ⟨a2, c2, rfl, n2, u2, v2, s2⟩, a3, c3, rfl, n3, u3, v3, s3⟩ := h
  exact ⟨a1, c1, a2, c2, a3, c3, rfl, ⟨h1, h2, n1, s1, n2, s2, n3, s3⟩, u1, maxLen_le v1, u2, maxLen_le v2, u3, maxLen_le v3⟩
theorem ESetC.weak {w : World} {S : Nat → Prop} {s : StS} {cs : List Value} (h : ESetC.R w S s cs) : ESet.R w S s cs := by
  obtain ⟨a1, c1, a2, c2, a3, c3, rfl, hi, _⟩ := ESetC.iff h
  exact ESet.iff.2 ⟨a1, c1, a2, c2, a3, c3, rfl, hi⟩
set_option maxRecDepth 100000 in
theorem opens_ESetC : Opens Tryz.prog 67 ESetC :=
  opens_map (opens_struct Tryz.underlying67 (by kernel_rfl) (opensF_cons rfl rfl opens_text (opensF_cons rfl rfl opens_int (opensF_cons rfl rfl (opens_sliceC Tryz.underlying63 (by kernel_rfl) opens_EItm (by decide)) (opensF_cons rfl rfl (opens_sliceC Tryz.underlying64 (by kernel_rfl) opens_u32_ (by decide)) (opensF_last rfl rfl (opens_sliceC Tryz.underlying65 (by kernel_rfl) opens_atoms (by decide)) rfl)))))) (fun s : StS => (s.name, s.kind, s.items, s.comms, s.paths)) (fun p => ⟨p.1, p.2.1, p.2.2.1, p.2.2.2.1, p.2.2.2.2⟩) (fun _ => rfl)
set_option maxRecDepth 100000 in
theorem open_setC {H : Type} {enc : TypeId × Value → H} {W : World} {r : Reach} {b0 : Nat} {v : Value} {d : DataW H} {p : List MemPlace} (hv : Value.okWide Tryz.prog W r b0 67 v) (h : DataW.Trod enc Tryz.prog W 0 (fun _ => true) true 67 v d p) (hb : Rows.uptoBulk d ≤ 1048576) :
    ∃ (s : StS) (a1 a2 a3 : Option Addr) (c1 c2 c3 : Nat), v = .agg #[.string ⟨s.name.toArray⟩, .int .i64 s.kind, .slice a1 s.items.length c1, .slice a2 s.comms.length c2, .slice a3 s.paths.length c3] ∧ SetIn W (fun b => b < W.heap.size) s a1 a2 a3 ∧ SetCap s c1 c2 c3 := by
  obtain ⟨s, cs, rfl, hr⟩ := open_struct_val opens_ESetC Tryz.underlying67 hv h hb
  obtain ⟨a1, c1, a2, c2, a3, c3, rfl, hi, hc⟩ := ESetC.iff hr
  exact ⟨s, a1, a2, a3, c1, c2, c3, rfl, hi, hc⟩
structure Ask where
  p : Pfx
  comms : List UInt32
  path : List Seg
def EAsk : Enc Ask := (EPfx.pair (EU32.sliceC.pair ESeg.sliceC)).map fun x => (x.p, x.comms, x.path)
structure AskIn (w : World) (x : Ask) (a4 a5 : Option Addr) (c4 c5 : Nat) : Prop where
  hq : x.p.addr.length ≤ 1048576
  hM : Sl EU32 w (fun b => b < w.heap.size) a4 x.comms
  h4 : x.comms.length ≤ c4
  m4 : c4 ≤ 9223372036854775807
  hY : Path w a5 x.path
  h5 : x.path.length ≤ c5
  m5 : c5 ≤ 9223372036854775807
end Go.Proofs.YtljibkfbldjgdaaGreatDoor
