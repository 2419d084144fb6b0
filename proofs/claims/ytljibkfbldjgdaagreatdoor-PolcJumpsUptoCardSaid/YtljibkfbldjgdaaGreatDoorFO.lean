/- Arguments of chapter 16, opened: conditions, actions, terms. Arguments of chapter 16, opened with what their slices' capacities are: terms. -/
import Derived.Test.YtljibkfbldjgdaaGreatDoorEA
import Derived.Test.YtljibkfbldjgdaaGreatDoorYO
import Derived.Test.YtljibkfbldjgdaaGreatDoorVZ
namespace Go.Proofs.YtljibkfbldjgdaaGreatDoor
section
open Go.RowKit Go.ChangeShapes Go.WideShapes Go.Deep
set_option linter.unusedVariables false

theorem opens_bool16 {P : Program} {T : TypeId} (h : P.underlying T = some .bool) (hc : P.cellsOf T = 1) : Opens P T EBool := by
  refine ⟨hc, fun enc W fuel cs x hx _ => ?_⟩
  obtain ⟨b, rfl, _⟩ := DataW.trod_bool h hx
  exact ⟨b, rfl, trivial⟩
set_option maxRecDepth 100000 in
theorem opens_ECond : Opens Tryz.prog 48 ECond :=
  opens_of (opens_map (opens_struct Tryz.underlying48 (by kernel_rfl) (opensF_cons rfl rfl opens_int (opensF_cons rfl rfl (opens_bool16 Tryz.underlying4 (by kernel_rfl)) (opensF_cons rfl rfl opens_text (opensF_last rfl rfl opens_int rfl))))) (fun c : CondS => (c.kind, c.neg, c.name, c.n)) (fun p => ⟨p.1, p.2.1, p.2.2.1, p.2.2.2⟩) (fun _ => rfl)) rfl id (fun h => ECond.of h)
set_option maxRecDepth 100000 in
theorem opens_EAct : Opens Tryz.prog 51 EAct :=
  opens_of (opens_map (opens_struct Tryz.underlying51 (by kernel_rfl) (opensF_cons rfl rfl opens_int (opensF_cons rfl rfl opens_text (opensF_cons rfl rfl opens_u32_ (opensF_last rfl rfl opens_text rfl))))) (fun a : ActS => (a.kind, a.name, a.n, a.addr)) (fun p => ⟨p.1, p.2.1, p.2.2.1, p.2.2.2⟩) (fun _ => rfl)) rfl id (fun h => EAct.of h)
set_option maxRecDepth 100000 in
theorem opens_ETerm : Opens Tryz.prog 25 ETerm :=
  opens_map (opens_struct Tryz.underlying25 (by kernel_rfl) (opensF_cons rfl rfl (opens_slice Tryz.underlying22 (by kernel_rfl) opens_ECond (by decide)) (opensF_last rfl rfl (opens_slice Tryz.underlying23 (by kernel_rfl) opens_EAct (by decide)) rfl))) (fun t : TermS => (t.conds, t.acts)) (fun p => ⟨p.1, p.2⟩) (fun _ => rfl)
structure TermIn (W : World) (t : TermS) (a1 a2 : Option Addr) : Prop where
  n1 : t.conds.length ≤ 16777216
  s1 : Sl ECond W (fun b => b < W.heap.size) a1 t.conds
  n2 : t.acts.length ≤ 16777216
  s2 : Sl EAct W (fun b => b < W.heap.size) a2 t.acts
set_option maxRecDepth 100000 in
theorem open_term {H : Type} {enc : TypeId × Value → H} {W : World} {r : Reach} {b0 : Nat} {v : Value} {d : DataW H} {p : List MemPlace} (hv : Value.okWide Tryz.prog W r b0 25 v) (h : DataW.Trod enc Tryz.prog W 0 (fun _ => true) true 25 v d p) (hb : Rows.uptoBulk d ≤ 1048576) :
    ∃ (t : TermS) (a1 a2 : Option Addr) (c1 c2 : Nat), v = .agg #[.slice a1 t.conds.length c1, .slice a2 t.acts.length c2] ∧ TermIn W t a1 a2 := by
  obtain ⟨t, cs, rfl, hr⟩ := open_struct_val opens_ETerm Tryz.underlying25 hv h hb
  obtain ⟨c, d, rfl, ⟨a1, c1, rfl, n1, s1⟩, ⟨a2, c2, rfl, n2, s2⟩⟩ := hr
  exact ⟨t, a1, a2, c1, c2, rfl, n1, s1, n2, s2⟩
end
section
open Go.RowKit Go.ChangeShapes Go.WideShapes Go.Deep
set_option linter.unusedVariables false

def ETermC : Enc TermS := (ECond.sliceC.pair EAct.sliceC).map fun t => (t.conds, t.acts)
set_option maxRecDepth 100000 in
theorem opens_ETermC : Opens Tryz.prog 25 ETermC :=
  opens_map (opens_struct Tryz.underlying25 (by kernel_rfl) (opensF_cons rfl rfl (opens_sliceC Tryz.underlying22 (by kernel_rfl) opens_ECond (by decide)) (opensF_last rfl rfl (opens_sliceC Tryz.underlying23 (by kernel_rfl) opens_EAct (by decide)) rfl))) (fun t : TermS => (t.conds, t.acts)) (fun p => ⟨p.1, p.2⟩) (fun _ => rfl)
set_option maxRecDepth 100000 in
theorem open_termC {H : Type} {enc : TypeId × Value → H} {W : World} {r : Reach} {b0 : Nat} {v : Value} {d : DataW H} {p : List MemPlace} (hv : Value.okWide Tryz.prog W r b0 25 v) (h : DataW.Trod enc Tryz.prog W 0 (fun _ => true) true 25 v d p) (hb : Rows.uptoBulk d ≤ 1048576) :
    ∃ (t : TermS) (a1 a2 : Option Addr) (c1 c2 : Nat), v = .agg #[.slice a1 t.conds.length c1, .slice a2 t.acts.length c2] ∧ TermIn W t a1 a2 ∧ t.conds.length ≤ c1 ∧ t.acts.length ≤ c2 := by
  obtain ⟨t, cs, rfl, hr⟩ := open_struct_val opens_ETermC Tryz.underlying25 hv h hb
  obtain ⟨c, d, rfl, ⟨a1, c1, rfl, n1, u1, _, s1⟩, ⟨a2, c2, rfl, n2, u2, _, s2⟩⟩ := hr
  exact ⟨t, a1, a2, c1, c2, rfl, ⟨n1, s1, n2, s2⟩, u1, u2⟩
end
section
open Go.RowKit Go.Sort
set_option linter.unusedVariables false
theorem ETermC.at {w : World} {S : Nat → Prop} {a : Option Addr} {l : List TermS} (h : Sl ETermC w S a l) (k : Nat) (hk : k < l.length) :
    ∃ b off a1 c1 a2 c2, a = some ⟨b, off, none⟩ ∧ S b ∧ w.cell? ⟨b, off + k * 2, none⟩ = some (.slice a1 l[k].conds.length c1) ∧ w.cell? ⟨b, off + k * 2 + 1, none⟩ = some (.slice a2 l[k].acts.length c2) ∧
      l[k].conds.length ≤ 16777216 ∧ Sl ECond w S a1 l[k].conds ∧ l[k].acts.length ≤ 16777216 ∧ Sl EAct w S a2 l[k].acts ∧ l[k].conds.length ≤ c1 ∧ l[k].acts.length ≤ c2 := by
  obtain ⟨b, off, cs, rfl, hb, ⟨c, d, rfl, ⟨a1, c1, rfl, n1, u1, _, s1⟩, ⟨a2, c2, rfl, n2, u2, _, s2⟩⟩, hc⟩ := h.at k hk
  exact ⟨b, off, a1, c1, a2, c2, rfl, hb, hc 0 _ rfl, hc 1 _ rfl, n1, s1, n2, s2, u1, u2⟩
theorem ETermC.weak {w : World} {S : Nat → Prop} {x : TermS} {cs : List Value} (h : ETermC.R w S x cs) : ETerm.R w S x cs := by
  obtain ⟨c, d, rfl, h1, h2⟩ := h
  exact ⟨c, d, rfl, sliceC_weak h1, sliceC_weak h2⟩
theorem Sl.weakT {w : World} {S : Nat → Prop} {a : Option Addr} {l : List TermS} (h : Sl ETermC w S a l) : Sl ETerm w S a l := Sl.of (E := ETermC) (F := ETerm) rfl (fun h => ETermC.weak h) h
theorem okTermC : ElemOk Tryz.prog 33 25 ETermC.sz 48 := elemOk (z := .agg #[.slice none 0 0, .slice none 0 0]) Tryz.underlying33 (by kernel_rfl) rfl

end
section
open Go.RowKit Go.ChangeShapes Go.WideShapes Go.Deep
set_option linter.unusedVariables false

def EPolC : Enc PolS := (EByt.pair (ETermC.sliceC.pair EBool)).map fun p => (p.name, p.terms, p.els)
set_option maxRecDepth 100000 in
theorem opens_EPolC : Opens Tryz.prog 35 EPolC :=
  opens_map (opens_struct Tryz.underlying35 (by kernel_rfl) (opensF_cons rfl rfl opens_text (opensF_cons rfl rfl (opens_sliceC Tryz.underlying33 (by kernel_rfl) opens_ETermC (by decide)) (opensF_last rfl rfl (opens_bool16 Tryz.underlying4 (by kernel_rfl)) rfl)))) (fun p : PolS => (p.name, p.terms, p.els)) (fun p => ⟨p.1, p.2.1, p.2.2⟩) (fun _ => rfl)
structure PolIn (W : World) (p : PolS) (a : Option Addr) (c : Nat) : Prop where
  nm : p.name.length ≤ 1048576
  n : p.terms.length ≤ 16777216
  u : p.terms.length ≤ c
  m : c ≤ maxLen
  s : Sl ETermC W (fun b => b < W.heap.size) a p.terms
set_option maxRecDepth 100000 in
theorem open_polC {H : Type} {enc : TypeId × Value → H} {W : World} {r : Reach} {b0 : Nat} {v : Value} {d : DataW H} {p : List MemPlace} (hv : Value.okWide Tryz.prog W r b0 35 v) (h : DataW.Trod enc Tryz.prog W 0 (fun _ => true) true 35 v d p) (hb : Rows.uptoBulk d ≤ 1048576) :
    ∃ (p : PolS) (a : Option Addr) (c : Nat), v = .agg #[.string ⟨p.name.toArray⟩, .slice a p.terms.length c, .bool p.els] ∧ PolIn W p a c := by
  obtain ⟨t, cs, rfl, hr⟩ := open_struct_val opens_EPolC Tryz.underlying35 hv h hb
  obtain ⟨c, d, rfl, ⟨rfl, h1⟩, c, d, rfl, ⟨a1, c1, rfl, n1, u1, m1, s1⟩, ⟨rfl, _⟩⟩ := hr
  exact ⟨t, a1, c1, rfl, h1, n1, u1, m1, s1⟩
end
end Go.Proofs.YtljibkfbldjgdaaGreatDoor
