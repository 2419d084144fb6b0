/- For AdmitNearest: ranges by small numbers; the neighbours that the law makes; which one is the nearest. -/
import Derived.Test.YtmhmcdpadmimlaaGreatDoorDQ
import Derived.Test.YtmhmcdpadmimlaaGreatDoorDN
import Derived.Test.YtmhmcdpadmimlaaGreatDoorDO
namespace Go.Proofs.YtmhmcdpadmimlaaGreatDoor
open Go.RowKit Go.ChangeShapes Go.WideShapes Go.Deep
set_option linter.unusedVariables false

/-- A range by small numbers. -/
structure NetS where
  a : UInt8
  b : UInt8
  len : UInt8
def ENet : Enc NetS := (EU8.pair (EU8.pair EU8)).map fun n => (n.a, n.b, n.len)
theorem ENet.at {w : World} {S : Nat → Prop} {a : Option Addr} {l : List NetS} (h : Sl ENet w S a l) (k : Nat) (hk : k < l.length) :
    ∃ b off, a = some ⟨b, off, none⟩ ∧ S b ∧ w.cell? ⟨b, off + k * 3, none⟩ = some (.int .u8 (l[k].a.toNat : Int)) ∧ w.cell? ⟨b, off + k * 3 + 1, none⟩ = some (.int .u8 (l[k].b.toNat : Int)) ∧ w.cell? ⟨b, off + k * 3 + 2, none⟩ = some (.int .u8 (l[k].len.toNat : Int)) := by
  obtain ⟨b, off, cs, rfl, hb, ⟨c, d, rfl, ⟨rfl, _⟩, c, d, rfl, ⟨rfl, _⟩, ⟨rfl, _⟩⟩, hc⟩ := h.at k hk
  exact ⟨b, off, rfl, hb, hc 0 _ rfl, hc 1 _ rfl, hc 2 _ rfl⟩
set_option maxRecDepth 100000 in
theorem opens_ENet : Opens Tryz.prog 42 ENet :=
  opens_map (opens_struct Tryz.underlying42 (by kernel_rfl) (opensF_cons rfl rfl opens_u8_ (opensF_cons rfl rfl opens_u8_ (opensF_last rfl rfl opens_u8_ rfl))))
    (fun n : NetS => (n.a, n.b, n.len)) (fun p => ⟨p.1, p.2.1, p.2.2⟩) (fun _ => rfl)
theorem open_array4 {α : Type} {E : Enc α} {P : Program} {T e : TypeId} (hE : Opens P e E) (hs : P.underlying T = some (.array 4 e)) (hc : P.cellsOf e = 1) (hC : P.cellsOf T = 4) {H : Type} {enc : TypeId × Value → H} {W : World} {r : Reach} {b0 : Nat} {v : Value} {d : DataW H} {p : List MemPlace}
    (hv : Value.okWide P W r b0 T v) (h : DataW.Trod enc P W 0 (fun _ => true) true T v d p) (hb : Rows.uptoBulk d ≤ 1048576) : ∃ (x y z u : α) (c0 c1 c2 c3 : Value), v = .agg #[c0, c1, c2, c3] ∧ E.R W (fun b => b < W.heap.size) x [c0] ∧ E.R W (fun b => b < W.heap.size) y [c1] ∧ E.R W (fun b => b < W.heap.size) z [c2] ∧ E.R W (fun b => b < W.heap.size) u [c3] := by
  obtain ⟨cs, rfl, hsz⟩ := okWide_array hs hv
  rw [hC] at hsz
  obtain ⟨fuel, hf⟩ := h
  obtain ⟨xs, m, _, hx, _, hl, hi⟩ := DataW.trod_array hs hf
  obtain ⟨l⟩ := cs
  match l, hsz, xs, hl with
  | [c0, c1, c2, c3], _, [x0, x1, x2, x3], _ =>
    have h0 := hi 0 (by omega)
    have h1 := hi 1 (by omega)
    have h2 := hi 2 (by omega)
    have h3 := hi 3 (by omega)
    rw [hc] at h0 h1 h2 h3
    replace h0 : DataW.trod enc P W 0 (fun _ => true) true m e [c0] = some x0 := h0
    replace h1 : DataW.trod enc P W 0 (fun _ => true) true m e [c1] = some x1 := h1
    replace h2 : DataW.trod enc P W 0 (fun _ => true) true m e [c2] = some x2 := h2
    replace h3 : DataW.trod enc P W 0 (fun _ => true) true m e [c3] = some x3 := h3
    have hd : d = .agg [x0.1, x1.1, x2.1, x3.1] := congrArg (·.1) hx
    subst hd
    simp only [Rows.uptoBulk] at hb
    have b0 := bulk_part (d := x0.1) (l := [x0.1, x1.1, x2.1, x3.1]) (by simp)
    have b1 := bulk_part (d := x1.1) (l := [x0.1, x1.1, x2.1, x3.1]) (by simp)
    have b2 := bulk_part (d := x2.1) (l := [x0.1, x1.1, x2.1, x3.1]) (by simp)
    have b3 := bulk_part (d := x3.1) (l := [x0.1, x1.1, x2.1, x3.1]) (by simp)
    obtain ⟨x, hx⟩ := hE.2 enc W m _ _ h0 (by omega)
    obtain ⟨y, hy⟩ := hE.2 enc W m _ _ h1 (by omega)
    obtain ⟨z, hz⟩ := hE.2 enc W m _ _ h2 (by omega)
    obtain ⟨u, hu⟩ := hE.2 enc W m _ _ h3 (by omega)
    exact ⟨x, y, z, u, c0, c1, c2, c3, rfl, hx, hy, hz, hu⟩
set_option maxRecDepth 100000 in
theorem open_u8s4 {H : Type} {enc : TypeId × Value → H} {W : World} {r : Reach} {b0 : Nat} {v : Value} {d : DataW H} {p : List MemPlace} (hv : Value.okWide Tryz.prog W r b0 39 v) (h : DataW.Trod enc Tryz.prog W 0 (fun _ => true) true 39 v d p) (hb : Rows.uptoBulk d ≤ 1048576) :
    ∃ x y z u : UInt8, v = .agg #[.int .u8 (x.toNat : Int), .int .u8 (y.toNat : Int), .int .u8 (z.toNat : Int), .int .u8 (u.toNat : Int)] := by
  obtain ⟨x, y, z, u, c0, c1, c2, c3, rfl, ⟨h0, _⟩, ⟨h1, _⟩, ⟨h2, _⟩, ⟨h3, _⟩⟩ := open_array4 opens_u8_ Tryz.underlying39 (by kernel_rfl) (by kernel_rfl) hv h hb
  simp only [List.cons.injEq, and_true] at h0 h1 h2 h3
  exact ⟨x, y, z, u, by rw [h0, h1, h2, h3]⟩

/-- The range of small numbers. -/
noncomputable def rangeN (n : NetS) : Pfx := (cutS ⟨1, 0, [n.a, n.b, 0, 0], 32⟩ ((n.len.toNat % 17 : Nat) : Int)).1
theorem rangeN_cut (n : NetS) : cutS ⟨1, 0, [n.a, n.b, 0, 0], 32⟩ ((n.len.toNat % 17 : Nat) : Int) = (rangeN n, 0) ∧ rangeN n = ⟨1, 0, maskS [n.a, n.b, 0, 0] ((n.len.toNat % 17 : Nat) : Int), ((n.len.toNat % 17 : Nat) : Int)⟩ := by
  have h : n.len.toNat % 17 < 17 := Nat.mod_lt _ (by decide)
  have hc : cutOk ⟨1, 0, [n.a, n.b, 0, 0], 32⟩ ((n.len.toNat % 17 : Nat) : Int) := ⟨may_host _ rfl, by omega, by show ((n.len.toNat % 17 : Nat) : Int) ≤ 32; omega⟩
  unfold rangeN cutS
  rw [if_pos hc]
  exact ⟨rfl, rfl⟩
theorem rangeN_in (n : NetS) : PfxIn (rangeN n) := by
  rw [(rangeN_cut n).2]
  have h : n.len.toNat % 17 < 17 := Nat.mod_lt _ (by decide)
  refine ⟨(⟨by decide, by decide⟩ : i64 1), Nat.zero_le _, ?_, ?_⟩
  · show (maskS _ _).length ≤ _
    rw [maskS_len]
    show 4 ≤ _
    decide
  · show i64 ((n.len.toNat % 17 : Nat) : Int)
    unfold i64
    omega
noncomputable def nbrN (n : NetS) : Nbr := { zeroN with name := [114], range := rangeN n }
theorem nbr_inS (w : World) (S : Nat → Prop) (R : Pfx) (hR : PfxIn R) : NbrIn w S { zeroN with name := [114], range := R } none := by
  have z : i64 0 := ⟨by decide, by decide⟩
  exact ⟨by show 1 ≤ _; decide, by show 0 ≤ _; decide, hR, z, z, by show 0 ≤ _; decide, .inl rfl, z, z, z, z, by show 0 ≤ _; decide, by show 0 ≤ _; decide, by show 0 ≤ _; decide⟩
theorem right4 {a : List UInt8} (h : a.length = 4) : rightA a = true := by
  unfold rightA
  rw [h]
  rfl
theorem host4 {a : List UInt8} (h : a.length = 4) : hostS a = ⟨1, 0, a, 32⟩ := if_pos h
theorem ofN_eq (x : Nbr) (a : List UInt8) (h : a.length = 4) (hx : x.addr = []) : ofS x a = covB x.range (hostS a) := by
  unfold ofS
  rw [hx, right4 h, decide_eq_true rfl, Bool.true_and, Bool.true_and]
theorem near_cases (l : List Nbr) (a : List UInt8) (h4 : a.length = 4) (hl : ∀ x ∈ l, x.addr = []) :
    (findN l a = (0, false) ∧ ∀ i (h : i < l.length), covB l[i].range (hostS a) = false) ∨
    ∃ n, ∃ h : n < l.length, findN l a = ((n : Int), true) ∧ ofS l[n] a = true ∧ ∀ i (hi : i < l.length), covB l[i].range (hostS a) = true → ¬ l[n].range.len < l[i].range.len ∧ (l[i].range.len = l[n].range.len → ¬ i < n) := by
  have hn : l.findIdx? (fun x => x.addr == a) = none := by
    rw [List.findIdx?_eq_none_iff]
    intro x hx
    rw [hl x hx, beq_eq_false_iff_ne]
    intro e
    rw [← e] at h4
    cases h4
  have hg : ∀ i (h : i < l.length), l.getD i zeroN = l[i] := fun i h => by rw [List.getD_eq_getElem?_getD, List.getElem?_eq_getElem h]; rfl
  have hln : ∀ i (h : i < l.length), lenN l (i : Int) = l[i].range.len := fun i h => by
    unfold lenN
    rw [Int.toNat_natCast, hg i h]
  have hof : ∀ i (h : i < l.length), ofS l[i] a = covB l[i].range (hostS a) := fun i h => ofN_eq _ _ h4 (hl _ (List.getElem_mem h))
  unfold findN
  rw [if_pos (right4 h4), hn]
  rcases best_first l a l.length with ⟨h1, h2⟩ | ⟨n, hlt, h1, h2, h3⟩
  · refine .inl ⟨by rw [h1]; rfl, fun i h => ?_⟩
    rw [← hof i h, ← hg i h]
    exact h2 i h
  · refine .inr ⟨n, hlt, ?_, ?_, fun i hi hc => ?_⟩
    · rw [h1]
      show ((if (n : Int) < 0 then 0 else (n : Int)), decide (0 ≤ (n : Int))) = _
      rw [if_neg (by omega), decide_eq_true (by omega)]
    · rw [← hg n hlt]; exact h2
    · have := h3 i hi (by rw [hg i hi, hof i hi]; exact hc)
      rw [hln i hi, hln n hlt] at this
      exact ⟨by omega, fun e => by have := this.2 e; omega⟩
/-- A neighbour with where its families lie. -/
abbrev NbA := Nbr × Option Addr × Nat
noncomputable def nbrA (n : NetS) : NbA := (nbrN n, none, 0)
def ENbA : Enc NbA := Enc.cells (fun x => nbrCs x.1 x.2.1 x.2.2) (fun x => ∀ w S, NbrIn w S x.1 x.2.1) 23 (fun _ => rfl) (fun x => nbr_one _ _ _)
theorem ENbA.sl {w : World} {S : Nat → Prop} {a : Option Addr} {l : List NbA} (h : Sl ENbA w S a l) : Sl ENbr w S a (l.map (·.1)) := by
  rcases h with h | ⟨b, off, rfl, hb, hc⟩
  · subst h; exact .inl rfl
  · refine .inr ⟨b, off, rfl, hb, fun k y hy => ?_⟩
    rw [List.getElem?_map] at hy
    obtain ⟨x, hx, rfl⟩ := Option.map_eq_some_iff.1 hy
    obtain ⟨cs, ⟨rfl, hi⟩, h5⟩ := hc k x hx
    exact ⟨_, ENbr.iff.2 ⟨_, _, rfl, hi _ _⟩, h5⟩
theorem ENbA.at {w : World} {S : Nat → Prop} {a : Option Addr} {l : List NbA} (h : Sl ENbA w S a l) (k : Nat) (hk : k < l.length) :
    ∃ b off, a = some ⟨b, off, none⟩ ∧ S b ∧ (∀ w S, NbrIn w S l[k].1 l[k].2.1) ∧ ∀ j u, (nbrCs l[k].1 l[k].2.1 l[k].2.2)[j]? = some u → w.cell? ⟨b, off + k * 23 + j, none⟩ = some u := by
  obtain ⟨b, off, cs, rfl, hb, ⟨rfl, hi⟩, hc⟩ := h.at k hk
  exact ⟨b, off, rfl, hb, hi, hc⟩
theorem ENbA.tail {w : World} {S : Nat → Prop} {g o c : Nat} {l : List NbA} (h : Sl ENbA w S (some ⟨g, o, none⟩) l) (k : Nat) (hc : l.length ≤ c) : Sl ENbA w S (some ⟨g, if c = k then o else o + k * 23, none⟩) (l.drop k) := by
  by_cases hk : c = k
  · refine .inl ?_
    rw [List.drop_eq_nil_iff]
    omega
  · rw [if_neg hk]
    rcases h with h | ⟨b, off, he, hb, h⟩
    · subst h; exact .inl (by simp)
    · injection he with he
      injection he with h1 h2 _
      subst h1 h2
      refine .inr ⟨_, _, rfl, hb, fun j x hx => ?_⟩
      rw [List.getElem?_drop] at hx
      obtain ⟨cs, hr, hq⟩ := h (k + j) x hx
      refine ⟨cs, hr, fun i u hu => ?_⟩
      have := hq i u hu
      have e : o + (k + j) * ENbA.sz + i = o + k * 23 + j * ENbA.sz + i := by
        show o + (k + j) * 23 + i = o + k * 23 + j * 23 + i
        omega
      rwa [e] at this
theorem slice_headP (a : Option Addr) (n c k : Nat) (hk : k ≤ n) (hn : n ≤ c) (hc : c ≤ 9223372036854775807) (W : World) : (Instr.sliceAt 22 (.slice a n c) none (some (.int .i64 (k : Int))) none).run Tryz.prog W = .ok (.slice a k c) W := by
  go_simp
  first | omega | (intro h; omega) | skip
theorem slice_tailP (g o n c k : Nat) (hk : k ≤ n) (hn : n ≤ c) (hc : c ≤ 9223372036854775807) (W : World) : (Instr.sliceAt 22 (.slice (some ⟨g, o, none⟩) n c) (some (.int .i64 (k : Int))) none none).run Tryz.prog W = .ok (.slice (some ⟨g, if c = k then o else o + k * 23, none⟩) (n - k) (c - k)) W := by
  by_cases h : c = k
  · subst h
    have : n = c := by omega
    subst this
    rw [if_pos rfl]
    go_simp
  · rw [if_neg h]
    go_simp
theorem own_capA {e : TypeId} {w : World} {B b off n c : Nat} {l : List NbA} (h : Own ENbA e w B (.slice (some ⟨b, off, none⟩) n c) l) : l.length ≤ c ∧ c ≤ 9223372036854775807 := by
  obtain ⟨xs, ⟨_, h1⟩, _⟩ := h
  rcases h1 with ⟨h1, _⟩ | ⟨g, cap, cur, h1, _, _, h2, h3, _⟩
  · cases h1
  · injection h1 with _ _ h4
    unfold maxLen at h3
    omega
theorem near_casesA (l : List NbA) (a : List UInt8) (h4 : a.length = 4) (hl : ∀ x ∈ l, x.1.addr = []) :
    (findN (l.map (·.1)) a = (0, false) ∧ ∀ i (h : i < l.length), covB l[i].1.range (hostS a) = false) ∨
    ∃ n, ∃ h : n < l.length, findN (l.map (·.1)) a = ((n : Int), true) ∧ ofS l[n].1 a = true ∧ ∀ i (hi : i < l.length), covB l[i].1.range (hostS a) = true → ¬ l[n].1.range.len < l[i].1.range.len ∧ (l[i].1.range.len = l[n].1.range.len → ¬ i < n) := by
  rcases near_cases (l.map (·.1)) a h4 (fun x hx => by obtain ⟨y, hy, rfl⟩ := List.mem_map.1 hx; exact hl y hy) with ⟨h1, h2⟩ | ⟨n, hn, h1, h2, h3⟩
  · refine .inl ⟨h1, fun i h => ?_⟩
    have := h2 i (by simpa using h)
    rwa [List.getElem_map] at this
  · have hn' : n < l.length := by simpa using hn
    refine .inr ⟨n, hn', h1, ?_, fun i hi hc => ?_⟩
    · rwa [List.getElem_map] at h2
    · have := h3 i (by simpa using hi) (by rw [List.getElem_map]; exact hc)
      simpa only [List.getElem_map] using this
theorem find_laidA (l : List NbA) (d : NbA) (a : List UInt8) (k : Nat) (hk : k ≤ l.length) (h4 : a.length = 4) (hl : ∀ x ∈ l, x.1.addr = []) (hd : d.1.addr = a) : findN ((l.take k ++ [d] ++ l.drop k).map (·.1)) a = ((k : Int), true) := by
  have := find_laid ((l.take k).map (·.1)) ((l.drop k).map (·.1)) d.1 a (right4 h4) hd (fun x hx => by obtain ⟨y, hy, rfl⟩ := List.mem_map.1 hx; exact hl y (List.mem_of_mem_take hy))
  rw [List.length_map, List.length_take, Nat.min_eq_left hk] at this
  rw [List.map_append, List.map_append]
  exact this
theorem dyn_inA (x : Nbr) (f f2 : Option Addr) (a : List UInt8) (hx : ∀ w S, NbrIn w S x f) (ha : a.length = 4) (hn : (dynName x a).length ≤ 16) : ∀ w S, NbrIn w S (dynN x a) f2 := fun w S => by
  have h := hx w S
  have hf : x.fams = [] := by
    rcases (hx w (fun _ => False)).fams with h | ⟨_, _, _, h, _⟩
    · exact h
    · exact h.elim
  exact ⟨Nat.le_trans hn (by decide), by show a.length ≤ _; rw [ha]; decide, show PfxIn zeroP from ⟨⟨by decide, by decide⟩, by decide, by decide, ⟨by decide, by decide⟩⟩, h.hold, h.retry, h.nFams, .inl hf, h.send, h.most, h.time, h.mrai, h.pin, h.pout, h.vrf⟩
end Go.Proofs.YtmhmcdpadmimlaaGreatDoor
