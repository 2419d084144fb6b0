/- The walk of SetsStars. -/
import Derived.Test.YtoghdmoldcjedaaGreatDoorV22
import Derived.Test.YtoghdmoldcjedaaGreatDoorVJ
namespace Go.Proofs.YtoghdmoldcjedaaGreatDoor
open Go.RowKit Go.Sort
set_option linter.unusedVariables false

theorem slice_mid (g o n c i k : Nat) (hik : i ≤ k) (hk : k ≤ n) (hn : n ≤ c) (hc : c ≤ 9223372036854775807) (W : World) : (Instr.sliceAt 24 (.slice (some ⟨g, o, none⟩) n c) (some (.int .i64 (i : Int))) (some (.int .i64 (k : Int))) none).run Tryz.prog W = .ok (.slice (some ⟨g, if c = i then o else o + i, none⟩) (k - i) (c - i)) W := by
  by_cases h : c = i
  · subst h
    obtain rfl : k = c := by omega
    rw [if_pos rfl]
    go_simp
    first | omega | (intro h; omega) | skip
  · rw [if_neg h]
    go_simp
    first | omega | (intro h; omega) | skip
theorem slice_midn (W : World) : (Instr.sliceAt 24 (.slice none 0 0) (some (.int .i64 ((0 : Nat) : Int))) (some (.int .i64 ((0 : Nat) : Int))) none).run Tryz.prog W = .ok (.slice none 0 0) W := by
  go_simp
theorem slice_tail1 (g o n c k : Nat) (hk : k ≤ n) (hn : n ≤ c) (hc : c ≤ 9223372036854775807) (W : World) : (Instr.sliceAt 24 (.slice (some ⟨g, o, none⟩) n c) (some (.int .i64 (k : Int))) none none).run Tryz.prog W = .ok (.slice (some ⟨g, if c = k then o else o + k, none⟩) (n - k) (c - k)) W := by
  by_cases h : c = k
  · subst h
    have : n = c := by omega
    subst this
    rw [if_pos rfl]
    go_simp
  · rw [if_neg h]
    go_simp
theorem Sl.dropU {w : World} {S : Nat → Prop} {g o : Nat} {l : List UInt32} (h : Sl EU32 w S (some ⟨g, o, none⟩) l) (k : Nat) : Sl EU32 w S (some ⟨g, o + k, none⟩) (l.drop k) := by
  rcases h with h | ⟨b, off, he, hb, h⟩
  · subst h; exact .inl (by simp)
  · injection he with he
    injection he with h1 h2 _
    subst h1 h2
    refine .inr ⟨g, o + k, rfl, hb, fun i x hx => ?_⟩
    rw [List.getElem?_drop] at hx
    obtain ⟨cs, hr, hc⟩ := h (k + i) x hx
    refine ⟨cs, hr, fun j u hu => ?_⟩
    have := hc j u hu
    simp only [EU32, Enc.flat, Nat.mul_one] at this ⊢
    rw [show o + k + i + j = o + (k + i) + j by omega]
    exact this
theorem Sl.tailU {w : World} {S : Nat → Prop} {g o c : Nat} {l : List UInt32} (h : Sl EU32 w S (some ⟨g, o, none⟩) l) (k : Nat) (hc : l.length ≤ c) : Sl EU32 w S (some ⟨g, if c = k then o else o + k, none⟩) (l.drop k) := by
  by_cases h2 : c = k
  · exact .inl (List.drop_eq_nil_of_le (by omega))
  · rw [if_neg h2]; exact h.dropU k
def rowF (A : List Atm) (L : List UInt32) (i k : Nat) : Bool := (List.range k).any fun j => decide (i ≤ j) && matS A ((L.take j).drop i)
def outF (A : List Atm) (L : List UInt32) (i : Nat) : Bool := (List.range i).any fun i' => rowF A L i' (L.length + 1)
theorem rowF_start (A : List Atm) (L : List UInt32) (i : Nat) : rowF A L i i = false := by
  unfold rowF
  rw [List.any_eq_false]
  intro j hj
  rw [List.mem_range] at hj
  rw [decide_eq_false (by omega), Bool.false_and]
  decide
theorem rowF_succ (A : List Atm) (L : List UInt32) {i k : Nat} (h : i ≤ k) : rowF A L i (k + 1) = (rowF A L i k || matS A ((L.take k).drop i)) := by
  unfold rowF
  rw [List.range_succ, List.any_append, List.any_cons, List.any_nil, Bool.or_false, decide_eq_true h, Bool.true_and]
theorem outF_succ (A : List Atm) (L : List UInt32) (i : Nat) : outF A L (i + 1) = (outF A L i || rowF A L i (L.length + 1)) := by
  unfold outF
  rw [List.range_succ, List.any_append, List.any_cons, List.any_nil, Bool.or_false]
theorem outF_all {a : Atm} (h : a.1 = 3) (A : List Atm) (L : List UInt32) : outF A L (L.length + 1) = matS (a :: (A ++ [a])) L := by
  rw [Bool.eq_iff_iff, matS_both h]
  unfold outF rowF
  rw [List.any_eq_true]
  constructor
  · rintro ⟨i, hi, h1⟩
    rw [List.any_eq_true] at h1
    obtain ⟨k, hk, h1⟩ := h1
    rw [List.mem_range] at hi hk
    obtain ⟨h2, h3⟩ := Bool.and_eq_true_iff.1 h1
    exact ⟨i, k, of_decide_eq_true h2, by omega, h3⟩
  · rintro ⟨i, k, hik, hk, h1⟩
    refine ⟨i, List.mem_range.2 (by omega), List.any_eq_true.2 ⟨k, List.mem_range.2 (by omega), Bool.and_eq_true_iff.2 ⟨decide_eq_true hik, h1⟩⟩⟩
theorem sl_atm {W : World} {g : Nat} {kd : Int} {v : UInt32} (h : Blk W g 40 #[.int .i64 kd, .int .u32 (v.toNat : Int)]) (hk : i64 kd) : Sl EAtm W (· < W.heap.size) (some ⟨g, 0, none⟩) [(kd, v)] := by
  refine .inr ⟨g, 0, rfl, h.lt, fun k x hx => ?_⟩
  match k, hx with
  | 0, hx =>
    cases hx
    refine ⟨atmCs (kd, v), ⟨rfl, hk⟩, fun j u hu => ?_⟩
    match j, hu with
    | 0, hu => cases hu; exact h.cell 0
    | 1, hu => cases hu; exact h.cell 1
theorem sl_three {W : World} {a b c : Option Addr} {d e f : Nat} {A B C : List Atm} (hA : A.length ≤ 16777216) (hB : B.length ≤ 16777216) (hC : C.length ≤ 16777216) (h1 : Sl EAtm W (· < W.heap.size) a A) (h2 : Sl EAtm W (· < W.heap.size) b B) (h3 : Sl EAtm W (· < W.heap.size) c C) :
    Sl EAtm.slice (W.alloc (Obj.cells #[.slice a A.length d, .slice b B.length e, .slice c C.length f] 38)) (· < (W.alloc (Obj.cells #[.slice a A.length d, .slice b B.length e, .slice c C.length f] 38)).heap.size) (some ⟨W.heap.size, 0, none⟩) [A, B, C] := by
  have K := Blk.new W 38 #[.slice a A.length d, .slice b B.length e, .slice c C.length f]
  have E := (Ext.refl W).alloc (Obj.cells #[.slice a A.length d, .slice b B.length e, .slice c C.length f] 38)
  refine .inr ⟨W.heap.size, 0, rfl, K.lt, fun k x hx => ?_⟩
  match k, hx with
  | 0, hx => cases hx; exact ⟨[.slice a A.length d], ⟨a, d, rfl, hA, h1.ext E⟩, fun j u hu => by match j, hu with | 0, hu => cases hu; exact K.cell 0⟩
  | 1, hx => cases hx; exact ⟨[.slice b B.length e], ⟨b, e, rfl, hB, h2.ext E⟩, fun j u hu => by match j, hu with | 0, hu => cases hu; exact K.cell 1⟩
  | 2, hx => cases hx; exact ⟨[.slice c C.length f], ⟨c, f, rfl, hC, h3.ext E⟩, fun j u hu => by match j, hu with | 0, hu => cases hu; exact K.cell 2⟩
theorem sl_duo {W : World} {a b : Option Addr} {c d : Nat} {A B : List Atm} (hA : A.length ≤ 16777216) (hB : B.length ≤ 16777216) (h1 : Sl EAtm W (· < W.heap.size) a A) (h2 : Sl EAtm W (· < W.heap.size) b B) :
    Sl EAtm.slice (W.alloc (Obj.cells #[.slice a A.length c, .slice b B.length d] 38)) (· < (W.alloc (Obj.cells #[.slice a A.length c, .slice b B.length d] 38)).heap.size) (some ⟨W.heap.size, 0, none⟩) [A, B] := by
  have K := Blk.new W 38 #[.slice a A.length c, .slice b B.length d]
  have E := (Ext.refl W).alloc (Obj.cells #[.slice a A.length c, .slice b B.length d] 38)
  refine .inr ⟨W.heap.size, 0, rfl, K.lt, fun k x hx => ?_⟩
  match k, hx with
  | 0, hx => cases hx; exact ⟨[.slice a A.length c], ⟨a, c, rfl, hA, h1.ext E⟩, fun j u hu => by match j, hu with | 0, hu => cases hu; exact K.cell 0⟩
  | 1, hx => cases hx; exact ⟨[.slice b B.length d], ⟨b, d, rfl, hB, h2.ext E⟩, fun j u hu => by match j, hu with | 0, hu => cases hu; exact K.cell 1⟩
theorem atomsS_len (l : List UInt8) : (atomsS l).length ≤ 10 := by unfold atomsS; simp; omega
theorem atms_app {A B : List Atm} (hA : atmsOk A = true) (hB : B.all atmOk = true) (hl : A.length + B.length ≤ 64) : atmsOk (A ++ B) = true := by
  unfold atmsOk at *
  rw [Bool.and_eq_true] at hA
  rw [Bool.and_eq_true, List.all_append, hA.1, hB, decide_eq_true_eq, List.length_append]
  exact ⟨rfl, hl⟩
def sA : Atm := (3, 0)
def oA : Atm := (2, 0)
theorem star_1 {A : List Atm} (hA : atmsOk A = true) (hl : A.length ≤ 10) (L : List UInt32) : matchS (sA :: (A ++ [sA])) L = outF A L (L.length + 1) := by
  have h : atmsOk (sA :: (A ++ [sA])) = true := atms_app (A := [sA]) (B := A ++ [sA]) (by decide) (by rw [List.all_append]; unfold atmsOk at hA; rw [Bool.and_eq_true] at hA; rw [hA.1]; decide) (by simp; omega)
  unfold matchS
  rw [h, Bool.true_and, outF_all (a := sA) rfl]
theorem all_of {A : List Atm} (hA : atmsOk A = true) : A.all atmOk = true := by unfold atmsOk at hA; rw [Bool.and_eq_true] at hA; exact hA.1
theorem star_2 {A : List Atm} (hA : atmsOk A = true) (hl : A.length ≤ 10) (L : List UInt32) : matchS (sA :: sA :: A) L = matS (sA :: A) L ∧ matchS (sA :: A) L = matS (sA :: A) L := by
  have h1 : atmsOk (sA :: sA :: A) = true := atms_app (A := [sA, sA]) (B := A) (by decide) (all_of hA) (by simp; omega)
  have h2 : atmsOk (sA :: A) = true := atms_app (A := [sA]) (B := A) (by decide) (all_of hA) (by simp; omega)
  unfold matchS
  rw [h1, h2, Bool.true_and, Bool.true_and, matS_twice (a := sA) rfl]
  exact ⟨rfl, rfl⟩
theorem star_3 {A : List Atm} (hA : atmsOk A = true) (hl : A.length ≤ 10) (L : List UInt32) : matchS (A ++ [oA, sA]) L = matS (A ++ [sA, oA]) L ∧ matchS (A ++ [sA, oA]) L = matS (A ++ [sA, oA]) L := by
  have h1 : atmsOk (A ++ [oA, sA]) = true := atms_app hA (by decide) (by simp; omega)
  have h2 : atmsOk (A ++ [sA, oA]) = true := atms_app hA (by decide) (by simp; omega)
  unfold matchS
  rw [h1, h2, Bool.true_and, Bool.true_and, matS_change (a := sA) (b := oA) rfl rfl]
  exact ⟨rfl, rfl⟩
def onesA (L : List UInt32) : List Atm := L.map fun x => ((1, x) : Atm)
theorem ones_ok {z : List UInt8} : atmsOk (onesA (fewS z)) = true := by
  have hl : (fewS z).length ≤ 12 := by unfold fewS; simp; omega
  unfold atmsOk onesA
  rw [Bool.and_eq_true, List.length_map, decide_eq_true_eq, List.all_eq_true]
  refine ⟨fun a ha => ?_, by omega⟩
  obtain ⟨x, hx, rfl⟩ := List.mem_map.1 ha
  unfold fewS at hx
  obtain ⟨y, _, rfl⟩ := List.mem_map.1 hx
  have := few_nat y
  unfold atmOk
  simp
  omega
theorem ones_same {z : List UInt8} (l : List UInt32) : matchS (onesA (fewS z)) l = decide (l = fewS z) := by
  unfold matchS
  rw [ones_ok, Bool.true_and]
  exact matS_same _ _
theorem text_len {A : List Atm} (hl : A.length ≤ 10) : (textL A).length ≤ 1048576 := by
  by_cases h : A = []
  · subst h; decide
  · rw [textL_join A h]
    have := join_len 21 ((A.map wordB).map (·.data.toList)) (fun x hx => by
      obtain ⟨y, hy, rfl⟩ := List.mem_map.1 hx
      obtain ⟨z, _, rfl⟩ := List.mem_map.1 hy
      exact wordT_len z)
    simp only [List.length_map] at this
    omega

set_option maxRecDepth 20000 in
set_option maxHeartbeats 8000000 in
theorem SetsStars_walk (a1 a2 : Option Addr) (c1 c2 : Nat) (x z : List UInt8) (w : World) (hx : x.length ≤ 16777216) (hz : z.length ≤ 16777216) (hsx : Sl EU8 w (· < w.heap.size) a1 x) (hsz : Sl EU8 w (· < w.heap.size) a2 z) (hT : Tab w) (hD : Deb w) (hV : Vars w) :
    Calls Tryz.prog 6 #[.slice a1 x.length c1, .slice a2 z.length c2] w fun e w' => e = .returned (.bool true) ∧ Ext w w' := by
  have mixed : Tryz.prog.follows Departure.mixedOrders = true := by kernel_rfl
  have qx := fun W (h : Ext w W) => LAtoms_any a1 c1 x W hx (hsx.ext h)
  have qz := fun W (h : Ext w W) => Few_any a2 c2 z W hz (hsz.ext h)
  have qw := fun W (h : Ext w W) => LWorks_any W (hT.ext h) (hD.ext h) (hV.ext h)
  have hAo := atomsS_ok x
  have hAl := atomsS_len x
  have hLl : (fewS z).length ≤ 12 := by unfold fewS; simp; omega
  have hone := ones_same (z := z)
  generalize atomsS x = A at *
  generalize fewS z = L at *
  have v1 := star_1 hAo hAl L
  have v2 := star_2 hAo hAl L
  have v3 := star_3 hAo hAl L
  have hAm := fun (j : List UInt32) => (show matchS A j = matS A j by unfold matchS; rw [hAo, Bool.true_and])
  have htx : textA A = (textL A, 0) := if_pos hAo
  have hpa := parse_textA hAo
  have htl := text_len hAl
  clear hsx hsz
  replace qx := hide qx
  replace qz := hide qz
  replace qw := hide qw
  replace hT := hide hT
  replace hD := hide hD
  replace hV := hide hV
  replace v1 := hide v1
  replace v2 := hide v2
  replace v3 := hide v3
  replace hone := hide hone
  replace hAo := hide hAo
  replace hAm := hide hAm
  replace htx := hide htx
  replace hpa := hide hpa
  replace htl := hide htl
  go_enter Tryz.func6, Tryz.ntmps6
  go_wp2_with fail
  refine (qx.out _ (Ext.refl w)).mono ?_
  rintro e W1 ⟨⟨v, rfl, hown⟩, he⟩
  obtain ⟨aA, cA, rfl, hA⟩ := hown.sl
  have E := hide he
  replace hA := hide (hA.mono (S' := (· < W1.heap.size)) fun b hb => hb.2)
  clear hown he
  go_wp2_with fail
  refine (qz.out _ E.out).mono ?_
  rintro e W2 ⟨⟨v, rfl, hown⟩, he⟩
  obtain ⟨aL, cL, rfl, hcL, hL⟩ := hown.slc
  have hform : cL ≤ 9223372036854775807 ∧ (aL = none → L = [] ∧ cL = 0) ∧ ∀ a, aL = some a → ∃ g, a = ⟨g, 0, none⟩ := by
    obtain ⟨xs, ⟨_, h1⟩, _⟩ := hown
    rcases h1 with ⟨h1, h0⟩ | ⟨g, cap, cur, h1, _, _, _, hm, _⟩
    · injection h1 with h1 h2 h3
      subst h1 h3
      exact ⟨by decide, (fun _ => ⟨List.eq_nil_of_length_eq_zero h0, rfl⟩), (fun a h => by cases h)⟩
    · injection h1 with h1 h2 h3
      subst h1 h3
      exact ⟨(by unfold maxLen at hm; omega), (fun h => by cases h), (fun a h => by cases h; exact ⟨g, rfl⟩)⟩
  replace hA := hide (hA.out.ext he)
  replace E := hide (E.out.trans he)
  replace hL := hide (hL.mono (S' := (· < W2.heap.size)) fun b hb => hb.2)
  clear hown he qx qz
  have hmid : ∀ i k, i ≤ k → k ≤ L.length → ∃ a', (∀ W, (Instr.sliceAt 24 (.slice aL L.length cL) (some (.int .i64 (i : Int))) (some (.int .i64 (k : Int))) none).run Tryz.prog W = .ok (.slice a' (k - i) (cL - i)) W) ∧ ∀ W S, Sl EU32 W S aL L → Sl EU32 W S a' ((L.take k).drop i) := by
    intro i k hik hk
    cases aL with
    | none =>
      obtain ⟨h1, h2⟩ := hform.2.1 rfl
      subst h1 h2
      obtain rfl : k = 0 := by simpa using hk
      obtain rfl : i = 0 := by omega
      exact ⟨none, fun W => slice_midn W, fun W S h => .inl rfl⟩
    | some a =>
      obtain ⟨g, rfl⟩ := hform.2.2 a rfl
      exact ⟨_, fun W => slice_mid g 0 L.length cL i k hik hk hcL hform.1 W, fun W S h => (h.take k).tailU i (by rw [List.length_take]; omega)⟩
  have htail : 1 ≤ L.length → ∃ a', (∀ W, (Instr.sliceAt 24 (.slice aL L.length cL) (some (.int .i64 1)) none none).run Tryz.prog W = .ok (.slice a' (L.length - 1) (cL - 1)) W) ∧ ∀ W S, Sl EU32 W S aL L → Sl EU32 W S a' (L.drop 1) := by
    intro hk
    cases aL with
    | none =>
      obtain ⟨h1, h2⟩ := hform.2.1 rfl
      subst h1
      exact absurd hk (by simp)
    | some a =>
      obtain ⟨g, rfl⟩ := hform.2.2 a rfl
      exact ⟨_, fun W => slice_tail1 g 0 L.length cL 1 hk hcL hform.1 W, fun W S h => h.tailU 1 hcL⟩
  clear hform
  replace hmid := hide hmid
  replace htail := hide htail
  have M := (Blk.new W2 40 #[.int .i64 3, .int .u32 0]).alloc (Obj.cells #[.int .i64 2, .int .u32 0] 40)
  have O := Blk.new (W2.alloc (Obj.cells #[.int .i64 3, .int .u32 0] 40)) 40 #[.int .i64 2, .int .u32 0]
  rw [show (W2.alloc (Obj.cells #[.int .i64 3, .int .u32 0] 40)).heap.size = W2.heap.size + 1 by simp] at O
  replace hA := hA.out.ext (((Ext.refl _).alloc (Obj.cells #[.int .i64 3, .int .u32 0] 40)).alloc (Obj.cells #[.int .i64 2, .int .u32 0] 40))
  replace hL := hL.out.ext (((Ext.refl _).alloc (Obj.cells #[.int .i64 3, .int .u32 0] 40)).alloc (Obj.cells #[.int .i64 2, .int .u32 0] 40))
  replace E := (E.out.alloc (Obj.cells #[.int .i64 3, .int .u32 0] 40)).alloc (Obj.cells #[.int .i64 2, .int .u32 0] 40)
  generalize hW3 : (W2.alloc (Obj.cells #[.int .i64 3, .int .u32 0] 40)).alloc (Obj.cells #[.int .i64 2, .int .u32 0] 40) = W3 at *
  generalize hgm : W2.heap.size = gm at M O
  replace M := hide M
  replace O := hide O
  replace E := hide E
  replace hA := hide hA
  replace hL := hide hL
  go_wp2_with fail
  clear hW3
  try clear hgm
  go_loopw [9, 10] (fun f i wr => ∃ k : Nat, k ≤ L.length + 1 ∧ i = .int .i64 k ∧ f = .bool (outF A L k) ∧ Ext W3 wr) (fun _ i _ => L.length + 1 - (intOf i).toNat)
  case atStart => exact ⟨0, by omega, rfl, rfl, Ext.refl _⟩
  case round =>
    obtain ⟨i, hi, rfl, rfl, hE⟩ := hrel
    replace hE := hide hE
    by_cases hil : i ≤ L.length
    · have hso := outF_succ A L i
      have hrs := rowF_start A L i
      have hrn := fun k (h : i ≤ k) => rowF_succ A L h
      generalize outF A L i = fi at *
      generalize hfr : outF A L (i + 1) = fn at *
      generalize rowF A L i = rf at *
      clear v1
      replace hso := hide hso
      replace hrs := hide hrs
      replace hrn := hide hrn
      replace hfr := hide hfr
      go_wp2_with fail
      go_loopw [9, 11] (fun f q wr => ∃ k : Nat, i ≤ k ∧ k ≤ L.length + 1 ∧ q = .int .i64 k ∧ f = .bool (fi || rf k) ∧ Ext W3 wr) (fun _ q _ => L.length + 1 - (intOf q).toNat)
      case atStart => exact ⟨i, Nat.le_refl _, by omega, rfl, by rw [hrs.out, Bool.or_false], hE.out⟩
      case round =>
        clear hE
        obtain ⟨k, hik, hk, rfl, rfl, hE⟩ := hrel
        replace hE := hide hE
        by_cases hlt : k ≤ L.length
        · have hsc := hrn.out k hik
          have hor := congrArg (fun b => fi || b) hsc
          try dsimp only at hor
          rw [← Bool.or_assoc] at hor
          clear hsc
          generalize (fi || rf k) = fk at hor ⊢
          cases fk with
          | true =>
            rw [Bool.true_or] at hor
            replace hor := hide hor
            go_wp2_with fail
            go_roundw
            case rel => exact ⟨k + 1, by omega, by omega, by go_num, by rw [hor.out], hE.out⟩
            case measure => simp [intOf]; omega
          | false =>
            rw [Bool.false_or] at hor
            obtain ⟨a', h2, h3⟩ := hmid.out i k hik hlt
            have hdl : ((L.take k).drop i).length = k - i := by rw [List.length_drop, List.length_take]; omega
            have q2 := fun W (h : Ext W3 W) => Match_any aA a' cA (cL - i) A ((L.take k).drop i) W (by omega) (by omega) (hA.out.ext h) (h3 _ _ (hL.out.ext h))
            rw [hAm.out, hdl] at q2
            clear hdl h3
            generalize matS A ((L.take k).drop i) = r2 at *
            replace q2 := hide q2
            replace hor := hide hor
            go_wp2_with fail
            refine (q2.out _ hE.out).mono ?_
            rintro e W5 ⟨rfl, he⟩
            replace hE := hide (hE.out.trans he)
            clear he
            go_wp2_with fail
            go_roundw
            case rel => exact ⟨k + 1, by omega, by omega, by go_num, by rw [hor.out], hE.out⟩
            case measure => simp [intOf]; omega
        · obtain rfl : k = L.length + 1 := by omega
          rw [← hso.out]
          clear hrs hrn hso
          go_wp2_with fail
          go_roundw
          case rel => exact ⟨i + 1, by omega, by go_num, by rw [hfr.out], hE.out⟩
          case measure => simp [intOf]; omega
    · obtain rfl : i = L.length + 1 := by omega
      clear hil hi hmid
      rw [← v1.out]
      replace E := hide (E.out.trans hE.out)
      replace M := hide (M.out.ext hE.out)
      replace O := hide (O.out.ext hE.out)
      replace hA := hide (hA.out.ext hE.out)
      replace hL := hide (hL.out.ext hE.out)
      clear hE
      generalize hr1 : matchS (sA :: (A ++ [sA])) L = r1 at *
      obtain ⟨v2a, v2b⟩ := v2.out
      generalize matS (sA :: A) L = r2 at *
      obtain ⟨v3a, v3b⟩ := v3.out
      generalize matS (A ++ [sA, oA]) L = r3 at *
      have hb1 : (r1 != r1) = false := by simp
      have hb2 : (r2 != r2) = false := by simp
      have hb3 : (r3 != r3) = false := by simp
      clear v1 v2 v3
      replace hr1 := hide hr1
      replace v2a := hide v2a
      replace v2b := hide v2b
      replace v3a := hide v3a
      replace v3b := hide v3b
      have qj := LJoin_any (some ⟨wr.heap.size, 0, none⟩) 3 [[sA], A, [sA]] _ (by simp) (fun y hy => by
        simp only [List.mem_cons, List.not_mem_nil, or_false] at hy
        rcases hy with rfl | rfl | rfl <;> first | decide | omega) (sl_three (d := 1) (e := cA) (f := 1) (by first | decide | omega) (by first | decide | omega) (by first | decide | omega) (sl_atm (v := 0) M.out ⟨by decide, by decide⟩) hA.out (sl_atm (v := 0) M.out ⟨by decide, by decide⟩))
      rw [show [[sA], A, [sA]].flatten = sA :: (A ++ [sA]) by simp] at qj
      have E2 := E.out.alloc (Obj.cells #[.slice (some ⟨gm, 0, none⟩) 1 1, .slice aA A.length cA, .slice (some ⟨gm, 0, none⟩) 1 1] 38)
      have X2 := (Ext.refl wr).alloc (Obj.cells #[.slice (some ⟨gm, 0, none⟩) 1 1, .slice aA A.length cA, .slice (some ⟨gm, 0, none⟩) 1 1] 38)
      replace M := M.out.ext X2
      replace O := O.out.ext X2
      replace hA := hA.out.ext X2
      replace hL := hL.out.ext X2
      clear X2 E
      simp only [List.length_cons, List.length_nil, Nat.zero_add, Nat.reduceAdd] at qj
      generalize hW5 : wr.alloc (Obj.cells #[.slice (some ⟨gm, 0, none⟩) 1 1, .slice aA A.length cA, .slice (some ⟨gm, 0, none⟩) 1 1] 38) = W5 at *
      generalize hg5 : wr.heap.size = g5 at *
      replace qj := hide qj
      replace E2 := hide E2
      replace M := hide M
      replace O := hide O
      replace hA := hide hA
      replace hL := hide hL
      go_wp2_with fail
      refine qj.out.mono ?_
      rintro e W7 ⟨⟨v, rfl, hown⟩, he⟩
      clear hW5 hg5 qj
      obtain ⟨aJ, cJ, rfl, hJ⟩ := hown.sl
      replace hJ := hJ.mono (S' := (· < W7.heap.size)) fun b hb => hb.2
      replace E2 := E2.out.trans he
      replace M := M.out.ext he
      replace O := O.out.ext he
      replace hA := hA.out.ext he
      replace hL := hL.out.ext he
      have qm := Match_any aJ aL cJ cL (sA :: (A ++ [sA])) L W7 (by simp only [List.length_append, List.length_cons, List.length_nil]; omega) (by omega) hJ hL
      rw [hr1.out] at qm
      clear hown he hJ
      generalize (sA :: (A ++ [sA])).length = nJ at *
      replace qm := hide qm
      replace E2 := hide E2
      replace M := hide M
      replace O := hide O
      replace hA := hide hA
      replace hL := hide hL
      go_wp2_with fail
      refine qm.out.mono ?_
      rintro e W6 ⟨rfl, he⟩
      clear qm
      have E := hide (E2.out.trans he)
      replace M := hide (M.out.ext he)
      replace O := hide (O.out.ext he)
      replace hA := hide (hA.out.ext he)
      replace hL := hide (hL.out.ext he)
      clear he E2
      have qj := LJoin_any (some ⟨W6.heap.size, 0, none⟩) 3 [[sA], [sA], A] _ (by simp) (fun y hy => by
        simp only [List.mem_cons, List.not_mem_nil, or_false] at hy
        rcases hy with rfl | rfl | rfl <;> first | decide | omega) (sl_three (d := 1) (e := 1) (f := cA) (by first | decide | omega) (by first | decide | omega) (by first | decide | omega) (sl_atm (v := 0) M.out ⟨by decide, by decide⟩) (sl_atm (v := 0) M.out ⟨by decide, by decide⟩) hA.out)
      rw [show [[sA], [sA], A].flatten = sA :: sA :: A by simp] at qj
      have E2 := E.out.alloc (Obj.cells #[.slice (some ⟨gm, 0, none⟩) 1 1, .slice (some ⟨gm, 0, none⟩) 1 1, .slice aA A.length cA] 38)
      have X2 := (Ext.refl W6).alloc (Obj.cells #[.slice (some ⟨gm, 0, none⟩) 1 1, .slice (some ⟨gm, 0, none⟩) 1 1, .slice aA A.length cA] 38)
      replace M := M.out.ext X2
      replace O := O.out.ext X2
      replace hA := hA.out.ext X2
      replace hL := hL.out.ext X2
      clear X2 E
      simp only [List.length_cons, List.length_nil, Nat.zero_add, Nat.reduceAdd] at qj
      generalize hW5 : W6.alloc (Obj.cells #[.slice (some ⟨gm, 0, none⟩) 1 1, .slice (some ⟨gm, 0, none⟩) 1 1, .slice aA A.length cA] 38) = W5 at *
      generalize hg5 : W6.heap.size = g5 at *
      replace qj := hide qj
      replace E2 := hide E2
      replace M := hide M
      replace O := hide O
      replace hA := hide hA
      replace hL := hide hL
      go_wp2_with fail
      refine qj.out.mono ?_
      rintro e W7 ⟨⟨v, rfl, hown⟩, he⟩
      clear hW5 hg5 qj
      obtain ⟨aJ, cJ, rfl, hJ⟩ := hown.sl
      replace hJ := hJ.mono (S' := (· < W7.heap.size)) fun b hb => hb.2
      replace E2 := E2.out.trans he
      replace M := M.out.ext he
      replace O := O.out.ext he
      replace hA := hA.out.ext he
      replace hL := hL.out.ext he
      have qm := Match_any aJ aL cJ cL (sA :: sA :: A) L W7 (by simp only [List.length_append, List.length_cons, List.length_nil]; omega) (by omega) hJ hL
      rw [v2a.out] at qm
      clear hown he hJ
      generalize (sA :: sA :: A).length = nJ at *
      replace qm := hide qm
      replace E2 := hide E2
      replace M := hide M
      replace O := hide O
      replace hA := hide hA
      replace hL := hide hL
      go_wp2_with fail
      refine qm.out.mono ?_
      rintro e W6 ⟨rfl, he⟩
      clear qm
      have E := hide (E2.out.trans he)
      replace M := hide (M.out.ext he)
      replace O := hide (O.out.ext he)
      replace hA := hide (hA.out.ext he)
      replace hL := hide (hL.out.ext he)
      clear he E2
      have qj := LJoin_any (some ⟨W6.heap.size, 0, none⟩) 2 [[sA], A] _ (by simp) (fun y hy => by
        simp only [List.mem_cons, List.not_mem_nil, or_false] at hy
        rcases hy with rfl | rfl <;> first | decide | omega) (sl_duo (c := 1) (d := cA) (by first | decide | omega) (by first | decide | omega) (sl_atm (v := 0) M.out ⟨by decide, by decide⟩) hA.out)
      rw [show [[sA], A].flatten = sA :: A by simp] at qj
      have E2 := E.out.alloc (Obj.cells #[.slice (some ⟨gm, 0, none⟩) 1 1, .slice aA A.length cA] 38)
      have X2 := (Ext.refl W6).alloc (Obj.cells #[.slice (some ⟨gm, 0, none⟩) 1 1, .slice aA A.length cA] 38)
      replace M := M.out.ext X2
      replace O := O.out.ext X2
      replace hA := hA.out.ext X2
      replace hL := hL.out.ext X2
      clear X2 E
      simp only [List.length_cons, List.length_nil, Nat.zero_add, Nat.reduceAdd] at qj
      generalize hW5 : W6.alloc (Obj.cells #[.slice (some ⟨gm, 0, none⟩) 1 1, .slice aA A.length cA] 38) = W5 at *
      generalize hg5 : W6.heap.size = g5 at *
      replace qj := hide qj
      replace E2 := hide E2
      replace M := hide M
      replace O := hide O
      replace hA := hide hA
      replace hL := hide hL
      go_wp2_with fail
      refine qj.out.mono ?_
      rintro e W7 ⟨⟨v, rfl, hown⟩, he⟩
      clear hW5 hg5 qj
      obtain ⟨aJ, cJ, rfl, hJ⟩ := hown.sl
      replace hJ := hJ.mono (S' := (· < W7.heap.size)) fun b hb => hb.2
      replace E2 := E2.out.trans he
      replace M := M.out.ext he
      replace O := O.out.ext he
      replace hA := hA.out.ext he
      replace hL := hL.out.ext he
      have qm := Match_any aJ aL cJ cL (sA :: A) L W7 (by simp only [List.length_append, List.length_cons, List.length_nil]; omega) (by omega) hJ hL
      rw [v2b.out] at qm
      clear hown he hJ
      generalize (sA :: A).length = nJ at *
      replace qm := hide qm
      replace E2 := hide E2
      replace M := hide M
      replace O := hide O
      replace hA := hide hA
      replace hL := hide hL
      go_wp2_with fail
      refine qm.out.mono ?_
      rintro e W6 ⟨rfl, he⟩
      clear qm
      have E := hide (E2.out.trans he)
      replace M := hide (M.out.ext he)
      replace O := hide (O.out.ext he)
      replace hA := hide (hA.out.ext he)
      replace hL := hide (hL.out.ext he)
      clear he E2
      have qj := LJoin_any (some ⟨W6.heap.size, 0, none⟩) 3 [A, [oA], [sA]] _ (by simp) (fun y hy => by
        simp only [List.mem_cons, List.not_mem_nil, or_false] at hy
        rcases hy with rfl | rfl | rfl <;> first | decide | omega) (sl_three (d := cA) (e := 1) (f := 1) (by first | decide | omega) (by first | decide | omega) (by first | decide | omega) hA.out (sl_atm (v := 0) O.out ⟨by decide, by decide⟩) (sl_atm (v := 0) M.out ⟨by decide, by decide⟩))
      rw [show [A, [oA], [sA]].flatten = A ++ [oA, sA] by simp] at qj
      have E2 := E.out.alloc (Obj.cells #[.slice aA A.length cA, .slice (some ⟨gm + 1, 0, none⟩) 1 1, .slice (some ⟨gm, 0, none⟩) 1 1] 38)
      have X2 := (Ext.refl W6).alloc (Obj.cells #[.slice aA A.length cA, .slice (some ⟨gm + 1, 0, none⟩) 1 1, .slice (some ⟨gm, 0, none⟩) 1 1] 38)
      replace M := M.out.ext X2
      replace O := O.out.ext X2
      replace hA := hA.out.ext X2
      replace hL := hL.out.ext X2
      clear X2 E
      simp only [List.length_cons, List.length_nil, Nat.zero_add, Nat.reduceAdd] at qj
      generalize hW5 : W6.alloc (Obj.cells #[.slice aA A.length cA, .slice (some ⟨gm + 1, 0, none⟩) 1 1, .slice (some ⟨gm, 0, none⟩) 1 1] 38) = W5 at *
      generalize hg5 : W6.heap.size = g5 at *
      replace qj := hide qj
      replace E2 := hide E2
      replace M := hide M
      replace O := hide O
      replace hA := hide hA
      replace hL := hide hL
      go_wp2_with fail
      refine qj.out.mono ?_
      rintro e W7 ⟨⟨v, rfl, hown⟩, he⟩
      clear hW5 hg5 qj
      obtain ⟨aJ, cJ, rfl, hJ⟩ := hown.sl
      replace hJ := hJ.mono (S' := (· < W7.heap.size)) fun b hb => hb.2
      replace E2 := E2.out.trans he
      replace M := M.out.ext he
      replace O := O.out.ext he
      replace hA := hA.out.ext he
      replace hL := hL.out.ext he
      have qm := Match_any aJ aL cJ cL (A ++ [oA, sA]) L W7 (by simp only [List.length_append, List.length_cons, List.length_nil]; omega) (by omega) hJ hL
      rw [v3a.out] at qm
      clear hown he hJ
      generalize (A ++ [oA, sA]).length = nJ at *
      replace qm := hide qm
      replace E2 := hide E2
      replace M := hide M
      replace O := hide O
      replace hA := hide hA
      replace hL := hide hL
      go_wp2_with fail
      refine qm.out.mono ?_
      rintro e W6 ⟨rfl, he⟩
      clear qm
      have E := hide (E2.out.trans he)
      replace M := hide (M.out.ext he)
      replace O := hide (O.out.ext he)
      replace hA := hide (hA.out.ext he)
      replace hL := hide (hL.out.ext he)
      clear he E2
      have qj := LJoin_any (some ⟨W6.heap.size, 0, none⟩) 3 [A, [sA], [oA]] _ (by simp) (fun y hy => by
        simp only [List.mem_cons, List.not_mem_nil, or_false] at hy
        rcases hy with rfl | rfl | rfl <;> first | decide | omega) (sl_three (d := cA) (e := 1) (f := 1) (by first | decide | omega) (by first | decide | omega) (by first | decide | omega) hA.out (sl_atm (v := 0) M.out ⟨by decide, by decide⟩) (sl_atm (v := 0) O.out ⟨by decide, by decide⟩))
      rw [show [A, [sA], [oA]].flatten = A ++ [sA, oA] by simp] at qj
      have E2 := E.out.alloc (Obj.cells #[.slice aA A.length cA, .slice (some ⟨gm, 0, none⟩) 1 1, .slice (some ⟨gm + 1, 0, none⟩) 1 1] 38)
      have X2 := (Ext.refl W6).alloc (Obj.cells #[.slice aA A.length cA, .slice (some ⟨gm, 0, none⟩) 1 1, .slice (some ⟨gm + 1, 0, none⟩) 1 1] 38)
      replace M := M.out.ext X2
      replace O := O.out.ext X2
      replace hA := hA.out.ext X2
      replace hL := hL.out.ext X2
      clear X2 E
      simp only [List.length_cons, List.length_nil, Nat.zero_add, Nat.reduceAdd] at qj
      generalize hW5 : W6.alloc (Obj.cells #[.slice aA A.length cA, .slice (some ⟨gm, 0, none⟩) 1 1, .slice (some ⟨gm + 1, 0, none⟩) 1 1] 38) = W5 at *
      generalize hg5 : W6.heap.size = g5 at *
      replace qj := hide qj
      replace E2 := hide E2
      replace M := hide M
      replace O := hide O
      replace hA := hide hA
      replace hL := hide hL
      go_wp2_with fail
      refine qj.out.mono ?_
      rintro e W7 ⟨⟨v, rfl, hown⟩, he⟩
      clear hW5 hg5 qj
      obtain ⟨aJ, cJ, rfl, hJ⟩ := hown.sl
      replace hJ := hJ.mono (S' := (· < W7.heap.size)) fun b hb => hb.2
      replace E2 := E2.out.trans he
      replace M := M.out.ext he
      replace O := O.out.ext he
      replace hA := hA.out.ext he
      replace hL := hL.out.ext he
      have qm := Match_any aJ aL cJ cL (A ++ [sA, oA]) L W7 (by simp only [List.length_append, List.length_cons, List.length_nil]; omega) (by omega) hJ hL
      rw [v3b.out] at qm
      clear hown he hJ
      generalize (A ++ [sA, oA]).length = nJ at *
      replace qm := hide qm
      replace E2 := hide E2
      replace M := hide M
      replace O := hide O
      replace hA := hide hA
      replace hL := hide hL
      go_wp2_with fail
      refine qm.out.mono ?_
      rintro e W6 ⟨rfl, he⟩
      clear qm
      have E := hide (E2.out.trans he)
      replace M := hide (M.out.ext he)
      replace O := hide (O.out.ext he)
      replace hA := hide (hA.out.ext he)
      replace hL := hide (hL.out.ext he)
      clear he E2
      clear hr1 v2a v2b v3a v3b M O
      go_wp2_with fail
      go_loopw [12, 13] (fun v q wr => ∃ k : Nat, k ≤ L.length ∧ q = .int .i64 k ∧ Own EAtm 40 wr W6.heap.size v (onesA (L.take k)) ∧ Ext W6 wr) (fun _ q _ => L.length - (intOf q).toNat)
      case atStart => exact ⟨0, Nat.zero_le _, rfl, Own.nil, Ext.refl _⟩
      case round =>
        obtain ⟨k, hk, rfl, hown, hE⟩ := hrel
        have hsz := hE.size
        replace hown := hide hown
        replace hE := hide hE
        by_cases hlt : k < L.length
        · obtain ⟨b, off, rfl, _, y0⟩ := EU32.at (hL.out.ext hE.out) k hlt
          have hnx : onesA (L.take (k + 1)) = onesA (L.take k) ++ [((1, L[k]) : Atm)] := by unfold onesA; rw [List.take_succ_eq_append_getElem hlt, List.map_append]; rfl
          have hln : (onesA (L.take k)).length ≤ 12 := by unfold onesA; simp; omega
          generalize L[k] = y at *
          have hcs : ∀ j u, (atmCs (1, y))[j]? = some u → (wr.alloc (Obj.cells #[.int .i64 1, .int .u32 (y.toNat : Int)] 40)).cell? ((⟨wr.heap.size, 0, none⟩ : Addr).add j) = some u := cells_new wr #[.int .i64 1, .int .u32 (y.toNat : Int)] 40
          replace hnx := hide hnx
          replace hln := hide hln
          replace hcs := hide hcs
          go_wp2_with (at_builtin
                       have hox := hown.out.alloc (Obj.cells #[.int .i64 1, .int .u32 (y.toNat : Int)] 40)
                       refine wpList_push (E := EAtm) rfl _ _ _ rfl okAtm (by decide) (by decide) rfl hox (by have := hln.out; omega) (by simp; omega) rfl (y := ((1, y) : Atm)) (cs := atmCs (1, y)) ⟨rfl, by show i64 1; exact ⟨by decide, by decide⟩⟩ hcs.out ?_
                       intro v' w5 hown1 hg hat)
          go_roundw
          case rel => exact ⟨k + 1, by omega, by go_num, by rw [hnx.out]; exact hown1, (hE.out.alloc _).push (fun j hj => (hown.out.lt j hj).1) hg⟩
          case measure => simp [intOf]; omega
        · obtain rfl : k = L.length := by omega
          rw [List.take_length] at hown
          obtain ⟨aJ, cJ, rfl, hJ⟩ := hown.out.sl
          replace hJ := hJ.mono (S' := (· < wr.heap.size)) fun b hb => hb.2
          replace E := hide (E.out.trans hE.out)
          replace hA := hide (hA.out.ext hE.out)
          replace hL := hide (hL.out.ext hE.out)
          have hol : (onesA L).length ≤ 12 := by unfold onesA; simp; omega
          have qm := fun W (h : Ext wr W) => Match_any aJ aL cJ cL (onesA L) L W (by omega) (by omega) (hJ.ext h) (hL.out.ext h)
          rw [hone.out, decide_eq_true rfl] at qm
          have qn := fun a' W (h : Ext wr W) (h3 : ∀ W S, Sl EU32 W S aL L → Sl EU32 W S a' (L.drop 1)) => Match_any aJ a' cJ (cL - 1) (onesA L) (L.drop 1) W (by omega) (by rw [List.length_drop]; omega) (hJ.ext h) (h3 _ _ (hL.out.ext h))
          rw [hone.out, List.length_drop] at qn
          have hbad : 1 ≤ L.length → decide (L.drop 1 = L) = false := fun h => decide_eq_false fun e => by
            have := congrArg List.length e
            rw [List.length_drop] at this
            omega
          clear hown hE hlt hsz hJ hone
          generalize (onesA L).length = nJ at *
          replace hE := hide (Ext.refl wr)
          replace qm := hide qm
          replace qn := hide qn
          replace hbad := hide hbad
          go_wp2_with fail
          refine (qm.out _ hE.out).mono ?_
          rintro e W7 ⟨rfl, he⟩
          replace hE := hide (hE.out.trans he)
          clear he
          rcases (show L.length = 0 ∨ 1 ≤ L.length by omega) with h0 | h1
          · have hle : decide ((0 : Int) < (L.length : Int)) = false := decide_eq_false (by omega)
            have hl0 : ¬ (0 < L.length) := by omega
            clear h0 qn hbad htail qm
            replace E := hide (E.out.trans hE.out)
            replace hA := hide (hA.out.ext hE.out)
            clear hE hL
            have qt := fun W (h : Ext w W) (hs : Sl EAtm W (· < W.heap.size) aA A) => Text_any aA cA A W (hT.out.ext h) (by omega) hs
            rw [htx.out] at qt
            have qp := fun W (h : Ext w W) => SParse_any (textL A) htl.out W (hT.out.ext h) (hV.out.ext h)
            unfold PaP at qp
            rw [hpa.out] at qp
            clear htx hpa htl hT hV hD hAo hAm
            dsimp only at qt qp
            generalize textL A = tA at *
            replace qt := hide qt
            replace qp := hide qp
            go_wp2_with fail
            refine (qt.out _ E.out hA.out).mono ?_
            rintro e W9 ⟨rfl, he⟩
            replace E := hide (E.out.trans he)
            replace hA := hide (hA.out.ext he)
            clear he qt
            go_wp2_with fail
            refine (qp.out _ E.out).mono ?_
            rintro e W10 ⟨⟨v, rfl, hown⟩, he⟩
            obtain ⟨aB, cB, rfl, hB⟩ := hown.sl
            replace E := hide (E.out.trans he)
            replace hA := hide (hA.out.ext he)
            replace hB := hide (hB.mono (S' := (· < W10.heap.size)) fun b hb => hb.2)
            clear hown he qp
            go_wp2_with fail
            go_loopw [18] (fun q wr => ∃ k : Nat, k ≤ A.length ∧ q = .int .i64 k ∧ Ext W10 wr) (fun q _ => A.length - (intOf q).toNat)
            case atStart => exact ⟨0, Nat.zero_le _, rfl, Ext.refl _⟩
            case round =>
              obtain ⟨k, hk, rfl, hE⟩ := hrel
              by_cases hlt : k < A.length
              · obtain ⟨b1, o1, rfl, _, _, x0, x1⟩ := EAtm.at (hA.out.ext hE) k hlt
                obtain ⟨b2, o2, rfl, _, _, y0, y1⟩ := EAtm.at (hB.out.ext hE) k hlt
                have he := fun (W : World) => neqA_run W A[k] A[k] true (by simp)
                have heg : ∀ x y xs ys W, (eqGuard .neq 40 x y (.agg xs) (.agg ys)).run Tryz.prog W = .ok () W := fun x y xs ys W => run_eqGuard_agg W .neq _ x y xs ys Tryz.eqGuardType40
                generalize A[k] = y at *
                replace hE := hide hE
                go_wp2_with fail
                go_region
                go_wp2
                go_roundw
                case rel => exact ⟨k + 1, by omega, by go_num, hE.out.drew⟩
                case measure => simp [intOf]; omega
              · obtain rfl : k = A.length := by omega
                replace E := hide (E.out.trans hE)
                clear hE hA hB
                go_wp2_with fail
                refine (qw.out _ E.out).mono ?_
                rintro e W11 ⟨rfl, he⟩
                replace E := hide (E.out.trans he)
                clear he
                go_wp2
                go_ret
                exact ⟨rfl, E.out⟩
          · obtain ⟨a', g2, g3⟩ := htail.out h1
            have qn' := fun W h => qn.out a' W h g3
            rw [hbad.out h1] at qn'
            have hle : decide ((0 : Int) < (L.length : Int)) = true := decide_eq_true (by omega)
            have hl0 : 0 < L.length := by omega
            clear h1 qn hbad htail qm g3
            replace qn' := hide qn'
            go_wp2_with fail
            refine (qn'.out _ hE.out).mono ?_
            rintro e W8 ⟨rfl, he⟩
            replace hE := hide (hE.out.trans he)
            clear he qn'
            replace E := hide (E.out.trans hE.out)
            replace hA := hide (hA.out.ext hE.out)
            clear hE hL
            have qt := fun W (h : Ext w W) (hs : Sl EAtm W (· < W.heap.size) aA A) => Text_any aA cA A W (hT.out.ext h) (by omega) hs
            rw [htx.out] at qt
            have qp := fun W (h : Ext w W) => SParse_any (textL A) htl.out W (hT.out.ext h) (hV.out.ext h)
            unfold PaP at qp
            rw [hpa.out] at qp
            clear htx hpa htl hT hV hD hAo hAm
            dsimp only at qt qp
            generalize textL A = tA at *
            replace qt := hide qt
            replace qp := hide qp
            go_wp2_with fail
            refine (qt.out _ E.out hA.out).mono ?_
            rintro e W9 ⟨rfl, he⟩
            replace E := hide (E.out.trans he)
            replace hA := hide (hA.out.ext he)
            clear he qt
            go_wp2_with fail
            refine (qp.out _ E.out).mono ?_
            rintro e W10 ⟨⟨v, rfl, hown⟩, he⟩
            obtain ⟨aB, cB, rfl, hB⟩ := hown.sl
            replace E := hide (E.out.trans he)
            replace hA := hide (hA.out.ext he)
            replace hB := hide (hB.mono (S' := (· < W10.heap.size)) fun b hb => hb.2)
            clear hown he qp
            go_wp2_with fail
            go_loopw [18] (fun q wr => ∃ k : Nat, k ≤ A.length ∧ q = .int .i64 k ∧ Ext W10 wr) (fun q _ => A.length - (intOf q).toNat)
            case atStart => exact ⟨0, Nat.zero_le _, rfl, Ext.refl _⟩
            case round =>
              obtain ⟨k, hk, rfl, hE⟩ := hrel
              by_cases hlt : k < A.length
              · obtain ⟨b1, o1, rfl, _, _, x0, x1⟩ := EAtm.at (hA.out.ext hE) k hlt
                obtain ⟨b2, o2, rfl, _, _, y0, y1⟩ := EAtm.at (hB.out.ext hE) k hlt
                have he := fun (W : World) => neqA_run W A[k] A[k] true (by simp)
                have heg : ∀ x y xs ys W, (eqGuard .neq 40 x y (.agg xs) (.agg ys)).run Tryz.prog W = .ok () W := fun x y xs ys W => run_eqGuard_agg W .neq _ x y xs ys Tryz.eqGuardType40
                generalize A[k] = y at *
                replace hE := hide hE
                go_wp2_with fail
                go_region
                go_wp2
                go_roundw
                case rel => exact ⟨k + 1, by omega, by go_num, hE.out.drew⟩
                case measure => simp [intOf]; omega
              · obtain rfl : k = A.length := by omega
                replace E := hide (E.out.trans hE)
                clear hE hA hB
                go_wp2_with fail
                refine (qw.out _ E.out).mono ?_
                rintro e W11 ⟨rfl, he⟩
                replace E := hide (E.out.trans he)
                clear he
                go_wp2
                go_ret
                exact ⟨rfl, E.out⟩
end Go.Proofs.YtoghdmoldcjedaaGreatDoor
