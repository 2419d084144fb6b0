/- The walk of SetsCut. -/
import Derived.Test.YtoghdmoldcjedaaDoorV22
namespace Go.Proofs.YtoghdmoldcjedaaDoor
open Go.RowKit Go.Sort
set_option linter.unusedVariables false

theorem slice_head (a : Option Addr) (n c k : Nat) (hk : k ≤ n) (hn : n ≤ c) (hc : c ≤ 9223372036854775807) (W : World) : (Instr.sliceAt 25 (.slice a n c) none (some (.int .i64 (k : Int))) none).run Tryd.prog W = .ok (.slice a k c) W := by
  go_simp
  first | omega | (intro h; omega) | skip
theorem slice_tail (g o n c k : Nat) (hk : k ≤ n) (hn : n ≤ c) (hc : c ≤ 9223372036854775807) (W : World) : (Instr.sliceAt 25 (.slice (some ⟨g, o, none⟩) n c) (some (.int .i64 (k : Int))) none none).run Tryd.prog W = .ok (.slice (some ⟨g, if c = k then o else o + k, none⟩) (n - k) (c - k)) W := by
  by_cases h : c = k
  · subst h
    have : n = c := by omega
    subst this
    rw [if_pos rfl]
    go_simp
  · rw [if_neg h]
    go_simp
theorem Sl.drop1 {w : World} {S : Nat → Prop} {g o : Nat} {l : List UInt32} (h : Sl EU32 w S (some ⟨g, o, none⟩) l) (k : Nat) : Sl EU32 w S (some ⟨g, o + k, none⟩) (l.drop k) := by
  rcases h with h | ⟨b, off, he, hb, h⟩
  · subst h; exact .inl (by simp)
  · injection he with he
    injection he with h1 h2 _
    subst h1 h2
    refine .inr ⟨g, o + k, rfl, hb, fun i x hx => ?_⟩
    rw [List.getElem?_drop] at hx
    obtain ⟨cs, hr, hc⟩ := h (k + i) x hx
    refine ⟨cs, hr, fun j u hu => ?_⟩
    have := hc j u hu
    simp only [EU32, Enc.flat, Nat.mul_one] at this ⊢
    rw [show o + k + i + j = o + (k + i) + j by omega]
    exact this
theorem Sl.tail1 {w : World} {S : Nat → Prop} {g o c : Nat} {l : List UInt32} (h : Sl EU32 w S (some ⟨g, o, none⟩) l) (k : Nat) (hc : l.length ≤ c) : Sl EU32 w S (some ⟨g, if c = k then o else o + k, none⟩) (l.drop k) := by
  by_cases h2 : c = k
  · exact .inl (List.drop_eq_nil_of_le (by omega))
  · rw [if_neg h2]; exact h.drop1 k
def cutF (A B : List Atm) (L : List UInt32) (k : Nat) : Bool := (List.range k).any fun j => matS A (L.take j) && matS B (L.drop j)
theorem cutF_succ (A B : List Atm) (L : List UInt32) (k : Nat) : cutF A B L (k + 1) = (cutF A B L k || (matS A (L.take k) && matS B (L.drop k))) := by
  unfold cutF
  rw [List.range_succ, List.any_append, List.any_cons, List.any_nil, Bool.or_false]
theorem cutF_all (A B : List Atm) (L : List UInt32) : cutF A B L (L.length + 1) = matS (A ++ B) L := by
  rw [Bool.eq_iff_iff, matS_append]
  unfold cutF
  rw [List.any_eq_true]
  constructor
  · rintro ⟨j, hj, h⟩
    rw [List.mem_range] at hj
    obtain ⟨h1, h2⟩ := Bool.and_eq_true_iff.1 h
    exact ⟨j, by omega, h1, h2⟩
  · rintro ⟨j, hj, h1, h2⟩
    exact ⟨j, List.mem_range.2 (by omega), Bool.and_eq_true_iff.2 ⟨h1, h2⟩⟩
theorem atomsS_len (l : List UInt8) : (atomsS l).length ≤ 10 := by unfold atomsS; simp; omega
theorem join_ok (x y : List UInt8) : atmsOk (atomsS x ++ atomsS y) = true := by
  have h1 := atomsS_ok x
  have h2 := atomsS_ok y
  have h3 := atomsS_len x
  have h4 := atomsS_len y
  unfold atmsOk at *
  rw [Bool.and_eq_true] at h1 h2
  rw [Bool.and_eq_true, List.all_append, h1.1, h2.1, decide_eq_true_eq, List.length_append]
  exact ⟨rfl, by omega⟩
theorem sl_pair {W : World} {a b : Option Addr} {c d : Nat} {A B : List Atm} (hA : A.length ≤ 16777216) (hB : B.length ≤ 16777216) (h1 : Sl EAtm W (· < W.heap.size) a A) (h2 : Sl EAtm W (· < W.heap.size) b B) :
    Sl EAtm.slice (W.alloc (Obj.cells #[.slice a A.length c, .slice b B.length d] 23)) (· < (W.alloc (Obj.cells #[.slice a A.length c, .slice b B.length d] 23)).heap.size) (some ⟨W.heap.size, 0, none⟩) [A, B] := by
  have K := Blk.new W 23 #[.slice a A.length c, .slice b B.length d]
  have E := (Ext.refl W).alloc (Obj.cells #[.slice a A.length c, .slice b B.length d] 23)
  refine .inr ⟨W.heap.size, 0, rfl, K.lt, fun k x hx => ?_⟩
  match k, hx with
  | 0, hx => cases hx; exact ⟨[.slice a A.length c], ⟨a, c, rfl, hA, h1.ext E⟩, fun j u hu => by match j, hu with | 0, hu => cases hu; exact K.cell 0⟩
  | 1, hx => cases hx; exact ⟨[.slice b B.length d], ⟨b, d, rfl, hB, h2.ext E⟩, fun j u hu => by match j, hu with | 0, hu => cases hu; exact K.cell 1⟩
set_option maxRecDepth 20000 in
set_option maxHeartbeats 4000000 in
theorem SetsCut_walk (a1 a2 a3 : Option Addr) (c1 c2 c3 : Nat) (x y z : List UInt8) (w : World) (hx : x.length ≤ 16777216) (hy : y.length ≤ 16777216) (hz : z.length ≤ 16777216) (hsx : Sl EU8 w (· < w.heap.size) a1 x) (hsy : Sl EU8 w (· < w.heap.size) a2 y) (hsz : Sl EU8 w (· < w.heap.size) a3 z) (hT : Tab w) (hD : Deb w) (hV : Vars w) :
    Calls Tryd.prog 3 #[.slice a1 x.length c1, .slice a2 y.length c2, .slice a3 z.length c3] w fun e w' => e = .returned (.bool true) ∧ Ext w w' := by
  have mixed : Tryd.prog.follows Departure.mixedOrders = true := by kernel_rfl
  have qx := fun W (h : Ext w W) => LAtoms_any a1 c1 x W hx (hsx.ext h)
  have qy := fun W (h : Ext w W) => LAtoms_any a2 c2 y W hy (hsy.ext h)
  have qz := fun W (h : Ext w W) => Few_any a3 c3 z W hz (hsz.ext h)
  have qw := fun W (h : Ext w W) => LWorks_any W (hT.ext h) (hD.ext h) (hV.ext h)
  have hAo := atomsS_ok x
  have hBo := atomsS_ok y
  have hJo := join_ok x y
  have hAl := atomsS_len x
  have hBl := atomsS_len y
  have hLl : (fewS z).length ≤ 12 := by unfold fewS; simp; omega
  generalize atomsS x = A at *
  generalize atomsS y = B at *
  generalize fewS z = L at *
  clear hsx hsy hsz hT hD hV
  have hall := cutF_all A B L
  replace qx := hide qx
  replace qy := hide qy
  replace qz := hide qz
  replace qw := hide qw
  replace hAo := hide hAo
  replace hBo := hide hBo
  replace hJo := hide hJo
  replace hall := hide hall
  go_enter Tryd.func3, Tryd.ntmps3
  go_wp2_with fail
  refine (qx.out _ (Ext.refl w)).mono ?_
  rintro e W1 ⟨⟨v, rfl, hown⟩, he⟩
  obtain ⟨aA, cA, rfl, hA⟩ := hown.sl
  have E := hide he
  replace hA := hide (hA.mono (S' := (· < W1.heap.size)) fun b hb => hb.2)
  clear hown he
  go_wp2_with fail
  refine (qy.out _ E.out).mono ?_
  rintro e W2 ⟨⟨v, rfl, hown⟩, he⟩
  obtain ⟨aB, cB, rfl, hB⟩ := hown.sl
  replace hA := hide (hA.out.ext he)
  replace E := hide (E.out.trans he)
  replace hB := hide (hB.mono (S' := (· < W2.heap.size)) fun b hb => hb.2)
  clear hown he
  go_wp2_with fail
  refine (qz.out _ E.out).mono ?_
  rintro e W3 ⟨⟨v, rfl, hown⟩, he⟩
  obtain ⟨aL, cL, rfl, hcL, hL⟩ := hown.slc
  have hform : cL ≤ 9223372036854775807 ∧ (aL = none → L = [] ∧ cL = 0) ∧ ∀ a, aL = some a → ∃ g, a = ⟨g, 0, none⟩ := by
    obtain ⟨xs, ⟨_, h1⟩, _⟩ := hown
    rcases h1 with ⟨h1, h0⟩ | ⟨g, cap, cur, h1, _, _, _, hm, _⟩
    · injection h1 with h1 h2 h3
      subst h1 h3
      exact ⟨by decide, (fun _ => ⟨List.eq_nil_of_length_eq_zero h0, rfl⟩), (fun a h => by cases h)⟩
    · injection h1 with h1 h2 h3
      subst h1 h3
      exact ⟨(by unfold maxLen at hm; omega), (fun h => by cases h), (fun a h => by cases h; exact ⟨g, rfl⟩)⟩
  replace hA := hide (hA.out.ext he)
  replace hB := hide (hB.out.ext he)
  replace E := hide (E.out.trans he)
  replace hL := hide (hL.mono (S' := (· < W3.heap.size)) fun b hb => hb.2)
  clear hown he qx qy qz
  have hhead := fun k (hk : k ≤ L.length) => slice_head aL L.length cL k hk hcL hform.1
  have htail : ∀ k, k ≤ L.length → ∃ a', (∀ W, (Instr.sliceAt 25 (.slice aL L.length cL) (some (.int .i64 (k : Int))) none none).run Tryd.prog W = .ok (.slice a' (L.length - k) (cL - k)) W) ∧ ∀ W S, Sl EU32 W S aL L → Sl EU32 W S a' (L.drop k) := by
    intro k hk
    cases aL with
    | none =>
      obtain ⟨h1, h2⟩ := hform.2.1 rfl
      subst h1 h2
      obtain rfl : k = 0 := by simpa using hk
      exact ⟨none, fun W => by go_simp, fun W S h => .inl rfl⟩
    | some a =>
      obtain ⟨g, rfl⟩ := hform.2.2 a rfl
      exact ⟨_, fun W => slice_tail g 0 L.length cL k hk hcL hform.1 W, fun W S h => h.tail1 k hcL⟩
  have hAm := fun (j : List UInt32) => (show matchS A j = matS A j by unfold matchS; rw [hAo.out, Bool.true_and])
  have hBm := fun (j : List UInt32) => (show matchS B j = matS B j by unfold matchS; rw [hBo.out, Bool.true_and])
  have hJm := (show matchS (A ++ B) L = matS (A ++ B) L by unfold matchS; rw [hJo.out, Bool.true_and])
  clear hform hAo hBo hJo
  replace hhead := hide hhead
  replace htail := hide htail
  replace hAm := hide hAm
  replace hBm := hide hBm
  replace hJm := hide hJm
  go_wp2_with fail
  go_loopw [10, 11] (fun f i wr => ∃ k : Nat, k ≤ L.length + 1 ∧ i = .int .i64 k ∧ f = .bool (cutF A B L k) ∧ Ext W3 wr) (fun _ i _ => L.length + 1 - (intOf i).toNat)
  case atStart => exact ⟨0, by omega, rfl, rfl, Ext.refl _⟩
  case round =>
    obtain ⟨k, hk, rfl, rfl, hE⟩ := hrel
    replace hE := hide hE
    by_cases hlt : k ≤ L.length
    · have hsc := cutF_succ A B L k
      generalize cutF A B L k = fk at hsc
      cases fk with
      | true =>
        rw [Bool.true_or] at hsc
        replace hsc := hide hsc
        go_wp2_with fail
        go_roundw
        case rel => exact ⟨k + 1, by omega, by go_num, by rw [hsc.out], hE.out⟩
        case measure => simp [intOf]; omega
      | false =>
        rw [Bool.false_or] at hsc
        have h1 := hhead.out k hlt
        obtain ⟨a', h2, h3⟩ := htail.out k hlt
        have htl : (L.take k).length = k := by rw [List.length_take]; omega
        have hdl : (L.drop k).length = L.length - k := List.length_drop
        have q1 := fun W (h : Ext W3 W) => Match_any aA aL cA cL A (L.take k) W (by omega) (by omega) (hA.out.ext h) ((hL.out.ext h).take k)
        have q2 := fun W (h : Ext W3 W) => Match_any aB a' cB (cL - k) B (L.drop k) W (by omega) (by omega) (hB.out.ext h) (h3 _ _ (hL.out.ext h))
        rw [hAm.out, htl] at q1
        rw [hBm.out, hdl] at q2
        clear htl hdl h3
        generalize matS A (L.take k) = r1 at *
        generalize matS B (L.drop k) = r2 at *
        replace q1 := hide q1
        replace q2 := hide q2
        replace hsc := hide hsc
        go_wp2_with fail
        refine (q1.out _ hE.out).mono ?_
        rintro e W4 ⟨rfl, he⟩
        replace hE := hide (hE.out.trans he)
        clear he
        cases r1 with
        | false =>
          go_wp2_with fail
          go_roundw
          case rel => exact ⟨k + 1, by omega, by go_num, by rw [hsc.out]; rfl, hE.out⟩
          case measure => simp [intOf]; omega
        | true =>
          go_wp2_with fail
          refine (q2.out _ hE.out).mono ?_
          rintro e W5 ⟨rfl, he⟩
          replace hE := hide (hE.out.trans he)
          clear he
          go_wp2_with fail
          go_roundw
          case rel => exact ⟨k + 1, by omega, by go_num, by rw [hsc.out]; rfl, hE.out⟩
          case measure => simp [intOf]; omega
    · obtain rfl : k = L.length + 1 := by omega
      have hA2 := hA.out.ext hE.out
      have hB2 := hB.out.ext hE.out
      have qj := LJoin_any (some ⟨wr.heap.size, 0, none⟩) 2 [A, B] _ (by simp) (fun x hx => by
        simp only [List.mem_cons, List.not_mem_nil, or_false] at hx
        rcases hx with rfl | rfl <;> omega) (sl_pair (c := cA) (d := cB) (by omega) (by omega) hA2 hB2)
      rw [show [A, B].flatten = A ++ B by simp] at qj
      have E2 := hide ((E.out.trans hE.out).alloc (Obj.cells #[.slice aA A.length cA, .slice aB B.length cB] 23))
      have hL2 := hide (hL.out.ext (hE.out.alloc (Obj.cells #[.slice aA A.length cA, .slice aB B.length cB] 23)))
      clear hA2 hB2 hA hB hE hhead htail hAm hBm hlt
      simp only [List.length_cons, List.length_nil, Nat.zero_add, Nat.reduceAdd] at qj
      replace qj := hide qj
      generalize hW5 : wr.alloc (Obj.cells #[.slice aA A.length cA, .slice aB B.length cB] 23) = W5 at *
      generalize hg5 : wr.heap.size = g5 at *
      go_wp2_with fail
      refine qj.out.mono ?_
      rintro e W6 ⟨⟨v, rfl, hown⟩, he⟩
      obtain ⟨aJ, cJ, rfl, hJ⟩ := hown.sl
      replace hJ := hJ.mono (S' := (· < W6.heap.size)) fun b hb => hb.2
      replace E2 := hide (E2.out.trans he)
      replace hL2 := hL2.out.ext he
      have qm := Match_any aJ aL cJ cL (A ++ B) L W6 (by rw [List.length_append]; omega) (by omega) hJ hL2
      rw [hJm.out, ← hall.out] at qm
      clear hown he hJ hL2 hJm hall qj hW5 hg5
      generalize (A ++ B).length = nJ at *
      generalize cutF A B L (L.length + 1) = r at *
      replace qm := hide qm
      go_wp2_with fail
      refine qm.out.mono ?_
      rintro e W7 ⟨rfl, he⟩
      replace E2 := hide (E2.out.trans he)
      clear he qm
      cases r <;> (
        go_wp2_with fail
        refine (qw.out _ E2.out).mono ?_
        rintro e W8 ⟨rfl, he⟩
        replace E2 := hide (E2.out.trans he)
        clear he
        go_wp2
        go_ret
        exact ⟨rfl, E2.out⟩)
end Go.Proofs.YtoghdmoldcjedaaDoor
