/- The walk of SetsMatch. -/
import Derived.Test.YtoghdmoldcjedaaGreatDoorV22
import Derived.Test.YtoghdmoldcjedaaGreatDoorVK
namespace Go.Proofs.YtoghdmoldcjedaaGreatDoor
open Go.RowKit Go.Sort
set_option linter.unusedVariables false

theorem slice_cap {P : Program} {T e : TypeId} (h : P.underlying T = some (.slice e)) {H : Type} {enc : TypeId × Value → H} {W : World} {fuel : Nat} {cs : List Value} {x : DataW H × List MemPlace} {a : Option Addr} {n c : Nat}
    (hx : DataW.trod enc P W 0 (fun _ => true) true fuel T cs = some x) (hcs : cs = [.slice a n c]) : c ≤ 9223372036854775807 := by
  rcases Go.Deep.open_slice h hx with ⟨rfl, _⟩ | ⟨a', len, cap, m, k, D, Pl, rfl, _, _, hm, _⟩
  · injection hcs with h1 _
    injection h1 with _ _ h2
    omega
  · injection hcs with h1 _
    injection h1 with _ _ h2
    unfold maxLen at hm
    omega
theorem slice_headA (a : Option Addr) (n c k : Nat) (hk : k ≤ n) (hn : n ≤ c) (hc : c ≤ 9223372036854775807) (W : World) : (Instr.sliceAt 38 (.slice a n c) none (some (.int .i64 (k : Int))) none).run Tryz.prog W = .ok (.slice a k c) W := by
  go_simp
  first | omega | (intro h; omega) | skip
theorem slice_headU (a : Option Addr) (n c k : Nat) (hk : k ≤ n) (hn : n ≤ c) (hc : c ≤ 9223372036854775807) (W : World) : (Instr.sliceAt 24 (.slice a n c) none (some (.int .i64 (k : Int))) none).run Tryz.prog W = .ok (.slice a k c) W := by
  go_simp
  first | omega | (intro h; omega) | skip
theorem parseA_len (s : List UInt8) : (parseA s).1.length ≤ 64 := by
  unfold parseA
  split
  · decide
  · split
    · split
      · assumption
      · decide
    · decide
theorem textA_len (A : List Atm) (hl : A.length ≤ 70) : (textA A).1.length ≤ 1048576 := by
  unfold textA
  split
  · by_cases h : A = []
    · subst h; decide
    · dsimp only
      rw [textL_join A h]
      have := join_len 21 ((A.map wordB).map (·.data.toList)) (fun x hx => by
        obtain ⟨y, hy, rfl⟩ := List.mem_map.1 hx
        obtain ⟨z, _, rfl⟩ := List.mem_map.1 hy
        exact wordT_len z)
      simp only [List.length_map] at this
      omega
  · decide

set_option maxRecDepth 20000 in
set_option maxHeartbeats 4000000 in
theorem SetsMatch_walk (a1 a2 : Option Addr) (c1 c2 : Nat) (P : List Atm) (L : List UInt32) (s : List UInt8) (w : World) (hP : P.length ≤ 16777216) (hL : L.length ≤ 16777216) (hP1 : P.length ≤ c1) (hP2 : c1 ≤ 9223372036854775807) (hL1 : L.length ≤ c2) (hL2 : c2 ≤ 9223372036854775807) (hs : s.length ≤ 1048576) (hsp : Sl EAtm w (· < w.heap.size) a1 P) (hsl : Sl EU32 w (· < w.heap.size) a2 L) (hT : Tab w) (hD : Deb w) (hV : Vars w) :
    Calls Tryz.prog 5 #[.slice a1 P.length c1, .slice a2 L.length c2, .string ⟨s.toArray⟩] w fun e w' => e = .returned (.bool true) ∧ Ext w w' := by
  have mixed : Tryz.prog.follows Departure.mixedOrders = true := by kernel_rfl
  have hm1 : (if P.length ≤ 70 then P.length else 70) = (P.take 70).length := by rw [List.length_take]; split <;> omega
  have hm2 : (if L.length ≤ 80 then L.length else 80) = (L.take 80).length := by rw [List.length_take]; split <;> omega
  have k1 := fun W => slice_headA a1 P.length c1 (P.take 70).length (by rw [List.length_take]; omega) hP1 hP2 W
  have k2 := fun W => slice_headU a2 L.length c2 (L.take 80).length (by rw [List.length_take]; omega) hL1 hL2 W
  have hA := hsp.take 70
  have hB := hsl.take 80
  have hA70 : (P.take 70).length ≤ 70 := by rw [List.length_take]; omega
  have hB80 : (L.take 80).length ≤ 80 := by rw [List.length_take]; omega
  have n1 : min (P.length : Int) 70 = ((P.take 70).length : Int) := by rw [List.length_take]; omega
  have n2 : min (L.length : Int) 80 = ((L.take 80).length : Int) := by rw [List.length_take]; omega
  have n3 : min P.length 70 = (P.take 70).length := by rw [List.length_take]; omega
  have n4 : min L.length 80 = (L.take 80).length := by rw [List.length_take]; omega
  generalize P.take 70 = A at *
  generalize L.take 80 = B at *
  generalize P.length = nP at *
  generalize L.length = nL at *
  have q1 := fun W (h : Ext w W) => Text_any a1 c1 A W (hT.ext h) (by omega) (hA.ext h)
  have q2 := fun W (h : Ext w W) => RText_any a1 c1 A W (by omega) (hA.ext h)
  have q3 := fun W (h : Ext w W) => Match_any a1 a2 c1 c2 A B W (by omega) (by omega) (hA.ext h) (hB.ext h)
  have q4 := fun W (h : Ext w W) => RMatch_any a1 c1 A a2 c2 B W (by omega) (by omega) (hA.ext h) (hB.ext h)
  have q5 := fun W (h : Ext w W) => SParse_any s hs W (hT.ext h) (hV.ext h)
  have q6 := fun W => RParse_any15 s hs W
  have qw := fun W (h : Ext w W) => LWorks_any W (hT.ext h) (hD.ext h) (hV.ext h)
  unfold PaP at q5 q6
  have hpl := parseA_len s
  have htl := textA_len A hA70
  generalize matchS A B = r at q3 q4
  generalize parseA s = R at *
  generalize textA A = X at *
  obtain ⟨R1, R2⟩ := R
  obtain ⟨X1, X2⟩ := X
  dsimp only at *
  have hb : (r != r) = false := by simp
  generalize A.length = nA at *
  generalize B.length = nB at *
  clear hT hD hV hA hB hsp hsl
  replace q1 := hide q1
  replace q2 := hide q2
  replace q3 := hide q3
  replace q4 := hide q4
  replace q5 := hide q5
  replace q6 := hide q6
  replace qw := hide qw
  go_enter Tryz.func5, Tryz.ntmps5
  go_wp2_with fail
  refine (q1.out _ (Ext.refl w)).mono ?_
  rintro e W1 ⟨rfl, E⟩
  replace E := hide E
  go_wp2_with fail
  refine (q2.out _ E.out).mono ?_
  rintro e W2 ⟨rfl, he⟩
  replace E := hide (E.out.trans he)
  clear he
  go_wp2_with fail
  refine (q3.out _ E.out).mono ?_
  rintro e W3 ⟨rfl, he⟩
  replace E := hide (E.out.trans he)
  clear he
  go_wp2_with fail
  refine (q4.out _ E.out).mono ?_
  rintro e W4 ⟨rfl, he⟩
  replace E := hide (E.out.trans he)
  clear he
  go_wp2_with fail
  refine (q5.out _ E.out).mono ?_
  rintro e W5 ⟨⟨v, rfl, hown⟩, he⟩
  obtain ⟨b1, d1, rfl, hC⟩ := hown.sl
  replace hC := hC.mono (S' := (· < W5.heap.size)) fun b hb => hb.2
  replace E := hide (E.out.trans he)
  replace hC := hide hC
  clear he hown
  go_wp2_with fail
  refine (q6.out _).mono ?_
  rintro e W6 ⟨⟨v, rfl, hown⟩, he⟩
  obtain ⟨b2, d2, rfl, hD⟩ := hown.sl
  replace hD := hD.mono (S' := (· < W6.heap.size)) fun b hb => hb.2
  replace E := hide (E.out.trans he)
  have q7 := RSameAtoms_any b1 d1 R1 b2 d2 R1 W6 (by omega) (by omega) (hC.out.ext he) hD
  rw [decide_eq_true rfl] at q7
  replace q7 := hide q7
  clear he hown hC hD
  go_wp2_with fail
  refine q7.out.mono ?_
  rintro e W7 ⟨rfl, he⟩
  replace E := hide (E.out.trans he)
  clear he
  go_wp2_with fail
  refine (qw.out _ E.out).mono ?_
  rintro e W8 ⟨rfl, he⟩
  replace E := hide (E.out.trans he)
  clear he
  go_wp2
  go_ret
  exact ⟨rfl, E.out⟩
end Go.Proofs.YtoghdmoldcjedaaGreatDoor
