/- Walks: hosts; is a neighbour, that a range tells, of an address. -/
import Derived.Test.YtmhmcdpadmimlaaGreatDoorDA
import Derived.Test.YtmhmcdpadmimlaaGreatDoorP15
import Derived.Test.YtmhmcdpadmimlaaGreatDoorPG
namespace Go.Proofs.YtmhmcdpadmimlaaGreatDoor
open Go.RowKit
set_option linter.unusedVariables false

theorem right_cases (a : List UInt8) : (a.length = 4 ∧ rightA a = true ∧ hostS a = ⟨1, 0, a, 32⟩) ∨ (a.length = 16 ∧ rightA a = true ∧ hostS a = ⟨2, 0, a, 128⟩) ∨ (a.length ≠ 4 ∧ a.length ≠ 16 ∧ rightA a = false) := by
  unfold rightA hostS
  by_cases h4 : a.length = 4
  · exact .inl ⟨h4, by simp [h4], if_pos h4⟩
  · by_cases h16 : a.length = 16
    · exact .inr (.inl ⟨h16, by simp [h16], if_neg h4⟩)
    · exact .inr (.inr ⟨h4, h16, by simp [h4, h16]⟩)
def hostZ (a : List UInt8) : Pfx := if rightA a = true then hostS a else zeroP
set_option maxRecDepth 20000 in
theorem host_any (a : List UInt8) (w : World) (ha : a.length ≤ 1048576) :
    Calls Tryz.prog 22 #[.string ⟨a.toArray⟩] w fun e w' => e = .returned (.tuple #[valP (hostZ a), .bool (rightA a)]) ∧ Ext w w' := by
  have hz : (ByteArray.mk a.toArray).size = a.length := by simp [ByteArray.size]
  unfold valP hostZ
  rcases right_cases a with ⟨h, e1, e2⟩ | ⟨h, e1, e2⟩ | ⟨h4, h16, e1⟩
  · have b1 : ((a.length : Int) == 4) = true := by rw [beq_iff_eq]; omega
    rw [e1, if_pos rfl, e2]
    replace h := hide h
    clear e1 e2
    go_enter Tryz.func22, Tryz.ntmps22
    go_wp2
    exact bodyPost_ret (v := .tuple #[.agg #[.int .i64 1, .int .u64 0, .string ⟨a.toArray⟩, .int .i64 32], .bool true]) (by simp [results, Tryz.results22, go_sem]) rfl ⟨rfl, (Ext.refl w).alloc _⟩
  · have b1 : ((a.length : Int) == 4) = false := by rw [beq_eq_false_iff_ne]; omega
    have b2 : ((a.length : Int) == 16) = true := by rw [beq_iff_eq]; omega
    rw [e1, if_pos rfl, e2]
    replace h := hide h
    clear e1 e2
    go_enter Tryz.func22, Tryz.ntmps22
    go_wp2
    exact bodyPost_ret (v := .tuple #[.agg #[.int .i64 2, .int .u64 0, .string ⟨a.toArray⟩, .int .i64 128], .bool true]) (by simp [results, Tryz.results22, go_sem]) rfl ⟨rfl, (Ext.refl w).alloc _⟩
  · have b1 : ((a.length : Int) == 4) = false := by rw [beq_eq_false_iff_ne]; omega
    have b2 : ((a.length : Int) == 16) = false := by rw [beq_eq_false_iff_ne]; omega
    rw [e1, if_neg (by decide)]
    clear e1
    go_enter Tryz.func22, Tryz.ntmps22
    go_wp2
    exact bodyPost_ret (v := .tuple #[.agg #[.int .i64 0, .int .u64 0, .string ⟨#[]⟩, .int .i64 0], .bool false]) (by simp [results, Tryz.results22, go_sem]) rfl ⟨rfl, (Ext.refl w).alloc _⟩
theorem ba_loop_len (b : ByteArray) : ∀ (n i : Nat) (r : List UInt8), b.size - i = n → (ByteArray.toList.loop b i r).length = r.length + n
  | 0, i, r, h => by
    rw [ByteArray.toList.loop, if_neg (by omega), List.length_reverse]
    rfl
  | n + 1, i, r, h => by
    rw [ByteArray.toList.loop, if_pos (by omega), ba_loop_len b n (i + 1) _ (by omega), List.length_cons]
    omega
theorem ba_toList_len (b : ByteArray) : b.toList.length = b.size := by
  show (ByteArray.toList.loop b 0 []).length = b.size
  rw [ba_loop_len b b.size 0 [] (by omega)]
  simp
theorem str_ne {ad : List UInt8} (h : ad ≠ []) : ¬ (⟨ad.toArray⟩ : ByteArray).toList = [] := by
  intro e
  have := ba_toList_len ⟨ad.toArray⟩
  rw [e, ba_size] at this
  exact h (List.eq_nil_of_length_eq_zero this.symm)
set_option maxRecDepth 20000 in
set_option maxHeartbeats 1000000 in
theorem of_any (x : Nbr) (f : Option Addr) (c : Nat) (a : List UInt8) (w : World) (hx : x.range.addr.length ≤ 1048576) (ha : a.length ≤ 1048576) :
    Calls Tryz.prog 24 #[.agg (nbrCs x f c).toArray, .string ⟨a.toArray⟩] w fun e w' => e = .returned (.bool (ofS x a)) ∧ Ext w w' := by
  have q1 := fun W => host_any a W ha
  have q2 := fun W => ACov_any x.range (hostS a) W hx (by unfold hostS; split <;> exact ha)
  have hof : ofS x a = (rightA a && (decide (x.addr = []) && covB x.range (hostS a))) := rfl
  have hzz : rightA a = true → hostZ a = hostS a := fun h => if_pos h
  obtain ⟨nm, ad, ⟨rf, rrd, ra, rl⟩, asn, hold, retry, pass, client, confed, fams, send, take, most, gr, time, mrai, pin, pout, vrf, selfN⟩ := x
  dsimp only at *
  rw [hof]
  simp only [nbrCs]
  unfold valP at q1 q2
  dsimp only at q2
  clear hof hx
  have hcs : rightA a = false ∨ (rightA a = true ∧ ad = []) ∨ (rightA a = true ∧ ad ≠ []) := by
    cases rightA a with
    | false => exact .inl rfl
    | true =>
      by_cases h : ad = []
      · exact .inr (.inl ⟨rfl, h⟩)
      · exact .inr (.inr ⟨rfl, h⟩)
  generalize covB ⟨rf, rrd, ra, rl⟩ (hostS a) = cv at *
  generalize rightA a = ri at *
  rcases hcs with rfl | ⟨rfl, rfl⟩ | ⟨rfl, hne⟩
  · rw [Bool.false_and]
    generalize hostZ a = hz at *
    obtain ⟨zf, zr, za, zl⟩ := hz
    dsimp only at q1
    clear hzz q2
    replace q1 := hide q1
    go_enter Tryz.func24, Tryz.ntmps24
    have E := (Ext.refl w).alloc (Obj.cells #[.string ⟨nm.toArray⟩, .string ⟨ad.toArray⟩, .int .i64 rf, .int .u64 (rrd : Int), .string ⟨ra.toArray⟩, .int .i64 rl, .int .u32 (asn.toNat : Int), .int .i64 hold, .int .i64 retry, .bool pass, .bool client, .bool confed, .slice f fams.length c, .int .i64 send, .bool take, .int .i64 most, .bool gr, .int .i64 time, .int .i64 mrai, .string ⟨pin.toArray⟩, .string ⟨pout.toArray⟩, .string ⟨vrf.toArray⟩, .bool selfN] 31)
    generalize hW0 : w.alloc (Obj.cells #[.string ⟨nm.toArray⟩, .string ⟨ad.toArray⟩, .int .i64 rf, .int .u64 (rrd : Int), .string ⟨ra.toArray⟩, .int .i64 rl, .int .u32 (asn.toNat : Int), .int .i64 hold, .int .i64 retry, .bool pass, .bool client, .bool confed, .slice f fams.length c, .int .i64 send, .bool take, .int .i64 most, .bool gr, .int .i64 time, .int .i64 mrai, .string ⟨pin.toArray⟩, .string ⟨pout.toArray⟩, .string ⟨vrf.toArray⟩, .bool selfN] 31) = W0 at E
    replace E := hide E
    go_wp2_with fail
    clear hW0
    refine (q1.out _).mono ?_
    rintro e W1 ⟨rfl, hE1⟩
    replace E := hide ((E.out.trans hE1).alloc (Obj.cells #[.int .i64 zf, .int .u64 (zr : Int), .string ⟨za.toArray⟩, .int .i64 zl] 27))
    clear hE1
    go_wp2
    go_ret
    exact ⟨rfl, E.out⟩
  ·
    rw [hzz rfl] at q1
    generalize hostS a = hz at *
    obtain ⟨zf, zr, za, zl⟩ := hz
    dsimp only at q1 q2
    clear hzz
    have e0 : ((⟨#[]⟩ : ByteArray) == ⟨#[]⟩) = true := rfl
    rw [decide_eq_true rfl, Bool.true_and, Bool.true_and]
    replace q1 := hide q1
    replace q2 := hide q2
    go_enter Tryz.func24, Tryz.ntmps24
    have P := Blk.new w 31 #[.string ⟨nm.toArray⟩, .string ⟨#[]⟩, .int .i64 rf, .int .u64 (rrd : Int), .string ⟨ra.toArray⟩, .int .i64 rl, .int .u32 (asn.toNat : Int), .int .i64 hold, .int .i64 retry, .bool pass, .bool client, .bool confed, .slice f fams.length c, .int .i64 send, .bool take, .int .i64 most, .bool gr, .int .i64 time, .int .i64 mrai, .string ⟨pin.toArray⟩, .string ⟨pout.toArray⟩, .string ⟨vrf.toArray⟩, .bool selfN]
    have E := (Ext.refl w).alloc (Obj.cells #[.string ⟨nm.toArray⟩, .string ⟨#[]⟩, .int .i64 rf, .int .u64 (rrd : Int), .string ⟨ra.toArray⟩, .int .i64 rl, .int .u32 (asn.toNat : Int), .int .i64 hold, .int .i64 retry, .bool pass, .bool client, .bool confed, .slice f fams.length c, .int .i64 send, .bool take, .int .i64 most, .bool gr, .int .i64 time, .int .i64 mrai, .string ⟨pin.toArray⟩, .string ⟨pout.toArray⟩, .string ⟨vrf.toArray⟩, .bool selfN] 31)
    generalize hW0 : w.alloc (Obj.cells #[.string ⟨nm.toArray⟩, .string ⟨#[]⟩, .int .i64 rf, .int .u64 (rrd : Int), .string ⟨ra.toArray⟩, .int .i64 rl, .int .u32 (asn.toNat : Int), .int .i64 hold, .int .i64 retry, .bool pass, .bool client, .bool confed, .slice f fams.length c, .int .i64 send, .bool take, .int .i64 most, .bool gr, .int .i64 time, .int .i64 mrai, .string ⟨pin.toArray⟩, .string ⟨pout.toArray⟩, .string ⟨vrf.toArray⟩, .bool selfN] 31) = W0 at P E
    generalize hg0 : w.heap.size = g0 at P
    replace P := hide P
    replace E := hide E
    go_wp2_with fail
    clear hW0
    refine (q1.out _).mono ?_
    rintro e W1 ⟨rfl, hE1⟩
    have P2 := (P.out.ext hE1).alloc (Obj.cells #[.int .i64 zf, .int .u64 (zr : Int), .string ⟨za.toArray⟩, .int .i64 zl] 27)
    have H2 := Blk.new W1 27 #[.int .i64 zf, .int .u64 (zr : Int), .string ⟨za.toArray⟩, .int .i64 zl]
    replace E := hide ((E.out.trans hE1).alloc (Obj.cells #[.int .i64 zf, .int .u64 (zr : Int), .string ⟨za.toArray⟩, .int .i64 zl] 27))
    clear hE1 P
    generalize hW2 : W1.alloc (Obj.cells #[.int .i64 zf, .int .u64 (zr : Int), .string ⟨za.toArray⟩, .int .i64 zl] 27) = W2 at P2 H2 E
    generalize hg1 : W1.heap.size = g1 at H2
    have p1 : W2.cell? ⟨g0, 1, none⟩ = some (.string ⟨#[]⟩) := P2.cell 1
    have p2 : W2.cell? ⟨g0, 2, none⟩ = some (.int .i64 rf) := P2.cell 2
    have p3 : W2.cell? ⟨g0, 3, none⟩ = some (.int .u64 (rrd : Int)) := P2.cell 3
    have p4 : W2.cell? ⟨g0, 4, none⟩ = some (.string ⟨ra.toArray⟩) := P2.cell 4
    have p5 : W2.cell? ⟨g0, 5, none⟩ = some (.int .i64 rl) := P2.cell 5
    have h0 : W2.cell? ⟨g1, 0, none⟩ = some (.int .i64 zf) := H2.cell 0
    have h1 : W2.cell? ⟨g1, 1, none⟩ = some (.int .u64 (zr : Int)) := H2.cell 1
    have h2 : W2.cell? ⟨g1, 2, none⟩ = some (.string ⟨za.toArray⟩) := H2.cell 2
    have h3 : W2.cell? ⟨g1, 3, none⟩ = some (.int .i64 zl) := H2.cell 3
    clear P2 H2
    go_wp2_with fail
    clear hW2 hg1
    refine (q2.out _).mono ?_
    rintro e W3 ⟨rfl, hE3⟩
    replace E := hide (E.out.trans hE3)
    clear hE3
    go_wp2
    go_ret
    exact ⟨rfl, E.out⟩
  ·
    rw [hzz rfl] at q1
    generalize hostS a = hz at *
    obtain ⟨zf, zr, za, zl⟩ := hz
    dsimp only at q1 q2
    clear hzz
    have e0 := str_ne hne
    have e1 : (⟨ad.toArray⟩ : ByteArray).toList.isEmpty = false := by cases h : (⟨ad.toArray⟩ : ByteArray).toList with
      | nil => exact absurd h e0
      | cons x t => rfl
    rw [decide_eq_false hne, Bool.false_and, Bool.and_false]
    clear q2
    generalize (⟨ad.toArray⟩ : ByteArray) = sa at *
    replace q1 := hide q1
    go_enter Tryz.func24, Tryz.ntmps24
    have P := Blk.new w 31 #[.string ⟨nm.toArray⟩, .string sa, .int .i64 rf, .int .u64 (rrd : Int), .string ⟨ra.toArray⟩, .int .i64 rl, .int .u32 (asn.toNat : Int), .int .i64 hold, .int .i64 retry, .bool pass, .bool client, .bool confed, .slice f fams.length c, .int .i64 send, .bool take, .int .i64 most, .bool gr, .int .i64 time, .int .i64 mrai, .string ⟨pin.toArray⟩, .string ⟨pout.toArray⟩, .string ⟨vrf.toArray⟩, .bool selfN]
    have E := (Ext.refl w).alloc (Obj.cells #[.string ⟨nm.toArray⟩, .string sa, .int .i64 rf, .int .u64 (rrd : Int), .string ⟨ra.toArray⟩, .int .i64 rl, .int .u32 (asn.toNat : Int), .int .i64 hold, .int .i64 retry, .bool pass, .bool client, .bool confed, .slice f fams.length c, .int .i64 send, .bool take, .int .i64 most, .bool gr, .int .i64 time, .int .i64 mrai, .string ⟨pin.toArray⟩, .string ⟨pout.toArray⟩, .string ⟨vrf.toArray⟩, .bool selfN] 31)
    generalize hW0 : w.alloc (Obj.cells #[.string ⟨nm.toArray⟩, .string sa, .int .i64 rf, .int .u64 (rrd : Int), .string ⟨ra.toArray⟩, .int .i64 rl, .int .u32 (asn.toNat : Int), .int .i64 hold, .int .i64 retry, .bool pass, .bool client, .bool confed, .slice f fams.length c, .int .i64 send, .bool take, .int .i64 most, .bool gr, .int .i64 time, .int .i64 mrai, .string ⟨pin.toArray⟩, .string ⟨pout.toArray⟩, .string ⟨vrf.toArray⟩, .bool selfN] 31) = W0 at P E
    generalize hg0 : w.heap.size = g0 at P
    replace P := hide P
    replace E := hide E
    go_wp2_with fail
    clear hW0
    refine (q1.out _).mono ?_
    rintro e W1 ⟨rfl, hE1⟩
    have P2 := (P.out.ext hE1).alloc (Obj.cells #[.int .i64 zf, .int .u64 (zr : Int), .string ⟨za.toArray⟩, .int .i64 zl] 27)
    have H2 := Blk.new W1 27 #[.int .i64 zf, .int .u64 (zr : Int), .string ⟨za.toArray⟩, .int .i64 zl]
    replace E := hide ((E.out.trans hE1).alloc (Obj.cells #[.int .i64 zf, .int .u64 (zr : Int), .string ⟨za.toArray⟩, .int .i64 zl] 27))
    clear hE1 P
    generalize hW2 : W1.alloc (Obj.cells #[.int .i64 zf, .int .u64 (zr : Int), .string ⟨za.toArray⟩, .int .i64 zl] 27) = W2 at P2 H2 E
    generalize hg1 : W1.heap.size = g1 at H2
    have p1 : W2.cell? ⟨g0, 1, none⟩ = some (.string sa) := P2.cell 1
    clear P2 H2
    go_wp2
    go_ret
    exact ⟨rfl, E.out⟩
end Go.Proofs.YtmhmcdpadmimlaaGreatDoor
