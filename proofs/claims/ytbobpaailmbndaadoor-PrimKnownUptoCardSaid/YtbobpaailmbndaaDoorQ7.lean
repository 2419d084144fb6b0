/- Walks: a prefix as a text, by the program. -/
import Derived.Test.YtbobpaailmbndaaDoorQ6
namespace Go.Proofs.YtbobpaailmbndaaDoor
open Go.RowKit Go.Sort
set_option linter.unusedVariables false

theorem addrT_ok {p : Pfx} (h : MayP p) : (addrT p.addr).2 = 0 := by
  unfold addrT
  rcases may_size h with h | h
  · rw [if_pos h]
  · rw [if_neg (by omega), if_pos h]
theorem dec_dig (u : Nat) : dec u = ⟨(digS 10 u).toArray⟩ := by unfold dec; rw [digS_dec]
theorem ba_le (l : List UInt8) (n : Nat) (h : l.length ≤ n) : (⟨l.toArray⟩ : ByteArray).size ≤ n := by rw [ba_size]; exact h
theorem ba_sz_app (a b : ByteArray) : (a ++ b).size = a.size + b.size := ByteArray.size_append
set_option maxRecDepth 20000 in
set_option maxHeartbeats 2000000 in
theorem AText_rd (p : Pfx) (w : World) (hm : MayP p) (hrd : p.rd < 18446744073709551616) (hap : apartS p.fam = true) (hT : Tab w) (hD : Deb w) :
    Calls Tryd.prog 12 #[valP p] w fun e w' => e = .returned (.tuple #[.string ⟨(textP p).toArray⟩, .int .i64 0]) ∧ Ext w w' := by
  have mixed : Tryd.prog.follows Departure.mixedOrders = true := by kernel_rfl
  have hsm := hm.1.small
  have hfm := may_fam hm
  have qck := fun W => ACheck_any p W (by omega)
  rw [show errP (MayP p) = 0 from if_pos hm] at qck
  have qnm := fun W => name_any p.fam hfm.1 hfm.2 W
  have qap := fun W => Aapart_any p.fam W
  rw [hap] at qap
  have qat := fun W hT hD => AAddrText_any p.addr (by omega) W hT hD
  rw [addrT_ok hm] at qat
  have qrd := fun W hT => FormatUint_any p.rd hrd W hT
  rw [dec_dig] at qrd
  obtain ⟨ln, hln⟩ : ∃ n : Nat, p.len = (n : Int) := ⟨p.len.toNat, by omega⟩
  have qit := fun W hT => Itoa_any ln (by omega) W hT
  rw [dec_dig] at qit
  have s1 := ba_le (nameS p.fam) 4 (nameS_len _)
  have s2 := ba_le (digS 10 p.rd) 20 (digS_len (by decide) 20 _ (by omega) (by decide))
  have s3 := ba_le (addrT p.addr).1 39 addrT_len
  have s4 := ba_le (digS 10 ln) 3 (digS_len (by decide) 3 _ (by omega) (by decide))
  have hfin : textP p = if apartS p.fam = true then Lib.join (([⟨(nameS p.fam).toArray⟩, ⟨(digS 10 p.rd).toArray⟩, (⟨(addrT p.addr).1.toArray⟩ : ByteArray) ++ ⟨#[47]⟩ ++ ⟨(digS 10 ln).toArray⟩] : List ByteArray).map (·.data.toList)) [32] else Lib.join (([⟨(nameS p.fam).toArray⟩, (⟨(addrT p.addr).1.toArray⟩ : ByteArray) ++ ⟨#[47]⟩ ++ ⟨(digS 10 ln).toArray⟩] : List ByteArray).map (·.data.toList)) [32] := by
    unfold textP
    rw [hap, hln, Int.toNat_natCast]
    simp [join_two, Lib.join_one, ByteArray.data_append]
  rw [hap] at hfin
  simp only [if_true] at hfin
  have hft : (textP p).length ≤ 100 := by
    unfold textP
    rw [hln, Int.toNat_natCast]
    rw [ba_size] at s1 s2 s3 s4
    simp only [List.length_append, List.length_singleton]
    split <;> simp <;> omega
  rw [hfin]
  rw [hfin] at hft
  obtain ⟨f, r, a, l⟩ := p
  simp only [valP] at qck qnm qap qat qrd hln hfin hft s1 s2 s3 s4 hrd ⊢
  subst hln
  generalize (⟨(nameS f).toArray⟩ : ByteArray) = nm at *
  generalize (⟨(digS 10 r).toArray⟩ : ByteArray) = rb at *
  generalize (⟨(addrT a).1.toArray⟩ : ByteArray) = ad at *
  generalize (⟨(digS 10 ln).toArray⟩ : ByteArray) = lb at *
  have hs1 : ¬ 9223372036854775807 < ad.size + (ByteArray.mk #[47]).size := by show ¬ _ < ad.size + 1; omega
  have hs2 : ¬ 9223372036854775807 < (ad ++ ⟨#[47]⟩).size + lb.size := by rw [ba_sz_app]; show ¬ _ < ad.size + 1 + lb.size; omega
  have hxs : (ad ++ ⟨#[47]⟩ ++ lb).size ≤ 1048576 := by rw [ba_sz_app, ba_sz_app]; show ad.size + 1 + lb.size ≤ _; omega
  obtain ⟨S, hS⟩ : ∃ S : ByteArray, S = ⟨(Lib.join (([nm, rb, ad ++ ⟨#[47]⟩ ++ lb] : List ByteArray).map (·.data.toList)) [32]).toArray⟩ := ⟨_, rfl⟩
  rw [← hS]
  replace hS := hide hS
  clear hfin hm hsm hfm hap hrd
  replace qck := hide qck
  replace qnm := hide qnm
  replace qap := hide qap
  replace qat := hide qat
  replace qrd := hide qrd
  replace qit := hide qit
  replace hft := hide hft
  replace s1 := hide s1
  replace s2 := hide s2
  replace s3 := hide s3
  replace s4 := hide s4
  replace hxs := hide hxs
  replace hT := hide hT
  replace hD := hide hD
  go_enter Tryd.func12, Tryd.ntmps12
  have P := Blk.new w 24 #[.int .i64 f, .int .u64 (r : Int), .string ⟨a.toArray⟩, .int .i64 (ln : Int)]
  have E := (Ext.refl w).alloc (Obj.cells #[.int .i64 f, .int .u64 (r : Int), .string ⟨a.toArray⟩, .int .i64 (ln : Int)] 24)
  generalize hW0 : w.alloc (Obj.cells #[.int .i64 f, .int .u64 (r : Int), .string ⟨a.toArray⟩, .int .i64 (ln : Int)] 24) = W0 at P E
  generalize hg0 : w.heap.size = g0 at P
  replace P := hide P
  replace E := hide E
  have P_0 : W0.cell? ⟨g0, 0, none⟩ = some (.int .i64 f) := P.out.cell 0
  have P_1 : W0.cell? ⟨g0, 1, none⟩ = some (.int .u64 (r : Int)) := P.out.cell 1
  have P_2 : W0.cell? ⟨g0, 2, none⟩ = some (.string ⟨a.toArray⟩) := P.out.cell 2
  have P_3 : W0.cell? ⟨g0, 3, none⟩ = some (.int .i64 (ln : Int)) := P.out.cell 3
  go_wp2_with fail
  refine (qck.out _).mono ?_
  rintro e W1 ⟨rfl, he_⟩
  clear P_0 P_1 P_2 P_3
  replace E := hide (E.out.trans he_)
  replace P := hide (P.out.ext he_)
  clear he_
  have P_0 : W1.cell? ⟨g0, 0, none⟩ = some (.int .i64 f) := P.out.cell 0
  have P_1 : W1.cell? ⟨g0, 1, none⟩ = some (.int .u64 (r : Int)) := P.out.cell 1
  have P_2 : W1.cell? ⟨g0, 2, none⟩ = some (.string ⟨a.toArray⟩) := P.out.cell 2
  have P_3 : W1.cell? ⟨g0, 3, none⟩ = some (.int .i64 (ln : Int)) := P.out.cell 3
  clear hW0 hg0
  go_wp2_with fail
  clear P_0 P_1 P_2 P_3
  have O := Own.one (B := W1.heap.size) (Blk.new W1 9 #[.string nm]) (Nat.le_refl _) (by have := s1.out; unfold maxLen; omega)
  have F := (Ext.refl W1).alloc (Obj.cells #[.string nm] 9)
  generalize hW2 : W1.alloc (Obj.cells #[.string nm] 9) = W2 at O F
  generalize hg2 : W1.heap.size = g2 at O
  have Q : Blk W2 g0 24 #[.int .i64 f, .int .u64 (r : Int), .string ⟨a.toArray⟩, .int .i64 (ln : Int)] := P.out.ext F
  replace O := hide O
  replace F := hide F
  replace Q := hide Q
  have Q_0 : W2.cell? ⟨g0, 0, none⟩ = some (.int .i64 f) := Q.out.cell 0
  have Q_1 : W2.cell? ⟨g0, 1, none⟩ = some (.int .u64 (r : Int)) := Q.out.cell 1
  have Q_2 : W2.cell? ⟨g0, 2, none⟩ = some (.string ⟨a.toArray⟩) := Q.out.cell 2
  have Q_3 : W2.cell? ⟨g0, 3, none⟩ = some (.int .i64 (ln : Int)) := Q.out.cell 3
  refine (qnm.out _).mono ?_
  rintro e w_ ⟨rfl, rfl⟩
  go_wp2_with fail
  refine (qap.out _).mono ?_
  rintro e w_ ⟨rfl, rfl⟩
  clear hW2
  replace hg2 := hide hg2
  go_wp2_with fail
  refine (qrd.out _ (hT.out.ext (E.out.trans F.out))).mono ?_
  rintro e W3 ⟨rfl, he3⟩
  clear Q_0 Q_1 Q_2 Q_3
  replace O := hide (O.out.ext he3)
  replace Q := hide (Q.out.ext he3)
  replace F := hide (F.out.trans he3)
  clear he3
  have hz3 : g2 ≤ W3.heap.size := by rw [← hg2.out]; exact F.out.size
  go_wp2_with (at_builtin
               have hox := O.out.alloc (Obj.cells #[.string (rb)] 9)
               refine wpList_push (E := EStr) rfl _ _ _ rfl okStr (by decide) (by decide) rfl hox (by simp) (by simp; omega) rfl (y := rb) (cs := [.string (rb)]) ⟨rfl, by have := s2.out; unfold maxLen; omega⟩ (str_new' _ _ _) ?_
               intro v5 W5 hO5 hg5 hat5
               have hF5 := (F.out.alloc (Obj.cells #[.string (rb)] 9)).push (fun j hj => by rw [hg2.out]; exact (O.out.lt j hj).1) hg5
               obtain ⟨a5, c5, hv5⟩ := hO5.form
               replace hv5 : v5 = .slice a5 2 c5 := hv5
               subst hv5
               have Q_0 : W5.cell? ⟨g0, 0, none⟩ = some (.int .i64 f) := (P.out.ext hF5).cell 0
               have Q_1 : W5.cell? ⟨g0, 1, none⟩ = some (.int .u64 (r : Int)) := (P.out.ext hF5).cell 1
               have Q_2 : W5.cell? ⟨g0, 2, none⟩ = some (.string ⟨a.toArray⟩) := (P.out.ext hF5).cell 2
               have Q_3 : W5.cell? ⟨g0, 3, none⟩ = some (.int .i64 (ln : Int)) := (P.out.ext hF5).cell 3
               replace hO5 := hide hO5
               replace hF5 := hide hF5
               clear hat5 hg5)
  clear Q
  have Q := hide (P.out.ext hF5.out)
  clear O F
  have O := hO5
  have F := hF5
  clear hO5 hF5
  refine (qat.out _ (hT.out.ext (E.out.trans F.out)) (hD.out.ext (E.out.trans F.out))).mono ?_
  rintro e W6 ⟨rfl, he6⟩
  clear Q_0 Q_1 Q_2 Q_3
  replace O := hide (O.out.ext he6)
  replace Q := hide (Q.out.ext he6)
  replace F := hide (F.out.trans he6)
  clear he6
  have Q_0 : W6.cell? ⟨g0, 0, none⟩ = some (.int .i64 f) := Q.out.cell 0
  have Q_1 : W6.cell? ⟨g0, 1, none⟩ = some (.int .u64 (r : Int)) := Q.out.cell 1
  have Q_2 : W6.cell? ⟨g0, 2, none⟩ = some (.string ⟨a.toArray⟩) := Q.out.cell 2
  have Q_3 : W6.cell? ⟨g0, 3, none⟩ = some (.int .i64 (ln : Int)) := Q.out.cell 3
  go_wp2_with fail
  refine (qit.out _ (hT.out.ext (E.out.trans F.out))).mono ?_
  rintro e W7 ⟨rfl, he7⟩
  clear Q_0 Q_1 Q_2 Q_3
  replace O := hide (O.out.ext he7)
  replace F := hide (F.out.trans he7)
  clear he7 Q
  have hz7 : g2 ≤ W7.heap.size := by rw [← hg2.out]; exact F.out.size
  go_wp2_with (at_builtin
               have hox := O.out.alloc (Obj.cells #[.string (ad ++ ⟨#[47]⟩ ++ lb)] 9)
               refine wpList_push (E := EStr) rfl _ _ _ rfl okStr (by decide) (by decide) rfl hox (by simp) (by simp; omega) rfl (y := ad ++ ⟨#[47]⟩ ++ lb) (cs := [.string (ad ++ ⟨#[47]⟩ ++ lb)]) ⟨rfl, by have := hxs.out; unfold maxLen; omega⟩ (str_new' _ _ _) ?_
               intro v5 W8 hO5 hg5 hat5
               have hF5 := (F.out.alloc (Obj.cells #[.string (ad ++ ⟨#[47]⟩ ++ lb)] 9)).push (fun j hj => by rw [hg2.out]; exact (O.out.lt j hj).1) hg5
               obtain ⟨a8, c8, hv8, hc8, hs8⟩ := hO5.slc
               replace hv8 : v5 = .slice a8 3 c8 := hv8
               subst hv8
               replace hs8 := hide hs8
               replace hF5 := hide hF5
               clear hO5 hg5 hat5)
  have hJ := Join_any a8 c8 _ 32 W8 _ (fun b hb => hb.2) hs8.out (by simp) hc8 (by simp) (by have := hft.out; simp at this ⊢; omega)
  rw [show (⟨(Lib.join (([nm] ++ [rb] ++ [ad ++ ⟨#[47]⟩ ++ lb]).map (·.data.toList)) [32]).toArray⟩ : ByteArray) = S from hS.out.symm] at hJ
  refine hJ.mono ?_
  rintro e w9 ⟨rfl, he9⟩
  have hE9 := hide (E.out.trans (hF5.out.trans he9))
  clear hJ he9
  go_wp2
  go_ret2
  exact ⟨rfl, hE9.out⟩
set_option maxRecDepth 20000 in
set_option maxHeartbeats 2000000 in
theorem AText_pl (p : Pfx) (w : World) (hm : MayP p) (hrd : p.rd < 18446744073709551616) (hap : apartS p.fam = false) (hT : Tab w) (hD : Deb w) :
    Calls Tryd.prog 12 #[valP p] w fun e w' => e = .returned (.tuple #[.string ⟨(textP p).toArray⟩, .int .i64 0]) ∧ Ext w w' := by
  have mixed : Tryd.prog.follows Departure.mixedOrders = true := by kernel_rfl
  have hsm := hm.1.small
  have hfm := may_fam hm
  have qck := fun W => ACheck_any p W (by omega)
  rw [show errP (MayP p) = 0 from if_pos hm] at qck
  have qnm := fun W => name_any p.fam hfm.1 hfm.2 W
  have qap := fun W => Aapart_any p.fam W
  rw [hap] at qap
  have qat := fun W hT hD => AAddrText_any p.addr (by omega) W hT hD
  rw [addrT_ok hm] at qat
  have qrd := fun W hT => FormatUint_any p.rd hrd W hT
  rw [dec_dig] at qrd
  obtain ⟨ln, hln⟩ : ∃ n : Nat, p.len = (n : Int) := ⟨p.len.toNat, by omega⟩
  have qit := fun W hT => Itoa_any ln (by omega) W hT
  rw [dec_dig] at qit
  have s1 := ba_le (nameS p.fam) 4 (nameS_len _)
  have s2 := ba_le (digS 10 p.rd) 20 (digS_len (by decide) 20 _ (by omega) (by decide))
  have s3 := ba_le (addrT p.addr).1 39 addrT_len
  have s4 := ba_le (digS 10 ln) 3 (digS_len (by decide) 3 _ (by omega) (by decide))
  have hfin : textP p = if apartS p.fam = true then Lib.join (([⟨(nameS p.fam).toArray⟩, ⟨(digS 10 p.rd).toArray⟩, (⟨(addrT p.addr).1.toArray⟩ : ByteArray) ++ ⟨#[47]⟩ ++ ⟨(digS 10 ln).toArray⟩] : List ByteArray).map (·.data.toList)) [32] else Lib.join (([⟨(nameS p.fam).toArray⟩, (⟨(addrT p.addr).1.toArray⟩ : ByteArray) ++ ⟨#[47]⟩ ++ ⟨(digS 10 ln).toArray⟩] : List ByteArray).map (·.data.toList)) [32] := by
    unfold textP
    rw [hap, hln, Int.toNat_natCast]
    simp [join_two, Lib.join_one, ByteArray.data_append]
  rw [hap] at hfin
  simp only [Bool.false_eq_true, if_false] at hfin
  have hft : (textP p).length ≤ 100 := by
    unfold textP
    rw [hln, Int.toNat_natCast]
    rw [ba_size] at s1 s2 s3 s4
    simp only [List.length_append, List.length_singleton]
    split <;> simp <;> omega
  rw [hfin]
  rw [hfin] at hft
  obtain ⟨f, r, a, l⟩ := p
  simp only [valP] at qck qnm qap qat qrd hln hfin hft s1 s2 s3 s4 hrd ⊢
  subst hln
  generalize (⟨(nameS f).toArray⟩ : ByteArray) = nm at *
  generalize (⟨(digS 10 r).toArray⟩ : ByteArray) = rb at *
  generalize (⟨(addrT a).1.toArray⟩ : ByteArray) = ad at *
  generalize (⟨(digS 10 ln).toArray⟩ : ByteArray) = lb at *
  have hs1 : ¬ 9223372036854775807 < ad.size + (ByteArray.mk #[47]).size := by show ¬ _ < ad.size + 1; omega
  have hs2 : ¬ 9223372036854775807 < (ad ++ ⟨#[47]⟩).size + lb.size := by rw [ba_sz_app]; show ¬ _ < ad.size + 1 + lb.size; omega
  have hxs : (ad ++ ⟨#[47]⟩ ++ lb).size ≤ 1048576 := by rw [ba_sz_app, ba_sz_app]; show ad.size + 1 + lb.size ≤ _; omega
  obtain ⟨S, hS⟩ : ∃ S : ByteArray, S = ⟨(Lib.join (([nm, ad ++ ⟨#[47]⟩ ++ lb] : List ByteArray).map (·.data.toList)) [32]).toArray⟩ := ⟨_, rfl⟩
  rw [← hS]
  replace hS := hide hS
  clear hfin hm hsm hfm hap hrd
  replace qck := hide qck
  replace qnm := hide qnm
  replace qap := hide qap
  replace qat := hide qat
  replace qrd := hide qrd
  replace qit := hide qit
  replace hft := hide hft
  replace s1 := hide s1
  replace s2 := hide s2
  replace s3 := hide s3
  replace s4 := hide s4
  replace hxs := hide hxs
  replace hT := hide hT
  replace hD := hide hD
  go_enter Tryd.func12, Tryd.ntmps12
  have P := Blk.new w 24 #[.int .i64 f, .int .u64 (r : Int), .string ⟨a.toArray⟩, .int .i64 (ln : Int)]
  have E := (Ext.refl w).alloc (Obj.cells #[.int .i64 f, .int .u64 (r : Int), .string ⟨a.toArray⟩, .int .i64 (ln : Int)] 24)
  generalize hW0 : w.alloc (Obj.cells #[.int .i64 f, .int .u64 (r : Int), .string ⟨a.toArray⟩, .int .i64 (ln : Int)] 24) = W0 at P E
  generalize hg0 : w.heap.size = g0 at P
  replace P := hide P
  replace E := hide E
  have P_0 : W0.cell? ⟨g0, 0, none⟩ = some (.int .i64 f) := P.out.cell 0
  have P_1 : W0.cell? ⟨g0, 1, none⟩ = some (.int .u64 (r : Int)) := P.out.cell 1
  have P_2 : W0.cell? ⟨g0, 2, none⟩ = some (.string ⟨a.toArray⟩) := P.out.cell 2
  have P_3 : W0.cell? ⟨g0, 3, none⟩ = some (.int .i64 (ln : Int)) := P.out.cell 3
  go_wp2_with fail
  refine (qck.out _).mono ?_
  rintro e W1 ⟨rfl, he_⟩
  clear P_0 P_1 P_2 P_3
  replace E := hide (E.out.trans he_)
  replace P := hide (P.out.ext he_)
  clear he_
  have P_0 : W1.cell? ⟨g0, 0, none⟩ = some (.int .i64 f) := P.out.cell 0
  have P_1 : W1.cell? ⟨g0, 1, none⟩ = some (.int .u64 (r : Int)) := P.out.cell 1
  have P_2 : W1.cell? ⟨g0, 2, none⟩ = some (.string ⟨a.toArray⟩) := P.out.cell 2
  have P_3 : W1.cell? ⟨g0, 3, none⟩ = some (.int .i64 (ln : Int)) := P.out.cell 3
  clear hW0 hg0
  go_wp2_with fail
  clear P_0 P_1 P_2 P_3
  have O := Own.one (B := W1.heap.size) (Blk.new W1 9 #[.string nm]) (Nat.le_refl _) (by have := s1.out; unfold maxLen; omega)
  have F := (Ext.refl W1).alloc (Obj.cells #[.string nm] 9)
  generalize hW2 : W1.alloc (Obj.cells #[.string nm] 9) = W2 at O F
  generalize hg2 : W1.heap.size = g2 at O
  have Q : Blk W2 g0 24 #[.int .i64 f, .int .u64 (r : Int), .string ⟨a.toArray⟩, .int .i64 (ln : Int)] := P.out.ext F
  replace O := hide O
  replace F := hide F
  replace Q := hide Q
  have Q_0 : W2.cell? ⟨g0, 0, none⟩ = some (.int .i64 f) := Q.out.cell 0
  have Q_1 : W2.cell? ⟨g0, 1, none⟩ = some (.int .u64 (r : Int)) := Q.out.cell 1
  have Q_2 : W2.cell? ⟨g0, 2, none⟩ = some (.string ⟨a.toArray⟩) := Q.out.cell 2
  have Q_3 : W2.cell? ⟨g0, 3, none⟩ = some (.int .i64 (ln : Int)) := Q.out.cell 3
  refine (qnm.out _).mono ?_
  rintro e w_ ⟨rfl, rfl⟩
  go_wp2_with fail
  refine (qap.out _).mono ?_
  rintro e w_ ⟨rfl, rfl⟩
  clear hW2
  replace hg2 := hide hg2
  go_wp2_with fail
  refine (qat.out _ (hT.out.ext (E.out.trans F.out)) (hD.out.ext (E.out.trans F.out))).mono ?_
  rintro e W6 ⟨rfl, he6⟩
  clear Q_0 Q_1 Q_2 Q_3
  replace O := hide (O.out.ext he6)
  replace Q := hide (Q.out.ext he6)
  replace F := hide (F.out.trans he6)
  clear he6
  have Q_0 : W6.cell? ⟨g0, 0, none⟩ = some (.int .i64 f) := Q.out.cell 0
  have Q_1 : W6.cell? ⟨g0, 1, none⟩ = some (.int .u64 (r : Int)) := Q.out.cell 1
  have Q_2 : W6.cell? ⟨g0, 2, none⟩ = some (.string ⟨a.toArray⟩) := Q.out.cell 2
  have Q_3 : W6.cell? ⟨g0, 3, none⟩ = some (.int .i64 (ln : Int)) := Q.out.cell 3
  go_wp2_with fail
  refine (qit.out _ (hT.out.ext (E.out.trans F.out))).mono ?_
  rintro e W7 ⟨rfl, he7⟩
  clear Q_0 Q_1 Q_2 Q_3
  replace O := hide (O.out.ext he7)
  replace F := hide (F.out.trans he7)
  clear he7 Q
  have hz7 : g2 ≤ W7.heap.size := by rw [← hg2.out]; exact F.out.size
  go_wp2_with (at_builtin
               have hox := O.out.alloc (Obj.cells #[.string (ad ++ ⟨#[47]⟩ ++ lb)] 9)
               refine wpList_push (E := EStr) rfl _ _ _ rfl okStr (by decide) (by decide) rfl hox (by simp) (by simp; omega) rfl (y := ad ++ ⟨#[47]⟩ ++ lb) (cs := [.string (ad ++ ⟨#[47]⟩ ++ lb)]) ⟨rfl, by have := hxs.out; unfold maxLen; omega⟩ (str_new' _ _ _) ?_
               intro v5 W8 hO5 hg5 hat5
               have hF5 := (F.out.alloc (Obj.cells #[.string (ad ++ ⟨#[47]⟩ ++ lb)] 9)).push (fun j hj => by rw [hg2.out]; exact (O.out.lt j hj).1) hg5
               obtain ⟨a8, c8, hv8, hc8, hs8⟩ := hO5.slc
               replace hv8 : v5 = .slice a8 2 c8 := hv8
               subst hv8
               replace hs8 := hide hs8
               replace hF5 := hide hF5
               clear hO5 hg5 hat5)
  have hJ := Join_any a8 c8 _ 32 W8 _ (fun b hb => hb.2) hs8.out (by simp) hc8 (by simp) (by have := hft.out; simp at this ⊢; omega)
  rw [show (⟨(Lib.join (([nm] ++ [ad ++ ⟨#[47]⟩ ++ lb]).map (·.data.toList)) [32]).toArray⟩ : ByteArray) = S from hS.out.symm] at hJ
  refine hJ.mono ?_
  rintro e w9 ⟨rfl, he9⟩
  have hE9 := hide (E.out.trans (hF5.out.trans he9))
  clear hJ he9
  go_wp2
  go_ret2
  exact ⟨rfl, hE9.out⟩
set_option maxRecDepth 20000 in
theorem AText_any (p : Pfx) (w : World) (hal : p.addr.length ≤ 1048576) (hrd : p.rd < 18446744073709551616) (hT : Tab w) (hD : Deb w) :
    Calls Tryd.prog 12 #[valP p] w fun e w' => e = .returned (.tuple #[.string ⟨(textC p).1.toArray⟩, .int .i64 (textC p).2]) ∧ Ext w w' := by
  by_cases hm : MayP p
  · have hc : textC p = (textP p, 0) := if_pos hm
    rw [hc]
    cases hap : apartS p.fam with
    | true => exact AText_rd p w hm hrd hap hT hD
    | false => exact AText_pl p w hm hrd hap hT hD
  · have hc : textC p = ([], 2) := if_neg hm
    rw [hc]
    have qck := fun W => ACheck_any p W hal
    rw [show errP (MayP p) = 2 from if_neg hm] at qck
    simp only [valP] at qck ⊢
    clear hrd hT hD
    replace qck := hide qck
    go_enter Tryd.func12, Tryd.ntmps12
    go_wp2_with fail
    refine (qck.out _).mono ?_
    rintro e w1 ⟨rfl, he⟩
    have hE := hide (((Ext.refl w).alloc (Obj.cells #[.int .i64 p.fam, .int .u64 (p.rd : Int), .string ⟨p.addr.toArray⟩, .int .i64 p.len] 24)).trans he)
    clear he
    go_wp2
    go_ret2
    exact ⟨rfl, hE.out⟩
end Go.Proofs.YtbobpaailmbndaaDoor
