/- Walks: a prefix as a text, by the document; the walk of PrimCuts. -/
import Derived.Test.YtbobpaailmbndaaDoorQ8
import Derived.Test.YtbobpaailmbndaaDoorP14
import Derived.Test.YtbobpaailmbndaaDoorPE
import Derived.Test.YtbobpaailmbndaaDoorP23
namespace Go.Proofs.YtbobpaailmbndaaDoor
open Go.RowKit Go.Sort
set_option linter.unusedVariables false

theorem ba_mk1 (x : UInt8) : (ByteArray.mk #[x]).size = 1 := rfl
set_option maxRecDepth 20000 in
set_option maxHeartbeats 2000000 in
theorem RText_rd (p : Pfx) (w : World) (hm : MayP p) (hrd : p.rd < 18446744073709551616) (hap : apartS p.fam = true) :
    Calls Tryd.prog 13 #[valP p] w fun e w' => e = .returned (.tuple #[.string ⟨(textP p).toArray⟩, .int .i64 0]) ∧ Ext w w' := by
  have hsm := hm.1.small
  have qmy := fun W => RMay_any p W (by omega)
  rw [show mayB p = true from decide_eq_true hm] at qmy
  have qnm := fun W => RName_any p.fam W
  have qap := fun W => RApart_any p.fam W
  rw [hap] at qap
  have qat := fun W => RAddrText_any p.addr (by omega) W
  rw [addrT_ok hm] at qat
  have qrd := fun W => RNumber_any 10 (by decide) (by decide) p.rd hrd W
  obtain ⟨ln, hln⟩ : ∃ n : Nat, p.len = (n : Int) := ⟨p.len.toNat, by omega⟩
  have qit := fun W => RNumber_any 10 (by decide) (by decide) ln (by omega) W
  have w1 : IntKind.u64.wrap (ln : Int) = (ln : Int) := by rw [IntKind.wrap_u64]; omega
  have s1 := ba_le (nameS p.fam) 4 (nameS_len _)
  have s2 := ba_le (digS 10 p.rd) 20 (digS_len (by decide) 20 _ (by omega) (by decide))
  have s3 := ba_le (addrT p.addr).1 39 addrT_len
  have s4 := ba_le (digS 10 ln) 3 (digS_len (by decide) 3 _ (by omega) (by decide))
  have hfin : (⟨(nameS p.fam).toArray⟩ : ByteArray) ++ ⟨#[32]⟩ ++ ⟨(digS 10 p.rd).toArray⟩ ++ ⟨#[32]⟩ ++ ⟨(addrT p.addr).1.toArray⟩ ++ ⟨#[47]⟩ ++ ⟨(digS 10 ln).toArray⟩ = ⟨(textP p).toArray⟩ := by
    unfold textP
    rw [hap, hln, Int.toNat_natCast]
    simp only [show (⟨#[32]⟩ : ByteArray) = ⟨([32] : List UInt8).toArray⟩ from rfl, show (⟨#[47]⟩ : ByteArray) = ⟨([47] : List UInt8).toArray⟩ from rfl, ba_app]
    simp
  generalize (⟨(textP p).toArray⟩ : ByteArray) = S at hfin ⊢
  obtain ⟨f, r, a, l⟩ := p
  simp only [valP] at qmy qnm qap qat qrd hln hfin s1 s2 s3 s4 hrd ⊢
  subst hln
  generalize (⟨(nameS f).toArray⟩ : ByteArray) = nm at *
  generalize (⟨(digS 10 r).toArray⟩ : ByteArray) = rb at *
  generalize (⟨(addrT a).1.toArray⟩ : ByteArray) = ad at *
  generalize (⟨(digS 10 ln).toArray⟩ : ByteArray) = lb at *
  have z0 : ¬ 9223372036854775807 < (nm).size + (ByteArray.mk #[32]).size := by simp only [ba_sz_app, ba_mk1]; omega
  have y0 : ¬ 9223372036854775807 < nm.size + 1 := by omega
  have z1 : ¬ 9223372036854775807 < (nm ++ ⟨#[32]⟩).size + rb.size := by simp only [ba_sz_app, ba_mk1]; omega
  have y1 : ¬ 9223372036854775807 < nm.size + 1 + rb.size := by omega
  have z2 : ¬ 9223372036854775807 < (nm ++ ⟨#[32]⟩ ++ rb).size + (ByteArray.mk #[32]).size := by simp only [ba_sz_app, ba_mk1]; omega
  have y2 : ¬ 9223372036854775807 < nm.size + 1 + rb.size + 1 := by omega
  have z3 : ¬ 9223372036854775807 < (nm ++ ⟨#[32]⟩ ++ rb ++ ⟨#[32]⟩).size + ad.size := by simp only [ba_sz_app, ba_mk1]; omega
  have y3 : ¬ 9223372036854775807 < nm.size + 1 + rb.size + 1 + ad.size := by omega
  have z4 : ¬ 9223372036854775807 < (nm ++ ⟨#[32]⟩ ++ rb ++ ⟨#[32]⟩ ++ ad).size + (ByteArray.mk #[47]).size := by simp only [ba_sz_app, ba_mk1]; omega
  have y4 : ¬ 9223372036854775807 < nm.size + 1 + rb.size + 1 + ad.size + 1 := by omega
  have z5 : ¬ 9223372036854775807 < (nm ++ ⟨#[32]⟩ ++ rb ++ ⟨#[32]⟩ ++ ad ++ ⟨#[47]⟩).size + lb.size := by simp only [ba_sz_app, ba_mk1]; omega
  have y5 : ¬ 9223372036854775807 < nm.size + 1 + rb.size + 1 + ad.size + 1 + lb.size := by omega
  clear hm hsm hap hrd
  replace qmy := hide qmy
  replace qnm := hide qnm
  replace qap := hide qap
  replace qat := hide qat
  replace qrd := hide qrd
  replace qit := hide qit
  replace s1 := hide s1
  replace s2 := hide s2
  replace s3 := hide s3
  replace s4 := hide s4
  go_enter Tryd.func13, Tryd.ntmps13
  have P := Blk.new w 24 #[.int .i64 f, .int .u64 (r : Int), .string ⟨a.toArray⟩, .int .i64 (ln : Int)]
  have E := (Ext.refl w).alloc (Obj.cells #[.int .i64 f, .int .u64 (r : Int), .string ⟨a.toArray⟩, .int .i64 (ln : Int)] 24)
  generalize hW0 : w.alloc (Obj.cells #[.int .i64 f, .int .u64 (r : Int), .string ⟨a.toArray⟩, .int .i64 (ln : Int)] 24) = W0 at P E
  generalize hg0 : w.heap.size = g0 at P
  replace P := hide P
  replace E := hide E
  have P_0 : W0.cell? ⟨g0, 0, none⟩ = some (.int .i64 f) := P.out.cell 0
  have P_1 : W0.cell? ⟨g0, 1, none⟩ = some (.int .u64 (r : Int)) := P.out.cell 1
  have P_2 : W0.cell? ⟨g0, 2, none⟩ = some (.string ⟨a.toArray⟩) := P.out.cell 2
  have P_3 : W0.cell? ⟨g0, 3, none⟩ = some (.int .i64 (ln : Int)) := P.out.cell 3
  go_wp2_with fail
  refine (qmy.out _).mono ?_
  rintro e W1 ⟨rfl, he_⟩
  clear P_0 P_1 P_2 P_3
  replace E := hide (E.out.trans he_)
  replace P := hide (P.out.ext he_)
  clear he_
  have P_0 : W1.cell? ⟨g0, 0, none⟩ = some (.int .i64 f) := P.out.cell 0
  have P_1 : W1.cell? ⟨g0, 1, none⟩ = some (.int .u64 (r : Int)) := P.out.cell 1
  have P_2 : W1.cell? ⟨g0, 2, none⟩ = some (.string ⟨a.toArray⟩) := P.out.cell 2
  have P_3 : W1.cell? ⟨g0, 3, none⟩ = some (.int .i64 (ln : Int)) := P.out.cell 3
  clear hW0 hg0
  go_wp2_with fail
  refine (qnm.out _).mono ?_
  rintro e w_ ⟨rfl, rfl⟩
  go_wp2_with fail
  refine (qap.out _).mono ?_
  rintro e w_ ⟨rfl, rfl⟩
  go_wp2_with fail
  refine (qrd.out _).mono ?_
  rintro e W2 ⟨rfl, he_⟩
  clear P_0 P_1 P_2 P_3
  replace E := hide (E.out.trans he_)
  replace P := hide (P.out.ext he_)
  clear he_
  have P_0 : W2.cell? ⟨g0, 0, none⟩ = some (.int .i64 f) := P.out.cell 0
  have P_1 : W2.cell? ⟨g0, 1, none⟩ = some (.int .u64 (r : Int)) := P.out.cell 1
  have P_2 : W2.cell? ⟨g0, 2, none⟩ = some (.string ⟨a.toArray⟩) := P.out.cell 2
  have P_3 : W2.cell? ⟨g0, 3, none⟩ = some (.int .i64 (ln : Int)) := P.out.cell 3
  go_wp2_with fail
  refine (qat.out _).mono ?_
  rintro e W3 ⟨rfl, he_⟩
  clear P_0 P_1 P_2 P_3
  replace E := hide (E.out.trans he_)
  replace P := hide (P.out.ext he_)
  clear he_
  have P_0 : W3.cell? ⟨g0, 0, none⟩ = some (.int .i64 f) := P.out.cell 0
  have P_1 : W3.cell? ⟨g0, 1, none⟩ = some (.int .u64 (r : Int)) := P.out.cell 1
  have P_2 : W3.cell? ⟨g0, 2, none⟩ = some (.string ⟨a.toArray⟩) := P.out.cell 2
  have P_3 : W3.cell? ⟨g0, 3, none⟩ = some (.int .i64 (ln : Int)) := P.out.cell 3
  go_wp2_with fail
  refine (qit.out _).mono ?_
  rintro e W4 ⟨rfl, he_⟩
  clear P_0 P_1 P_2 P_3
  replace E := hide (E.out.trans he_)
  replace P := hide (P.out.ext he_)
  clear he_
  have P_0 : W4.cell? ⟨g0, 0, none⟩ = some (.int .i64 f) := P.out.cell 0
  have P_1 : W4.cell? ⟨g0, 1, none⟩ = some (.int .u64 (r : Int)) := P.out.cell 1
  have P_2 : W4.cell? ⟨g0, 2, none⟩ = some (.string ⟨a.toArray⟩) := P.out.cell 2
  have P_3 : W4.cell? ⟨g0, 3, none⟩ = some (.int .i64 (ln : Int)) := P.out.cell 3
  clear P_0 P_1 P_2 P_3
  go_wp2
  go_ret2
  exact ⟨rfl, E.out⟩
set_option maxRecDepth 20000 in
set_option maxHeartbeats 2000000 in
theorem RText_pl (p : Pfx) (w : World) (hm : MayP p) (hrd : p.rd < 18446744073709551616) (hap : apartS p.fam = false) :
    Calls Tryd.prog 13 #[valP p] w fun e w' => e = .returned (.tuple #[.string ⟨(textP p).toArray⟩, .int .i64 0]) ∧ Ext w w' := by
  have hsm := hm.1.small
  have qmy := fun W => RMay_any p W (by omega)
  rw [show mayB p = true from decide_eq_true hm] at qmy
  have qnm := fun W => RName_any p.fam W
  have qap := fun W => RApart_any p.fam W
  rw [hap] at qap
  have qat := fun W => RAddrText_any p.addr (by omega) W
  rw [addrT_ok hm] at qat
  have qrd := fun W => RNumber_any 10 (by decide) (by decide) p.rd hrd W
  obtain ⟨ln, hln⟩ : ∃ n : Nat, p.len = (n : Int) := ⟨p.len.toNat, by omega⟩
  have qit := fun W => RNumber_any 10 (by decide) (by decide) ln (by omega) W
  have w1 : IntKind.u64.wrap (ln : Int) = (ln : Int) := by rw [IntKind.wrap_u64]; omega
  have s1 := ba_le (nameS p.fam) 4 (nameS_len _)
  have s2 := ba_le (digS 10 p.rd) 20 (digS_len (by decide) 20 _ (by omega) (by decide))
  have s3 := ba_le (addrT p.addr).1 39 addrT_len
  have s4 := ba_le (digS 10 ln) 3 (digS_len (by decide) 3 _ (by omega) (by decide))
  have hfin : (⟨(nameS p.fam).toArray⟩ : ByteArray) ++ ⟨#[32]⟩ ++ ⟨(addrT p.addr).1.toArray⟩ ++ ⟨#[47]⟩ ++ ⟨(digS 10 ln).toArray⟩ = ⟨(textP p).toArray⟩ := by
    unfold textP
    rw [hap, hln, Int.toNat_natCast]
    simp only [show (⟨#[32]⟩ : ByteArray) = ⟨([32] : List UInt8).toArray⟩ from rfl, show (⟨#[47]⟩ : ByteArray) = ⟨([47] : List UInt8).toArray⟩ from rfl, ba_app]
    simp
  generalize (⟨(textP p).toArray⟩ : ByteArray) = S at hfin ⊢
  obtain ⟨f, r, a, l⟩ := p
  simp only [valP] at qmy qnm qap qat qrd hln hfin s1 s2 s3 s4 hrd ⊢
  subst hln
  generalize (⟨(nameS f).toArray⟩ : ByteArray) = nm at *
  generalize (⟨(digS 10 r).toArray⟩ : ByteArray) = rb at *
  generalize (⟨(addrT a).1.toArray⟩ : ByteArray) = ad at *
  generalize (⟨(digS 10 ln).toArray⟩ : ByteArray) = lb at *
  have z0 : ¬ 9223372036854775807 < (nm).size + (ByteArray.mk #[32]).size := by simp only [ba_sz_app, ba_mk1]; omega
  have y0 : ¬ 9223372036854775807 < nm.size + 1 := by omega
  have z1 : ¬ 9223372036854775807 < (nm ++ ⟨#[32]⟩).size + ad.size := by simp only [ba_sz_app, ba_mk1]; omega
  have y1 : ¬ 9223372036854775807 < nm.size + 1 + ad.size := by omega
  have z2 : ¬ 9223372036854775807 < (nm ++ ⟨#[32]⟩ ++ ad).size + (ByteArray.mk #[47]).size := by simp only [ba_sz_app, ba_mk1]; omega
  have y2 : ¬ 9223372036854775807 < nm.size + 1 + ad.size + 1 := by omega
  have z3 : ¬ 9223372036854775807 < (nm ++ ⟨#[32]⟩ ++ ad ++ ⟨#[47]⟩).size + lb.size := by simp only [ba_sz_app, ba_mk1]; omega
  have y3 : ¬ 9223372036854775807 < nm.size + 1 + ad.size + 1 + lb.size := by omega
  clear hm hsm hap hrd
  replace qmy := hide qmy
  replace qnm := hide qnm
  replace qap := hide qap
  replace qat := hide qat
  replace qrd := hide qrd
  replace qit := hide qit
  replace s1 := hide s1
  replace s2 := hide s2
  replace s3 := hide s3
  replace s4 := hide s4
  go_enter Tryd.func13, Tryd.ntmps13
  have P := Blk.new w 24 #[.int .i64 f, .int .u64 (r : Int), .string ⟨a.toArray⟩, .int .i64 (ln : Int)]
  have E := (Ext.refl w).alloc (Obj.cells #[.int .i64 f, .int .u64 (r : Int), .string ⟨a.toArray⟩, .int .i64 (ln : Int)] 24)
  generalize hW0 : w.alloc (Obj.cells #[.int .i64 f, .int .u64 (r : Int), .string ⟨a.toArray⟩, .int .i64 (ln : Int)] 24) = W0 at P E
  generalize hg0 : w.heap.size = g0 at P
  replace P := hide P
  replace E := hide E
  have P_0 : W0.cell? ⟨g0, 0, none⟩ = some (.int .i64 f) := P.out.cell 0
  have P_1 : W0.cell? ⟨g0, 1, none⟩ = some (.int .u64 (r : Int)) := P.out.cell 1
  have P_2 : W0.cell? ⟨g0, 2, none⟩ = some (.string ⟨a.toArray⟩) := P.out.cell 2
  have P_3 : W0.cell? ⟨g0, 3, none⟩ = some (.int .i64 (ln : Int)) := P.out.cell 3
  go_wp2_with fail
  refine (qmy.out _).mono ?_
  rintro e W1 ⟨rfl, he_⟩
  clear P_0 P_1 P_2 P_3
  replace E := hide (E.out.trans he_)
  replace P := hide (P.out.ext he_)
  clear he_
  have P_0 : W1.cell? ⟨g0, 0, none⟩ = some (.int .i64 f) := P.out.cell 0
  have P_1 : W1.cell? ⟨g0, 1, none⟩ = some (.int .u64 (r : Int)) := P.out.cell 1
  have P_2 : W1.cell? ⟨g0, 2, none⟩ = some (.string ⟨a.toArray⟩) := P.out.cell 2
  have P_3 : W1.cell? ⟨g0, 3, none⟩ = some (.int .i64 (ln : Int)) := P.out.cell 3
  clear hW0 hg0
  go_wp2_with fail
  refine (qnm.out _).mono ?_
  rintro e w_ ⟨rfl, rfl⟩
  go_wp2_with fail
  refine (qap.out _).mono ?_
  rintro e w_ ⟨rfl, rfl⟩
  go_wp2_with fail
  refine (qat.out _).mono ?_
  rintro e W3 ⟨rfl, he_⟩
  clear P_0 P_1 P_2 P_3
  replace E := hide (E.out.trans he_)
  replace P := hide (P.out.ext he_)
  clear he_
  have P_0 : W3.cell? ⟨g0, 0, none⟩ = some (.int .i64 f) := P.out.cell 0
  have P_1 : W3.cell? ⟨g0, 1, none⟩ = some (.int .u64 (r : Int)) := P.out.cell 1
  have P_2 : W3.cell? ⟨g0, 2, none⟩ = some (.string ⟨a.toArray⟩) := P.out.cell 2
  have P_3 : W3.cell? ⟨g0, 3, none⟩ = some (.int .i64 (ln : Int)) := P.out.cell 3
  go_wp2_with fail
  refine (qit.out _).mono ?_
  rintro e W4 ⟨rfl, he_⟩
  clear P_0 P_1 P_2 P_3
  replace E := hide (E.out.trans he_)
  replace P := hide (P.out.ext he_)
  clear he_
  have P_0 : W4.cell? ⟨g0, 0, none⟩ = some (.int .i64 f) := P.out.cell 0
  have P_1 : W4.cell? ⟨g0, 1, none⟩ = some (.int .u64 (r : Int)) := P.out.cell 1
  have P_2 : W4.cell? ⟨g0, 2, none⟩ = some (.string ⟨a.toArray⟩) := P.out.cell 2
  have P_3 : W4.cell? ⟨g0, 3, none⟩ = some (.int .i64 (ln : Int)) := P.out.cell 3
  clear P_0 P_1 P_2 P_3
  go_wp2
  go_ret2
  exact ⟨rfl, E.out⟩
theorem RText_any (p : Pfx) (w : World) (hal : p.addr.length ≤ 1048576) (hrd : p.rd < 18446744073709551616) :
    Calls Tryd.prog 13 #[valP p] w fun e w' => e = .returned (.tuple #[.string ⟨(textC p).1.toArray⟩, .int .i64 (textC p).2]) ∧ Ext w w' := by
  by_cases hm : MayP p
  · have hc : textC p = (textP p, 0) := if_pos hm
    rw [hc]
    cases hap : apartS p.fam with
    | true => exact RText_rd p w hm hrd hap
    | false => exact RText_pl p w hm hrd hap
  · have hc : textC p = ([], 2) := if_neg hm
    rw [hc]
    have qck := fun W => RMay_any p W hal
    rw [show mayB p = false from decide_eq_false hm] at qck
    simp only [valP] at qck ⊢
    clear hrd
    replace qck := hide qck
    go_enter Tryd.func13, Tryd.ntmps13
    go_wp2_with fail
    refine (qck.out _).mono ?_
    rintro e w1 ⟨rfl, he⟩
    have hE := hide (((Ext.refl w).alloc (Obj.cells #[.int .i64 p.fam, .int .u64 (p.rd : Int), .string ⟨p.addr.toArray⟩, .int .i64 p.len] 24)).trans he)
    clear he
    go_wp2
    go_ret2
    exact ⟨rfl, hE.out⟩
end Go.Proofs.YtbobpaailmbndaaDoor
