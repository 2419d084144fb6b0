/- The walk of PrimBack. -/
import Derived.Test.YtbobpaailmbndaaDoorS5
import Derived.Test.YtbobpaailmbndaaDoorP25
import Derived.Test.YtbobpaailmbndaaDoorQ7
import Derived.Test.YtbobpaailmbndaaDoorPE
import Derived.Test.YtbobpaailmbndaaDoorP23
namespace Go.Proofs.YtbobpaailmbndaaDoor
open Go.RowKit Go.Sort
set_option linter.unusedVariables false

set_option maxRecDepth 20000 in
set_option maxHeartbeats 4000000 in
theorem PrimBack_walk (x : Rw) (w : World) (hT : Tab w) (hD : Deb w) (hV : Vars w) :
    Calls Tryd.prog 6 #[valR x] w fun e w' => e = .returned (.bool true) ∧ Ext w w' := by
  have mixed : Tryd.prog.follows Departure.mixedOrders = true := by kernel_rfl
  have hm := raw_may x
  have hrl := raw_len x
  have hrd : (rawP x).rd ≤ 18446744073709551615 := by
    show (if famR x ≥ 4 then x.rd % 3 else 0) ≤ _
    split <;> omega
  have qof := fun W => Of_any x W
  generalize rawP x = p at *
  have hpa := may_size hm
  have htl : (textP p).length ≤ 80 := by
    rcases Nat.lt_or_ge 80 (textP p).length with h | h
    · have := parse_len h
      rw [text_parse hm hrd] at this
      have h2 : (0 : Int) = 4 := congrArg Prod.snd this
      omega
    · exact h
  have qtx := fun W (h : Ext w W) => AText_any p W hrl (by omega) (hT.ext h) (hD.ext h)
  rw [show textC p = (textP p, 0) from if_pos hm] at qtx
  have qps := fun W (h : Ext w W) => AParse_any (textP p) (by omega) W (hT.ext h) (hD.ext h) (hV.ext h)
  unfold PsP at qps
  rw [text_parse hm hrd] at qps
  have qat := fun W (h : Ext w W) => AAddrText_any p.addr hrl W (hT.ext h) (hD.ext h)
  rw [addrT_ok hm] at qat
  have qad := fun W (h : Ext w W) => AAddr_any (addrT p.addr).1 (Nat.le_trans addrT_len (by decide)) W (hT.ext h) (hD.ext h) (hV.ext h)
  unfold AdP at qad
  rw [text_addr hpa] at qad
  have qwk := fun W (h : Ext w W) => works_any W (hT.ext h) (hV.ext h)
  have qeq := fun W => eqP_run W p p true (by simp)
  have heg : ∀ o x y xs ys W, (eqGuard o 24 x y (.agg xs) (.agg ys)).run Tryd.prog W = .ok () W := fun o x y xs ys W => run_eqGuard_agg W o _ x y xs ys Tryd.eqGuardType24
  clear hm hrl hrd hpa htl hT hD hV
  generalize textP p = S at *
  generalize (addrT p.addr).1 = AT at *
  simp only [valP, valR] at qof qtx qps qat qad ⊢
  replace qof := hide qof
  replace qtx := hide qtx
  replace qps := hide qps
  replace qat := hide qat
  replace qad := hide qad
  replace qwk := hide qwk
  go_enter Tryd.func6, Tryd.ntmps6
  have E := (Ext.refl w).alloc (Obj.cells #[.int .u8 (x.fam.toNat : Int), .int .u64 (x.rd : Int), .int .u8 ((x.b 0).toNat : Int), .int .u8 ((x.b 1).toNat : Int), .int .u8 ((x.b 2).toNat : Int), .int .u8 ((x.b 3).toNat : Int), .int .u8 ((x.b 4).toNat : Int), .int .u8 ((x.b 5).toNat : Int), .int .u8 ((x.b 6).toNat : Int), .int .u8 ((x.b 7).toNat : Int), .int .u8 ((x.b 8).toNat : Int), .int .u8 ((x.b 9).toNat : Int), .int .u8 ((x.b 10).toNat : Int), .int .u8 ((x.b 11).toNat : Int), .int .u8 ((x.b 12).toNat : Int), .int .u8 ((x.b 13).toNat : Int), .int .u8 ((x.b 14).toNat : Int), .int .u8 ((x.b 15).toNat : Int), .int .u8 (x.len.toNat : Int)] 37)
  have X : Blk (w.alloc (Obj.cells #[.int .u8 (x.fam.toNat : Int), .int .u64 (x.rd : Int), .int .u8 ((x.b 0).toNat : Int), .int .u8 ((x.b 1).toNat : Int), .int .u8 ((x.b 2).toNat : Int), .int .u8 ((x.b 3).toNat : Int), .int .u8 ((x.b 4).toNat : Int), .int .u8 ((x.b 5).toNat : Int), .int .u8 ((x.b 6).toNat : Int), .int .u8 ((x.b 7).toNat : Int), .int .u8 ((x.b 8).toNat : Int), .int .u8 ((x.b 9).toNat : Int), .int .u8 ((x.b 10).toNat : Int), .int .u8 ((x.b 11).toNat : Int), .int .u8 ((x.b 12).toNat : Int), .int .u8 ((x.b 13).toNat : Int), .int .u8 ((x.b 14).toNat : Int), .int .u8 ((x.b 15).toNat : Int), .int .u8 (x.len.toNat : Int)] 37)) w.heap.size 37 #[.int .u8 (x.fam.toNat : Int), .int .u64 (x.rd : Int), .int .u8 ((x.b 0).toNat : Int), .int .u8 ((x.b 1).toNat : Int), .int .u8 ((x.b 2).toNat : Int), .int .u8 ((x.b 3).toNat : Int), .int .u8 ((x.b 4).toNat : Int), .int .u8 ((x.b 5).toNat : Int), .int .u8 ((x.b 6).toNat : Int), .int .u8 ((x.b 7).toNat : Int), .int .u8 ((x.b 8).toNat : Int), .int .u8 ((x.b 9).toNat : Int), .int .u8 ((x.b 10).toNat : Int), .int .u8 ((x.b 11).toNat : Int), .int .u8 ((x.b 12).toNat : Int), .int .u8 ((x.b 13).toNat : Int), .int .u8 ((x.b 14).toNat : Int), .int .u8 ((x.b 15).toNat : Int), .int .u8 (x.len.toNat : Int)] := Blk.new w _ _
  generalize hW0 : w.alloc (Obj.cells #[.int .u8 (x.fam.toNat : Int), .int .u64 (x.rd : Int), .int .u8 ((x.b 0).toNat : Int), .int .u8 ((x.b 1).toNat : Int), .int .u8 ((x.b 2).toNat : Int), .int .u8 ((x.b 3).toNat : Int), .int .u8 ((x.b 4).toNat : Int), .int .u8 ((x.b 5).toNat : Int), .int .u8 ((x.b 6).toNat : Int), .int .u8 ((x.b 7).toNat : Int), .int .u8 ((x.b 8).toNat : Int), .int .u8 ((x.b 9).toNat : Int), .int .u8 ((x.b 10).toNat : Int), .int .u8 ((x.b 11).toNat : Int), .int .u8 ((x.b 12).toNat : Int), .int .u8 ((x.b 13).toNat : Int), .int .u8 ((x.b 14).toNat : Int), .int .u8 ((x.b 15).toNat : Int), .int .u8 (x.len.toNat : Int)] 37) = W0 at E X
  generalize hg0 : w.heap.size = g0 at X
  replace E := hide E
  replace X := hide X
  go_upto_region 1 with fail
  refine wp_region_lit ?_
  refine wpList_load_row rfl 37 (.tmp 1) rfl g0 (by rfl) 37 #[.int .u8 (x.fam.toNat : Int), .int .u64 (x.rd : Int), .int .u8 ((x.b 0).toNat : Int), .int .u8 ((x.b 1).toNat : Int), .int .u8 ((x.b 2).toNat : Int), .int .u8 ((x.b 3).toNat : Int), .int .u8 ((x.b 4).toNat : Int), .int .u8 ((x.b 5).toNat : Int), .int .u8 ((x.b 6).toNat : Int), .int .u8 ((x.b 7).toNat : Int), .int .u8 ((x.b 8).toNat : Int), .int .u8 ((x.b 9).toNat : Int), .int .u8 ((x.b 10).toNat : Int), .int .u8 ((x.b 11).toNat : Int), .int .u8 ((x.b 12).toNat : Int), .int .u8 ((x.b 13).toNat : Int), .int .u8 ((x.b 14).toNat : Int), .int .u8 ((x.b 15).toNat : Int), .int .u8 (x.len.toNat : Int)] (0, 0) _ X.out Tryd.underlying37 rfl (by kernel_rfl) ?_
  go_wp2_with fail
  refine (qof.out _).mono ?_
  rintro e W1 ⟨rfl, he⟩
  clear hW0 hg0 X
  replace E := E.out.trans he
  clear he
  have P := Blk.new W1 24 #[.int .i64 p.fam, .int .u64 (p.rd : Int), .string ⟨p.addr.toArray⟩, .int .i64 p.len]
  replace E := E.alloc (Obj.cells #[.int .i64 p.fam, .int .u64 (p.rd : Int), .string ⟨p.addr.toArray⟩, .int .i64 p.len] 24)
  generalize hW2 : W1.alloc (Obj.cells #[.int .i64 p.fam, .int .u64 (p.rd : Int), .string ⟨p.addr.toArray⟩, .int .i64 p.len] 24) = W2 at P E
  generalize hg2 : W1.heap.size = g2 at P
  replace P := hide P
  replace E := hide E
  have P_0 : W2.cell? ⟨g2, 0, none⟩ = some (.int .i64 p.fam) := P.out.cell 0
  have P_1 : W2.cell? ⟨g2, 1, none⟩ = some (.int .u64 (p.rd : Int)) := P.out.cell 1
  have P_2 : W2.cell? ⟨g2, 2, none⟩ = some (.string ⟨p.addr.toArray⟩) := P.out.cell 2
  have P_3 : W2.cell? ⟨g2, 3, none⟩ = some (.int .i64 p.len) := P.out.cell 3
  go_wp2_with fail
  refine (qtx.out _ E.out).mono ?_
  rintro e W3 ⟨rfl, he_⟩
  clear P_0 P_1 P_2 P_3
  replace E := hide (E.out.trans he_)
  replace P := hide (P.out.ext he_)
  clear he_
  have P_0 : W3.cell? ⟨g2, 0, none⟩ = some (.int .i64 p.fam) := P.out.cell 0
  have P_1 : W3.cell? ⟨g2, 1, none⟩ = some (.int .u64 (p.rd : Int)) := P.out.cell 1
  have P_2 : W3.cell? ⟨g2, 2, none⟩ = some (.string ⟨p.addr.toArray⟩) := P.out.cell 2
  have P_3 : W3.cell? ⟨g2, 3, none⟩ = some (.int .i64 p.len) := P.out.cell 3
  clear hW2 hg2
  go_wp2_with fail
  refine (qps.out _ E.out).mono ?_
  rintro e W4 ⟨rfl, he⟩
  clear P_0 P_1 P_2 P_3
  replace E := E.out.trans he
  replace P := P.out.ext he
  clear he
  have Q := Blk.new W4 24 #[.int .i64 p.fam, .int .u64 (p.rd : Int), .string ⟨p.addr.toArray⟩, .int .i64 p.len]
  replace E := E.alloc (Obj.cells #[.int .i64 p.fam, .int .u64 (p.rd : Int), .string ⟨p.addr.toArray⟩, .int .i64 p.len] 24)
  replace P := P.alloc (Obj.cells #[.int .i64 p.fam, .int .u64 (p.rd : Int), .string ⟨p.addr.toArray⟩, .int .i64 p.len] 24)
  generalize hW5 : W4.alloc (Obj.cells #[.int .i64 p.fam, .int .u64 (p.rd : Int), .string ⟨p.addr.toArray⟩, .int .i64 p.len] 24) = W5 at P Q E
  generalize hg5 : W4.heap.size = g5 at Q
  replace P := hide P
  replace Q := hide Q
  replace E := hide E
  have P_0 : W5.cell? ⟨g2, 0, none⟩ = some (.int .i64 p.fam) := P.out.cell 0
  have P_1 : W5.cell? ⟨g2, 1, none⟩ = some (.int .u64 (p.rd : Int)) := P.out.cell 1
  have P_2 : W5.cell? ⟨g2, 2, none⟩ = some (.string ⟨p.addr.toArray⟩) := P.out.cell 2
  have P_3 : W5.cell? ⟨g2, 3, none⟩ = some (.int .i64 p.len) := P.out.cell 3
  have Q_0 : W5.cell? ⟨g5, 0, none⟩ = some (.int .i64 p.fam) := Q.out.cell 0
  have Q_1 : W5.cell? ⟨g5, 1, none⟩ = some (.int .u64 (p.rd : Int)) := Q.out.cell 1
  have Q_2 : W5.cell? ⟨g5, 2, none⟩ = some (.string ⟨p.addr.toArray⟩) := Q.out.cell 2
  have Q_3 : W5.cell? ⟨g5, 3, none⟩ = some (.int .i64 p.len) := Q.out.cell 3
  go_wp2_with fail
  refine (qat.out _ E.out).mono ?_
  rintro e W6 ⟨rfl, he_⟩
  clear P_0 P_1 P_2 P_3 Q_0 Q_1 Q_2 Q_3
  replace E := hide (E.out.trans he_)
  replace P := hide (P.out.ext he_)
  replace Q := hide (Q.out.ext he_)
  clear he_
  have P_0 : W6.cell? ⟨g2, 0, none⟩ = some (.int .i64 p.fam) := P.out.cell 0
  have P_1 : W6.cell? ⟨g2, 1, none⟩ = some (.int .u64 (p.rd : Int)) := P.out.cell 1
  have P_2 : W6.cell? ⟨g2, 2, none⟩ = some (.string ⟨p.addr.toArray⟩) := P.out.cell 2
  have P_3 : W6.cell? ⟨g2, 3, none⟩ = some (.int .i64 p.len) := P.out.cell 3
  have Q_0 : W6.cell? ⟨g5, 0, none⟩ = some (.int .i64 p.fam) := Q.out.cell 0
  have Q_1 : W6.cell? ⟨g5, 1, none⟩ = some (.int .u64 (p.rd : Int)) := Q.out.cell 1
  have Q_2 : W6.cell? ⟨g5, 2, none⟩ = some (.string ⟨p.addr.toArray⟩) := Q.out.cell 2
  have Q_3 : W6.cell? ⟨g5, 3, none⟩ = some (.int .i64 p.len) := Q.out.cell 3
  clear hW5 hg5
  go_wp2_with fail
  refine (qad.out _ E.out).mono ?_
  rintro e W7 ⟨rfl, he_⟩
  clear P_0 P_1 P_2 P_3 Q_0 Q_1 Q_2 Q_3
  replace E := hide (E.out.trans he_)
  replace P := hide (P.out.ext he_)
  replace Q := hide (Q.out.ext he_)
  clear he_
  have P_0 : W7.cell? ⟨g2, 0, none⟩ = some (.int .i64 p.fam) := P.out.cell 0
  have P_1 : W7.cell? ⟨g2, 1, none⟩ = some (.int .u64 (p.rd : Int)) := P.out.cell 1
  have P_2 : W7.cell? ⟨g2, 2, none⟩ = some (.string ⟨p.addr.toArray⟩) := P.out.cell 2
  have P_3 : W7.cell? ⟨g2, 3, none⟩ = some (.int .i64 p.len) := P.out.cell 3
  have Q_0 : W7.cell? ⟨g5, 0, none⟩ = some (.int .i64 p.fam) := Q.out.cell 0
  have Q_1 : W7.cell? ⟨g5, 1, none⟩ = some (.int .u64 (p.rd : Int)) := Q.out.cell 1
  have Q_2 : W7.cell? ⟨g5, 2, none⟩ = some (.string ⟨p.addr.toArray⟩) := Q.out.cell 2
  have Q_3 : W7.cell? ⟨g5, 3, none⟩ = some (.int .i64 p.len) := Q.out.cell 3
  go_wp2_with fail
  refine (qwk.out _ E.out).mono ?_
  rintro e W8 ⟨rfl, he_⟩
  clear P_0 P_1 P_2 P_3 Q_0 Q_1 Q_2 Q_3
  replace E := hide (E.out.trans he_)
  clear he_
  go_wp2
  go_ret
  exact ⟨rfl, E.out⟩
end Go.Proofs.YtbobpaailmbndaaDoor
