/- Walks: chapter 15's example (works). -/
import Derived.Test.YtoghdmoldcjedaaDoorVF
namespace Go.Proofs.YtoghdmoldcjedaaDoor
open Go.RowKit Go.Sort
set_option linter.unusedVariables false

theorem sl_two (W : World) : Sl EU32 (W.alloc (Obj.cells #[.int .u32 1, .int .u32 2] 50)) (· < (W.alloc (Obj.cells #[.int .u32 1, .int .u32 2] 50)).heap.size) (some ⟨W.heap.size, 0, none⟩) [1, 2] := by
  have B := Blk.new W 50 #[.int .u32 1, .int .u32 2]
  refine .inr ⟨W.heap.size, 0, rfl, B.lt, fun k x hx => ?_⟩
  match k, hx with
  | 0, hx => cases hx; exact ⟨[.int .u32 1], ⟨rfl, trivial⟩, fun j u hu => by match j, hu with | 0, hu => cases hu; exact B.cell 0⟩
  | 1, hx => cases hx; exact ⟨[.int .u32 2], ⟨rfl, trivial⟩, fun j u hu => by match j, hu with | 0, hu => cases hu; exact B.cell 1⟩
theorem sl_one (W : World) : Sl EU32 (W.alloc (Obj.cells #[.int .u32 1] 50)) (· < (W.alloc (Obj.cells #[.int .u32 1] 50)).heap.size) (some ⟨W.heap.size, 0, none⟩) [1] := by
  have B := Blk.new W 50 #[.int .u32 1]
  refine .inr ⟨W.heap.size, 0, rfl, B.lt, fun k x hx => ?_⟩
  match k, hx with
  | 0, hx => cases hx; exact ⟨[.int .u32 1], ⟨rfl, trivial⟩, fun j u hu => by match j, hu with | 0, hu => cases hu; exact B.cell 0⟩
def exI : List Value := [.int .i64 1, .int .u64 0, .string ⟨#[10, 0, 0, 0]⟩, .int .i64 8, .int .i64 16, .int .i64 24]
theorem exS_in {W : World} {g : Nat} (h : Blk W g 42 #[.int .i64 1, .int .u64 0, .string ⟨#[10, 0, 0, 0]⟩, .int .i64 8, .int .i64 16, .int .i64 24]) : SetIn W (· < W.heap.size) exS (some ⟨g, 0, none⟩) none none := by
  refine ⟨by decide, ⟨by decide, by decide⟩, by decide, ?_, by decide, Sl.nil, by decide, Sl.nil⟩
  refine .inr ⟨g, 0, rfl, h.lt, fun k x hx => ?_⟩
  match k, hx with
  | 0, hx =>
    cases hx
    refine ⟨itmCs ⟨ex8, 16, 24⟩, ⟨rfl, ⟨⟨⟨by decide, by decide⟩, by decide, by decide, ⟨by decide, by decide⟩⟩, ⟨by decide, by decide⟩, ⟨by decide, by decide⟩⟩⟩, fun j u hu => ?_⟩
    match j, hu with
    | 0, hu => cases hu; exact h.cell 0
    | 1, hu => cases hu; exact h.cell 1
    | 2, hu => cases hu; exact h.cell 2
    | 3, hu => cases hu; exact h.cell 3
    | 4, hu => cases hu; exact h.cell 4
    | 5, hu => cases hu; exact h.cell 5
set_option maxRecDepth 20000 in
set_option maxHeartbeats 4000000 in
theorem LWorks_any (w : World) (hT : Tab w) (hD : Deb w) (hV : Vars w) :
    Calls Tryd.prog 9 #[] w fun e w' => e = .returned (.bool true) ∧ Ext w w' := by
  have mixed : Tryd.prog.follows Departure.mixedOrders = true := by kernel_rfl
  have qpa := fun W (h : Ext w W) => SParse_any [49, 32, 46, 32, 42] (by decide) W (hT.ext h) (hV.ext h)
  unfold PaP at qpa
  rw [exA_p] at qpa
  have q8 := fun W (h : Ext w W) => LP_any t8 ex8 0 (by decide) ex8_p W (hT.ext h) (hD.ext h) (hV.ext h)
  have q16 := fun W (h : Ext w W) => LP_any t16 ex16 0 (by decide) ex16_p W (hT.ext h) (hD.ext h) (hV.ext h)
  have qm := fun (a b : Option Addr) (c d : Nat) W h1 h2 => Match_any a b c d exA [1, 2] W (by decide) (by decide) h1 h2
  rw [exA_y] at qm
  have qn := fun (a b : Option Addr) (c d : Nat) W h1 h2 => Match_any a b c d exA [1] W (by decide) (by decide) h1 h2
  rw [exA_n] at qn
  have qy := fun g W (h : Blk W g 42 #[.int .i64 1, .int .u64 0, .string ⟨#[10, 0, 0, 0]⟩, .int .i64 8, .int .i64 16, .int .i64 24]) => SPrefix_any exS ex16 (by decide) _ 1 none 0 none 0 W (exS_in h)
  rw [exS_y] at qy
  have qz := fun g W (h : Blk W g 42 #[.int .i64 1, .int .u64 0, .string ⟨#[10, 0, 0, 0]⟩, .int .i64 8, .int .i64 16, .int .i64 24]) => SPrefix_any exS ex8 (by decide) _ 1 none 0 none 0 W (exS_in h)
  rw [exS_n] at qz
  simp only [ex8, ex16, exS, exA, t8, t16, List.length_cons, List.length_nil, Nat.zero_add, Nat.reduceAdd, Int.cast_ofNat_Int] at q8 q16 qm qn qy qz
  replace qpa := hide qpa
  replace q8 := hide q8
  replace q16 := hide q16
  replace qm := hide qm
  replace qn := hide qn
  replace qy := hide qy
  replace qz := hide qz
  clear hT hD hV
  go_enter Tryd.func9, Tryd.ntmps9
  go_wp2_with fail
  refine (qpa.out _ (Ext.refl w)).mono ?_
  rintro e W1 ⟨⟨v, rfl, hown⟩, he⟩
  have E := hide he
  obtain ⟨av, cv, hv, hsl⟩ := hown.sl
  rw [show exA.length = 3 from rfl] at hv
  subst hv
  replace hsl := hsl.mono (S' := (· < W1.heap.size)) fun b hb => hb.2
  clear he hown
  replace hsl := hide hsl
  go_wp2_with fail
  refine (q8.out _ E.out).mono ?_
  rintro e W2 ⟨rfl, he⟩
  replace E := hide (E.out.trans he)
  replace hsl := hide (hsl.out.ext he)
  clear he
  go_upto_region 3 with fail
  generalize hgi : W2.heap.size = gi
  have I := (Blk.new W2 42 #[.int .i64 1, .int .u64 0, .string ⟨#[10, 0, 0, 0]⟩, .int .i64 8, .int .i64 16, .int .i64 24]).alloc (Obj.cells #[.string ⟨#[115]⟩, .int .i64 1, .slice (some ⟨gi, 0, none⟩) 1 1, .slice none 0 0, .slice none 0 0] 45)
  have S := Blk.new (W2.alloc (Obj.cells #[.int .i64 1, .int .u64 0, .string ⟨#[10, 0, 0, 0]⟩, .int .i64 8, .int .i64 16, .int .i64 24] 42)) 45 #[.string ⟨#[115]⟩, .int .i64 1, .slice (some ⟨gi, 0, none⟩) 1 1, .slice none 0 0, .slice none 0 0]
  rw [show (W2.alloc (Obj.cells #[.int .i64 1, .int .u64 0, .string ⟨#[10, 0, 0, 0]⟩, .int .i64 8, .int .i64 16, .int .i64 24] 42)).heap.size = W2.heap.size + 1 by simp] at S
  rw [hgi] at I S
  replace E := (E.out.alloc (Obj.cells #[.int .i64 1, .int .u64 0, .string ⟨#[10, 0, 0, 0]⟩, .int .i64 8, .int .i64 16, .int .i64 24] 42)).alloc (Obj.cells #[.string ⟨#[115]⟩, .int .i64 1, .slice (some ⟨gi, 0, none⟩) 1 1, .slice none 0 0, .slice none 0 0] 45)
  replace hsl := hsl.out.ext (((Ext.refl _).alloc (Obj.cells #[.int .i64 1, .int .u64 0, .string ⟨#[10, 0, 0, 0]⟩, .int .i64 8, .int .i64 16, .int .i64 24] 42)).alloc (Obj.cells #[.string ⟨#[115]⟩, .int .i64 1, .slice (some ⟨gi, 0, none⟩) 1 1, .slice none 0 0, .slice none 0 0] 45))
  generalize (W2.alloc (Obj.cells #[.int .i64 1, .int .u64 0, .string ⟨#[10, 0, 0, 0]⟩, .int .i64 8, .int .i64 16, .int .i64 24] 42)).alloc (Obj.cells #[.string ⟨#[115]⟩, .int .i64 1, .slice (some ⟨gi, 0, none⟩) 1 1, .slice none 0 0, .slice none 0 0] 45) = W3 at E I S hsl ⊢
  clear hgi
  have c0 : W3.cell? ⟨gi + 1, 0, none⟩ = some (.string ⟨#[115]⟩) := S.cell 0
  have c1 : W3.cell? ⟨gi + 1, 1, none⟩ = some (.int .i64 1) := S.cell 1
  have c2 : W3.cell? ⟨gi + 1, 2, none⟩ = some (.slice (some ⟨gi, 0, none⟩) 1 1) := S.cell 2
  have c3 : W3.cell? ⟨gi + 1, 3, none⟩ = some (.slice none 0 0) := S.cell 3
  have c4 : W3.cell? ⟨gi + 1, 4, none⟩ = some (.slice none 0 0) := S.cell 4
  replace E := hide E
  replace I := hide I
  replace S := hide S
  replace hsl := hide hsl
  go_region_held3 (fun w' => w'.cell? ⟨gi + 1, 0, none⟩ = some (.string ⟨#[115]⟩) ∧ w'.cell? ⟨gi + 1, 1, none⟩ = some (.int .i64 1) ∧ w'.cell? ⟨gi + 1, 2, none⟩ = some (.slice (some ⟨gi, 0, none⟩) 1 1) ∧ w'.cell? ⟨gi + 1, 3, none⟩ = some (.slice none 0 0) ∧ w'.cell? ⟨gi + 1, 4, none⟩ = some (.slice none 0 0))
    (go_keep)
    (first
      | (have tok := E9.out; clear tok; go_at_call 13; refine (qz.out gi _ (I.out.ext (by first | exact E9.out | exact E9.out.drew | exact E9.out.drew.drew | exact E9.out.alloc _ | exact (E9.out.alloc _).drew | exact (E9.out.drew).alloc _ | exact ((E9.out.drew).alloc _).drew | exact (((E9.out.drew).alloc _).drew).drew))).mono ?_; rintro e w10 ⟨rfl, he⟩
         have E10 := (show Ext W3 _ from by first | exact (E9.out).trans he | exact (E9.out.drew).trans he | exact (E9.out.drew.drew).trans he | exact (E9.out.alloc _).trans he | exact ((E9.out.alloc _).drew).trans he | exact ((E9.out.drew).alloc _).trans he | exact (((E9.out.drew).alloc _).drew).trans he | exact ((((E9.out.drew).alloc _).drew).drew).trans he)
         clear he
         have d5_0 := (S.out.ext E10).cell 0
         have d5_1 := (S.out.ext E10).cell 1
         have d5_2 := (S.out.ext E10).cell 2
         have d5_3 := (S.out.ext E10).cell 3
         have d5_4 := (S.out.ext E10).cell 4
         replace E10 := hide E10)
      | (have tok := E8.out; clear tok; go_at_call 17; refine (q8.out _ (E.out.trans (by first | exact E8.out | exact E8.out.drew | exact E8.out.drew.drew | exact E8.out.alloc _ | exact (E8.out.alloc _).drew | exact (E8.out.drew).alloc _ | exact ((E8.out.drew).alloc _).drew | exact (((E8.out.drew).alloc _).drew).drew))).mono ?_; rintro e w9 ⟨rfl, he⟩
         have E9 := (show Ext W3 _ from by first | exact (E8.out).trans he | exact (E8.out.drew).trans he | exact (E8.out.drew.drew).trans he | exact (E8.out.alloc _).trans he | exact ((E8.out.alloc _).drew).trans he | exact ((E8.out.drew).alloc _).trans he | exact (((E8.out.drew).alloc _).drew).trans he | exact ((((E8.out.drew).alloc _).drew).drew).trans he)
         clear he
         have d4_0 := (S.out.ext E9).cell 0
         have d4_1 := (S.out.ext E9).cell 1
         have d4_2 := (S.out.ext E9).cell 2
         have d4_3 := (S.out.ext E9).cell 3
         have d4_4 := (S.out.ext E9).cell 4
         replace E9 := hide E9)
      | (have tok := E7.out; clear tok; go_at_call 13; refine (qy.out gi _ (I.out.ext (by first | exact E7.out | exact E7.out.drew | exact E7.out.drew.drew | exact E7.out.alloc _ | exact (E7.out.alloc _).drew | exact (E7.out.drew).alloc _ | exact ((E7.out.drew).alloc _).drew | exact (((E7.out.drew).alloc _).drew).drew))).mono ?_; rintro e w8 ⟨rfl, he⟩
         have E8 := (show Ext W3 _ from by first | exact (E7.out).trans he | exact (E7.out.drew).trans he | exact (E7.out.drew.drew).trans he | exact (E7.out.alloc _).trans he | exact ((E7.out.alloc _).drew).trans he | exact ((E7.out.drew).alloc _).trans he | exact (((E7.out.drew).alloc _).drew).trans he | exact ((((E7.out.drew).alloc _).drew).drew).trans he)
         clear he
         have d3_0 := (S.out.ext E8).cell 0
         have d3_1 := (S.out.ext E8).cell 1
         have d3_2 := (S.out.ext E8).cell 2
         have d3_3 := (S.out.ext E8).cell 3
         have d3_4 := (S.out.ext E8).cell 4
         replace E8 := hide E8)
      | (have tok := E6.out; clear tok; go_at_call 17; refine (q16.out _ (E.out.trans (by first | exact E6.out | exact E6.out.drew | exact E6.out.drew.drew | exact E6.out.alloc _ | exact (E6.out.alloc _).drew | exact (E6.out.drew).alloc _ | exact ((E6.out.drew).alloc _).drew | exact (((E6.out.drew).alloc _).drew).drew))).mono ?_; rintro e w7 ⟨rfl, he⟩
         have E7 := (show Ext W3 _ from by first | exact (E6.out).trans he | exact (E6.out.drew).trans he | exact (E6.out.drew.drew).trans he | exact (E6.out.alloc _).trans he | exact ((E6.out.alloc _).drew).trans he | exact ((E6.out.drew).alloc _).trans he | exact (((E6.out.drew).alloc _).drew).trans he | exact ((((E6.out.drew).alloc _).drew).drew).trans he)
         clear he
         have d2_0 := (S.out.ext E7).cell 0
         have d2_1 := (S.out.ext E7).cell 1
         have d2_2 := (S.out.ext E7).cell 2
         have d2_3 := (S.out.ext E7).cell 3
         have d2_4 := (S.out.ext E7).cell 4
         replace E7 := hide E7)
      | (have tok := E5.out; clear tok; go_at_call 7; refine (qn.out _ _ _ _ _ (hsl.out.ext (by first | exact E5.out | exact E5.out.drew | exact E5.out.drew.drew | exact E5.out.alloc _ | exact (E5.out.alloc _).drew | exact (E5.out.drew).alloc _ | exact ((E5.out.drew).alloc _).drew | exact (((E5.out.drew).alloc _).drew).drew)) (by first | exact sl_one _ | exact (sl_one _).draw | exact (sl_one _).draw.draw)).mono ?_; rintro e w6 ⟨rfl, he⟩
         have E6 := (show Ext W3 _ from by first | exact (E5.out).trans he | exact (E5.out.drew).trans he | exact (E5.out.drew.drew).trans he | exact (E5.out.alloc _).trans he | exact ((E5.out.alloc _).drew).trans he | exact ((E5.out.drew).alloc _).trans he | exact (((E5.out.drew).alloc _).drew).trans he | exact ((((E5.out.drew).alloc _).drew).drew).trans he)
         clear he
         have d1_0 := (S.out.ext E6).cell 0
         have d1_1 := (S.out.ext E6).cell 1
         have d1_2 := (S.out.ext E6).cell 2
         have d1_3 := (S.out.ext E6).cell 3
         have d1_4 := (S.out.ext E6).cell 4
         replace E6 := hide E6)
      | (go_at_call 7; refine (qm.out _ _ _ _ _ (hsl.out.ext (by first | exact (Ext.refl W3) | exact (Ext.refl W3).drew | exact (Ext.refl W3).drew.drew | exact (Ext.refl W3).alloc _ | exact ((Ext.refl W3).alloc _).drew | exact ((Ext.refl W3).drew).alloc _ | exact (((Ext.refl W3).drew).alloc _).drew | exact ((((Ext.refl W3).drew).alloc _).drew).drew)) (by first | exact sl_two _ | exact (sl_two _).draw | exact (sl_two _).draw.draw)).mono ?_; rintro e w5 ⟨rfl, he⟩
         have E5 := (show Ext W3 _ from by first | exact ((Ext.refl W3)).trans he | exact ((Ext.refl W3).drew).trans he | exact ((Ext.refl W3).drew.drew).trans he | exact ((Ext.refl W3).alloc _).trans he | exact (((Ext.refl W3).alloc _).drew).trans he | exact (((Ext.refl W3).drew).alloc _).trans he | exact ((((Ext.refl W3).drew).alloc _).drew).trans he | exact (((((Ext.refl W3).drew).alloc _).drew).drew).trans he)
         clear he
         have d0_0 := (S.out.ext E5).cell 0
         have d0_1 := (S.out.ext E5).cell 1
         have d0_2 := (S.out.ext E5).cell 2
         have d0_3 := (S.out.ext E5).cell 3
         have d0_4 := (S.out.ext E5).cell 4
         replace E5 := hide E5))
  go_wp2
  go_ret
  exact ⟨rfl, E.out.trans (by first | exact E10.out | exact E10.out.drew | exact E10.out.drew.drew | exact E10.out.alloc _ | exact (E10.out.alloc _).drew | exact (E10.out.drew).alloc _ | exact ((E10.out.drew).alloc _).drew | exact (((E10.out.drew).alloc _).drew).drew)⟩
end Go.Proofs.YtoghdmoldcjedaaDoor
