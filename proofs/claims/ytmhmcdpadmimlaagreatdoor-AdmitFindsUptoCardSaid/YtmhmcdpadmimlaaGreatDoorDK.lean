/- Chapter 21: the example's neighbours; works. -/
import Derived.Test.YtmhmcdpadmimlaaGreatDoorDJ
import Derived.Test.YtmhmcdpadmimlaaGreatDoorS5
import Derived.Test.YtmhmcdpadmimlaaGreatDoorS9
namespace Go.Proofs.YtmhmcdpadmimlaaGreatDoor
open Go.RowKit
set_option linter.unusedVariables false

set_option maxHeartbeats 1000000 in
theorem LP21_any (s : List UInt8) (q : Pfx) (c : Int) (hs : s.length ≤ 1048576) (hp : parseC s = (q, c)) (w : World) (hT : Tab w) (hD : Deb w) (hV : Vars w) :
    Calls Tryz.prog 32 #[.string ⟨s.toArray⟩] w fun e w' => e = .returned (.agg #[.int .i64 q.fam, .int .u64 (q.rd : Int), .string ⟨q.addr.toArray⟩, .int .i64 q.len]) ∧ Ext w w' := by
  have qp := fun W (h : Ext w W) => AParse_any s hs W (hT.ext h) (hD.ext h) (hV.ext h)
  unfold PsP at qp
  rw [hp] at qp
  simp only [valP] at qp
  obtain ⟨f, rd, ad, ln⟩ := q
  dsimp only at *
  clear hp hT hD hV
  replace qp := hide qp
  go_enter Tryz.func32, Tryz.ntmps32
  have R := Blk.new w 27 #[.int .i64 0, .int .u64 0, .string ⟨#[]⟩, .int .i64 0]
  have E := (Ext.refl w).alloc (Obj.cells #[.int .i64 0, .int .u64 0, .string ⟨#[]⟩, .int .i64 0] 27)
  generalize hW0 : w.alloc (Obj.cells #[.int .i64 0, .int .u64 0, .string ⟨#[]⟩, .int .i64 0] 27) = W0 at R E
  generalize hg0 : w.heap.size = g0 at R
  have hgw : w.heap.size ≤ g0 := Nat.le_of_eq hg0
  replace R := hide R
  replace E := hide E
  replace hgw := hide hgw
  go_wp2_with fail
  refine (qp.out _ E.out).mono ?_
  rintro e W1 ⟨rfl, he_⟩
  replace E := hide (E.out.trans he_)
  replace R := hide (R.out.ext he_)
  clear he_
  have R_0 : W1.cell? ⟨g0, 0, none⟩ = some (.int .i64 0) := R.out.cell 0
  have R_1 : W1.cell? ⟨g0, 1, none⟩ = some (.int .u64 0) := R.out.cell 1
  have R_2 : W1.cell? ⟨g0, 2, none⟩ = some (.string ⟨#[]⟩) := R.out.cell 2
  have R_3 : W1.cell? ⟨g0, 3, none⟩ = some (.int .i64 0) := R.out.cell 3
  clear hW0 hg0
  clear R_0 R_1 R_2 R_3
  have X := Blk.new W1 27 #[.int .i64 f, .int .u64 (rd : Int), .string ⟨ad.toArray⟩, .int .i64 ln]
  have hne : g0 ≠ W1.heap.size := Nat.ne_of_lt R.out.lt
  replace R := R.out.alloc (Obj.cells #[.int .i64 f, .int .u64 (rd : Int), .string ⟨ad.toArray⟩, .int .i64 ln] 27)
  replace E := E.out.alloc (Obj.cells #[.int .i64 f, .int .u64 (rd : Int), .string ⟨ad.toArray⟩, .int .i64 ln] 27)
  generalize hW2 : W1.alloc (Obj.cells #[.int .i64 f, .int .u64 (rd : Int), .string ⟨ad.toArray⟩, .int .i64 ln] 27) = W2 at R E X
  generalize hg1 : W1.heap.size = g1 at X hne
  have x0 : W2.cell? ⟨g1, 0, none⟩ = some (.int .i64 f) := X.cell 0
  have x1 : W2.cell? ⟨g1, 1, none⟩ = some (.int .u64 (rd : Int)) := X.cell 1
  have x2 : W2.cell? ⟨g1, 2, none⟩ = some (.string ⟨ad.toArray⟩) := X.cell 2
  have x3 : W2.cell? ⟨g1, 3, none⟩ = some (.int .i64 ln) := X.cell 3
  have y0 : W2.cell? ⟨g0, 0, none⟩ = some (.int .i64 0) := R.cell 0
  have y1 : W2.cell? ⟨g0, 1, none⟩ = some (.int .u64 0) := R.cell 1
  have y2 : W2.cell? ⟨g0, 2, none⟩ = some (.string ⟨#[]⟩) := R.cell 2
  have y3 : W2.cell? ⟨g0, 3, none⟩ = some (.int .i64 0) := R.cell 3
  have yf := fun i => R.frozen i
  have hZ := R.set4 (.int .i64 f) (.int .u64 (rd : Int)) (.string ⟨ad.toArray⟩) (.int .i64 ln)
  have hEZ := E.set4 hgw.out (.int .i64 f) (.int .u64 (rd : Int)) (.string ⟨ad.toArray⟩) (.int .i64 ln)
  replace hZ := hide hZ
  replace hEZ := hide hEZ
  replace R := hide R
  replace E := hide E
  replace X := hide X
  replace hne := hide hne
  go_wp2
  replace hZ := hZ.out
  replace hEZ := hEZ.out
  generalize ((((W2.setCell ⟨g0, 0, none⟩ (.int .i64 f)).setCell ⟨g0, 1, none⟩ (.int .u64 (rd : Int))).setCell ⟨g0, 2, none⟩ (.string ⟨ad.toArray⟩)).setCell ⟨g0, 3, none⟩ (.int .i64 ln)) = W3 at hZ hEZ ⊢
  have z0 : W3.cell? ⟨g0, 0, none⟩ = some (.int .i64 f) := hZ.cell 0
  have z1 : W3.cell? ⟨g0, 1, none⟩ = some (.int .u64 (rd : Int)) := hZ.cell 1
  have z2 : W3.cell? ⟨g0, 2, none⟩ = some (.string ⟨ad.toArray⟩) := hZ.cell 2
  have z3 : W3.cell? ⟨g0, 3, none⟩ = some (.int .i64 ln) := hZ.cell 3
  exact bodyPost_ret (v := .agg #[.int .i64 f, .int .u64 (rd : Int), .string ⟨ad.toArray⟩, .int .i64 ln]) (by simp [results, Tryz.results32, go_sem, z0, z1, z2, z3]) rfl ⟨rfl, hEZ⟩


def ex8d : Pfx := ⟨1, 0, [10, 0, 0, 0], 8⟩
def ex16d : Pfx := ⟨1, 0, [10, 1, 0, 0], 16⟩
def t8d : List UInt8 := [118, 52, 32, 49, 48, 46, 48, 46, 48, 46, 48, 47, 56]
def t16d : List UInt8 := [118, 52, 32, 49, 48, 46, 49, 46, 48, 46, 48, 47, 49, 54]
theorem ex8d_p : parseC t8d = (ex8d, 0) := by rw [parseK_eq]; decide +kernel
theorem ex16d_p : parseC t16d = (ex16d, 0) := by rw [parseK_eq]; decide +kernel
def exN : List Nbr := [{ zeroN with name := [97], addr := [10, 0, 0, 1] }, { zeroN with name := [114], range := ex8d }, { zeroN with name := [115], range := ex16d }]
def ExP (w : World) (e : Ending) (w' : World) : Prop := ∃ g, e = .returned (.slice (some ⟨g, 0, none⟩) 3 3) ∧ Ext w w' ∧ Sl ENbr w' (· < w'.heap.size) (some ⟨g, 0, none⟩) exN ∧ w'.rangeAt g 23 (nbrCs { zeroN with name := [114], range := ex8d } none 0)
theorem exN_sl {w : World} {g : Nat} (h : Blk w g 31 #[.string ⟨#[97]⟩, .string ⟨#[10, 0, 0, 1]⟩, .int .i64 0, .int .u64 0, .string ⟨#[]⟩, .int .i64 0, .int .u32 0, .int .i64 0, .int .i64 0, .bool false, .bool false, .bool false, .slice none 0 0, .int .i64 0, .bool false, .int .i64 0, .bool false, .int .i64 0, .int .i64 0, .string ⟨#[]⟩, .string ⟨#[]⟩, .string ⟨#[]⟩, .bool false, .string ⟨#[114]⟩, .string ⟨#[]⟩, .int .i64 1, .int .u64 0, .string ⟨#[10, 0, 0, 0]⟩, .int .i64 8, .int .u32 0, .int .i64 0, .int .i64 0, .bool false, .bool false, .bool false, .slice none 0 0, .int .i64 0, .bool false, .int .i64 0, .bool false, .int .i64 0, .int .i64 0, .string ⟨#[]⟩, .string ⟨#[]⟩, .string ⟨#[]⟩, .bool false, .string ⟨#[115]⟩, .string ⟨#[]⟩, .int .i64 1, .int .u64 0, .string ⟨#[10, 1, 0, 0]⟩, .int .i64 16, .int .u32 0, .int .i64 0, .int .i64 0, .bool false, .bool false, .bool false, .slice none 0 0, .int .i64 0, .bool false, .int .i64 0, .bool false, .int .i64 0, .int .i64 0, .string ⟨#[]⟩, .string ⟨#[]⟩, .string ⟨#[]⟩, .bool false]) : Sl ENbr w (· < w.heap.size) (some ⟨g, 0, none⟩) exN := by
  have zin : ∀ (x : Nbr), x.name.length ≤ 16 → x.addr.length ≤ 16 → PfxIn x.range → x.hold = 0 → x.retry = 0 → x.fams = [] → x.send = 0 → x.most = 0 → x.time = 0 → x.mrai = 0 → x.pin = [] → x.pout = [] → x.vrf = [] → NbrIn w (· < w.heap.size) x none := by
    intro x h1 h2 h3 h4 h5 h6 h7 h8 h9 h10 h11 h12 h13
    have z : i64 0 := ⟨by decide, by decide⟩
    exact ⟨by omega, by omega, h3, by rw [h4]; exact z, by rw [h5]; exact z, by rw [h6]; decide, by rw [h6]; exact Sl.nil, by rw [h7]; exact z, by rw [h8]; exact z, by rw [h9]; exact z, by rw [h10]; exact z, by rw [h11]; decide, by rw [h12]; decide, by rw [h13]; decide⟩
  have pz : PfxIn zeroP := ⟨⟨by decide, by decide⟩, by decide, by decide, ⟨by decide, by decide⟩⟩
  have p8 : PfxIn ex8d := ⟨⟨by decide, by decide⟩, by decide, by decide, ⟨by decide, by decide⟩⟩
  have p16 : PfxIn ex16d := ⟨⟨by decide, by decide⟩, by decide, by decide, ⟨by decide, by decide⟩⟩
  refine .inr ⟨g, 0, rfl, h.lt, fun k x hx => ?_⟩
  match k, hx with
  | 0, hx =>
    injection hx with hx
    subst hx
    refine ⟨_, ENbr.iff.2 ⟨none, 0, rfl, zin _ (by decide) (by decide) pz rfl rfl rfl rfl rfl rfl rfl rfl rfl rfl⟩, fun j u hu => ?_⟩
    have hj : j < 23 := (List.getElem?_eq_some_iff.1 hu).1
    rw [show 0 + 0 * ENbr.sz + j = j by show 0 + 0 * 23 + j = j; omega, h.cell]
    rw [← hu]
    match j, hj with
    | 0, _ => rfl
    | 1, _ => rfl
    | 2, _ => rfl
    | 3, _ => rfl
    | 4, _ => rfl
    | 5, _ => rfl
    | 6, _ => rfl
    | 7, _ => rfl
    | 8, _ => rfl
    | 9, _ => rfl
    | 10, _ => rfl
    | 11, _ => rfl
    | 12, _ => rfl
    | 13, _ => rfl
    | 14, _ => rfl
    | 15, _ => rfl
    | 16, _ => rfl
    | 17, _ => rfl
    | 18, _ => rfl
    | 19, _ => rfl
    | 20, _ => rfl
    | 21, _ => rfl
    | 22, _ => rfl
  | 1, hx =>
    injection hx with hx
    subst hx
    refine ⟨_, ENbr.iff.2 ⟨none, 0, rfl, zin _ (by decide) (by decide) p8 rfl rfl rfl rfl rfl rfl rfl rfl rfl rfl⟩, fun j u hu => ?_⟩
    have hj : j < 23 := (List.getElem?_eq_some_iff.1 hu).1
    rw [show 0 + 1 * ENbr.sz + j = 23 + j by show 0 + 1 * 23 + j = 23 + j; omega, h.cell]
    rw [← hu]
    match j, hj with
    | 0, _ => rfl
    | 1, _ => rfl
    | 2, _ => rfl
    | 3, _ => rfl
    | 4, _ => rfl
    | 5, _ => rfl
    | 6, _ => rfl
    | 7, _ => rfl
    | 8, _ => rfl
    | 9, _ => rfl
    | 10, _ => rfl
    | 11, _ => rfl
    | 12, _ => rfl
    | 13, _ => rfl
    | 14, _ => rfl
    | 15, _ => rfl
    | 16, _ => rfl
    | 17, _ => rfl
    | 18, _ => rfl
    | 19, _ => rfl
    | 20, _ => rfl
    | 21, _ => rfl
    | 22, _ => rfl
  | 2, hx =>
    injection hx with hx
    subst hx
    refine ⟨_, ENbr.iff.2 ⟨none, 0, rfl, zin _ (by decide) (by decide) p16 rfl rfl rfl rfl rfl rfl rfl rfl rfl rfl⟩, fun j u hu => ?_⟩
    have hj : j < 23 := (List.getElem?_eq_some_iff.1 hu).1
    rw [show 0 + 2 * ENbr.sz + j = 46 + j by show 0 + 2 * 23 + j = 46 + j; omega, h.cell]
    rw [← hu]
    match j, hj with
    | 0, _ => rfl
    | 1, _ => rfl
    | 2, _ => rfl
    | 3, _ => rfl
    | 4, _ => rfl
    | 5, _ => rfl
    | 6, _ => rfl
    | 7, _ => rfl
    | 8, _ => rfl
    | 9, _ => rfl
    | 10, _ => rfl
    | 11, _ => rfl
    | 12, _ => rfl
    | 13, _ => rfl
    | 14, _ => rfl
    | 15, _ => rfl
    | 16, _ => rfl
    | 17, _ => rfl
    | 18, _ => rfl
    | 19, _ => rfl
    | 20, _ => rfl
    | 21, _ => rfl
    | 22, _ => rfl
  | k + 3, hx => exact absurd (List.getElem?_eq_some_iff.1 hx).1 (by show ¬ k + 3 < 3; omega)
theorem exN_at {w : World} {g : Nat} (h : Blk w g 31 #[.string ⟨#[97]⟩, .string ⟨#[10, 0, 0, 1]⟩, .int .i64 0, .int .u64 0, .string ⟨#[]⟩, .int .i64 0, .int .u32 0, .int .i64 0, .int .i64 0, .bool false, .bool false, .bool false, .slice none 0 0, .int .i64 0, .bool false, .int .i64 0, .bool false, .int .i64 0, .int .i64 0, .string ⟨#[]⟩, .string ⟨#[]⟩, .string ⟨#[]⟩, .bool false, .string ⟨#[114]⟩, .string ⟨#[]⟩, .int .i64 1, .int .u64 0, .string ⟨#[10, 0, 0, 0]⟩, .int .i64 8, .int .u32 0, .int .i64 0, .int .i64 0, .bool false, .bool false, .bool false, .slice none 0 0, .int .i64 0, .bool false, .int .i64 0, .bool false, .int .i64 0, .int .i64 0, .string ⟨#[]⟩, .string ⟨#[]⟩, .string ⟨#[]⟩, .bool false, .string ⟨#[115]⟩, .string ⟨#[]⟩, .int .i64 1, .int .u64 0, .string ⟨#[10, 1, 0, 0]⟩, .int .i64 16, .int .u32 0, .int .i64 0, .int .i64 0, .bool false, .bool false, .bool false, .slice none 0 0, .int .i64 0, .bool false, .int .i64 0, .bool false, .int .i64 0, .int .i64 0, .string ⟨#[]⟩, .string ⟨#[]⟩, .string ⟨#[]⟩, .bool false]) : w.rangeAt g 23 (nbrCs { zeroN with name := [114], range := ex8d } none 0) := fun j u hu => by
  have hj : j < 23 := (List.getElem?_eq_some_iff.1 hu).1
  rw [h.cell, ← hu]
  match j, hj with
  | 0, _ => rfl
  | 1, _ => rfl
  | 2, _ => rfl
  | 3, _ => rfl
  | 4, _ => rfl
  | 5, _ => rfl
  | 6, _ => rfl
  | 7, _ => rfl
  | 8, _ => rfl
  | 9, _ => rfl
  | 10, _ => rfl
  | 11, _ => rfl
  | 12, _ => rfl
  | 13, _ => rfl
  | 14, _ => rfl
  | 15, _ => rfl
  | 16, _ => rfl
  | 17, _ => rfl
  | 18, _ => rfl
  | 19, _ => rfl
  | 20, _ => rfl
  | 21, _ => rfl
  | 22, _ => rfl
set_option maxRecDepth 20000 in
set_option maxHeartbeats 1000000 in
theorem Example_any (w : World) (hT : Tab w) (hD : Deb w) (hV : Vars w) : Calls Tryz.prog 18 #[] w (ExP w) := by
  have q1 := fun W (h : Ext w W) => LP21_any t8d ex8d 0 (by decide) ex8d_p W (hT.ext h) (hD.ext h) (hV.ext h)
  have q2 := fun W (h : Ext w W) => LP21_any t16d ex16d 0 (by decide) ex16d_p W (hT.ext h) (hD.ext h) (hV.ext h)
  simp only [ex8d, ex16d, t8d, t16d] at q1 q2
  have hfin : ∀ W, Ext w W → ExP w (.returned (.slice (some ⟨W.heap.size, 0, none⟩) 3 3)) (W.alloc (Obj.cells #[.string ⟨#[97]⟩, .string ⟨#[10, 0, 0, 1]⟩, .int .i64 0, .int .u64 0, .string ⟨#[]⟩, .int .i64 0, .int .u32 0, .int .i64 0, .int .i64 0, .bool false, .bool false, .bool false, .slice none 0 0, .int .i64 0, .bool false, .int .i64 0, .bool false, .int .i64 0, .int .i64 0, .string ⟨#[]⟩, .string ⟨#[]⟩, .string ⟨#[]⟩, .bool false, .string ⟨#[114]⟩, .string ⟨#[]⟩, .int .i64 1, .int .u64 0, .string ⟨#[10, 0, 0, 0]⟩, .int .i64 8, .int .u32 0, .int .i64 0, .int .i64 0, .bool false, .bool false, .bool false, .slice none 0 0, .int .i64 0, .bool false, .int .i64 0, .bool false, .int .i64 0, .int .i64 0, .string ⟨#[]⟩, .string ⟨#[]⟩, .string ⟨#[]⟩, .bool false, .string ⟨#[115]⟩, .string ⟨#[]⟩, .int .i64 1, .int .u64 0, .string ⟨#[10, 1, 0, 0]⟩, .int .i64 16, .int .u32 0, .int .i64 0, .int .i64 0, .bool false, .bool false, .bool false, .slice none 0 0, .int .i64 0, .bool false, .int .i64 0, .bool false, .int .i64 0, .int .i64 0, .string ⟨#[]⟩, .string ⟨#[]⟩, .string ⟨#[]⟩, .bool false] 31)) := fun W hE => ⟨_, rfl, hE.alloc _, exN_sl (Blk.new W _ _), exN_at (Blk.new W _ _)⟩
  generalize ExP w = Post at *
  clear hT hD hV
  replace q1 := hide q1
  replace q2 := hide q2
  replace hfin := hide hfin
  go_enter Tryz.func18, Tryz.ntmps18
  go_wp2_with fail
  refine (q1.out _ (Ext.refl w)).mono ?_
  rintro e w1 ⟨rfl, E⟩
  replace E := hide E
  go_wp2_with fail
  refine (q2.out _ E.out).mono ?_
  rintro e w2 ⟨rfl, hE⟩
  replace E := hide (E.out.trans hE)
  clear hE
  go_wp2
  try go_ret
  exact hfin.out _ E.out
theorem addr1 : hostS [10, 1, 2, 3] = ⟨1, 0, [10, 1, 2, 3], 32⟩ := rfl
theorem addr2 : hostS [10, 0, 0, 9] = ⟨1, 0, [10, 0, 0, 9], 32⟩ := rfl
theorem may_host (a : List UInt8) (h : a.length = 4) : MayP ⟨1, 0, a, 32⟩ :=
  ⟨⟨by show sizeS 1 ≠ 0; decide, by show ((a.length : Nat) : Int) = sizeS 1; rw [h]; decide, by show (0 : Int) ≤ 32; decide, by show (32 : Int) ≤ 8 * sizeS 1; decide, .inl rfl⟩, mask_all _ _ (by show 8 * ((a.length : Nat) : Int) ≤ 32; rw [h]; decide)⟩
theorem cov_8_1 : covB ex8d (hostS [10, 1, 2, 3]) = true := decide_eq_true ⟨may_host _ rfl, by decide, by decide, by decide +kernel⟩
theorem cov_16_1 : covB ex16d (hostS [10, 1, 2, 3]) = true := decide_eq_true ⟨may_host _ rfl, by decide, by decide, by decide +kernel⟩
theorem cov_8_2 : covB ex8d (hostS [10, 0, 0, 9]) = true := decide_eq_true ⟨may_host _ rfl, by decide, by decide, by decide +kernel⟩
theorem of_n2 (a : List UInt8) (h : a.length = 4) (hc : covB ex8d (hostS a) = true) : ofS { zeroN with name := [114], range := ex8d } a = true := by
  unfold ofS
  rw [show rightA a = true from by unfold rightA; rw [h]; rfl, Bool.true_and]
  show (decide (([] : List UInt8) = []) && covB ex8d (hostS a)) = true
  rw [hc]
  rfl
theorem of_n3 (a : List UInt8) (h : a.length = 4) (hc : covB ex16d (hostS a) = true) : ofS { zeroN with name := [115], range := ex16d } a = true := by
  unfold ofS
  rw [show rightA a = true from by unfold rightA; rw [h]; rfl, Bool.true_and]
  show (decide (([] : List UInt8) = []) && covB ex16d (hostS a)) = true
  rw [hc]
  rfl
theorem of_n1 (a : List UInt8) : ofS { zeroN with name := [97], addr := [10, 0, 0, 1] } a = false := by
  unfold ofS
  rw [show decide (({ zeroN with name := [97], addr := [10, 0, 0, 1] } : Nbr).addr = []) = false from rfl, Bool.false_and, Bool.and_false]
theorem find_ex : findN exN [10, 1, 2, 3] = (2, true) := by
  have b1 : bestS exN [10, 1, 2, 3] 1 = -1 := by
    rw [best_succ exN _ 0 (by decide), show ofS exN[0] [10, 1, 2, 3] = false from of_n1 _, Bool.false_and, if_neg (by decide)]
    rfl
  have b2 : bestS exN [10, 1, 2, 3] 2 = 1 := by
    rw [best_succ exN _ 1 (by decide), b1, show ofS exN[1] [10, 1, 2, 3] = true from of_n2 _ rfl cov_8_1]
    rfl
  have b3 : bestS exN [10, 1, 2, 3] 3 = 2 := by
    rw [best_succ exN _ 2 (by decide), b2, show ofS exN[2] [10, 1, 2, 3] = true from of_n3 _ rfl cov_16_1]
    rfl
  rw [findN_no rfl rfl, show exN.length = 3 from rfl, b3]
  rfl
def exD : List UInt8 := [114, 45, 49, 48, 45, 48, 45, 48, 45, 57]
theorem dyn_ex : dynName { zeroN with name := [114], range := ex8d } [10, 0, 0, 9] = exD := by decide +kernel
set_option maxRecDepth 20000 in
set_option maxHeartbeats 1000000 in
theorem LWorks21 (w : World) (hT : Tab w) (hD : Deb w) (hV : Vars w) : Calls Tryz.prog 13 #[] w fun e w' => e = .returned (.bool true) ∧ Ext w w' := by
  have q1 := fun W (h : Ext w W) => Example_any W (hT.ext h) (hD.ext h) (hV.ext h)
  have q2 : ∀ g W, Sl ENbr W (· < W.heap.size) (some ⟨g, 0, none⟩) exN → Calls Tryz.prog 8 #[.slice (some ⟨g, 0, none⟩) 3 3, .string ⟨#[10, 1, 2, 3]⟩] W fun e w' => e = .returned (.tuple #[.int .i64 2, .bool true]) ∧ Ext W w' := fun g W hs => by
    have h := Find_any21 exN (by decide) (some ⟨g, 0, none⟩) 3 [10, 1, 2, 3] (by decide) W hs
    rw [find_ex] at h
    exact h
  have q3 : ∀ W, Ext w W → Calls Tryz.prog 10 #[.agg (nbrCs { zeroN with name := [114], range := ex8d } none 0).toArray, .string ⟨#[10, 0, 0, 9]⟩] W fun e w' => ∃ CN : List Value, e = .returned (.tuple #[.agg CN.toArray, .int .i64 0]) ∧ Ext W w' ∧ CN.length = 23 ∧ (∀ u ∈ CN, u.oneCell' = true) ∧ CN[0]? = some (.string ⟨#[114, 45, 49, 48, 45, 48, 45, 48, 45, 57]⟩) ∧ CN[1]? = some (.string ⟨#[10, 0, 0, 9]⟩) := fun W hE => by
    have hin : NbrIn W (· < W.heap.size) { zeroN with name := [114], range := ex8d } none := by
      have z : i64 0 := ⟨by decide, by decide⟩
      exact ⟨by decide, by decide, ⟨⟨by decide, by decide⟩, by decide, by decide, ⟨by decide, by decide⟩⟩, z, z, by decide, Sl.nil, z, z, z, z, by decide, by decide, by decide⟩
    refine (Dynamic_any21 _ none 0 [10, 0, 0, 9] (by decide) W hin (hT.ext hE) (hD.ext hE)).mono ?_
    rintro e w' ⟨hE', h⟩
    rw [dyn_ex] at h
    rcases h with ⟨h1, _⟩ | ⟨_, h2, _⟩ | ⟨_, _, f, c, rfl, _⟩
    · rw [of_n2 _ rfl cov_8_2] at h1
      cases h1
    · exact absurd h2 (by decide)
    · refine ⟨_, rfl, hE', rfl, nbr_one _ _ _, ?_, rfl⟩
      show some (Value.string ⟨(dynName _ _).toArray⟩) = _
      rw [dyn_ex]
      rfl
  have hCl : (nbrCs { zeroN with name := [114], range := ex8d } none 0).length = 23 := rfl
  unfold ExP at q1
  generalize nbrCs { zeroN with name := [114], range := ex8d } none 0 = CS at *
  have hi23 : (Tryz.prog.info? 31).map (·.size) = some CS.length := by rw [hCl]; kernel_rfl
  clear hT hD hV
  replace q1 := hide q1
  replace q2 := hide q2
  replace q3 := hide q3
  replace hCl := hide hCl
  replace hi23 := hide hi23
  go_enter Tryz.func13, Tryz.ntmps13
  go_wp2_with fail
  refine (q1.out _ (Ext.refl w)).mono ?_
  rintro e w1 ⟨g, rfl, E, hs, _⟩
  replace E := hide E
  go_wp2_with fail
  refine (q2.out g w1 hs).mono ?_
  rintro e w2 ⟨rfl, hE⟩
  replace E := hide (E.out.trans hE)
  clear hE hs q2
  go_wp2_with fail
  refine (q1.out _ E.out).mono ?_
  rintro e w3 ⟨g3, rfl, hE, _, hra⟩
  replace E := hide (E.out.trans hE)
  replace hra := hide hra
  clear hE q1
  go_wp2_with (with_reducible refine wpList_load_mid rfl 31 (.tmp 12) rfl g3 23 rfl CS _ hra.out Tryz.underlying31 rfl hi23.out ?_)
  refine (q3.out _ E.out).mono ?_
  rintro e w4 ⟨CN, rfl, hE, hl, ho, h0, h1⟩
  have E4 := E.out.trans hE
  have hCa := all_oneCell_toArray ho
  have hth := nbr_there w4 CN.toArray.size (by rw [List.size_toArray, hl]; exact Nat.le_refl _)
  have hi24 : (Tryz.prog.info? 31).map (·.size) = some CN.toArray.size := by rw [List.size_toArray, hl]; kernel_rfl
  have hnew := nbr_new w4 CN hl h1
  have hn0 := hnew.1 0 _ h0
  have hn1 := hnew.2
  have E5 := Ext.setCells21 (a := w) (g := w4.heap.size) E4.size CN 0 _ (E4.alloc (.cells #[.string ⟨#[]⟩, .string ⟨#[]⟩, .int .i64 0, .int .u64 0, .string ⟨#[]⟩, .int .i64 0, .int .u32 0, .int .i64 0, .int .i64 0, .bool false, .bool false, .bool false, .slice none 0 0, .int .i64 0, .bool false, .int .i64 0, .bool false, .int .i64 0, .int .i64 0, .string ⟨#[]⟩, .string ⟨#[]⟩, .string ⟨#[]⟩, .bool false] 31))
  clear E hE ho h0 h1 hnew E4 q3
  replace hl := hide hl
  replace hCa := hide hCa
  replace hth := hide hth
  replace hi24 := hide hi24
  replace E5 := hide E5
  go_upto_region 3 with (with_reducible refine wpList_store_mid rfl 31 (.tmp 3) (.tmp 15) rfl w4.heap.size 0 CN.toArray rfl rfl hth.out hi24.out hCa.out ?_)
  generalize (w4.alloc (.cells #[.string ⟨#[]⟩, .string ⟨#[]⟩, .int .i64 0, .int .u64 0, .string ⟨#[]⟩, .int .i64 0, .int .u32 0, .int .i64 0, .int .i64 0, .bool false, .bool false, .bool false, .slice none 0 0, .int .i64 0, .bool false, .int .i64 0, .bool false, .int .i64 0, .int .i64 0, .string ⟨#[]⟩, .string ⟨#[]⟩, .string ⟨#[]⟩, .bool false] 31)).setCells w4.heap.size 0 CN = W5 at hn0 hn1 E5 ⊢
  generalize w4.heap.size = g5 at hn0 hn1 ⊢
  clear hth
  go_wp2
  go_ret
  exact ⟨rfl, E5.out⟩
end Go.Proofs.YtmhmcdpadmimlaaGreatDoor
