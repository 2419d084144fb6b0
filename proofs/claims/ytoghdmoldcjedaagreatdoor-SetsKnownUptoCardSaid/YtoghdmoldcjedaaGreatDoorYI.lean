/- For SetsKnown: closed facts. SetsKnown's own function: a set of one item. -/
import Derived.Test.YtoghdmoldcjedaaGreatDoorYG
import Derived.Test.YtoghdmoldcjedaaGreatDoorV22
import Derived.Test.YtoghdmoldcjedaaGreatDoorVR
namespace Go.Proofs.YtoghdmoldcjedaaGreatDoor
open Go.RowKit Go.Sort
set_option linter.unusedVariables false

def badT : List (List UInt8) := [[], [48], [48, 49], [49, 32, 32, 50], [52, 50, 57, 52, 57, 54, 55, 50, 57, 54], [49, 32], [45, 49], [45, 32, 49], [43]]
theorem badT_p : ∀ s ∈ badT, (parseA s).2 = 4 := by decide +kernel
def bigT : List UInt8 := [52, 50, 57, 52, 57, 54, 55, 50, 57, 53, 32, 42, 32, 46]
theorem none_p : parseA [45] = ([], 0) := by decide +kernel
theorem big_p : (parseA bigT).2 = 0 ∧ textA (parseA bigT).1 = (bigT, 0) ∧ (parseA bigT).1.length = 3 := by decide +kernel
theorem m_none : matchS [] [] = true := by decide +kernel
theorem m_none1 : matchS [] [1] = false := by decide +kernel
theorem m_many : matchS [(3, 0)] [] = true := by decide +kernel
theorem m_bad : matchS [(9, 0)] [1] = false := by decide +kernel
def itmK (lo hi : Int) : Itm := ⟨⟨1, 0, [10, 0, 0, 0], 8⟩, lo, hi⟩
def badS : List StS := [⟨[115], 1, [itmK 7 8], [], []⟩, ⟨[115], 1, [itmK 8 33], [], []⟩, ⟨[115], 1, [itmK 9 8], [], []⟩, ⟨[115], 2, [], [2, 1], []⟩, ⟨[115], 4, [], [], []⟩, ⟨[83], 2, [], [], []⟩, ⟨[49, 115], 2, [], [], []⟩, ⟨[45], 2, [], [], []⟩, ⟨[115], 3, [], [], [[(2, 1)]]⟩, ⟨[115], 3, [], [1], []⟩]
theorem itm_bad (lo hi : Int) (h : lo < 8 ∨ hi < lo ∨ 32 < hi) : setOk ⟨[115], 1, [itmK lo hi], [], []⟩ = false := by
  have hn : ¬ itmOk (itmK lo hi) := fun hk => by
    obtain ⟨_, h1, h2, h3⟩ := hk
    have e1 : (itmK lo hi).p.len = 8 := rfl
    have e2 : (itmK lo hi).low = lo := rfl
    have e3 : (itmK lo hi).high = hi := rfl
    have e4 : 8 * sizeS (itmK lo hi).p.fam = 32 := rfl
    omega
  unfold setOk
  rw [if_pos rfl]
  have : itmsOk [itmK lo hi] = false := by
    simp [itmsOk, hn]
  show (nameOk [115] && (itmsOk [itmK lo hi] && _)) = false
  rw [this, Bool.false_and, Bool.and_false]
theorem badS_ok : ∀ s ∈ badS, setOk s = false := by
  intro s hs
  simp only [badS, List.mem_cons, List.not_mem_nil, or_false] at hs
  rcases hs with rfl | rfl | rfl | rfl | rfl | rfl | rfl | rfl | rfl | rfl
  · exact itm_bad 7 8 (by omega)
  · exact itm_bad 8 33 (by omega)
  · exact itm_bad 9 8 (by omega)
  all_goals
    unfold setOk
    decide +kernel
def setC2 : StS := ⟨[99], 2, [], [1, 5], []⟩
def patW : List Atm := (parseA [54, 53, 48, 48, 48, 32, 42]).1
theorem patW_p : parseA [54, 53, 48, 48, 48, 32, 42] = (patW, 0) := by decide +kernel
theorem patW_l : patW.length = 2 := by decide +kernel
def setD3 : StS := ⟨[100], 3, [], [], [patW]⟩
def setC0 : StS := ⟨[99], 0, [], [], []⟩
theorem com_1 : setCom setC2 [5, 9] = true := by unfold setCom setOk; decide +kernel
theorem com_0 : setCom setC2 [] = false := by unfold setCom setOk; decide +kernel
theorem path_1 : setPath setD3 [65000, 1, 2] = true := by unfold setPath setOk; decide +kernel
theorem path_0 : setPath setD3 [] = false := by unfold setPath setOk; decide +kernel
theorem find_1 : findS [setC2, setD3, setC0] [99] = some setC2 := rfl
theorem find_0 : findS [setC2] [101] = none := rfl
theorem badS_pfx (q : Pfx) : ∀ s ∈ badS, setPfx s q = false := fun s hs => by unfold setPfx; rw [badS_ok s hs, Bool.false_and]
theorem badS_com (l : List UInt32) : ∀ s ∈ badS, setCom s l = false := fun s hs => by unfold setCom; rw [badS_ok s hs, Bool.false_and]
open Go.RowKit Go.Sort

set_option maxRecDepth 20000 in
set_option maxHeartbeats 2000000 in
theorem Known1_any (lo hi : Int) (w : World) (hT : Tab w) (hD : Deb w) (hV : Vars w) :
    Calls Tryz.prog 33 #[.int .i64 lo, .int .i64 hi] w fun e w' => ∃ g, e = .returned (.agg #[.string ⟨#[115]⟩, .int .i64 1, .slice (some ⟨g, 0, none⟩) 1 1, .slice none 0 0, .slice none 0 0]) ∧ Ext w w' ∧ Blk w' g 36 #[.int .i64 1, .int .u64 0, .string ⟨#[10, 0, 0, 0]⟩, .int .i64 8, .int .i64 lo, .int .i64 hi] ∧ w.heap.size ≤ g := by
  have q8 := fun W (h : Ext w W) => LP_any t8 ex8 0 (by decide) ex8_p W (hT.ext h) (hD.ext h) (hV.ext h)
  simp only [ex8, t8] at q8
  clear hT hD hV
  replace q8 := hide q8
  go_enter Tryz.func33, Tryz.ntmps33
  have R := Blk.new w 27 #[.string ⟨#[]⟩, .int .i64 0, .slice none 0 0, .slice none 0 0, .slice none 0 0]
  have E := (Ext.refl w).alloc (Obj.cells #[.string ⟨#[]⟩, .int .i64 0, .slice none 0 0, .slice none 0 0, .slice none 0 0] 27)
  generalize hW0 : w.alloc (Obj.cells #[.string ⟨#[]⟩, .int .i64 0, .slice none 0 0, .slice none 0 0, .slice none 0 0] 27) = W0 at R E
  generalize hg0 : w.heap.size = g0 at R
  have hgw : w.heap.size ≤ g0 := Nat.le_of_eq hg0
  replace R := hide R
  replace E := hide E
  replace hgw := hide hgw
  go_wp2_with fail
  refine (q8.out _ E.out).mono ?_
  rintro e W1 ⟨rfl, E1⟩
  have I := Blk.new W1 36 #[.int .i64 1, .int .u64 0, .string ⟨#[10, 0, 0, 0]⟩, .int .i64 8, .int .i64 lo, .int .i64 hi]
  have hne : g0 ≠ W1.heap.size := Nat.ne_of_lt (Blk.lt (R.out.ext E1))
  replace R := (R.out.ext E1).alloc (Obj.cells #[.int .i64 1, .int .u64 0, .string ⟨#[10, 0, 0, 0]⟩, .int .i64 8, .int .i64 lo, .int .i64 hi] 36)
  have hsz := (E.out.trans E1).size
  replace E := (E.out.trans E1).alloc (Obj.cells #[.int .i64 1, .int .u64 0, .string ⟨#[10, 0, 0, 0]⟩, .int .i64 8, .int .i64 lo, .int .i64 hi] 36)
  generalize hW2 : W1.alloc (Obj.cells #[.int .i64 1, .int .u64 0, .string ⟨#[10, 0, 0, 0]⟩, .int .i64 8, .int .i64 lo, .int .i64 hi] 36) = W2 at R E I
  generalize hg1 : W1.heap.size = g1 at I hne
  have y0 : W2.cell? ⟨g0, 0, none⟩ = some (.string ⟨#[]⟩) := R.cell 0
  have y1 : W2.cell? ⟨g0, 1, none⟩ = some (.int .i64 0) := R.cell 1
  have y2 : W2.cell? ⟨g0, 2, none⟩ = some (.slice none 0 0) := R.cell 2
  have y3 : W2.cell? ⟨g0, 3, none⟩ = some (.slice none 0 0) := R.cell 3
  have y4 : W2.cell? ⟨g0, 4, none⟩ = some (.slice none 0 0) := R.cell 4
  have yf := fun i => R.frozen i
  have hZ := R.set5w (.string ⟨#[115]⟩) (.int .i64 1) (.slice (some ⟨g1, 0, none⟩) 1 1) (.slice none 0 0) (.slice none 0 0)
  have hon : OnlyAt g0 W2 _ := OnlyAt.set5w (g := g0) (w := W2) (.string ⟨#[115]⟩) (.int .i64 1) (.slice (some ⟨g1, 0, none⟩) 1 1) (.slice none 0 0) (.slice none 0 0)
  have hEZ := hon.ext E hgw.out
  have hI := (hon.block g1 hne.symm).trans I
  clear R E I E1 hon
  replace hZ := hide hZ
  replace hEZ := hide hEZ
  replace hI := hide hI
  replace hsz := hide hsz
  replace hne := hide hne
  go_wp2
  replace hZ := hZ.out
  replace hEZ := hEZ.out
  replace hI := hI.out
  generalize (((((W2.setCell ⟨g0, 0, none⟩ (.string ⟨#[115]⟩)).setCell ⟨g0, 1, none⟩ (.int .i64 1)).setCell ⟨g0, 2, none⟩ (.slice (some ⟨g1, 0, none⟩) 1 1)).setCell ⟨g0, 3, none⟩ (.slice none 0 0)).setCell ⟨g0, 4, none⟩ (.slice none 0 0)) = W3 at hZ hEZ hI ⊢
  have z0 : W3.cell? ⟨g0, 0, none⟩ = some (.string ⟨#[115]⟩) := hZ.cell 0
  have z1 : W3.cell? ⟨g0, 1, none⟩ = some (.int .i64 1) := hZ.cell 1
  have z2 : W3.cell? ⟨g0, 2, none⟩ = some (.slice (some ⟨g1, 0, none⟩) 1 1) := hZ.cell 2
  have z3 : W3.cell? ⟨g0, 3, none⟩ = some (.slice none 0 0) := hZ.cell 3
  have z4 : W3.cell? ⟨g0, 4, none⟩ = some (.slice none 0 0) := hZ.cell 4
  exact bodyPost_ret (v := .agg #[.string ⟨#[115]⟩, .int .i64 1, .slice (some ⟨g1, 0, none⟩) 1 1, .slice none 0 0, .slice none 0 0]) (by simp [results, Tryz.results33, go_sem, z0, z1, z2, z3, z4]) rfl ⟨g1, rfl, hEZ, hI, by have := hsz.out; omega⟩
theorem sl_blk {α : Type} {E : Enc α} {w : World} {g : Nat} {l : List α} (hg : g < w.heap.size) (h : ∀ k (hk : k < l.length), ∃ cs, E.R w (· < w.heap.size) l[k] cs ∧ ∀ j u, cs[j]? = some u → w.cell? ⟨g, 0 + k * E.sz + j, none⟩ = some u) : Sl E w (· < w.heap.size) (some ⟨g, 0, none⟩) l := by
  refine .inr ⟨g, 0, rfl, hg, fun k y hy => ?_⟩
  obtain ⟨hk, rfl⟩ := List.getElem?_eq_some_iff.1 hy
  exact h k hk
/-- The sets of a row of cells. -/
theorem set_at {w : World} {g : Nat} {T : TypeId} {cs : Array Value} (B : Blk w g T cs) (k : Nat) {s : StS} {a1 a2 a3 : Option Addr} (c1 c2 c3 : Nat) (hs : SetIn w (· < w.heap.size) s a1 a2 a3) (h : ∀ j, j < 5 → cs[k * 5 + j]? = (setCs s a1 c1 a2 c2 a3 c3)[j]?) :
    ∃ d, ESet.R w (· < w.heap.size) s d ∧ ∀ j u, d[j]? = some u → w.cell? ⟨g, 0 + k * ESet.sz + j, none⟩ = some u := by
  refine ⟨_, ESet.iff.2 ⟨a1, c1, a2, c2, a3, c3, rfl, hs⟩, fun j u hu => ?_⟩
  have hj : j < 5 := (List.getElem?_eq_some_iff.1 hu).1
  have : 0 + k * ESet.sz + j = k * 5 + j := by
    rw [Nat.zero_add]; rfl
  rw [this, B.cell, h j hj]
  exact hu
theorem sl_itm {w : World} {g : Nat} {T : TypeId} {x : Itm} (B : Blk w g T #[.int .i64 x.p.fam, .int .u64 (x.p.rd : Int), .string ⟨x.p.addr.toArray⟩, .int .i64 x.p.len, .int .i64 x.low, .int .i64 x.high]) (hx : ItmIn x) : Sl EItm w (· < w.heap.size) (some ⟨g, 0, none⟩) [x] := by
  refine sl_blk B.lt fun k hk => ?_
  match k, hk with
  | 0, _ =>
    refine ⟨_, ⟨rfl, hx⟩, fun j u hu => ?_⟩
    rw [show 0 + 0 * EItm.sz + j = j by omega, B.cell]
    match j, hu with
    | 0, hu => exact hu
    | 1, hu => exact hu
    | 2, hu => exact hu
    | 3, hu => exact hu
    | 4, hu => exact hu
    | 5, hu => exact hu
    | j + 6, hu => cases hu
theorem itmK_in (lo hi : Int) (h1 : i64 lo) (h2 : i64 hi) : ItmIn (itmK lo hi) := ⟨show PfxIn ⟨1, 0, [10, 0, 0, 0], 8⟩ from ⟨⟨by decide, by decide⟩, by decide, by decide, ⟨by decide, by decide⟩⟩, h1, h2⟩
/-- A row of one slice. -/
theorem sl_pat {w : World} {g : Nat} {T : TypeId} {a : Option Addr} {c : Nat} {x : List Atm} (B : Blk w g T #[.slice a x.length c]) (hn : x.length ≤ 16777216) (hx : Sl EAtm w (· < w.heap.size) a x) : Sl EAtm.slice w (· < w.heap.size) (some ⟨g, 0, none⟩) [x] := by
  refine sl_blk B.lt fun k hk => ?_
  match k, hk with
  | 0, _ =>
    refine ⟨_, ⟨a, c, rfl, hn, hx⟩, fun j u hu => ?_⟩
    rw [show 0 + 0 * EAtm.slice.sz + j = j by omega, B.cell]
    match j, hu with
    | 0, hu => exact hu
    | j + 1, hu => cases hu
theorem sl_twoU {w : World} {g : Nat} {T : TypeId} {x y : UInt32} (B : Blk w g T #[.int .u32 (x.toNat : Int), .int .u32 (y.toNat : Int)]) : Sl EU32 w (· < w.heap.size) (some ⟨g, 0, none⟩) [x, y] := by
  refine sl_blk B.lt fun k hk => ?_
  match k, hk with
  | 0, _ =>
    refine ⟨_, ⟨rfl, trivial⟩, fun j u hu => ?_⟩
    rw [show 0 + 0 * EU32.sz + j = j by omega, B.cell]
    match j, hu with
    | 0, hu => exact hu
    | j + 1, hu => cases hu
  | 1, _ =>
    refine ⟨_, ⟨rfl, trivial⟩, fun j u hu => ?_⟩
    rw [show 0 + 1 * EU32.sz + j = 1 + j from rfl, B.cell]
    match j, hu with
    | 0, hu => exact hu
    | j + 1, hu => cases hu
theorem sl_badS {w : World} {gL i1 i2 i3 m1 m2 p1 : Nat} {T : TypeId} (B : Blk w gL T #[.string ⟨#[115]⟩, .int .i64 1, .slice (some ⟨i1, 0, none⟩) 1 1, .slice none 0 0, .slice none 0 0, .string ⟨#[115]⟩, .int .i64 1, .slice (some ⟨i2, 0, none⟩) 1 1, .slice none 0 0, .slice none 0 0, .string ⟨#[115]⟩, .int .i64 1, .slice (some ⟨i3, 0, none⟩) 1 1, .slice none 0 0, .slice none 0 0, .string ⟨#[115]⟩, .int .i64 2, .slice none 0 0, .slice (some ⟨m1, 0, none⟩) 2 2, .slice none 0 0, .string ⟨#[115]⟩, .int .i64 4, .slice none 0 0, .slice none 0 0, .slice none 0 0, .string ⟨#[83]⟩, .int .i64 2, .slice none 0 0, .slice none 0 0, .slice none 0 0, .string ⟨#[49, 115]⟩, .int .i64 2, .slice none 0 0, .slice none 0 0, .slice none 0 0, .string ⟨#[45]⟩, .int .i64 2, .slice none 0 0, .slice none 0 0, .slice none 0 0, .string ⟨#[115]⟩, .int .i64 3, .slice none 0 0, .slice none 0 0, .slice (some ⟨p1, 0, none⟩) 1 1, .string ⟨#[115]⟩, .int .i64 3, .slice none 0 0, .slice (some ⟨m2, 0, none⟩) 1 1, .slice none 0 0])
    (I1 : Sl EItm w (· < w.heap.size) (some ⟨i1, 0, none⟩) [itmK 7 8]) (I2 : Sl EItm w (· < w.heap.size) (some ⟨i2, 0, none⟩) [itmK 8 33]) (I3 : Sl EItm w (· < w.heap.size) (some ⟨i3, 0, none⟩) [itmK 9 8]) (M1 : Sl EU32 w (· < w.heap.size) (some ⟨m1, 0, none⟩) [2, 1]) (M2 : Sl EU32 w (· < w.heap.size) (some ⟨m2, 0, none⟩) [1]) (P1 : Sl EAtm.slice w (· < w.heap.size) (some ⟨p1, 0, none⟩) [[(2, 1)]]) :
    Sl ESet w (· < w.heap.size) (some ⟨gL, 0, none⟩) badS := by
  refine sl_blk B.lt fun k hk => ?_
  have hk : k < 10 := hk
  match k, hk with
  | 0, _ => exact set_at B 0 (s := ⟨[115], 1, [itmK 7 8], [], []⟩) (a1 := (some ⟨i1, 0, none⟩)) (a2 := none) (a3 := none) 1 0 0 ⟨by decide, ⟨by decide, by decide⟩, by decide, I1, by decide, .inl rfl, by decide, .inl rfl⟩ (fun j hj => match j, hj with | 0, _ => rfl | 1, _ => rfl | 2, _ => rfl | 3, _ => rfl | 4, _ => rfl)
  | 1, _ => exact set_at B 1 (s := ⟨[115], 1, [itmK 8 33], [], []⟩) (a1 := (some ⟨i2, 0, none⟩)) (a2 := none) (a3 := none) 1 0 0 ⟨by decide, ⟨by decide, by decide⟩, by decide, I2, by decide, .inl rfl, by decide, .inl rfl⟩ (fun j hj => match j, hj with | 0, _ => rfl | 1, _ => rfl | 2, _ => rfl | 3, _ => rfl | 4, _ => rfl)
  | 2, _ => exact set_at B 2 (s := ⟨[115], 1, [itmK 9 8], [], []⟩) (a1 := (some ⟨i3, 0, none⟩)) (a2 := none) (a3 := none) 1 0 0 ⟨by decide, ⟨by decide, by decide⟩, by decide, I3, by decide, .inl rfl, by decide, .inl rfl⟩ (fun j hj => match j, hj with | 0, _ => rfl | 1, _ => rfl | 2, _ => rfl | 3, _ => rfl | 4, _ => rfl)
  | 3, _ => exact set_at B 3 (s := ⟨[115], 2, [], [2, 1], []⟩) (a1 := none) (a2 := (some ⟨m1, 0, none⟩)) (a3 := none) 0 2 0 ⟨by decide, ⟨by decide, by decide⟩, by decide, .inl rfl, by decide, M1, by decide, .inl rfl⟩ (fun j hj => match j, hj with | 0, _ => rfl | 1, _ => rfl | 2, _ => rfl | 3, _ => rfl | 4, _ => rfl)
  | 4, _ => exact set_at B 4 (s := ⟨[115], 4, [], [], []⟩) (a1 := none) (a2 := none) (a3 := none) 0 0 0 ⟨by decide, ⟨by decide, by decide⟩, by decide, .inl rfl, by decide, .inl rfl, by decide, .inl rfl⟩ (fun j hj => match j, hj with | 0, _ => rfl | 1, _ => rfl | 2, _ => rfl | 3, _ => rfl | 4, _ => rfl)
  | 5, _ => exact set_at B 5 (s := ⟨[83], 2, [], [], []⟩) (a1 := none) (a2 := none) (a3 := none) 0 0 0 ⟨by decide, ⟨by decide, by decide⟩, by decide, .inl rfl, by decide, .inl rfl, by decide, .inl rfl⟩ (fun j hj => match j, hj with | 0, _ => rfl | 1, _ => rfl | 2, _ => rfl | 3, _ => rfl | 4, _ => rfl)
  | 6, _ => exact set_at B 6 (s := ⟨[49, 115], 2, [], [], []⟩) (a1 := none) (a2 := none) (a3 := none) 0 0 0 ⟨by decide, ⟨by decide, by decide⟩, by decide, .inl rfl, by decide, .inl rfl, by decide, .inl rfl⟩ (fun j hj => match j, hj with | 0, _ => rfl | 1, _ => rfl | 2, _ => rfl | 3, _ => rfl | 4, _ => rfl)
  | 7, _ => exact set_at B 7 (s := ⟨[45], 2, [], [], []⟩) (a1 := none) (a2 := none) (a3 := none) 0 0 0 ⟨by decide, ⟨by decide, by decide⟩, by decide, .inl rfl, by decide, .inl rfl, by decide, .inl rfl⟩ (fun j hj => match j, hj with | 0, _ => rfl | 1, _ => rfl | 2, _ => rfl | 3, _ => rfl | 4, _ => rfl)
  | 8, _ => exact set_at B 8 (s := ⟨[115], 3, [], [], [[(2, 1)]]⟩) (a1 := none) (a2 := none) (a3 := (some ⟨p1, 0, none⟩)) 0 0 1 ⟨by decide, ⟨by decide, by decide⟩, by decide, .inl rfl, by decide, .inl rfl, by decide, P1⟩ (fun j hj => match j, hj with | 0, _ => rfl | 1, _ => rfl | 2, _ => rfl | 3, _ => rfl | 4, _ => rfl)
  | 9, _ => exact set_at B 9 (s := ⟨[115], 3, [], [1], []⟩) (a1 := none) (a2 := (some ⟨m2, 0, none⟩)) (a3 := none) 0 1 0 ⟨by decide, ⟨by decide, by decide⟩, by decide, .inl rfl, by decide, M2, by decide, .inl rfl⟩ (fun j hj => match j, hj with | 0, _ => rfl | 1, _ => rfl | 2, _ => rfl | 3, _ => rfl | 4, _ => rfl)
/-- One, three sets in a row. -/
theorem sl_set1 {w : World} {g m1 : Nat} {T : TypeId} (B : Blk w g T #[.string ⟨#[99]⟩, .int .i64 2, .slice none 0 0, .slice (some ⟨m1, 0, none⟩) 2 2, .slice none 0 0]) (M1 : Sl EU32 w (· < w.heap.size) (some ⟨m1, 0, none⟩) [1, 5]) : Sl ESet w (· < w.heap.size) (some ⟨g, 0, none⟩) [setC2] := by
  refine sl_blk B.lt fun k hk => ?_
  have hk : k < 1 := hk
  match k, hk with
  | 0, _ => exact set_at B 0 (s := setC2) (a1 := none) (a2 := (some ⟨m1, 0, none⟩)) (a3 := none) 0 2 0 ⟨by decide, ⟨by decide, by decide⟩, by decide, .inl rfl, by decide, M1, by decide, .inl rfl⟩ (fun j hj => match j, hj with | 0, _ => rfl | 1, _ => rfl | 2, _ => rfl | 3, _ => rfl | 4, _ => rfl)
theorem sl_set3 {w : World} {g m1 p1 : Nat} {T : TypeId} (B : Blk w g T #[.string ⟨#[99]⟩, .int .i64 2, .slice none 0 0, .slice (some ⟨m1, 0, none⟩) 2 2, .slice none 0 0, .string ⟨#[100]⟩, .int .i64 3, .slice none 0 0, .slice none 0 0, .slice (some ⟨p1, 0, none⟩) 1 1, .string ⟨#[99]⟩, .int .i64 0, .slice none 0 0, .slice none 0 0, .slice none 0 0]) (M1 : Sl EU32 w (· < w.heap.size) (some ⟨m1, 0, none⟩) [1, 5]) (P1 : Sl EAtm.slice w (· < w.heap.size) (some ⟨p1, 0, none⟩) [patW]) : Sl ESet w (· < w.heap.size) (some ⟨g, 0, none⟩) [setC2, setD3, setC0] := by
  refine sl_blk B.lt fun k hk => ?_
  have hk : k < 3 := hk
  match k, hk with
  | 0, _ => exact set_at B 0 (s := setC2) (a1 := none) (a2 := (some ⟨m1, 0, none⟩)) (a3 := none) 0 2 0 ⟨by decide, ⟨by decide, by decide⟩, by decide, .inl rfl, by decide, M1, by decide, .inl rfl⟩ (fun j hj => match j, hj with | 0, _ => rfl | 1, _ => rfl | 2, _ => rfl | 3, _ => rfl | 4, _ => rfl)
  | 1, _ => exact set_at B 1 (s := setD3) (a1 := none) (a2 := none) (a3 := (some ⟨p1, 0, none⟩)) 0 0 1 ⟨by decide, ⟨by decide, by decide⟩, by decide, .inl rfl, by decide, .inl rfl, by decide, P1⟩ (fun j hj => match j, hj with | 0, _ => rfl | 1, _ => rfl | 2, _ => rfl | 3, _ => rfl | 4, _ => rfl)
  | 2, _ => exact set_at B 2 (s := setC0) (a1 := none) (a2 := none) (a3 := none) 0 0 0 ⟨by decide, ⟨by decide, by decide⟩, by decide, .inl rfl, by decide, .inl rfl, by decide, .inl rfl⟩ (fun j hj => match j, hj with | 0, _ => rfl | 1, _ => rfl | 2, _ => rfl | 3, _ => rfl | 4, _ => rfl)
theorem sl_path2 {w : World} {g a1 a2 : Nat} {T : TypeId} (B : Blk w g T #[.int .i64 2, .slice (some ⟨a1, 0, none⟩) 2 2, .int .i64 1, .slice (some ⟨a2, 0, none⟩) 1 1]) (h1 : Sl EU32 w (· < w.heap.size) (some ⟨a1, 0, none⟩) [65000, 1]) (h2 : Sl EU32 w (· < w.heap.size) (some ⟨a2, 0, none⟩) [2]) : Path w (some ⟨g, 0, none⟩) [⟨2, [65000, 1]⟩, ⟨1, [2]⟩] := by
  refine sl_blk B.lt fun k hk => ?_
  have hk : k < 2 := hk
  match k, hk with
  | 0, _ =>
    show ∃ cs, ESeg.R w _ ⟨2, [65000, 1]⟩ cs ∧ _
    refine ⟨_, ⟨[_], _, rfl, ⟨rfl, by show (-9223372036854775808 : Int) ≤ 2; decide, by show (2 : Int) ≤ 9223372036854775807; decide⟩, some ⟨a1, 0, none⟩, 2, rfl, by show 2 ≤ 16777216; decide, h1⟩, fun j u hu => ?_⟩
    rw [show 0 + 0 * ESeg.sz + j = j by omega, B.cell]
    match j, hu with
    | 0, hu => exact hu
    | 1, hu => exact hu
    | j + 2, hu => cases hu
  | 1, _ =>
    show ∃ cs, ESeg.R w _ ⟨1, [2]⟩ cs ∧ _
    refine ⟨_, ⟨[_], _, rfl, ⟨rfl, by show (-9223372036854775808 : Int) ≤ 1; decide, by show (1 : Int) ≤ 9223372036854775807; decide⟩, some ⟨a2, 0, none⟩, 1, rfl, by show 1 ≤ 16777216; decide, h2⟩, fun j u hu => ?_⟩
    rw [show 0 + 1 * ESeg.sz + j = 2 + j from rfl, B.cell]
    match j, hu with
    | 0, hu => exact hu
    | 1, hu => exact hu
    | j + 2, hu => cases hu
theorem flat_2 : flatS [⟨2, [65000, 1]⟩, ⟨1, [2]⟩] = [65000, 1, 2] := by decide
theorem flat_0 : flatS [] = [] := rfl
end Go.Proofs.YtoghdmoldcjedaaGreatDoor
