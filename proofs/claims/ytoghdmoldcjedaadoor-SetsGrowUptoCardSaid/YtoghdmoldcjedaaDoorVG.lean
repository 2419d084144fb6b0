/- The walk of SetsGrow. -/
import Derived.Test.YtoghdmoldcjedaaDoorV22
import Derived.Test.YtoghdmoldcjedaaDoorPI
import Derived.Deep.CutBlock
namespace Go.Proofs.YtoghdmoldcjedaaDoor
open Go.RowKit Go.Sort Go.Deep Go.ChangeShapes Go.WideShapes
set_option linter.unusedVariables false

/-- An item by small numbers. -/
structure Net where
  a : UInt8
  l : UInt8
  lo : UInt8
  hi : UInt8
def netCs (x : Net) : List Value := [.int .u8 (x.a.toNat : Int), .int .u8 (x.l.toNat : Int), .int .u8 (x.lo.toNat : Int), .int .u8 (x.hi.toNat : Int)]
def ENet : Enc Net := Enc.cells netCs (fun _ => True) 4 (fun _ => rfl) (fun x u hu => by simp only [netCs, List.mem_cons, List.not_mem_nil, or_false] at hu; rcases hu with rfl | rfl | rfl | rfl <;> rfl)
theorem ENet.at {w : World} {S : Nat → Prop} {a : Option Addr} {l : List Net} (h : Sl ENet w S a l) (k : Nat) (hk : k < l.length) :
    ∃ b off, a = some ⟨b, off, none⟩ ∧ S b ∧ w.cell? ⟨b, off + k * 4, none⟩ = some (.int .u8 (l[k].a.toNat : Int)) ∧ w.cell? ⟨b, off + k * 4 + 1, none⟩ = some (.int .u8 (l[k].l.toNat : Int)) ∧ w.cell? ⟨b, off + k * 4 + 2, none⟩ = some (.int .u8 (l[k].lo.toNat : Int)) ∧ w.cell? ⟨b, off + k * 4 + 3, none⟩ = some (.int .u8 (l[k].hi.toNat : Int)) := by
  obtain ⟨b, off, cs, rfl, hb, ⟨rfl, _⟩, hc⟩ := h.at k hk
  exact ⟨b, off, rfl, hb, hc 0 _ rfl, hc 1 _ rfl, hc 2 _ rfl, hc 3 _ rfl⟩
def hostP (a b : UInt8) : Pfx := ⟨1, 0, [a, b, 0, 0], 32⟩
theorem host_may (a b : UInt8) : MayP (hostP a b) :=
  ⟨⟨by show sizeS 1 ≠ 0; decide, by show ((4 : Nat) : Int) = sizeS 1; decide, by show (0 : Int) ≤ 32; decide, by show (32 : Int) ≤ 8 * sizeS 1; decide, .inl rfl⟩, mask_all _ _ (by show 8 * ((4 : Nat) : Int) ≤ 32; decide)⟩
def fourO (a b : UInt8) : Obj := Obj.cells #[.int .u8 (a.toNat : Int), .int .u8 (b.toNat : Int), .int .u8 0, .int .u8 0] 5
theorem conv4 (a b : UInt8) (V : World) (g : Nat) (hg : V.heap[g]? = some (fourO a b)) : (convert 22 9 (.slice (some ⟨g, 0, none⟩) 4 4)).run Tryd.prog V = .ok (.string ⟨#[a, b, 0, 0]⟩) V :=
  run_convert_bytes_back V 22 9 5 ⟨g, 0, none⟩ 4 [a, b, 0, 0] Tryd.underlying22 Tryd.underlying5 Tryd.underlying9 fun j hj => by
    have hB : Blk V g 5 #[.int .u8 (a.toNat : Int), .int .u8 (b.toNat : Int), .int .u8 0, .int .u8 0] := hg
    rw [add_lit, hB.cell]
    match j, hj with
    | 0, _ => rfl
    | 1, _ => rfl
    | 2, _ => rfl
    | 3, _ => rfl
def netP (x : Net) : Pfx := cutOf (hostP x.a 0) ((x.l.toNat % 9 : Nat) : Int)
def netI (x : Net) : Itm := ⟨netP x, ((x.l.toNat % 9 + x.lo.toNat % 8 : Nat) : Int), ((min 32 (x.l.toNat % 9 + x.lo.toNat % 8 + x.hi.toNat % 9) : Nat) : Int)⟩
def asked (x : Net) : Pfx := cutOf (hostP x.a x.lo) ((x.l.toNat % 33 : Nat) : Int)
theorem net_cut (x : Net) : cutS (hostP x.a 0) ((x.l.toNat % 9 : Nat) : Int) = (netP x, 0) := if_pos ⟨host_may _ _, by omega, by show _ ≤ (32 : Int); omega⟩
theorem asked_cut (x : Net) : cutS (hostP x.a x.lo) ((x.l.toNat % 33 : Nat) : Int) = (asked x, 0) := if_pos ⟨host_may _ _, by omega, by show _ ≤ (32 : Int); omega⟩
theorem netI_ok (x : Net) : itmOk (netI x) := by
  refine ⟨cut_may ⟨host_may _ _, by omega, by show _ ≤ (32 : Int); omega⟩, ?_, ?_, ?_⟩
  · show ((x.l.toNat % 9 : Nat) : Int) ≤ ((x.l.toNat % 9 + x.lo.toNat % 8 : Nat) : Int); omega
  · show ((x.l.toNat % 9 + x.lo.toNat % 8 : Nat) : Int) ≤ ((min 32 (x.l.toNat % 9 + x.lo.toNat % 8 + x.hi.toNat % 9) : Nat) : Int); omega
  · show ((min 32 (x.l.toNat % 9 + x.lo.toNat % 8 + x.hi.toNat % 9) : Nat) : Int) ≤ 8 * 4; omega
theorem netI_in (x : Net) : ItmIn (netI x) := by
  have hc : (cutOf (hostP x.a 0) ((x.l.toNat % 9 : Nat) : Int)).addr.length ≤ 1048576 := by
    show (maskS [x.a, 0, 0, 0] _).length ≤ 1048576
    rw [maskS_len]
    show 4 ≤ 1048576
    decide
  refine ⟨⟨⟨by show -9223372036854775808 ≤ (1 : Int); decide, by show (1 : Int) ≤ 9223372036854775807; decide⟩, by show 0 ≤ 18446744073709551615; decide, hc, ?_⟩, ?_, ?_⟩
  · show -9223372036854775808 ≤ ((x.l.toNat % 9 : Nat) : Int) ∧ ((x.l.toNat % 9 : Nat) : Int) ≤ 9223372036854775807
    omega
  · show -9223372036854775808 ≤ ((x.l.toNat % 9 + x.lo.toNat % 8 : Nat) : Int) ∧ ((x.l.toNat % 9 + x.lo.toNat % 8 : Nat) : Int) ≤ 9223372036854775807
    omega
  · show -9223372036854775808 ≤ ((min 32 (x.l.toNat % 9 + x.lo.toNat % 8 + x.hi.toNat % 9) : Nat) : Int) ∧ ((min 32 (x.l.toNat % 9 + x.lo.toNat % 8 + x.hi.toNat % 9) : Nat) : Int) ≤ 9223372036854775807
    omega
set_option maxRecDepth 20000 in
theorem okItm : ElemOk Tryd.prog 34 42 EItm.sz 56 := elemOk (z := .agg #[.int .i64 0, .int .u64 0, .string ⟨#[]⟩, .int .i64 0, .int .i64 0, .int .i64 0]) Tryd.underlying34 (by kernel_rfl) rfl
theorem slice_headI (a : Option Addr) (n c k : Nat) (hk : k ≤ n) (hn : n ≤ c) (hc : c ≤ 9223372036854775807) (W : World) : (Instr.sliceAt 34 (.slice a n c) none (some (.int .i64 (k : Int))) none).run Tryd.prog W = .ok (.slice a k c) W := by
  go_simp
  first | omega | (intro h; omega) | skip
theorem setI_ok (L : List Itm) (h : ∀ z ∈ L, itmOk z) (hl : L.length ≤ 20) : setOk ⟨[115], 1, L, [], []⟩ = true := by
  unfold setOk itmsOk
  have h1 : nameOk [115] = true := by decide
  rw [h1, if_pos (show (1 : Int) = 1 from rfl), Bool.true_and, Bool.and_eq_true, Bool.and_eq_true, List.all_eq_true, decide_eq_true_eq]
  exact ⟨⟨fun z hz => decide_eq_true (h z hz), by show L.length ≤ 64; omega⟩, rfl⟩
theorem setI_has (L : List Itm) (q : Pfx) (h : ∀ z ∈ L, itmOk z) (hl : L.length ≤ 20) : setPfx ⟨[115], 1, L, [], []⟩ q = L.any (itmHas q) := by
  unfold setPfx
  rw [setI_ok L h hl]
  rfl
theorem has_splitG (q : Pfx) (x : Itm) : ∃ (cb r : Bool), covB x.p q = cb ∧ itmHas q x = r ∧ ((cb = false ∧ r = false) ∨ (cb = true ∧ decide (x.low ≤ q.len) = false ∧ r = false) ∨ (cb = true ∧ decide (x.low ≤ q.len) = true ∧ decide (q.len ≤ x.high) = r)) := by
  refine ⟨_, _, rfl, rfl, ?_⟩
  have hd : itmHas q x = (decide (x.low ≤ q.len) && (decide (q.len ≤ x.high) && covB x.p q)) := rfl
  rw [hd]
  cases covB x.p q with
  | false => exact .inl ⟨rfl, by simp⟩
  | true =>
    cases decide (x.low ≤ q.len) with
    | false => exact .inr (.inl ⟨rfl, rfl, rfl⟩)
    | true => exact .inr (.inr ⟨rfl, rfl, by simp⟩)
theorem Blk.set5 {w : World} {g : Nat} {T : TypeId} {a b c d e : Value} (h : Blk w g T #[a, b, c, d, e]) (u0 u1 u2 u3 u4 : Value) :
    Blk (((((w.setCell ⟨g, 0, none⟩ u0).setCell ⟨g, 1, none⟩ u1).setCell ⟨g, 2, none⟩ u2).setCell ⟨g, 3, none⟩ u3).setCell ⟨g, 4, none⟩ u4) g T #[u0, u1, u2, u3, u4] := by
  simpa using ((((h.set_ 0 u0).set_ 1 u1).set_ 2 u2).set_ 3 u3).set_ 4 u4
theorem Ext.set5 {a w : World} (h : Ext a w) {g : Nat} (hg : a.heap.size ≤ g) (u0 u1 u2 u3 u4 : Value) :
    Ext a (((((w.setCell ⟨g, 0, none⟩ u0).setCell ⟨g, 1, none⟩ u1).setCell ⟨g, 2, none⟩ u2).setCell ⟨g, 3, none⟩ u3).setCell ⟨g, 4, none⟩ u4) :=
  ((((h.setCell hg _).setCell hg _).setCell hg _).setCell hg _).setCell hg _
theorem Blk.set6 {w : World} {g : Nat} {T : TypeId} {a b c d e f : Value} (h : Blk w g T #[a, b, c, d, e, f]) (u0 u1 u2 u3 u4 u5 : Value) :
    Blk ((((((w.setCell ⟨g, 0, none⟩ u0).setCell ⟨g, 1, none⟩ u1).setCell ⟨g, 2, none⟩ u2).setCell ⟨g, 3, none⟩ u3).setCell ⟨g, 4, none⟩ u4).setCell ⟨g, 5, none⟩ u5) g T #[u0, u1, u2, u3, u4, u5] := by
  simpa using (((((h.set_ 0 u0).set_ 1 u1).set_ 2 u2).set_ 3 u3).set_ 4 u4).set_ 5 u5
theorem Ext.set6 {a w : World} (h : Ext a w) {g : Nat} (hg : a.heap.size ≤ g) (u0 u1 u2 u3 u4 u5 : Value) :
    Ext a ((((((w.setCell ⟨g, 0, none⟩ u0).setCell ⟨g, 1, none⟩ u1).setCell ⟨g, 2, none⟩ u2).setCell ⟨g, 3, none⟩ u3).setCell ⟨g, 4, none⟩ u4).setCell ⟨g, 5, none⟩ u5) :=
  (((((h.setCell hg _).setCell hg _).setCell hg _).setCell hg _).setCell hg _).setCell hg _
theorem any_snocG {α : Type} (f : α → Bool) {l : List α} {j : Nat} (h : j < l.length) : (l.take (j + 1)).any f = ((l.take j).any f || f l[j]) := by
  rw [List.take_succ_eq_append_getElem h, List.any_append, List.any_cons, List.any_nil, Bool.or_false]
theorem setin_G {W : World} {a : Option Addr} {L : List Itm} (hl : L.length ≤ 16777216) (h : Sl EItm W (· < W.heap.size) a L) : SetIn W (· < W.heap.size) ⟨[115], 1, L, [], []⟩ a none none :=
  ⟨by show 1 ≤ 1048576; decide, ⟨by show -9223372036854775808 ≤ (1 : Int); decide, by show (1 : Int) ≤ 9223372036854775807; decide⟩, hl, h, by show 0 ≤ 16777216; decide, Sl.nil, by show 0 ≤ 16777216; decide, Sl.nil⟩
def netsS (l : List Net) : List Itm := (l.take 20).map netI

set_option maxRecDepth 20000 in
set_option maxHeartbeats 8000000 in
theorem SetsGrow_walk (a : Option Addr) (c : Nat) (l : List Net) (x : Net) (w : World) (hl : l.length ≤ 16777216) (hs : Sl ENet w (· < w.heap.size) a l) (hT : Tab w) (hD : Deb w) (hV : Vars w) :
    Calls Tryd.prog 4 #[.slice a l.length c, .agg #[.int .u8 (x.a.toNat : Int), .int .u8 (x.l.toNat : Int), .int .u8 (x.lo.toNat : Int), .int .u8 (x.hi.toNat : Int)]] w fun e w' => e = .returned (.bool true) ∧ Ext w w' := by
  have mixed : Tryd.prog.follows Departure.mixedOrders = true := by kernel_rfl
  have qw := fun W (h : Ext w W) => LWorks_any W (hT.ext h) (hD.ext h) (hV.ext h)
  have qc := fun (y : Net) W => ACut_any (hostP y.a 0) ((y.l.toNat % 9 : Nat) : Int) W (by show 4 ≤ 1048576; decide)
  simp only [net_cut] at qc
  simp only [valP, hostP] at qc
  obtain ⟨xa, xl, xlo, xhi⟩ := x
  dsimp only
  clear hT hD hV
  replace qw := hide qw
  replace qc := hide qc
  replace hs := hide hs
  go_enter Tryd.func4, Tryd.ntmps4
  have X := Blk.new w 33 #[.int .u8 (xa.toNat : Int), .int .u8 (xl.toNat : Int), .int .u8 (xlo.toNat : Int), .int .u8 (xhi.toNat : Int)]
  have E := (Ext.refl w).alloc (Obj.cells #[.int .u8 (xa.toNat : Int), .int .u8 (xl.toNat : Int), .int .u8 (xlo.toNat : Int), .int .u8 (xhi.toNat : Int)] 33)
  generalize hW0 : w.alloc (Obj.cells #[.int .u8 (xa.toNat : Int), .int .u8 (xl.toNat : Int), .int .u8 (xlo.toNat : Int), .int .u8 (xhi.toNat : Int)] 33) = W0 at X E
  generalize hg0 : w.heap.size = g0 at X
  replace X := hide X
  replace E := hide E
  go_upto_block 0 with fail
  clear hW0 hg0
  go_cut [5, 6, 7, 8, 9] from 16 to 70 (fun v _ _ _ _ wr => Own EItm 42 wr W0.heap.size v ((l.take 20).map netI) ∧ Ext W0 wr)
  case first =>
    go_wp2_with fail
    go_loopw [5, 6] (fun v i wr => ∃ k : Nat, k ≤ 20 ∧ k ≤ l.length ∧ i = .int .i64 k ∧ Own EItm 42 wr W0.heap.size v ((l.take k).map netI) ∧ Ext W0 wr) (fun _ i _ => 20 - (intOf i).toNat)
    case atStart => exact ⟨0, Nat.zero_le _, Nat.zero_le _, rfl, Own.nil, Ext.refl _⟩
    case round =>
      obtain ⟨k, hk, hkl, rfl, hown, hE⟩ := hrel
      have hsz := hE.size
      by_cases hlt : k < l.length ∧ k < 20
      · obtain ⟨hl1, hl2⟩ := hlt
        obtain ⟨vo, dd, rfl⟩ := hown.form
        obtain ⟨b, off, rfl, hb, x0, x1, x2, x3⟩ := ENet.at hs.out k hl1
        replace x0 := (E.out.trans hE).cell x0
        replace x1 := (E.out.trans hE).cell x1
        replace x2 := (E.out.trans hE).cell x2
        replace x3 := (E.out.trans hE).cell x3
        have hbw : b < W0.heap.size := Nat.lt_of_lt_of_le hb E.out.size
        have e1 : decide ((k : Int) < (l.length : Int)) = true := decide_eq_true (by omega)
        have e2 : decide ((k : Int) < 20) = true := decide_eq_true (by omega)
        have hnx : (l.take (k + 1)).map netI = (l.take k).map netI ++ [netI l[k]] := by rw [List.take_succ_eq_append_getElem hl1, List.map_append]; rfl
        have hlk : ((l.take k).map netI).length = k := by simp; omega
        rw [hlk] at hown ⊢
        have q := qc.out l[k]
        generalize l[k] = y at *
        obtain ⟨ya, yl, ylo, yhi⟩ := y
        dsimp only at *
        have t1 : Int.tmod (yl.toNat : Int) 9 = ((yl.toNat % 9 : Nat) : Int) := by rw [Int.tmod_eq_emod_of_nonneg (by omega)]; rfl
        have qn := hide (show cutOf (hostP ya 0) ((yl.toNat % 9 : Nat) : Int) = netP ⟨ya, yl, ylo, yhi⟩ from rfl)
        have hnI := hide (show netI ⟨ya, yl, ylo, yhi⟩ = ⟨netP ⟨ya, yl, ylo, yhi⟩, ((yl.toNat % 9 + ylo.toNat % 8 : Nat) : Int), ((min 32 (yl.toNat % 9 + ylo.toNat % 8 + yhi.toNat % 9) : Nat) : Int)⟩ from rfl)
        have hql : (netP ⟨ya, yl, ylo, yhi⟩).len = ((yl.toNat % 9 : Nat) : Int) := rfl
        have hqa : (netP ⟨ya, yl, ylo, yhi⟩).addr.length ≤ 1048576 := by
          show (maskS [ya, 0, 0, 0] _).length ≤ 1048576
          rw [maskS_len]
          show 4 ≤ 1048576
          decide
        have hin := hide (netI_in ⟨ya, yl, ylo, yhi⟩)
        generalize netI ⟨ya, yl, ylo, yhi⟩ = itm at hnx hnI hin
        generalize netP ⟨ya, yl, ylo, yhi⟩ = np at *
        obtain ⟨qf, qr', qa', ql⟩ := np
        dsimp only at *
        generalize hqr : (qr' : Int) = qr at q
        generalize hqa : (ByteArray.mk qa'.toArray) = qa at q
        replace hqr := hide hqr
        replace hqa := hide hqa
        replace hown := hide hown
        replace hE := hide hE
        replace q := hide q
        replace hnx := hide hnx
        go_wp2_with fail
        refine wp_region_JM (J := JS wr 22 (fun i => match i with | 0 => .val (.slice (some ⟨b, off, none⟩) l.length c) | 1 => .val (.int .i64 (k : Int)) | 2 => .val (.pointer (some ⟨b, off + k * 4, none⟩)) | 3 => .val (.pointer (some ⟨b, off + k * 4, none⟩)) | 4 => .val (.int .u8 (ya.toNat : Int)) | 5 => .mk (fun g => .slice (some ⟨g, 0, none⟩) 4 4) 5 #[.int .u8 (ya.toNat : Int), .int .u8 0, .int .u8 0, .int .u8 0] | 6 => .val (.string ⟨#[ya, 0, 0, 0]⟩) | 7 => .val (.agg #[.int .i64 1, .int .u64 0, .string ⟨#[ya, 0, 0, 0]⟩, .int .i64 32]) | 8 => .val (.slice (some ⟨b, off, none⟩) l.length c) | 9 => .val (.int .i64 (k : Int)) | 10 => .val (.pointer (some ⟨b, off + k * 4, none⟩)) | 11 => .val (.pointer (some ⟨b, off + k * 4 + 1, none⟩)) | 12 => .val (.int .u8 (yl.toNat : Int)) | 13 => .val (.int .u8 ((yl.toNat % 9 : Nat) : Int)) | 14 => .val (.int .i64 ((yl.toNat % 9 : Nat) : Int)) | 15 => .val (.tuple #[.agg #[.int .i64 qf, .int .u64 qr, .string qa, .int .i64 ql], .int .i64 0]) | 16 => .val (.tuple #[.agg #[.int .i64 qf, .int .u64 qr, .string qa, .int .i64 ql], .int .i64 0]) | 17 => .val (.agg #[.int .i64 qf, .int .u64 qr, .string qa, .int .i64 ql]) | 18 => .val (.int .i64 0) | 19 => .box 20 37 #[.int .i64 0, .int .u64 0, .string ⟨#[]⟩, .int .i64 0] #[.int .i64 qf, .int .u64 qr, .string qa, .int .i64 ql] | 20 => .fill 19 | 21 => .val (.int .i64 0) | _ => .val undef)) mixed (by kernel_rfl) (by kernel_rfl) (fun _ => undef) (JS.start _ _ _ _) (JS.keeps (by kernel_rfl) ?fill ?box ?steps) ?restq
        case fill =>
          intro i b hi hb
          replace hi : i < 22 := hi
          match i, hi, hb with
          | 0, _, hb => cases hb
          | 1, _, hb => cases hb
          | 2, _, hb => cases hb
          | 3, _, hb => cases hb
          | 4, _, hb => cases hb
          | 5, _, hb => cases hb
          | 6, _, hb => cases hb
          | 7, _, hb => cases hb
          | 8, _, hb => cases hb
          | 9, _, hb => cases hb
          | 10, _, hb => cases hb
          | 11, _, hb => cases hb
          | 12, _, hb => cases hb
          | 13, _, hb => cases hb
          | 14, _, hb => cases hb
          | 15, _, hb => cases hb
          | 16, _, hb => cases hb
          | 17, _, hb => cases hb
          | 18, _, hb => cases hb
          | 19, _, hb => cases hb
          | 20, _, hb => injection hb with hb; subst hb; exact ⟨(by decide : 19 < 22), ⟨_, _, _, rfl⟩, _, rfl, ⟨19, .data⟩, by simp, rfl, rfl⟩
          | 21, _, hb => cases hb
          | i + 22, h, _ => exact absurd h (by omega)
        case box =>
          intro b st t z cs hi hb
          replace hi : b < 22 := hi
          match b, hi, hb with
          | 0, _, hb => cases hb
          | 1, _, hb => cases hb
          | 2, _, hb => cases hb
          | 3, _, hb => cases hb
          | 4, _, hb => cases hb
          | 5, _, hb => cases hb
          | 6, _, hb => cases hb
          | 7, _, hb => cases hb
          | 8, _, hb => cases hb
          | 9, _, hb => cases hb
          | 10, _, hb => cases hb
          | 11, _, hb => cases hb
          | 12, _, hb => cases hb
          | 13, _, hb => cases hb
          | 14, _, hb => cases hb
          | 15, _, hb => cases hb
          | 16, _, hb => cases hb
          | 17, _, hb => cases hb
          | 18, _, hb => cases hb
          | 19, _, hb => injection hb with h1; subst h1; exact ⟨(by decide : 20 < 22), rfl⟩
          | 20, _, hb => cases hb
          | 21, _, hb => cases hb
          | i + 22, h, _ => exact absurd h (by omega)
        case steps =>
          intro i hi
          replace hi : i < 22 := hi
          match i, hi with
          | 0, _ =>
            refine ⟨_, rfl, rfl, ?_⟩
            intro a w9 done val G hdn hdep hev hout hE9 hok
            have u0 : a.eval (.tmp 0) = .slice (some ⟨b, off, none⟩) l.length c := (hout 0 (by kernel_rfl)).trans rfl
            simp [Act.eval] at u0
            clear hdep hev hout hok
            refine step_val (w'' := w9) ?_ (Ext.refl _)
            go_simp
          | 1, _ =>
            refine ⟨_, rfl, rfl, ?_⟩
            intro a w9 done val G hdn hdep hev hout hE9 hok
            have u6 : a.eval (.tmp 6) = .int .i64 (k : Int) := (hout 6 (by kernel_rfl)).trans rfl
            simp [Act.eval] at u6
            clear hdep hev hout hok
            refine step_val (w'' := w9) ?_ (Ext.refl _)
            go_simp
          | 2, _ =>
            refine ⟨_, rfl, rfl, ?_⟩
            intro a w9 done val G hdn hdep hev hout hE9 hok
            have d0 : done 0 = true := by first | exact hdep ⟨0, .data⟩ (by simp) rfl | exact hdep ⟨0, .phase⟩ (by simp) rfl
            have e0 := hev 0 _ 27 rfl rfl (by simp) d0
            have k0 := hok 0 (by decide) d0
            replace k0 : val 0 = (.slice (some ⟨b, off, none⟩) l.length c) := k0
            rw [k0] at e0
            clear k0
            simp [Act.eval] at e0
            clear d0
            have d1 : done 1 = true := by first | exact hdep ⟨1, .data⟩ (by simp) rfl | exact hdep ⟨1, .phase⟩ (by simp) rfl
            have e1 := hev 1 _ 28 rfl rfl (by simp) d1
            have k1 := hok 1 (by decide) d1
            replace k1 : val 1 = (.int .i64 (k : Int)) := k1
            rw [k1] at e1
            clear k1
            simp [Act.eval] at e1
            clear d1
            clear hdep hev hout hok
            refine step_val (w'' := w9) ?_ (Ext.refl _)
            go_simp
          | 3, _ =>
            refine ⟨_, rfl, rfl, ?_⟩
            intro a w9 done val G hdn hdep hev hout hE9 hok
            have d2 : done 2 = true := by first | exact hdep ⟨2, .data⟩ (by simp) rfl | exact hdep ⟨2, .phase⟩ (by simp) rfl
            have e2 := hev 2 _ 29 rfl rfl (by simp) d2
            have k2 := hok 2 (by decide) d2
            replace k2 : val 2 = (.pointer (some ⟨b, off + k * 4, none⟩)) := k2
            rw [k2] at e2
            clear k2
            simp [Act.eval] at e2
            clear d2
            clear hdep hev hout hok
            refine step_val (w'' := w9) ?_ (Ext.refl _)
            go_simp
          | 4, _ =>
            refine ⟨_, rfl, rfl, ?_⟩
            intro a w9 done val G hdn hdep hev hout hE9 hok
            have d3 : done 3 = true := by first | exact hdep ⟨3, .data⟩ (by simp) rfl | exact hdep ⟨3, .phase⟩ (by simp) rfl
            have e3 := hev 3 _ 30 rfl rfl (by simp) d3
            have k3 := hok 3 (by decide) d3
            replace k3 : val 3 = (.pointer (some ⟨b, off + k * 4, none⟩)) := k3
            rw [k3] at e3
            clear k3
            simp [Act.eval] at e3
            clear d3
            clear hdep hev hout hok
            have x0' := hE9.cell x0
            refine step_val (w'' := w9) ?_ (Ext.refl _)
            go_simp
          | 5, _ =>
            refine ⟨_, rfl, rfl, ?_⟩
            intro a w9 done val G hdn hdep hev hout hE9 hok
            have d4 : done 4 = true := by first | exact hdep ⟨4, .data⟩ (by simp) rfl | exact hdep ⟨4, .phase⟩ (by simp) rfl
            have e4 := hev 4 _ 31 rfl rfl (by simp) d4
            have k4 := hok 4 (by decide) d4
            replace k4 : val 4 = (.int .u8 (ya.toNat : Int)) := k4
            rw [k4] at e4
            clear k4
            simp [Act.eval] at e4
            clear d4
            clear hdep hev hout hok
            refine step_mk (v := .slice (some ⟨w9.heap.size, 0, none⟩) 4 4) ?_ (Nat.le_refl _) ((Ext.refl w9).alloc _) (Blk.new w9 _ _) _ rfl
            go_simp
          | 6, _ =>
            refine ⟨_, rfl, rfl, ?_⟩
            intro a w9 done val G hdn hdep hev hout hE9 hok
            have d5 : done 5 = true := by first | exact hdep ⟨5, .data⟩ (by simp) rfl | exact hdep ⟨5, .phase⟩ (by simp) rfl
            have e5 := hev 5 _ 32 rfl rfl (by simp) d5
            have k5 := hok 5 (by decide) d5
            obtain ⟨k5, B5⟩ := k5
            rw [k5] at e5
            clear k5
            simp [Act.eval] at e5
            clear d5
            clear hdep hev hout hok
            have cv := conv4 ya 0 w9 (G 5) B5
            refine step_val (w'' := w9) ?_ (Ext.refl _)
            go_simp
          | 7, _ =>
            refine ⟨_, rfl, rfl, ?_⟩
            intro a w9 done val G hdn hdep hev hout hE9 hok
            have d6 : done 6 = true := by first | exact hdep ⟨6, .data⟩ (by simp) rfl | exact hdep ⟨6, .phase⟩ (by simp) rfl
            have e6 := hev 6 _ 33 rfl rfl (by simp) d6
            have k6 := hok 6 (by decide) d6
            replace k6 : val 6 = (.string ⟨#[ya, 0, 0, 0]⟩) := k6
            rw [k6] at e6
            clear k6
            simp [Act.eval] at e6
            clear d6
            clear hdep hev hout hok
            refine step_val (w'' := w9) ?_ (Ext.refl _)
            go_simp
          | 8, _ =>
            refine ⟨_, rfl, rfl, ?_⟩
            intro a w9 done val G hdn hdep hev hout hE9 hok
            have u0 : a.eval (.tmp 0) = .slice (some ⟨b, off, none⟩) l.length c := (hout 0 (by kernel_rfl)).trans rfl
            simp [Act.eval] at u0
            clear hdep hev hout hok
            refine step_val (w'' := w9) ?_ (Ext.refl _)
            go_simp
          | 9, _ =>
            refine ⟨_, rfl, rfl, ?_⟩
            intro a w9 done val G hdn hdep hev hout hE9 hok
            have u6 : a.eval (.tmp 6) = .int .i64 (k : Int) := (hout 6 (by kernel_rfl)).trans rfl
            simp [Act.eval] at u6
            clear hdep hev hout hok
            refine step_val (w'' := w9) ?_ (Ext.refl _)
            go_simp
          | 10, _ =>
            refine ⟨_, rfl, rfl, ?_⟩
            intro a w9 done val G hdn hdep hev hout hE9 hok
            have d8 : done 8 = true := by first | exact hdep ⟨8, .data⟩ (by simp) rfl | exact hdep ⟨8, .phase⟩ (by simp) rfl
            have e8 := hev 8 _ 35 rfl rfl (by simp) d8
            have k8 := hok 8 (by decide) d8
            replace k8 : val 8 = (.slice (some ⟨b, off, none⟩) l.length c) := k8
            rw [k8] at e8
            clear k8
            simp [Act.eval] at e8
            clear d8
            have d9 : done 9 = true := by first | exact hdep ⟨9, .data⟩ (by simp) rfl | exact hdep ⟨9, .phase⟩ (by simp) rfl
            have e9 := hev 9 _ 36 rfl rfl (by simp) d9
            have k9 := hok 9 (by decide) d9
            replace k9 : val 9 = (.int .i64 (k : Int)) := k9
            rw [k9] at e9
            clear k9
            simp [Act.eval] at e9
            clear d9
            clear hdep hev hout hok
            refine step_val (w'' := w9) ?_ (Ext.refl _)
            go_simp
          | 11, _ =>
            refine ⟨_, rfl, rfl, ?_⟩
            intro a w9 done val G hdn hdep hev hout hE9 hok
            have d10 : done 10 = true := by first | exact hdep ⟨10, .data⟩ (by simp) rfl | exact hdep ⟨10, .phase⟩ (by simp) rfl
            have e10 := hev 10 _ 37 rfl rfl (by simp) d10
            have k10 := hok 10 (by decide) d10
            replace k10 : val 10 = (.pointer (some ⟨b, off + k * 4, none⟩)) := k10
            rw [k10] at e10
            clear k10
            simp [Act.eval] at e10
            clear d10
            clear hdep hev hout hok
            refine step_val (w'' := w9) ?_ (Ext.refl _)
            go_simp
          | 12, _ =>
            refine ⟨_, rfl, rfl, ?_⟩
            intro a w9 done val G hdn hdep hev hout hE9 hok
            have d11 : done 11 = true := by first | exact hdep ⟨11, .data⟩ (by simp) rfl | exact hdep ⟨11, .phase⟩ (by simp) rfl
            have e11 := hev 11 _ 38 rfl rfl (by simp) d11
            have k11 := hok 11 (by decide) d11
            replace k11 : val 11 = (.pointer (some ⟨b, off + k * 4 + 1, none⟩)) := k11
            rw [k11] at e11
            clear k11
            simp [Act.eval] at e11
            clear d11
            clear hdep hev hout hok
            have x1' := hE9.cell x1
            refine step_val (w'' := w9) ?_ (Ext.refl _)
            go_simp
          | 13, _ =>
            refine ⟨_, rfl, rfl, ?_⟩
            intro a w9 done val G hdn hdep hev hout hE9 hok
            have d12 : done 12 = true := by first | exact hdep ⟨12, .data⟩ (by simp) rfl | exact hdep ⟨12, .phase⟩ (by simp) rfl
            have e12 := hev 12 _ 39 rfl rfl (by simp) d12
            have k12 := hok 12 (by decide) d12
            replace k12 : val 12 = (.int .u8 (yl.toNat : Int)) := k12
            rw [k12] at e12
            clear k12
            simp [Act.eval] at e12
            clear d12
            clear hdep hev hout hok
            refine step_val (w'' := w9) ?_ (Ext.refl _)
            go_simp
          | 14, _ =>
            refine ⟨_, rfl, rfl, ?_⟩
            intro a w9 done val G hdn hdep hev hout hE9 hok
            have d13 : done 13 = true := by first | exact hdep ⟨13, .data⟩ (by simp) rfl | exact hdep ⟨13, .phase⟩ (by simp) rfl
            have e13 := hev 13 _ 40 rfl rfl (by simp) d13
            have k13 := hok 13 (by decide) d13
            replace k13 : val 13 = (.int .u8 ((yl.toNat % 9 : Nat) : Int)) := k13
            rw [k13] at e13
            clear k13
            simp [Act.eval] at e13
            clear d13
            clear hdep hev hout hok
            have hw14 : IntKind.i64.wrap ((yl.toNat : Int) % 9) = (yl.toNat : Int) % 9 := by rw [IntKind.wrap_i64]; omega
            refine step_val (w'' := w9) ?_ (Ext.refl _)
            go_simp
          | 15, _ =>
            refine ⟨_, rfl, rfl, ?_⟩
            intro a w9 done val G hdn hdep hev hout hE9 hok
            have d7 : done 7 = true := by first | exact hdep ⟨7, .data⟩ (by simp) rfl | exact hdep ⟨7, .phase⟩ (by simp) rfl
            have e7 := hev 7 _ 34 rfl rfl (by simp) d7
            have k7 := hok 7 (by decide) d7
            replace k7 : val 7 = (.agg #[.int .i64 1, .int .u64 0, .string ⟨#[ya, 0, 0, 0]⟩, .int .i64 32]) := k7
            rw [k7] at e7
            clear k7
            simp [Act.eval] at e7
            clear d7
            have d14 : done 14 = true := by first | exact hdep ⟨14, .data⟩ (by simp) rfl | exact hdep ⟨14, .phase⟩ (by simp) rfl
            have e14 := hev 14 _ 41 rfl rfl (by simp) d14
            have k14 := hok 14 (by decide) d14
            replace k14 : val 14 = (.int .i64 ((yl.toNat % 9 : Nat) : Int)) := k14
            rw [k14] at e14
            clear k14
            simp [Act.eval] at e14
            clear d14
            clear hdep hev hout hok
            exact step_go 10 #[.tmp 34, .tmp 41] #[37, 3] rfl Tryd.func10 (by kernel_rfl) (by kernel_rfl) _ (by simp [Act.eval, e7, e14]; try rfl) (q.out w9)
          | 16, _ =>
            refine ⟨_, rfl, rfl, ?_⟩
            intro a w9 done val G hdn hdep hev hout hE9 hok
            have d15 : done 15 = true := by first | exact hdep ⟨15, .data⟩ (by simp) rfl | exact hdep ⟨15, .phase⟩ (by simp) rfl
            have e15 := hev 15 _ 42 rfl rfl (by simp) d15
            have k15 := hok 15 (by decide) d15
            replace k15 : val 15 = (.tuple #[.agg #[.int .i64 qf, .int .u64 qr, .string qa, .int .i64 ql], .int .i64 0]) := k15
            rw [k15] at e15
            clear k15
            simp [Act.eval] at e15
            clear d15
            clear hdep hev hout hok
            refine step_val (w'' := w9) ?_ (Ext.refl _)
            go_simp
          | 17, _ =>
            refine ⟨_, rfl, rfl, ?_⟩
            intro a w9 done val G hdn hdep hev hout hE9 hok
            have d16 : done 16 = true := by first | exact hdep ⟨16, .data⟩ (by simp) rfl | exact hdep ⟨16, .phase⟩ (by simp) rfl
            have e16 := hev 16 _ 26 rfl rfl (by simp) d16
            have k16 := hok 16 (by decide) d16
            replace k16 : val 16 = (.tuple #[.agg #[.int .i64 qf, .int .u64 qr, .string qa, .int .i64 ql], .int .i64 0]) := k16
            rw [k16] at e16
            clear k16
            simp [Act.eval] at e16
            clear d16
            clear hdep hev hout hok
            refine step_val (w'' := w9) ?_ (Ext.refl _)
            go_simp
          | 18, _ =>
            refine ⟨_, rfl, rfl, ?_⟩
            intro a w9 done val G hdn hdep hev hout hE9 hok
            have d16 : done 16 = true := by first | exact hdep ⟨16, .data⟩ (by simp) rfl | exact hdep ⟨16, .phase⟩ (by simp) rfl
            have e16 := hev 16 _ 26 rfl rfl (by simp) d16
            have k16 := hok 16 (by decide) d16
            replace k16 : val 16 = (.tuple #[.agg #[.int .i64 qf, .int .u64 qr, .string qa, .int .i64 ql], .int .i64 0]) := k16
            rw [k16] at e16
            clear k16
            simp [Act.eval] at e16
            clear d16
            clear hdep hev hout hok
            refine step_val (w'' := w9) ?_ (Ext.refl _)
            go_simp
          | 19, _ =>
            refine ⟨_, rfl, rfl, ?_⟩
            intro a w9 done val G hdn hdep hev hout hE9 hok
            clear hdep hev hout hok
            unfold StepOk
            refine step_mk (v := .pointer (some ⟨w9.heap.size, 0, none⟩)) ?_ (Nat.le_refl _) ((Ext.refl w9).alloc _) (Blk.new w9 _ _) (fun g => .pointer (some ⟨g, 0, none⟩)) rfl
            go_simp
          | 20, _ =>
            refine ⟨_, rfl, rfl, ?_⟩
            intro a w9 done val G hdn hdep hev hout hE9 hok
            have d17 : done 17 = true := by first | exact hdep ⟨17, .data⟩ (by simp) rfl | exact hdep ⟨17, .phase⟩ (by simp) rfl
            have e17 := hev 17 _ 43 rfl rfl (by simp) d17
            have k17 := hok 17 (by decide) d17
            replace k17 : val 17 = (.agg #[.int .i64 qf, .int .u64 qr, .string qa, .int .i64 ql]) := k17
            rw [k17] at e17
            clear k17
            simp [Act.eval] at e17
            clear d17
            have d19 : done 19 = true := by first | exact hdep ⟨19, .data⟩ (by simp) rfl | exact hdep ⟨19, .phase⟩ (by simp) rfl
            have e19 := hev 19 _ 7 rfl rfl (by simp) d19
            have k19 := hok 19 (by decide) d19
            obtain ⟨k19, B19⟩ := k19
            rw [k19] at e19
            clear k19
            simp [Act.eval] at e19
            clear d19
            clear hdep hev hout hok
            rw [if_neg (by rw [hdn]; decide)] at B19
            have z0 : w9.cell? ⟨G 19, 0, none⟩ = some (.int .i64 0) := B19.cell 0
            have z1 : w9.cell? ⟨G 19, 1, none⟩ = some (.int .u64 0) := B19.cell 1
            have z2 : w9.cell? ⟨G 19, 2, none⟩ = some (.string ⟨#[]⟩) := B19.cell 2
            have z3 : w9.cell? ⟨G 19, 3, none⟩ = some (.int .i64 0) := B19.cell 3
            have zf := fun i => B19.frozen i
            have hfin := B19.set4 (.int .i64 qf) (.int .u64 qr) (.string qa) (.int .i64 ql)
            clear B19
            refine step_fill ?_ rfl ((((OnlyAt.refl _ w9).setCell 0 _).setCell 1 _ |>.setCell 2 _).setCell 3 _) hfin
            clear hfin
            go_simp
          | 21, _ =>
            refine ⟨_, rfl, rfl, ?_⟩
            intro a w9 done val G hdn hdep hev hout hE9 hok
            have d18 : done 18 = true := by first | exact hdep ⟨18, .data⟩ (by simp) rfl | exact hdep ⟨18, .phase⟩ (by simp) rfl
            have e18 := hev 18 _ 44 rfl rfl (by simp) d18
            have k18 := hok 18 (by decide) d18
            replace k18 : val 18 = (.int .i64 0) := k18
            rw [k18] at e18
            clear k18
            simp [Act.eval] at e18
            clear d18
            clear hdep hev hout hok
            refine step_val (w'' := w9) ?_ (Ext.refl _)
            go_simp
          | i + 22, h => exact absurd h (by omega)
        case restq =>
          rintro done val w1 hall ⟨hE1, G, hok, hge, hinj, _⟩
          replace hall : ∀ i, i < 22 → done i = true := hall
          have e0 := hall 0 (by decide)
          have e1 := hall 1 (by decide)
          have e2 := hall 2 (by decide)
          have e3 := hall 3 (by decide)
          have e4 := hall 4 (by decide)
          have e5 := hall 5 (by decide)
          have e6 := hall 6 (by decide)
          have e7 := hall 7 (by decide)
          have e8 := hall 8 (by decide)
          have e9 := hall 9 (by decide)
          have e10 := hall 10 (by decide)
          have e11 := hall 11 (by decide)
          have e12 := hall 12 (by decide)
          have e13 := hall 13 (by decide)
          have e14 := hall 14 (by decide)
          have e15 := hall 15 (by decide)
          have e16 := hall 16 (by decide)
          have e17 := hall 17 (by decide)
          have e18 := hall 18 (by decide)
          have e19 := hall 19 (by decide)
          have e20 := hall 20 (by decide)
          have e21 := hall 21 (by decide)
          have k0 := hok 0 (by decide) e0
          replace k0 : val 0 = (.slice (some ⟨b, off, none⟩) l.length c) := k0
          have k1 := hok 1 (by decide) e1
          replace k1 : val 1 = (.int .i64 (k : Int)) := k1
          have k2 := hok 2 (by decide) e2
          replace k2 : val 2 = (.pointer (some ⟨b, off + k * 4, none⟩)) := k2
          have k3 := hok 3 (by decide) e3
          replace k3 : val 3 = (.pointer (some ⟨b, off + k * 4, none⟩)) := k3
          have k4 := hok 4 (by decide) e4
          replace k4 : val 4 = (.int .u8 (ya.toNat : Int)) := k4
          have k5 := hok 5 (by decide) e5
          obtain ⟨k5, B5⟩ := k5
          have G5 := hge 5 (by decide) e5 rfl
          have k6 := hok 6 (by decide) e6
          replace k6 : val 6 = (.string ⟨#[ya, 0, 0, 0]⟩) := k6
          have k7 := hok 7 (by decide) e7
          replace k7 : val 7 = (.agg #[.int .i64 1, .int .u64 0, .string ⟨#[ya, 0, 0, 0]⟩, .int .i64 32]) := k7
          have k8 := hok 8 (by decide) e8
          replace k8 : val 8 = (.slice (some ⟨b, off, none⟩) l.length c) := k8
          have k9 := hok 9 (by decide) e9
          replace k9 : val 9 = (.int .i64 (k : Int)) := k9
          have k10 := hok 10 (by decide) e10
          replace k10 : val 10 = (.pointer (some ⟨b, off + k * 4, none⟩)) := k10
          have k11 := hok 11 (by decide) e11
          replace k11 : val 11 = (.pointer (some ⟨b, off + k * 4 + 1, none⟩)) := k11
          have k12 := hok 12 (by decide) e12
          replace k12 : val 12 = (.int .u8 (yl.toNat : Int)) := k12
          have k13 := hok 13 (by decide) e13
          replace k13 : val 13 = (.int .u8 ((yl.toNat % 9 : Nat) : Int)) := k13
          have k14 := hok 14 (by decide) e14
          replace k14 : val 14 = (.int .i64 ((yl.toNat % 9 : Nat) : Int)) := k14
          have k15 := hok 15 (by decide) e15
          replace k15 : val 15 = (.tuple #[.agg #[.int .i64 qf, .int .u64 qr, .string qa, .int .i64 ql], .int .i64 0]) := k15
          have k16 := hok 16 (by decide) e16
          replace k16 : val 16 = (.tuple #[.agg #[.int .i64 qf, .int .u64 qr, .string qa, .int .i64 ql], .int .i64 0]) := k16
          have k17 := hok 17 (by decide) e17
          replace k17 : val 17 = (.agg #[.int .i64 qf, .int .u64 qr, .string qa, .int .i64 ql]) := k17
          have k18 := hok 18 (by decide) e18
          replace k18 : val 18 = (.int .i64 0) := k18
          have k19 := hok 19 (by decide) e19
          obtain ⟨k19, B19⟩ := k19
          have G19 := hge 19 (by decide) e19 rfl
          rw [if_pos e20] at B19
          have k21 := hok 21 (by decide) e21
          replace k21 : val 21 = (.int .i64 0) := k21
          have N5_19 : G 5 ≠ G 19 := fun h => absurd (hinj 5 19 (by decide) (by decide) e5 e19 rfl rfl h) (by decide)
          clear hok hge hinj hall
          simp only [putD, e0, e1, e2, e3, e4, e5, e6, e7, e8, e9, e10, e11, e12, e13, e14, e15, e16, e17, e18, e19, e20, e21, if_true, Nat.zero_add, Nat.reduceAdd, k0, k1, k2, k3, k4, k5, k6, k7, k8, k9, k10, k11, k12, k13, k14, k15, k16, k17, k18, k19, k21]
          clear e0 e1 e2 e3 e4 e5 e6 e7 e8 e9 e10 e11 e12 e13 e14 e15 e16 e17 e18 e19 e20 e21 k0 k1 k2 k3 k4 k5 k6 k7 k8 k9 k10 k11 k12 k13 k14 k15 k16 k17 k18 k19 k21
          generalize G 5 = g_5 at *
          generalize G 19 = g_19 at *
          clear N5_19 B5 G5
          have y2 := hE1.cell x2
          have y3 := hE1.cell x3
          have p0 : w1.cell? ⟨g_19, 0, none⟩ = some (.int .i64 qf) := B19.cell 0
          have p1 : w1.cell? ⟨g_19, 1, none⟩ = some (.int .u64 qr) := B19.cell 1
          have p2 : w1.cell? ⟨g_19, 2, none⟩ = some (.string qa) := B19.cell 2
          have p3 : w1.cell? ⟨g_19, 3, none⟩ = some (.int .i64 ql) := B19.cell 3
          clear x0 x1 x2 x3 q t1
          subst hql
          obtain ⟨nh, hnh⟩ : ∃ nh : Nat, nh = yhi.toNat % 9 := ⟨_, rfl⟩
          have hnb : nh ≤ 8 := by omega
          have hw3 : IntKind.i64.wrap ((yhi.toNat : Int).tmod 9) = (nh : Int) := by rw [Int.tmod_eq_emod_of_nonneg (by omega), IntKind.wrap_i64]; omega
          have hw4 : IntKind.i64.wrap ((yl.toNat : Int) % 9 + (ylo.toNat : Int) % 8 + (nh : Int)) = (yl.toNat : Int) % 9 + (ylo.toNat : Int) % 8 + (nh : Int) := by rw [IntKind.wrap_i64]; omega
          have hitm := hide (show itmCs itm = [.int .i64 qf, .int .u64 qr, .string qa, .int .i64 ((yl.toNat : Int) % 9), .int .i64 ((yl.toNat : Int) % 9 + (ylo.toNat : Int) % 8), .int .i64 (min 32 ((yl.toNat : Int) % 9 + (ylo.toNat : Int) % 8 + (nh : Int)))] by
            rw [hnI.out, ← hqr.out, ← hqa.out]
            unfold itmCs
            dsimp only
            rw [← hnh, show ((yl.toNat % 9 : Nat) : Int) = (yl.toNat : Int) % 9 by omega, show ((yl.toNat % 9 + ylo.toNat % 8 : Nat) : Int) = (yl.toNat : Int) % 9 + (ylo.toNat : Int) % 8 by omega, show ((min 32 (yl.toNat % 9 + ylo.toNat % 8 + nh) : Nat) : Int) = min 32 ((yl.toNat : Int) % 9 + (ylo.toNat : Int) % 8 + (nh : Int)) by omega])
          clear hnI hqr hqa hnh
          have hw1 : IntKind.i64.wrap ((ylo.toNat : Int) % 8) = (ylo.toNat : Int) % 8 := by rw [IntKind.wrap_i64]; omega
          have hw2 : IntKind.i64.wrap (((yl.toNat % 9 : Nat) : Int) + (ylo.toNat : Int) % 8) = ((yl.toNat % 9 : Nat) : Int) + (ylo.toNat : Int) % 8 := by rw [IntKind.wrap_i64]; omega
          replace B19 := hide B19
          replace hE1 := hide hE1
          go_wp2_with fail
          go_region
          go_wp2_with fail
          go_region_held3 (fun w' => w'.cell? ⟨g_19, 0, none⟩ = some (.int .i64 qf) ∧ w'.cell? ⟨g_19, 1, none⟩ = some (.int .u64 qr) ∧ w'.cell? ⟨g_19, 2, none⟩ = some (.string qa) ∧ w'.cell? ⟨g_19, 3, none⟩ = some (.int .i64 ((yl.toNat % 9 : Nat) : Int)) ∧ w'.cell? ⟨b, off + k * 4 + 3, none⟩ = some (.int .u8 (yhi.toNat : Int)))
            (go_keep)
            (first
              | (refine step_push (E := EItm) (B := W0.heap.size) rfl _ _ _ (by rfl) okItm (by decide) (by decide) (by rfl) ((((hown.out.ext hE1.out).alloc _).draw).draw) (by simp; omega) (by simp; omega) (by rfl) (y := itm) (cs := itmCs itm) ⟨rfl, hin.out⟩ (by rw [hitm.out]; exact cells_new w1 #[.int .i64 qf, .int .u64 qr, .string qa, .int .i64 ((yl.toNat : Int) % 9), .int .i64 ((yl.toNat : Int) % 9 + (ylo.toNat : Int) % 8), .int .i64 (min 32 ((yl.toNat : Int) % 9 + (ylo.toNat : Int) % 8 + (nh : Int)))] 42) ?_
                 intro v' w2 hown' hg hat
                 have s0 := hg.cell ((((Ext.refl w1).alloc _).drew.drew).cell p0) (fun h => by have := (hown.out.lt g_19 h.symm).2; omega)
                 have s1 := hg.cell ((((Ext.refl w1).alloc _).drew.drew).cell p1) (fun h => by have := (hown.out.lt g_19 h.symm).2; omega)
                 have s2 := hg.cell ((((Ext.refl w1).alloc _).drew.drew).cell p2) (fun h => by have := (hown.out.lt g_19 h.symm).2; omega)
                 have s3 := hg.cell ((((Ext.refl w1).alloc _).drew.drew).cell p3) (fun h => by have := (hown.out.lt g_19 h.symm).2; omega)
                 have s4 := hg.cell ((((Ext.refl w1).alloc _).drew.drew).cell y3) (fun h => by have := (hown.out.lt b h.symm).1; omega)))
          go_wp2
          go_roundw
          case rel => exact ⟨k + 1, by omega, by omega, by go_num, by rw [hnx.out]; exact hown', (((hE.out.trans hE1.out).alloc _).drew.drew).push (fun j hj => (hown.out.lt j hj).1) hg⟩
          case measure => simp [intOf]; omega
      · have hcs : (k < l.length ∧ k = 20) ∨ k = l.length := by omega
        clear hsz hlt
        rcases hcs with ⟨h1, rfl⟩ | rfl
        · have e1 : decide ((20 : Int) < (l.length : Int)) = true := decide_eq_true (by omega)
          clear h1 hkl hk
          replace hown := hide hown
          replace hE := hide hE
          go_wp2_with fail
          go_meet
          case rel => exact ⟨hown.out, hE.out⟩
        · have hL : l.take l.length = l.take 20 := by rw [List.take_length, (List.take_of_length_le hk : l.take 20 = l)]
          rw [hL] at hown
          clear hL hkl
          replace hown := hide hown
          replace hE := hide hE
          go_wp2_with fail
          go_meet
          case rel => exact ⟨hown.out, hE.out⟩
  case rest =>
    obtain ⟨hown, hE⟩ := hcut
    have hnl : (netsS l).length ≤ 20 := by
      unfold netsS
      rw [List.length_map, List.length_take]
      omega
    have hok : ∀ z ∈ netsS l, itmOk z ∧ z.p.addr.length ≤ 1048576 := fun z hz => by
      unfold netsS at hz
      obtain ⟨y, _, rfl⟩ := List.mem_map.1 hz
      exact ⟨netI_ok y, (netI_in y).p.addr⟩
    replace hown : Own EItm 42 wc W0.heap.size _ (netsS l) := hown
    generalize netsS l = L at *
    obtain ⟨av, cv, hv, hcv, hL⟩ := hown.slc
    have hcm : cv ≤ 9223372036854775807 := by
      obtain ⟨xs, ⟨_, h1⟩, _⟩ := hown
      rw [hv] at h1
      rcases h1 with ⟨h1, _⟩ | ⟨g, cap, cur, h1, _, _, _, hm, _⟩
      · injection h1 with _ _ h1; omega
      · injection h1 with _ _ h1; unfold maxLen at hm; omega
    subst hv
    replace hL := hL.mono (S' := (· < wc.heap.size)) fun b hb => hb.2
    replace X := X.out.ext hE
    replace E := E.out.trans hE
    have hhd := fun i (hi : i ≤ L.length) W => slice_headI av L.length cv i hi hcv hcm W
    have x0 : wc.cell? ⟨g0, 0, none⟩ = some (.int .u8 (xa.toNat : Int)) := X.cell 0
    have x1 : wc.cell? ⟨g0, 1, none⟩ = some (.int .u8 (xl.toNat : Int)) := X.cell 1
    have x2 : wc.cell? ⟨g0, 2, none⟩ = some (.int .u8 (xlo.toNat : Int)) := X.cell 2
    have qa := fun W => ACut_any (hostP xa xlo) ((xl.toNat % 33 : Nat) : Int) W (by show 4 ≤ 1048576; decide)
    have hqal : (asked ⟨xa, xl, xlo, xhi⟩).addr.length ≤ 1048576 := by
      show (maskS [xa, xlo, 0, 0] _).length ≤ 1048576
      rw [maskS_len]
      show 4 ≤ 1048576
      decide
    rw [asked_cut ⟨xa, xl, xlo, xhi⟩] at qa
    simp only [valP, hostP] at qa
    generalize asked ⟨xa, xl, xlo, xhi⟩ = qq at *
    have hw33 : IntKind.i64.wrap ((xl.toNat : Int) % 33) = ((xl.toNat % 33 : Nat) : Int) := by rw [IntKind.wrap_i64]; omega
    have cvr := conv4 xa xlo (wc.alloc (fourO xa xlo)) wc.heap.size (heap_alloc_new wc _)
    unfold fourO at cvr
    have E2 := hide (E.alloc (Obj.cells #[.int .u8 (xa.toNat : Int), .int .u8 (xlo.toNat : Int), .int .u8 0, .int .u8 0] 5))
    replace hL := hide (hL.ext ((Ext.refl wc).alloc (Obj.cells #[.int .u8 (xa.toNat : Int), .int .u8 (xlo.toNat : Int), .int .u8 0, .int .u8 0] 5)))
    have x1a := ((Ext.refl wc).alloc (Obj.cells #[.int .u8 (xa.toNat : Int), .int .u8 (xlo.toNat : Int), .int .u8 0, .int .u8 0] 5)).cell x1
    clear hown hE X E qc hs hl
    have hih := fun y => has_splitG qq y
    have qcv := fun (y : Itm) (hy : y.p.addr.length ≤ 1048576) W => ACov_any y.p qq W hy hqal
    have hsok := fun n => setI_ok (L.take n) (fun z hz => (hok z (List.mem_of_mem_take hz)).1) (by rw [List.length_take]; omega)
    have hshas := fun n => setI_has (L.take n) qq (fun z hz => (hok z (List.mem_of_mem_take hz)).1) (by rw [List.length_take]; omega)
    have hadr := fun z hz => (hok z hz).2
    generalize itmHas qq = ih at *
    obtain ⟨qf, qrd, qad, qln⟩ := qq
    dsimp only at *
    clear hcm hcv hok
    replace hih := hide hih
    replace qcv := hide qcv
    replace hsok := hide hsok
    replace hshas := hide hshas
    replace hadr := hide hadr
    replace hhd := hide hhd
    replace hqal := hide hqal
    replace qa := hide qa
    go_wp2_with fail
    refine (qa.out _).mono ?_
    rintro e w1 ⟨rfl, he⟩
    replace E2 := E2.out.trans he
    replace hL := hL.out.ext he
    clear he cvr x0 x1 x2 x1a qa hw33
    have hZ := Blk.new w1 37 #[.int .i64 qf, .int .u64 (qrd : Int), .string ⟨qad.toArray⟩, .int .i64 qln]
    have F := (Ext.refl w1).alloc (Obj.cells #[.int .i64 qf, .int .u64 (qrd : Int), .string ⟨qad.toArray⟩, .int .i64 qln] 37)
    generalize hW3 : w1.alloc (Obj.cells #[.int .i64 qf, .int .u64 (qrd : Int), .string ⟨qad.toArray⟩, .int .i64 qln] 37) = W3 at hZ F
    generalize hg1 : w1.heap.size = g1 at hZ
    have hL3 := hL.ext F
    have E3 := E2.trans F
    clear F hL E2
    replace hZ := hide hZ
    replace hL3 := hide hL3
    replace E3 := hide E3
    go_wp2_with fail
    clear hW3 hg1
    go_loopw [12, 13] (fun o i wr => ∃ k : Nat, k ≤ L.length + 1 ∧ i = .int .i64 k ∧ o = .bool ((L.take (k - 1)).any ih) ∧ Ext W3 wr) (fun _ i _ => L.length + 1 - (intOf i).toNat)
    case atStart => exact ⟨0, Nat.zero_le _, rfl, rfl, Ext.refl _⟩
    case round =>
      obtain ⟨k, hk, rfl, rfl, hE⟩ := hrel
      by_cases hkl : k ≤ L.length
      · have hk1 := hhd.out k hkl
        have S5 := Blk.new wr 45 #[.string ⟨#[115]⟩, .int .i64 1, .slice av k cv, .slice none 0 0, .slice none 0 0]
        have F := (Ext.refl wr).alloc (Obj.cells #[.string ⟨#[115]⟩, .int .i64 1, .slice av k cv, .slice none 0 0, .slice none 0 0] 45)
        have E5 := hE.trans F
        clear hE F
        replace S5 := hide S5
        replace E5 := hide E5
        go_upto_region 14 with fail
        replace S5 := S5.out
        replace E5 := E5.out
        generalize wr.alloc (Obj.cells #[.string ⟨#[115]⟩, .int .i64 1, .slice av k cv, .slice none 0 0, .slice none 0 0] 45) = W5 at S5 E5 ⊢
        generalize wr.heap.size = gs at S5 ⊢
        replace S5 := hide S5
        replace E5 := hide E5
        clear hk1
        go_upto_if 97 with fail
        go_cut [12, 15] from 86 to 133 (fun o _ wx => o = .bool ((L.take k).any ih) ∧ Ext W5 wx)
        case first =>
          rcases Nat.eq_zero_or_pos k with rfl | hpos
          · go_wp2_with fail
            go_meet
            case rel => exact ⟨by simp, Ext.refl _⟩
          · obtain ⟨j, rfl⟩ : ∃ j, k = j + 1 := ⟨k - 1, by omega⟩
            have hjl : j < L.length := by omega
            rw [Nat.add_sub_cancel]
            obtain ⟨b, off, hab, _, hin, hcy⟩ := EItm.at (hL3.out.ext E5.out) j hjl
            subst hab
            have hany := any_snocG ih hjl
            obtain ⟨cb, rr, hcb, hrr, hsp⟩ := hih.out L[j]
            have qk := qcv.out L[j] (hadr.out _ (List.getElem_mem hjl))
            rw [hrr] at hany
            rw [hcb] at qk
            clear hin hcb hrr
            generalize L[j] = y at *
            obtain ⟨⟨f, rd, ad, ln⟩, lo, hi⟩ := y
            simp only [valP] at qk
            dsimp only [itmCs] at hcy hany hsp qk
            have y0 : W5.cell? ⟨b, off + j * 6, none⟩ = some (.int .i64 f) := hcy 0 _ rfl
            have y1 : W5.cell? ⟨b, off + j * 6 + 1, none⟩ = some (.int .u64 (rd : Int)) := hcy 1 _ rfl
            have y2 : W5.cell? ⟨b, off + j * 6 + 2, none⟩ = some (.string ⟨ad.toArray⟩) := hcy 2 _ rfl
            have y3 : W5.cell? ⟨b, off + j * 6 + 3, none⟩ = some (.int .i64 ln) := hcy 3 _ rfl
            have y4 : W5.cell? ⟨b, off + j * 6 + 4, none⟩ = some (.int .i64 lo) := hcy 4 _ rfl
            have y5 : W5.cell? ⟨b, off + j * 6 + 5, none⟩ = some (.int .i64 hi) := hcy 5 _ rfl
            clear hcy
            generalize (L.take j).any ih = ob at *
            have I6 := Blk.new W5 42 #[.int .i64 f, .int .u64 (rd : Int), .string ⟨ad.toArray⟩, .int .i64 ln, .int .i64 lo, .int .i64 hi]
            have F := (Ext.refl W5).alloc (Obj.cells #[.int .i64 f, .int .u64 (rd : Int), .string ⟨ad.toArray⟩, .int .i64 ln, .int .i64 lo, .int .i64 hi] 42)
            have Q6 := (hZ.out.ext E5.out).ext F
            have hjj : (((j + 1 : Nat) : Int) - 1) = (j : Int) := by omega
            replace I6 := hide I6
            replace F := hide F
            replace Q6 := hide Q6
            replace hsp := hide hsp
            replace qk := hide qk
            replace hany := hide hany
            go_upto_region 16 with fail
            replace I6 := I6.out
            replace F := F.out
            replace Q6 := Q6.out
            generalize W5.alloc (Obj.cells #[.int .i64 f, .int .u64 (rd : Int), .string ⟨ad.toArray⟩, .int .i64 ln, .int .i64 lo, .int .i64 hi] 42) = W6 at I6 F Q6 ⊢
            generalize W5.heap.size = gi at I6 ⊢
            replace I6 := hide I6
            replace F := hide F
            replace Q6 := hide Q6
            clear y0 y1 y2 y3 y4 y5
            cases ob with
            | true =>
              go_wp2_with fail
              go_meet
              case rel => exact ⟨by rw [hany.out]; simp, F.out⟩
            | false =>
              have i0 : W6.cell? ⟨gi, 0, none⟩ = some (.int .i64 f) := I6.out.cell 0
              have i1 : W6.cell? ⟨gi, 1, none⟩ = some (.int .u64 (rd : Int)) := I6.out.cell 1
              have i2 : W6.cell? ⟨gi, 2, none⟩ = some (.string ⟨ad.toArray⟩) := I6.out.cell 2
              have i3 : W6.cell? ⟨gi, 3, none⟩ = some (.int .i64 ln) := I6.out.cell 3
              have i4 : W6.cell? ⟨gi, 4, none⟩ = some (.int .i64 lo) := I6.out.cell 4
              have i5 : W6.cell? ⟨gi, 5, none⟩ = some (.int .i64 hi) := I6.out.cell 5
              have p0 : W6.cell? ⟨g1, 0, none⟩ = some (.int .i64 qf) := Q6.out.cell 0
              have p1 : W6.cell? ⟨g1, 1, none⟩ = some (.int .u64 (qrd : Int)) := Q6.out.cell 1
              have p2 : W6.cell? ⟨g1, 2, none⟩ = some (.string ⟨qad.toArray⟩) := Q6.out.cell 2
              have p3 : W6.cell? ⟨g1, 3, none⟩ = some (.int .i64 qln) := Q6.out.cell 3
              go_wp2_with fail
              refine (qk.out _).mono ?_
              rintro e W8 ⟨rfl, he⟩
              clear i0 i1 i2 i3 i4 i5 p0 p1 p2 p3 qk
              replace I6 := I6.out.ext he
              replace Q6 := Q6.out.ext he
              replace F := hide (F.out.trans he)
              clear he
              have i0 : W8.cell? ⟨gi, 0, none⟩ = some (.int .i64 f) := I6.cell 0
              have i1 : W8.cell? ⟨gi, 1, none⟩ = some (.int .u64 (rd : Int)) := I6.cell 1
              have i2 : W8.cell? ⟨gi, 2, none⟩ = some (.string ⟨ad.toArray⟩) := I6.cell 2
              have i3 : W8.cell? ⟨gi, 3, none⟩ = some (.int .i64 ln) := I6.cell 3
              have i4 : W8.cell? ⟨gi, 4, none⟩ = some (.int .i64 lo) := I6.cell 4
              have i5 : W8.cell? ⟨gi, 5, none⟩ = some (.int .i64 hi) := I6.cell 5
              have p0 : W8.cell? ⟨g1, 0, none⟩ = some (.int .i64 qf) := Q6.cell 0
              have p1 : W8.cell? ⟨g1, 1, none⟩ = some (.int .u64 (qrd : Int)) := Q6.cell 1
              have p2 : W8.cell? ⟨g1, 2, none⟩ = some (.string ⟨qad.toArray⟩) := Q6.cell 2
              have p3 : W8.cell? ⟨g1, 3, none⟩ = some (.int .i64 qln) := Q6.cell 3
              clear I6 Q6
              rcases hsp.out with ⟨rfl, rfl⟩ | ⟨rfl, e2, rfl⟩ | ⟨rfl, e2, e3⟩
              · go_wp2_with fail
                go_meet
                case rel => exact ⟨by rw [hany.out]; simp, F.out⟩
              · go_wp2_with fail
                go_meet
                case rel => exact ⟨by rw [hany.out]; simp, F.out⟩
              · go_wp2_with fail
                go_meet
                case rel => exact ⟨by rw [hany.out]; simp, F.out⟩
        case rest =>
          obtain ⟨ho, hE6⟩ := hcut
          subst ho
          have E7 := E5.out.trans hE6
          have S7 := S5.out.ext hE6
          have Q7 := hZ.out.ext E7
          have htk : (L.take k).length = k := by rw [List.length_take]; omega
          have qchk := SCheck_any ⟨[115], 1, L.take k, [], []⟩ av cv none 0 none 0 wc (setin_G (by rw [List.length_take]; omega) ((hL3.out.ext E7).take k))
          rw [hsok.out k] at qchk
          simp only [htk, List.length_nil, show errOf true = 0 from rfl] at qchk
          have qpx := fun W (h : Ext wc W) => SPrefix_any ⟨[115], 1, L.take k, [], []⟩ ⟨qf, qrd, qad, qln⟩ hqal.out av cv none 0 none 0 W (setin_G (by rw [List.length_take]; omega) ((hL3.out.ext (E7.trans h)).take k))
          rw [hshas.out k] at qpx
          simp only [htk, List.length_nil] at qpx
          generalize hval : (L.take k).any ih = val at *
          replace hval := hide hval
          have t0 : wc.cell? ⟨gs, 0, none⟩ = some (.string ⟨#[115]⟩) := S7.cell 0
          have t1 : wc.cell? ⟨gs, 1, none⟩ = some (.int .i64 1) := S7.cell 1
          have t2 : wc.cell? ⟨gs, 2, none⟩ = some (.slice av k cv) := S7.cell 2
          have t3 : wc.cell? ⟨gs, 3, none⟩ = some (.slice none 0 0) := S7.cell 3
          have t4 : wc.cell? ⟨gs, 4, none⟩ = some (.slice none 0 0) := S7.cell 4
          clear hE6 htk
          replace qchk := hide qchk
          replace qpx := hide qpx
          replace E7 := hide E7
          replace S7 := hide S7
          replace Q7 := hide Q7
          replace S5 := hide S5
          replace E5 := hide E5
          go_wp2_with fail
          refine qchk.out.mono ?_
          rintro e Wa ⟨rfl, he⟩
          clear t0 t1 t2 t3 t4 qchk
          replace S7 := S7.out.ext he
          replace Q7 := Q7.out.ext he
          replace E7 := hide (E7.out.trans he)
          have qp2 := hide (qpx.out Wa he)
          have t0 : Wa.cell? ⟨gs, 0, none⟩ = some (.string ⟨#[115]⟩) := S7.cell 0
          have t1 : Wa.cell? ⟨gs, 1, none⟩ = some (.int .i64 1) := S7.cell 1
          have t2 : Wa.cell? ⟨gs, 2, none⟩ = some (.slice av k cv) := S7.cell 2
          have t3 : Wa.cell? ⟨gs, 3, none⟩ = some (.slice none 0 0) := S7.cell 3
          have t4 : Wa.cell? ⟨gs, 4, none⟩ = some (.slice none 0 0) := S7.cell 4
          have p0 : Wa.cell? ⟨g1, 0, none⟩ = some (.int .i64 qf) := Q7.cell 0
          have p1 : Wa.cell? ⟨g1, 1, none⟩ = some (.int .u64 (qrd : Int)) := Q7.cell 1
          have p2 : Wa.cell? ⟨g1, 2, none⟩ = some (.string ⟨qad.toArray⟩) := Q7.cell 2
          have p3 : Wa.cell? ⟨g1, 3, none⟩ = some (.int .i64 qln) := Q7.cell 3
          clear S7 Q7 he qpx
          go_wp2_with fail
          refine qp2.out.mono ?_
          rintro e Wb ⟨rfl, he⟩
          clear t0 t1 t2 t3 t4 p0 p1 p2 p3 qp2
          replace E7 := hide (E7.out.trans he)
          clear he
          go_wp2_with fail
          go_roundw
          case rel => exact ⟨k + 1, by omega, by go_num, by rw [Nat.add_sub_cancel, hval.out], E7.out⟩
          case measure => first | (simp [intOf]; done) | (simp [intOf]; omega)
      · obtain rfl : k = L.length + 1 := by omega
        have E4 := hide (E3.out.trans hE)
        clear hE
        go_wp2_with fail
        refine (qw.out _ E4.out).mono ?_
        rintro e W8 ⟨rfl, he⟩
        replace E4 := hide (E4.out.trans he)
        clear he
        go_wp2_with fail
        go_ret
        exact ⟨rfl, E4.out⟩
end Go.Proofs.YtoghdmoldcjedaaDoor
