/- Walks: how long a family's addresses are; a bit of an address. Walks: an address with its first bits alone. Two prefixes compared; a Go function's call as a step of a region. Helpers of walks: strings put together; contracts as a region of reads and calls takes them. Helpers of walks: rows of texts, sizes of texts, strings.Join. Walks: a number's digits to the base 16, by the library. Walks: numerals to a base: the document's. Walks: an address of four numbers. Numerals read by the program: strconv.ParseUint to the bases 10 and 16, prim.number. Walks: the library's ParseUint to the base 16 (of 16 bits). Walks: the library's ParseUint to the base 16, public; prim.number to the base 16. Walks: an address read, by the program. Walks: may a prefix be: prim.Check, addresses of 4 bytes. Walks: may a prefix be: prim.Check, addresses of 16 bytes. Walks: may a prefix be: the document's, addresses -/
import Derived.Lib.SplitLaws
import Derived.Lib.ParseIntB
import Derived.Lib.ParseIntBCases
import Derived.Lib.ItoaNum
import Derived.Lib.Join
import Derived.WalkKit
import Derived.Below
import Derived.Outline
import Derived.LoopTactic
import Derived.Laws.OwnMore
import Derived.Deep.AppendLies
import Derived.Deep.Draws
import Derived.Lib.Hide
import Derived.BigQuiet
import Derived.Deep.QuietTactic
import Derived.WalkSpells
import Derived.WalkLawsBesides
import Derived.Deep.RegionHeld3
import Derived.Deep.DrawnRows
import Derived.Deep.RegionLaw
import Derived.Lib.ConvBytes
import Derived.Lib.Bytealg
import Derived.Lib.Small
import Derived.Test.YtljibkfbldjgdaaGreatDoorProg
import Derived.Test.YtljibkfbldjgdaaGreatDoorShelf
import Derived.Test.YtljibkfbldjgdaaGreatDoorShelf2
import Derived.Lib.UnsafeStr
import Derived.Shelf.RegionOpenPlain
import Derived.Laws.StructEq
import Derived.Lib.QuietBelow
import Derived.Lib.ItoaMem
import Derived.Lib.ItoaLen
import Derived.Test.YtljibkfbldjgdaaGreatDoorPZ01
import Derived.Test.YtljibkfbldjgdaaGreatDoorPZ02
namespace Go.Proofs.YtljibkfbldjgdaaGreatDoor
section
open Go.RowKit
set_option linter.unusedVariables false
theorem fam_cases (f : Int) : f = 1 ∨ f = 2 ∨ f = 3 ∨ f = 4 ∨ f = 5 ∨ (f ≠ 1 ∧ f ≠ 2 ∧ f ≠ 3 ∧ f ≠ 4 ∧ f ≠ 5) := by omega
theorem ASize_any (f : Int) (w : World) : Calls Tryz.prog 145 #[.int .i64 f] w fun e w' => e = .returned (.int .i64 (sizeS f)) ∧ w = w' := by
 rcases fam_cases f with rfl | rfl | rfl | rfl | rfl | ⟨h1, h2, h3, h4, h5⟩
 all_goals
  go_enter Tryz.func145, Tryz.ntmps145
  go_wp2
  go_ret
  exact ⟨by simp [sizeS, *], rfl⟩
theorem RSize_any (f : Int) (w : World) : Calls Tryz.prog 153 #[.int .i64 f] w fun e w' => e = .returned (.int .i64 (sizeS f)) ∧ w = w' := by
 rcases fam_cases f with rfl | rfl | rfl | rfl | rfl | ⟨h1, h2, h3, h4, h5⟩
 all_goals
  go_enter Tryz.func153, Tryz.ntmps153
  go_wp2
  go_ret
  exact ⟨by simp [sizeS, *], rfl⟩
theorem Aapart_any (f : Int) (w : World) : Calls Tryz.prog 171 #[.int .i64 f] w fun e w' => e = .returned (.bool (apartS f)) ∧ w = w' := by
 rcases fam_cases f with rfl | rfl | rfl | rfl | rfl | ⟨h1, h2, h3, h4, h5⟩
 all_goals
  go_enter Tryz.func171, Tryz.ntmps171
  go_wp2
  go_ret
  exact ⟨by simp [apartS, *], rfl⟩
theorem RApart_any (f : Int) (w : World) : Calls Tryz.prog 175 #[.int .i64 f] w fun e w' => e = .returned (.bool (apartS f)) ∧ w = w' := by
 rcases fam_cases f with rfl | rfl | rfl | rfl | rfl | ⟨h1, h2, h3, h4, h5⟩
 all_goals
  go_enter Tryz.func175, Tryz.ntmps175
  go_wp2
  go_ret
  exact ⟨by simp [apartS, *], rfl⟩
/-- A bit as a number. -/
def bitV (b : Bool) : Int := if b then 1 else 0
theorem byte_bit (x : Nat) (j : Nat) : ((x / 2 ^ j % 2 : Nat) : Int) = bitV (x.testBit j) := by
 rw [Nat.testBit_eq_decide_div_mod_eq]
 unfold bitV
 by_cases h : x / 2 ^ j % 2 = 1
 ·rw [h, decide_eq_true rfl]; rfl
 ·rw [decide_eq_false h, if_neg (by simp)]
  have := Nat.mod_lt (x / 2 ^ j) (show 0 < 2 by omega)
  omega
theorem wrap64_id (x : Int) (h1 : 0 ≤ x) (h2 : x < 9223372036854775808) : wrap64 x = x := by
 unfold wrap64
 omega
theorem and_one (y : Nat) (h : y < 256) : bits .and .i64 (y : Int) 1 = ((y % 2 : Nat) : Int) := by
 have := (bits_nat .i64 8 (by decide) (fun n h1 h2 => by rw [IntKind.wrap_i64]; have : n < 256 := h2; omega) y 1 h (by decide)).1
 rw [Nat.and_one_is_mod] at this
 exact this
set_option maxRecDepth 20000 in
theorem RBit_any (a : List UInt8) (n : Int) (w : World) (ha : a.length ≤ 1048576) (h1 : -9223372036854775808 ≤ n) (h2 : n ≤ 9223372036854775807) :
  Calls Tryz.prog 176 #[.string ⟨a.toArray⟩, .int .i64 n] w fun e w' => e = .returned (.int .i64 (bitV (bitZ a n))) ∧ w = w' := by
 have hz : (ByteArray.mk a.toArray).size = a.length := by simp [ByteArray.size]
 by_cases hn : n < 0
 ·have hb : bitV (bitZ a n) = 0 := by unfold bitZ; rw [if_pos hn]; rfl
  rw [hb]
  replace h1 := hide h1
  replace h2 := hide h2
  go_enter Tryz.func176, Tryz.ntmps176
  go_wp2
  go_ret
  exact ⟨rfl, rfl⟩
 ·obtain ⟨m, rfl⟩ : ∃ m : Nat, n = m := ⟨n.toNat, by omega⟩
  have hb0 : bitZ a m = bitN a m := by unfold bitZ; rw [if_neg hn]; rfl
  rw [hb0]
  have g1 : wrap64 ((m : Int) / 8) = (m : Int) / 8 := wrap64_id _ (by omega) (by omega)
  have g3 : 0 ≤ (m : Int) / 8 := by omega
  by_cases hk : a.length ≤ m / 8
  ·have hb : bitV (bitN a m) = 0 := by rw [bitN_out a m (by omega)]; rfl
   have hd : (a.length : Int) ≤ (m : Int) / 8 := by omega
   rw [hb]
   replace h1 := hide h1
   replace h2 := hide h2
   replace hb0 := hide hb0
   replace hb := hide hb
   replace hk := hide hk
   go_enter Tryz.func176, Tryz.ntmps176
   go_wp2
   go_ret
   exact ⟨rfl, rfl⟩
  ·have hk' : m / 8 < a.length := by omega
   have hd : ¬ ((a.length : Int) ≤ (m : Int) / 8) := by omega
   have hd2 : (m : Int) / 8 < (a.length : Int) := by omega
   have hby : (ByteArray.mk a.toArray)[m / 8]'(by omega) = a[m / 8] := rfl
   have hbt : bitN a m = (a[m / 8]).toNat.testBit (7 - m % 8) := by unfold bitN; rw [List.getElem?_eq_getElem hk']
   generalize a[m / 8] = x at hby hbt
   have hx := x.toNat_lt
   have hle : x.toNat / 2 ^ (7 - m % 8) ≤ x.toNat := Nat.div_le_self _ _
   have g5 : ((x.toNat : Int) / 2 ^ (7 - m % 8)) = ((x.toNat / 2 ^ (7 - m % 8) : Nat) : Int) := by simp
   have g6 : wrap64 ((x.toNat : Int) / 2 ^ (7 - m % 8)) = ((x.toNat / 2 ^ (7 - m % 8) : Nat) : Int) := by rw [g5]; exact wrap64_id _ (Int.natCast_nonneg _) (Int.lt_trans (Int.ofNat_lt.2 (Nat.lt_of_le_of_lt hle hx)) (by decide))
   have g7 : bits .and .i64 (wrap64 ((x.toNat : Int) / 2 ^ (7 - m % 8))) 1 = bitV (bitN a m) := by
    rw [g6, and_one _ (Nat.lt_of_le_of_lt hle hx), hbt, ← byte_bit]
   replace h1 := hide h1
   replace h2 := hide h2
   replace hb0 := hide hb0
   replace hk := hide hk
   replace hbt := hide hbt
   replace g5 := hide g5
   replace g6 := hide g6
   go_enter Tryz.func176, Tryz.ntmps176
   go_wp2
   go_ret
   exact ⟨by first | rw [g7] | rfl, rfl⟩
theorem shl255 (l : Nat) (h1 : 1 ≤ l) (h7 : l ≤ 7) (x : UInt8) (X : Int) (hX : X = ((256 - 2 ^ (8 - l) : Nat) : Int)) : bits .and .u8 (x.toNat : Int) X = ((maskB (l : Int) x).toNat : Int) := by
 have hp : 2 ^ (8 - l) ≤ 2 ^ 7 := Nat.pow_le_pow_right (by omega) (by omega)
 have hp0 : 0 < 2 ^ (8 - l) := Nat.two_pow_pos _
 rw [hX, u8_and_nat _ _ x.toNat_lt (by omega), mask_and l h1 h7 x]
set_option maxRecDepth 20000 in
set_option maxHeartbeats 1000000 in
theorem masked_any (a : List UInt8) (n : Int) (w : World) (ha : a.length ≤ 16) (ha0 : 0 < a.length) (h1 : 0 ≤ n) (h2 : n ≤ 128) :
  Calls Tryz.prog 172 #[.string ⟨a.toArray⟩, .int .i64 n] w fun e w' => e = .returned (.string ⟨(maskS a n).toArray⟩) ∧ Ext w w' := by
 have mixed : Tryz.prog.follows Departure.mixedOrders = true := by kernel_rfl
 have hz : (ByteArray.mk a.toArray).size = a.length := by simp [ByteArray.size]
 have kc := fun (w : World) => Lib.run_convert_string_bytes (P := Tryz.prog) w 9 148 5 ⟨a.toArray⟩ Tryz.underlying9 Tryz.underlying148 Tryz.underlying5
 go_enter Tryz.func172, Tryz.ntmps172
 go_wp2
 have hcv := OwnB.conv (w := w) (e := 5) ⟨a.toArray⟩ (by unfold maxLen; omega)
 have hEc := ext_bytesWorld w 5 ⟨a.toArray⟩
 rw [hz] at hcv
 generalize hc : grownCap w a.length 0 5 = cp at hcv ⊢
 generalize hW : Lib.bytesWorld w 5 ⟨a.toArray⟩ = W1 at hcv hEc
 replace hc := hide hc
 replace hW := hide hW
 clear kc
 go_loopw [12] (fun q wr => ∃ k : Nat, k ≤ a.length ∧ q = .int .i64 k ∧ OwnB 5 wr w.heap.size (.slice (some ⟨w.heap.size, 0, none⟩) a.length cp) (maskK a n k) ∧ Ext w wr) (fun q _ => a.length - (intOf q).toNat)
 case atStart => exact ⟨0, Nat.zero_le _, rfl, by rw [maskK_zero]; simpa [hz] using hcv, hEc⟩
 case round =>
  clear hcv hEc hW hc W1
  obtain ⟨k, hk, rfl, hown, hE⟩ := hrel
  rename World => W0
  by_cases hlt : k < a.length
  ·obtain ⟨x1, f1⟩ := hown.cell rfl k (by rw [maskK_len _ _ _ hk]; exact hlt)
   have hx : (maskK a n k)[k]'(by rw [maskK_len _ _ _ hk]; exact hlt) = a[k] := by
    have := maskK_at a n k hlt
    rw [List.getElem?_eq_getElem (by rw [maskK_len _ _ _ hk]; exact hlt)] at this
    exact Option.some.inj this
   rw [hx] at x1
   have hset := hown.set k (maskB (n - 8 * (k : Int)) a[k])
   rw [maskK_set a n k hlt] at hset
   have hEs := hE.setCell (p := ⟨w.heap.size, k, none⟩) (Nat.le_refl _) (.int .u8 ((maskB (n - 8 * (k : Int)) a[k]).toNat : Int))
   clear hx
   rcases (show n - 8 * (k : Int) ≤ 0 ∨ 8 ≤ n - 8 * (k : Int) ∨ ∃ l : Nat, 1 ≤ l ∧ l ≤ 7 ∧ n = 8 * (k : Int) + l from by
    by_cases h : n - 8 * (k : Int) ≤ 0
    ·exact .inl h
    ·by_cases h' : 8 ≤ n - 8 * (k : Int)
     ·exact .inr (.inl h')
     ·exact .inr (.inr ⟨(n - 8 * (k : Int)).toNat, by omega, by omega, by omega⟩)) with hl | hl | ⟨l, hl1, hl7, hnl⟩
   ·have hb : (maskB (n - 8 * (k : Int)) a[k]).toNat = 0 := by unfold maskB; rw [if_pos hl]; rfl
    rw [hb] at hset hEs
    replace hset := hide hset
    replace hEs := hide hEs
    replace hown := hide hown
    replace hE := hide hE
    replace hb := hide hb
    go_wp2
    go_roundw
    case rel => exact ⟨k + 1, by omega, by go_num, hset.out, hEs.out⟩
    case measure => simp [intOf]; omega
   ·have hsk := maskK_skip a n k hlt hl
    rw [hsk] at hown
    replace hset := hide hset
    replace hEs := hide hEs
    replace hown := hide hown
    replace hE := hide hE
    replace hsk := hide hsk
    go_wp2
    go_roundw
    case rel => exact ⟨k + 1, by omega, by go_num, hown.out, hE.out⟩
    case measure => simp [intOf]; omega
   ·have hbm := fun X hX => shl255 l hl1 hl7 a[k] X hX
    rw [show n - 8 * (k : Int) = (l : Int) by omega] at hset hEs
    generalize maskB (l : Int) a[k] = y at hbm hset hEs
    replace hset := hide hset
    replace hEs := hide hEs
    replace hown := hide hown
    replace hE := hide hE
    rcases (show (l = 1 ∧ n - 8 * (k : Int) = 1) ∨ (l = 2 ∧ n - 8 * (k : Int) = 2) ∨ (l = 3 ∧ n - 8 * (k : Int) = 3) ∨ (l = 4 ∧ n - 8 * (k : Int) = 4) ∨ (l = 5 ∧ n - 8 * (k : Int) = 5) ∨ (l = 6 ∧ n - 8 * (k : Int) = 6) ∨ (l = 7 ∧ n - 8 * (k : Int) = 7) by omega) with ⟨rfl, hnl2⟩ | ⟨rfl, hnl2⟩ | ⟨rfl, hnl2⟩ | ⟨rfl, hnl2⟩ | ⟨rfl, hnl2⟩ | ⟨rfl, hnl2⟩ | ⟨rfl, hnl2⟩
    all_goals
     replace hbm := hide hbm
     have gw1 : IntKind.i64.wrap 1 = 1 := by decide
     have gw2 : IntKind.i64.wrap 2 = 2 := by decide
     have gw3 : IntKind.i64.wrap 3 = 3 := by decide
     have gw4 : IntKind.i64.wrap 4 = 4 := by decide
     have gw5 : IntKind.i64.wrap 5 = 5 := by decide
     have gw6 : IntKind.i64.wrap 6 = 6 := by decide
     have gw7 : IntKind.i64.wrap 7 = 7 := by decide
     replace hnl := hide hnl
     go_wp2
     go_region_law_o (fail)
     go_wp2
     go_roundw
     case rel => exact ⟨k + 1, by omega, by go_num, by rw [hbm.out _ (by decide)]; exact hset.out.kept (fun _ _ => rfl), by rw [hbm.out _ (by decide)]; exact hEs.out.drew⟩
     case measure => simp [intOf]; omega
  ·obtain rfl : k = a.length := by omega
   rw [maskK_all] at hown
   have kd := run_stringB (P := Tryz.prog) (src := 148) (dst := 9) Tryz.underlying148 Tryz.underlying5 Tryz.underlying9 hown
   replace hown := hide hown
   go_wp2
   go_ret
   exact ⟨rfl, hE⟩
open Go.RowKit Go.Sort
theorem run_eqP (W : World) (f g : Int) (r s : Int) (x y : List UInt8) (l m : Int) :
  (binOp .eql 70 (.agg #[.int .i64 f, .int .u64 r, .string ⟨x.toArray⟩, .int .i64 l]) (.agg #[.int .i64 g, .int .u64 s, .string ⟨y.toArray⟩, .int .i64 m])).run Tryz.prog W = .ok (.bool (decide (f = g ∧ r = s ∧ x = y ∧ l = m))) W := by
 have hS : Tryz.prog.underlying 70 = some (.struct (Tryz.prog.fieldsOf 70)) := by kernel_rfl
 rw [run_eql_struct, run_equalIn_agg W 9999 _ _ _ hS Tryz.stoodInHeld70]
 simp only [Program.fieldsOf, Tryz.underlying70]
 have e1 : ∀ (a b : Int) (w : World), (Op.equalIn 9999 3 (.int .i64 a) (.int .i64 b)).run Tryz.prog w = .ok (a == b) w := fun a b w => run_equalIn_int w 9998 _ .i64 .i64 a b Tryz.underlying3
 have e2 : ∀ (a b : Int) (w : World), (Op.equalIn 9999 68 (.int .u64 a) (.int .u64 b)).run Tryz.prog w = .ok (a == b) w := fun a b w => run_equalIn_int w 9998 _ .u64 .u64 a b Tryz.underlying68
 have e3 : ∀ (a b : List UInt8) (w : World), (Op.equalIn 9999 9 (.string ⟨a.toArray⟩) (.string ⟨b.toArray⟩)).run Tryz.prog w = .ok (a == b) w := fun a b w => by
  rw [run_equalIn_string w 9998 _ _ _ Tryz.underlying9, ByteArray.toList_eq, ByteArray.toList_eq]
 by_cases h1 : f = g <;> by_cases h2 : r = s <;> by_cases h3 : x = y <;> by_cases h4 : l = m <;> simp [Op.eqFields, part, e1, e2, e3, h1, h2, h3, h4]
theorem step_callN {P : Program} {ops : Array Oper} {o : Oper} {a : Act} {w : World} {K : Act → World → Prop} {Q : Exit → Act → World → Prop} {X : Prop} (hw : Region.wanted o (yielded ops a.tmps) = true) (f : FuncId) {fn : Func} (xs : Array Operand) (ts : Array TypeId)
  (hop : o.op = Op.call { callee := Callee.value (Operand.func f), args := xs, argTypes := ts }) (hf : P.funcs[f]? = some fn) (hname : (fn.name == "runtime.NumGoroutine") = false) (hb : fn.body.isNone = false) (vs : Array Value) (hx : xs.map a.eval = vs)
  {R : Ending → World → Prop} (hc : Calls P f vs w R) (hk : ∀ e w', R e w' → ∃ u, e = .returned u ∧ K (a.put o.dst u) w') : if Region.wanted o (yielded ops a.tmps) = true then Oper.wp P o a w K Q else X := by
 rw [if_pos hw]
 unfold Oper.wp
 have h1 : fn.name ≠ "runtime.NumGoroutine" := by simpa using hname
 have hev : a.eval (Operand.func f) = .func (.func f) #[] #[] := rfl
 have h2 : ¬ (fn.body = none) := by intro h; simp [h] at hb
 have hrun : (execOp a.eval o).run P w = .ok (.enter f vs) w := by
  simp [execOp, hop, resolve, hev, Deferred.ofValue, invoke, hx, callFunc, hf, h1, h2]
 rw [hrun, Oper.upon_enter]
 exact hc.mono fun e w' h => by obtain ⟨u, rfl, hK⟩ := hk e w' h; exact hK
theorem quiet_apart (f : Int) (w : World) (n : Nat) : Calls Tryz.prog 171 #[.int .i64 f] (w.drewN n) fun e w'' => e = .returned (.bool (apartS f)) ∧ ∃ m, w'' = w.drewN m :=
 Calls.quiet_of_same ((Aapart_any f _).mono fun e w' h => ⟨h.1, h.2.symm⟩)
/-- A callee that turns nothing, met in a region of reads and of calls that make memory. -/
theorem regrown_same {P : Program} {f : FuncId} {args : Array Value} {w : World} {d : Nat} {os : Array Obj} {v : Value} (h : Calls P f args (grow (redrawn w d) os) fun e w' => e = .returned v ∧ grow (redrawn w d) os = w') :
  Calls P f args (grow (redrawn w d) os) fun e w'' => e = .returned v ∧ ∃ p : Regrown, w'' = grow (redrawn w p.d) p.os :=
 Calls.regrown_of (h.mono fun e w' h => ⟨h.1, h.2 ▸ Below.refl _ _⟩)
/-- A prefix in a block of its own, as such a region reads it. -/
theorem regrown_cells (w : World) (f R : Int) (s : ByteArray) (l : Int) (T : TypeId) :
  (∀ d os, (grow (redrawn (w.alloc (.cells #[.int .i64 f, .int .u64 R, .string s, .int .i64 l] T)) d) os).cell? ⟨w.heap.size, 0, none⟩ = some (.int .i64 f)) ∧
  (∀ d os, (grow (redrawn (w.alloc (.cells #[.int .i64 f, .int .u64 R, .string s, .int .i64 l] T)) d) os).cell? ⟨w.heap.size, 1, none⟩ = some (.int .u64 R)) ∧
  (∀ d os, (grow (redrawn (w.alloc (.cells #[.int .i64 f, .int .u64 R, .string s, .int .i64 l] T)) d) os).cell? ⟨w.heap.size, 2, none⟩ = some (.string s)) ∧
  (∀ d os, (grow (redrawn (w.alloc (.cells #[.int .i64 f, .int .u64 R, .string s, .int .i64 l] T)) d) os).cell? ⟨w.heap.size, 3, none⟩ = some (.int .i64 l)) :=
 ⟨cell_regrown ((Blk.new w T _).cell 0), cell_regrown ((Blk.new w T _).cell 1), cell_regrown ((Blk.new w T _).cell 2), cell_regrown ((Blk.new w T _).cell 3)⟩
noncomputable def mayB (p : Pfx) : Bool := decide (MayP p)
end
section
open Go.RowKit Go.Sort
set_option linter.unusedVariables false
theorem ba_app (a b : List UInt8) : (⟨a.toArray⟩ : ByteArray) ++ ⟨b.toArray⟩ = ⟨(a ++ b).toArray⟩ := by
 apply ByteArray.ext
 rw [ByteArray.data_append]
 simp
theorem ba_app1 (a : List UInt8) (x : UInt8) : (⟨a.toArray⟩ : ByteArray) ++ ⟨#[x]⟩ = ⟨(a ++ [x]).toArray⟩ := ba_app a [x]
theorem ba_size (a : List UInt8) : (ByteArray.mk a.toArray).size = a.length := by simp [ByteArray.size]
theorem Calls.regr {P : Program} {f : FuncId} {args : Array Value} {v : Value} (h : ∀ W, Calls P f args W fun e w' => e = .returned v ∧ Ext W w') (w : World) (d : Nat) (os : Array Obj) :
  Calls P f args (grow (redrawn w d) os) fun e w'' => e = .returned v ∧ ∃ p : Regrown, w'' = grow (redrawn w p.d) p.os := Calls.regrown_of (h _)
theorem Calls.regrS {P : Program} {f : FuncId} {args : Array Value} {v : Value} (h : ∀ W, Calls P f args W fun e w' => e = .returned v ∧ W = w') (w : World) (d : Nat) (os : Array Obj) :
  Calls P f args (grow (redrawn w d) os) fun e w'' => e = .returned v ∧ ∃ p : Regrown, w'' = grow (redrawn w p.d) p.os := regrown_same (h _)
/-- The same for a contract that holds of worlds grown out of a first one. -/
theorem Calls.regrE {P : Program} {f : FuncId} {args : Array Value} {v : Value} {w0 : World} (h : ∀ W, Ext w0 W → Calls P f args W fun e w' => e = .returned v ∧ Ext W w') {w : World} (he : Ext w0 w) (d : Nat) (os : Array Obj) :
  Calls P f args (grow (redrawn w d) os) fun e w'' => e = .returned v ∧ ∃ p : Regrown, w'' = grow (redrawn w p.d) p.os := Calls.regrown_of (h _ (he.trans (below_regrown _ d os)))
open Go.RowKit Go.Sort
theorem okStr : ElemOk Tryz.prog 79 9 EStr.sz 16 := elemOk (z := .string ⟨#[]⟩) Tryz.underlying79 (by kernel_rfl) rfl
theorem str_new' (w : World) (s : ByteArray) (T : TypeId) : ∀ j u, [Value.string s][j]? = some u → (w.alloc (.cells #[.string s] T)).cell? ((⟨w.heap.size, 0, none⟩ : Addr).add j) = some u := cell_one_new _ _ _
theorem Join_any (a : Option Addr) (c : Nat) (xs : List ByteArray) (sep : UInt8) (w : World) (S : Nat → Prop) (hS : ∀ b, S b → b < w.heap.size) (hs : Sl EStr w S a xs) (hne : xs ≠ []) (hc : xs.length ≤ c) (hl : xs.length ≤ 16777216) (hlen : (Lib.join (xs.map (·.data.toList)) [sep]).length ≤ 140737488355328) :
  Calls Tryz.prog 36 #[.slice a xs.length c, .string ⟨#[sep]⟩] w fun e w' => e = .returned (.string ⟨(Lib.join (xs.map (·.data.toList)) [sep]).toArray⟩) ∧ Ext w w' := by
 rcases hs with hs | ⟨b, off, rfl, hb, hs⟩
 ·exact absurd hs hne
 ·refine Tryz.strings_Join b off c xs ⟨#[sep]⟩ w (fun j x hx => ?_) (hS b hb) (by omega) hc hlen
  obtain ⟨cs, ⟨rfl, _⟩, hcell⟩ := hs j x hx
  have := hcell 0 _ rfl
  simpa [EStr, Enc.flat] using this
theorem ba_sz_app (a b : ByteArray) : (a ++ b).size = a.size + b.size := ByteArray.size_append
end
section
open Go.RowKit Go.Sort
set_option linter.unusedVariables false
/-- The library's table of zeros' counts, at the place that 16 asks. -/
def Deb (w : World) : Prop := w.cell? ⟨8, 15, none⟩ = some (.int .u8 4)
theorem Deb.ext {w w' : World} (h : Deb w) (he : Ext w w') : Deb w' := he.cell h
set_option maxRecDepth 20000 in
theorem TZ64_16 (w : World) (hD : Deb w) : Calls Tryz.prog 194 #[.int .u64 16] w fun e w' => e = .returned (.int .i64 4) ∧ w = w' := by
 unfold Deb at hD
 have e1 : IntKind.u64.wrap (bits BinOp.and IntKind.u64 16 (IntKind.u64.wrap (-16)) * 285870213051353865) / 288230376151711744 = 15 := by decide +kernel
 go_enter Tryz.func194, Tryz.ntmps194
 go_wp2
 go_ret
 exact ⟨rfl, rfl⟩
set_option maxRecDepth 20000 in
theorem TZ_16 (w : World) (hD : Deb w) : Calls Tryz.prog 181 #[.int .u64 16] w fun e w' => e = .returned (.int .i64 4) ∧ w = w' := by
 have q := TZ64_16 w hD
 replace q := hide q
 go_enter Tryz.func181, Tryz.ntmps181
 go_wp2_with fail
 refine q.out.mono ?_
 rintro e w1 ⟨rfl, rfl⟩
 go_wp2
 go_ret
 exact ⟨rfl, rfl⟩
set_option maxRecDepth 20000 in
theorem Pow2_16 (w : World) : Calls Tryz.prog 180 #[.int .i64 16] w fun e w' => e = .returned (.bool true) ∧ w = w' := by
 go_enter Tryz.func180, Tryz.ntmps180
 go_wp2
 go_ret
 exact ⟨rfl, rfl⟩
def cB (L : List UInt8) : Array Value := (L.map fun b => Value.int .u8 (b.toNat : Int)).toArray
theorem cB_set (L : List UInt8) (i : Nat) (b : UInt8) : (cB L).setIfInBounds i (.int .u8 (b.toNat : Int)) = cB (L.set i b) := by
 unfold cB
 simp [List.map_set]
theorem cB_at (L : List UInt8) (i : Nat) (h : i < L.length) : (cB L)[i]? = some (.int .u8 (L[i].toNat : Int)) := by
 unfold cB
 simp [h]
def digS36 : ByteArray := ⟨#[48, 49, 50, 51, 52, 53, 54, 55, 56, 57, 97, 98, 99, 100, 101, 102, 103, 104, 105, 106, 107, 108, 109, 110, 111, 112, 113, 114, 115, 116, 117, 118, 119, 120, 121, 122]⟩
theorem dig_at : ∀ d : Fin 16, (digS36.data[d.val]'(by have := d.isLt; show _ < 36; omega)) = dgt d.val := by decide +kernel
theorem dig_index (d : Nat) (h : d < 16) (W : World) : (Instr.index 9 (.string digS36) (.int .u64 (d : Int))).run Tryz.prog W = .ok (.int .u8 ((dgt d).toNat : Int)) W := by
 have h1 := dig_at ⟨d, h⟩
 have h2 : d < digS36.size := by show d < 36; omega
 simp only [] at h1
 go_simp
 exact congrArg (fun b : UInt8 => (b.toNat : Int)) h1
theorem and_15 (u : Nat) (h : u < 65536) : bits .and .u64 (u : Int) 15 = ((u % 16 : Nat) : Int) := by
 have := (bits_nat .u64 16 (by decide) (fun n h1 h2 => by rw [IntKind.wrap_u64]; have : n < 65536 := h2; omega) u 15 h (by decide)).1
 rw [show (15 : Nat) = 2 ^ 4 - 1 by decide, Nat.and_two_pow_sub_one_eq_mod] at this
 exact this
set_option maxRecDepth 20000 in
theorem FB16 (u0 : Nat) (h0 : u0 < 65536) (w : World) (hD : Deb w) :
  Calls Tryz.prog 160 #[.slice none 0 0, .int .u64 (u0 : Int), .int .i64 16, .bool false, .bool false] w fun e w' => e = .returned (.tuple #[.slice none 0 0, .string ⟨(digS 16 u0).toArray⟩]) ∧ Ext w w' := by
 have q1 := fun W => Pow2_16 W
 have q2 := fun W hD => TZ_16 W hD
 replace q1 := hide q1
 replace q2 := hide q2
 replace hD := hide hD
 replace h0 := hide h0
 go_enter Tryz.func160, Tryz.ntmps160
 have hA : Blk (w.alloc (Obj.cells Tryz.zeroCells232 232)) w.heap.size 232 (cB (List.replicate 65 0)) := by
  rw [show cB (List.replicate 65 0) = Tryz.zeroCells232 by kernel_rfl]
  exact Blk.new _ _ _
 have hE : Ext w (w.alloc (Obj.cells Tryz.zeroCells232 232)) := (Ext.refl w).alloc _
 generalize hg : w.heap.size = g at hA
 have hgw : w.heap.size ≤ g := Nat.le_of_eq hg
 generalize hW : w.alloc (Obj.cells Tryz.zeroCells232 232) = W at hA hE
 replace hA := hide hA
 replace hE := hide hE
 replace hgw := hide hgw
 go_wp2_with fail
 refine (q1.out _).mono ?_
 rintro e w1 ⟨rfl, rfl⟩
 clear hW hg
 go_wp2_with fail
 refine (q2.out _ (hD.out.ext hE.out)).mono ?_
 rintro e w1 ⟨rfl, rfl⟩
 go_wp2
 go_loopw [1, 13] (fun v i wr => ∃ (u k : Nat) (L : List UInt8), v = .int .u64 (u : Int) ∧ i = .int .i64 (k : Int) ∧ 62 ≤ k ∧ k ≤ 65 ∧ u < 16 ^ (k - 61) ∧ L.length = 65 ∧ digS 16 u0 = digS 16 u ++ L.drop k ∧ Blk wr g 232 (cB L) ∧ Ext w wr) (fun v _ _ => (intOf v).toNat)
 case atStart => exact ⟨u0, 65, List.replicate 65 0, rfl, rfl, by decide, by decide, h0.out, rfl, by simp, hA.out, hE.out⟩
 case round =>
  clear hA hE
  obtain ⟨u, k, L, rfl, rfl, hk1, hk2, hu, hL, hdig, hA, hE⟩ := hrel
  obtain ⟨k, rfl⟩ : ∃ j, k = j + 1 := ⟨k - 1, by omega⟩
  have hd16 : u % 16 < 16 := Nat.mod_lt _ (by decide)
  have hx := fun W => dig_index (u % 16) hd16 W
  unfold digS36 at hx
  have hand := and_15 u (Nat.lt_of_lt_of_le hu (Nat.pow_le_pow_right (by decide) (show k + 1 - 61 ≤ 4 by omega)))
  have e0 : ((k + 1 : Nat) : Int) - 1 = (k : Int) := by omega
  have hkL : k < L.length := by omega
  have c1 : wr.cell? ⟨g, k, none⟩ = some (.int .u8 (L[k].toNat : Int)) := (hA.cell k).trans (cB_at L k hkL)
  have f1 := fun i => hA.frozen i
  have hA2 := hA.set_ k (.int .u8 ((dgt (u % 16)).toNat : Int))
  rw [cB_set] at hA2
  have hE2 := hE.setCell (p := ⟨g, k, none⟩) hgw.out (.int .u8 ((dgt (u % 16)).toNat : Int))
  have hbk : (k : Int) < 65 := by omega
  have hbk2 : k < 65 := by omega
  have w1 : IntKind.i64.wrap (k : Int) = (k : Int) := by rw [IntKind.wrap_i64]; omega
  by_cases hlt : 16 ≤ u
  ·have b1 : decide ((16 : Int) ≤ (u : Int)) = true := decide_eq_true (by omega)
   have hdig2 : digS 16 u0 = digS 16 (u / 16) ++ (L.set k (dgt (u % 16))).drop k := by
    rw [hdig, digS_big (by decide) hlt, List.append_assoc]
    congr 1
    rw [List.drop_eq_getElem_cons (show k < (L.set k (dgt (u % 16))).length by simp; exact hkL), List.getElem_set_self, List.drop_set_of_lt (by omega)]
    rfl
   have hu2 : u / 16 < 16 ^ (k - 61) := by
    rw [show k + 1 - 61 = (k - 61) + 1 by omega, Nat.pow_succ] at hu
    omega
   have hk62 : 62 ≤ k := by
    rcases Nat.lt_or_ge k 62 with h | h
    ·obtain rfl : k = 61 := by omega
     simp at hu; omega
    ·exact h
   have hsh : (u : Int) / 16 = ((u / 16 : Nat) : Int) := rfl
   generalize hvv : u / 16 = v at hsh hdig2 hu2
   have hvlt : v < u := by omega
   replace hvlt := hide hvlt
   replace hvv := hide hvv
   generalize u % 16 = d at hx hand hd16 hA2 hE2 hdig2
   generalize hdg : dgt d = c at hx hA2 hE2 hdig2
   replace hu := hide hu
   replace hdig := hide hdig
   replace hA := hide hA
   replace hE := hide hE
   replace hA2 := hide hA2
   replace hE2 := hide hE2
   replace hdig2 := hide hdig2
   replace hu2 := hide hu2
   replace hdg := hide hdg
   go_wp2
   exact ⟨⟨v, k, L.set k c, rfl, rfl, hk62, by omega, hu2.out, by simp [hL], hdig2.out, hA2.out, hE2.out⟩, by simp [intOf]; exact hvlt.out⟩
  ·have b1 : decide ((16 : Int) ≤ (u : Int)) = false := decide_eq_false (by omega)
   have hue : u % 16 = u := Nat.mod_eq_of_lt (by omega)
   rw [hue] at hx hA2 hE2
   clear hand hue
   have hdig2 : digS 16 u0 = (L.set k (dgt u)).drop k := by
    rw [hdig, digS_small (by omega), List.drop_eq_getElem_cons (show k < (L.set k (dgt u)).length by simp; exact hkL), List.getElem_set_self, List.drop_set_of_lt (by omega)]
    rfl
   have hal : Tryz.prog.arrayLen 232 = 65 := by simp [Program.arrayLen, Tryz.underlying232]
   have hlen : ((L.set k (dgt u)).drop k).length = 65 - k := by simp [hL]
   have hsl : ∀ W, (Instr.sliceAt 232 (.pointer (some ⟨g, 0, none⟩)) (some (.int .i64 (k : Int))) none none).run Tryz.prog W = .ok (.slice (some ⟨g, k, none⟩) (65 - k) (65 - k)) W := fun W => by
    rw [run_sliceAt_array_l W 232 ⟨g, 0, none⟩ (by simp [Program.arrayLen, Program.elem, Tryz.underlying232]) .i64 (k : Int) (by omega) (by rw [hal]; omega)]
    go_simp
    omega
   generalize hV : wr.setCell ⟨g, k, none⟩ (.int .u8 ((dgt u).toNat : Int)) = V at hA2 hE2
   have hcv : (convert 148 9 (.slice (some ⟨g, k, none⟩) (65 - k) (65 - k))).run Tryz.prog V = .ok (.string ⟨(digS 16 u0).toArray⟩) V := by
    have h := run_convert_bytes_back (P := Tryz.prog) V 148 9 5 ⟨g, k, none⟩ (65 - k) ((L.set k (dgt u)).drop k) Tryz.underlying148 Tryz.underlying5 Tryz.underlying9 (fun j hj => by
     rw [add_lit, hA2.cell, cB_at _ _ (by rw [hlen] at hj; simp [hL]; omega)]
     congr 4
     rw [List.getElem_drop])
    rw [hlen, ← hdig2] at h
    exact h
   generalize 65 - k = N at hsl hcv
   replace hdig := hide hdig
   replace hA := hide hA
   replace hE := hide hE
   replace hA2 := hide hA2
   replace hE2 := hide hE2
   replace hdig2 := hide hdig2
   replace hlen := hide hlen
   replace hu := hide hu
   clear hal
   go_wp2
   go_ret2
   exact ⟨rfl, hE2.out⟩
set_option maxRecDepth 20000 in
theorem IFormat16 (u : Nat) (h : u < 65536) (w : World) (hD : Deb w) :
  Calls Tryz.prog 128 #[.int .u64 (u : Int), .int .i64 16] w fun e w' => e = .returned (.string ⟨(digS 16 u).toArray⟩) ∧ Ext w w' := by
 have q := FB16 u h w hD
 generalize digS 16 u = r at q ⊢
 replace q := hide q
 replace h := hide h
 replace hD := hide hD
 go_enter Tryz.func128, Tryz.ntmps128
 go_wp2_with fail
 refine q.out.mono ?_
 rintro e w1 ⟨rfl, he⟩
 replace he := hide he
 go_wp2
 go_ret
 exact ⟨rfl, he.out⟩
set_option maxRecDepth 20000 in
theorem Format16 (u : Nat) (h : u < 65536) (w : World) (hD : Deb w) :
  Calls Tryz.prog 87 #[.int .u64 (u : Int), .int .i64 16] w fun e w' => e = .returned (.string ⟨(digS 16 u).toArray⟩) ∧ Ext w w' := by
 have q := IFormat16 u h w hD
 generalize digS 16 u = r at q ⊢
 replace q := hide q
 replace h := hide h
 replace hD := hide hD
 go_enter Tryz.func87, Tryz.ntmps87
 go_wp2_with fail
 refine q.out.mono ?_
 rintro e w1 ⟨rfl, he⟩
 replace he := hide he
 go_wp2
 go_ret
 exact ⟨rfl, he.out⟩
end
section
open Go.RowKit Go.Sort
set_option linter.unusedVariables false
theorem rdN_over {b M : Nat} (h2 : 2 ≤ b) (h16 : b ≤ 16) {s : List UInt8} {k : Nat} (hk : k < s.length) (h : M < vf b (s.take k) * b + dval s[k]) : rdN b M s = none := by
 refine (rdN_none h2 h16).2 fun u hu he => ?_
 have h1 := vf_take (b := b) (by omega) s (k + 1)
 rw [vf_next b s k hk] at h1
 have h3 : vf b s = u := by rw [← he, vf_dig h2 h16]
 omega
theorem rdN_nil {b M : Nat} (h2 : 2 ≤ b) (h16 : b ≤ 16) : rdN b M [] = none := (rdN_none h2 h16).2 fun u _ he => digS_ne b u he
end
section
open Go.RowKit
set_option linter.unusedVariables false
theorem okB8 : ElemOk Tryz.prog 148 5 1 1 := elemOk (z := .int .u8 0) Tryz.underlying148 (by kernel_rfl) rfl
theorem okB8z : Tryz.prog.info? 5 = none ∨ ∀ i, Tryz.prog.info? 5 = some i → i.zero = some (.int .u8 0) := by
 right; intro i hi
 have h : (Tryz.prog.info? 5).map (fun i => i.zero) = some (some (.int .u8 0)) := by kernel_rfl
 rw [hi] at h; simpa using h
end
section
open Go.RowKit Go.Sort
set_option linter.unusedVariables false
/-- What reading a numeral answers: a number, and whether it is one in its own form. -/
def NumP (b M : Nat) (s : List UInt8) (w : World) (e : Ending) (w' : World) : Prop :=
 (∃ z : Int, e = .returned (.tuple #[.int .u64 z, .bool (rdN b M s).isSome]) ∧ ∀ n, rdN b M s = some n → z = (n : Int)) ∧ Ext w w'
/-- What ParseUint answers, as far as that goes: no numeral in its own form is refused. -/
def PuP (b M : Nat) (s : List UInt8) (w : World) (e : Ending) (w' : World) : Prop :=
 Ext w w' ∧ ((∃ u : Nat, u ≤ M ∧ e = .returned (.tuple #[.int .u64 (u : Int), .nilIface]) ∧ ∀ n, rdN b M s = some n → n = u) ∨ (rdN b M s = none ∧ ∃ z T p, e = .returned (.tuple #[.int .u64 z, .iface T p])))
theorem rd_dec {B : Nat} (hB : B ≤ 64) {s : List UInt8} {n : Nat} (h : rdN 10 (2 ^ B - 1) s = some n) : Lib.parseUintB B s = .ok n := by
 obtain ⟨h1, h2⟩ := (rdN_iff (by decide) (by decide)).1 h
 rw [← h2, digS_dec]
 have : 0 < 2 ^ B := Nat.pow_pos (by decide)
 exact pub_dec B hB n (by omega)
theorem PU8_any (s : List UInt8) (w : World) (hV : Vars w) (hs : s.length ≤ 1048576) :
  Calls Tryz.prog 137 #[.string ⟨s.toArray⟩, .int .i64 10, .int .i64 8] w (PuP 10 255 s w) := by
 obtain ⟨t1, p1, h1⟩ := hV.es
 obtain ⟨t2, p2, h2⟩ := hV.er
 have hz : (ByteArray.mk s.toArray).size = s.length := ba_size s
 have hrd := fun n => rd_dec (B := 8) (s := s) (n := n) (by decide)
 rcases hp : Lib.parseUintB 8 s with u | _ | _
 ·rw [hp] at hrd
  refine (PU8_ok s u w hs hp).mono ?_
  rintro e w' ⟨rfl, hw⟩
  exact ⟨hw, .inl ⟨u, Lib.parseUintB_le hp, rfl, fun n hn => by have := hrd n hn; injection this with this; exact this.symm⟩⟩
 ·rw [hp] at hrd
  refine (Any.strconv_ParseUint_10_at8_syntax Tryz.laysPu14 ⟨s.toArray⟩ (by omega) hp _ w h1 (.inr ⟨_, _, rfl⟩)).mono ?_
  rintro e w' ⟨N, rfl, _, _, hb⟩
  refine ⟨hb, .inr ⟨?_, _, _, _, rfl⟩⟩
  cases hr : rdN 10 255 s with
  | none => rfl
  | some n => cases hrd n hr
 ·rw [hp] at hrd
  refine (Any.strconv_ParseUint_10_at8_range Tryz.laysPu14 ⟨s.toArray⟩ (by omega) hp _ w h2 (.inr ⟨_, _, rfl⟩)).mono ?_
  rintro e w' ⟨N, rfl, _, _, hb⟩
  refine ⟨hb, .inr ⟨?_, _, _, _, rfl⟩⟩
  cases hr : rdN 10 255 s with
  | none => rfl
  | some n => cases hrd n hr
/- prim.number: ParseUint, and told again. -/
set_option maxRecDepth 20000 in
theorem number_of (b M : Nat) (bits : Int) (h2 : 2 ≤ b) (h16 : b ≤ 16) (s : List UInt8) (w : World)
    (hpu : ∀ W, Ext w W → Calls Tryz.prog 137 #[.string ⟨s.toArray⟩, .int .i64 (b : Int), .int .i64 bits] W (PuP b M s W))
    (hf : ∀ u : Nat, u ≤ M → ∀ W, Ext w W → Calls Tryz.prog 87 #[.int .u64 (u : Int), .int .i64 (b : Int)] W fun e w' => e = .returned (.string ⟨(digS b u).toArray⟩) ∧ Ext W w') :
    Calls Tryz.prog 139 #[.string ⟨s.toArray⟩, .int .i64 (b : Int), .int .i64 bits] w (NumP b M s w) := by
  have hok : ∀ (u : Nat) (W : World), u ≤ M → (∀ n, rdN b M s = some n → n = u) → Ext w W → NumP b M s w (.returned (.tuple #[.int .u64 (u : Int), .bool (digS b u == s)])) W := by
    intro u W hu hn hE
    refine ⟨⟨(u : Int), ?_, fun n h => by rw [hn n h]⟩, hE⟩
    by_cases he : digS b u = s
    · rw [beq_iff_eq.2 he, (rdN_iff h2 h16).2 ⟨hu, he⟩]; rfl
    · rw [beq_eq_false_iff_ne.2 he]
      cases hr : rdN b M s with
      | none => rfl
      | some n =>
        have h1 := hn n hr
        subst h1
        exact absurd ((rdN_iff h2 h16).1 hr).2 he
  have hbad : ∀ (z : Int) (W : World), rdN b M s = none → Ext w W → NumP b M s w (.returned (.tuple #[.int .u64 z, .bool false])) W := by
    intro z W hn hE
    exact ⟨⟨z, by rw [hn]; rfl, fun n h => by rw [hn] at h; cases h⟩, hE⟩
  replace hok := hide hok
  replace hbad := hide hbad
  replace hpu := hide hpu
  replace hf := hide hf
  go_enter Tryz.func139, Tryz.ntmps139
  go_wp2_with fail
  refine (hpu.out _ (Ext.refl _)).mono ?_
  rintro e w1 ⟨he, ⟨u, hu, rfl, hn⟩ | ⟨hn, z, T, p, rfl⟩⟩
  · have hq := fun W h => hf.out u hu W h
    have hr := fun W h => hok.out u W hu hn h
    generalize digS b u = d at hq hr
    replace hq := hide hq
    replace hr := hide hr
    replace hn := hide hn
    replace hu := hide hu
    replace he := hide he
    go_wp2_with fail
    refine (hq.out _ he.out).mono ?_
    rintro e w2 ⟨rfl, he2⟩
    replace he2 := hide (he.out.trans he2)
    go_wp2
    go_ret2
    exact hr.out _ he2.out
  · have hr := fun W h => hbad.out z W hn h
    replace hr := hide hr
    replace hn := hide hn
    replace he := hide he
    go_wp2
    go_ret2
    exact hr.out _ he.out
theorem number10_8 (s : List UInt8) (w : World) (hT : Tab w) (hV : Vars w) (hs : s.length ≤ 1048576) :
  Calls Tryz.prog 139 #[.string ⟨s.toArray⟩, .int .i64 10, .int .i64 8] w (NumP 10 255 s w) :=
 number_of 10 255 8 (by decide) (by decide) s w (fun W h => PU8_any s W (hV.ext h) hs) fun u hu W h => (FormatUint_any u (by omega) W (hT.ext h)).mono fun e w' q => ⟨by rw [q.1]; unfold dec; rw [digS_dec], q.2⟩
open Go.RowKit Go.Sort
theorem low_hex : ∀ c : Fin 256, 97 ≤ c.val → c.val ≤ 102 → c.val ||| 32 = c.val := by decide +kernel
theorem low_small : ∀ c : Fin 256, c.val < 48 → c.val ||| 32 < 97 := by decide +kernel
theorem low_lt : ∀ c : Fin 256, c.val ||| 32 < 256 := by decide +kernel
set_option maxRecDepth 20000 in
theorem Lower_any (c : UInt8) (w : World) : Calls Tryz.prog 187 #[.int .u8 (c.toNat : Int)] w fun e w' => e = .returned (.int .u8 ((c.toNat ||| 32 : Nat) : Int)) ∧ w = w' := by
 have hor : bits .or .u8 (c.toNat : Int) 32 = ((c.toNat ||| 32 : Nat) : Int) := u8_or_nat _ 32 c.toNat_lt (by decide)
 generalize c.toNat ||| 32 = L at hor ⊢
 go_enter Tryz.func187, Tryz.ntmps187
 go_wp2
 go_ret
 exact ⟨rfl, rfl⟩
/-- What the walk needs of one byte: where it goes on, and that a numeral in its own form goes on with its own digit. -/
theorem hex_char {M m : Nat} {s : List UInt8} (h : rdN 16 M s = some m) {k : Nat} (hk : k < s.length) : (48 ≤ s[k].toNat ∧ s[k].toNat ≤ 57 ∧ dval s[k] = s[k].toNat - 48) ∨ (97 ≤ s[k].toNat ∧ s[k].toNat ≤ 102 ∧ s[k].toNat ||| 32 = s[k].toNat ∧ dval s[k] = s[k].toNat - 87) := by
 obtain ⟨_, he⟩ := (rdN_iff (by decide) (by decide)).1 h
 obtain ⟨d, hd, hc⟩ := digS_mem (b := 16) (by decide) (by decide) m s[k] (by rw [he]; exact List.getElem_mem hk)
 have h1 := dgt_toNat (show d < 16 from hd)
 have h2 := dval_dgt (show d < 16 from hd)
 rw [← hc] at h1 h2
 by_cases h10 : d < 10
 ·rw [if_pos h10] at h1
  exact .inl ⟨by omega, by omega, by omega⟩
 ·rw [if_neg h10] at h1
  refine .inr ⟨by omega, by omega, ?_, by omega⟩
  exact low_hex ⟨s[k].toNat, s[k].toNat_lt⟩ (by show 97 ≤ s[k].toNat; omega) (by show s[k].toNat ≤ 102; omega)
/-- What the inner ParseUint answers. -/
def IpP (M : Nat) (s : List UInt8) (w : World) (e : Ending) (w' : World) : Prop :=
 Ext w w' ∧ ((∃ u : Nat, u ≤ M ∧ e = .returned (.tuple #[.int .u64 (u : Int), .nilIface]) ∧ ∀ n, rdN 16 M s = some n → n = u) ∨ (rdN 16 M s = none ∧ ∃ z k, (k = 1 ∨ k = 2) ∧ e = .returned (.tuple #[.int .u64 z, .iface 234 (.int .i64 k)])))
set_option maxRecDepth 20000 in
set_option maxHeartbeats 4000000 in
theorem IPu16 (s : List UInt8) (hs : s.length ≤ 1048576) (w : World) :
  Calls Tryz.prog 167 #[.string ⟨s.toArray⟩, .int .i64 16, .int .i64 16] w (IpP 65535 s w) := by
 have hbad : ∀ (z k : Int) (W : World), rdN 16 65535 s = none → (k = 1 ∨ k = 2) → Ext w W → IpP 65535 s w (.returned (.tuple #[.int .u64 z, .iface 234 (.int .i64 k)])) W := fun z k W h1 h2 h3 => ⟨h3, .inr ⟨h1, z, k, h2, rfl⟩⟩
 have hz : (ByteArray.mk s.toArray).size = s.length := ba_size s
 by_cases hl0 : s.length = 0
 ·have hn : rdN 16 65535 s = none := by rw [List.eq_nil_of_length_eq_zero hl0]; exact rdN_nil (by decide) (by decide)
  have e0 : s = [] := List.eq_nil_of_length_eq_zero hl0
  subst e0
  replace hbad := hide hbad
  replace hn := hide hn
  go_enter Tryz.func167, Tryz.ntmps167
  go_wp2
  go_ret2
  exact hbad.out 0 2 _ hn.out (.inr rfl) (Ext.refl _)
 have kc := fun (w : World) => Lib.run_convert_string_bytes (P := Tryz.prog) w 9 148 5 ⟨s.toArray⟩ Tryz.underlying9 Tryz.underlying148 Tryz.underlying5
 have hne : s.isEmpty = false := by cases s with | nil => exact absurd rfl hl0 | cons _ _ => rfl
 replace hbad := hide hbad
 go_enter Tryz.func167, Tryz.ntmps167
 go_wp2
 have hcv := OwnB.conv (w := w) (e := 5) ⟨s.toArray⟩ (by unfold maxLen; omega)
 have hEc := ext_bytesWorld w 5 ⟨s.toArray⟩
 rw [hz] at hcv
 generalize hc : grownCap w s.length 0 5 = cp at hcv ⊢
 generalize hW : Lib.bytesWorld w 5 ⟨s.toArray⟩ = W1 at hcv hEc
 replace hc := hide hc
 clear kc
 replace hcv := hide hcv
 replace hEc := hide hEc
 replace hz := hide hz
 go_loop [12, 13, 101] (fun b n i => ∃ (k v : Nat), b = .bool false ∧ k ≤ s.length ∧ i = .int .i64 (k : Int) ∧ n = .int .u64 (v : Int) ∧ v ≤ 65535 ∧ ∀ m, rdN 16 65535 s = some m → v = vf 16 (s.take k)) (fun _ _ i => s.length - (intOf i).toNat)
 case atStart => exact ⟨0, 0, rfl, Nat.zero_le _, rfl, rfl, by decide, fun m _ => by rw [List.take_zero]; rfl⟩
 case round =>
  obtain ⟨k, v, rfl, hk, rfl, rfl, hv, hvf⟩ := hrel
  by_cases hlt : k < s.length
  ·obtain ⟨x1, f1⟩ := hcv.out.cell rfl k (by simpa using hlt)
   replace x1 : W1.cell? ⟨w.heap.size, k, none⟩ = some (.int .u8 (s[k].toNat : Int)) := by simpa using x1
   clear f1
   have hch := fun m h => hex_char (M := 65535) (m := m) h hlt
   have hov := fun h => rdN_over (b := 16) (M := 65535) (by decide) (by decide) hlt h
   have hnx := vf_next 16 s k hlt
   have hl1 : s[k].toNat < 48 → s[k].toNat ||| 32 < 97 := fun h => low_small ⟨s[k].toNat, s[k].toNat_lt⟩ h
   have hl2 := low_lt ⟨s[k].toNat, s[k].toNat_lt⟩
   have ql := fun W => Lower_any s[k] W
   have h95 : s[k].toNat = 95 → s[k].toNat ||| 32 = 127 := fun h => by rw [h]; rfl
   simp only [] at hl1 hl2
   have hclt := s[k].toNat_lt
   generalize dval s[k] = dv at hch hov hnx
   generalize s[k].toNat ||| 32 = L at hch hl1 hl2 ql h95
   generalize s[k] = c at x1 hch hl1 ql h95 hclt
   have hcls : (c.toNat < 48 ∧ L < 97) ∨ (48 ≤ c.toNat ∧ c.toNat ≤ 57) ∨ (57 < c.toNat ∧ L < 97) ∨ (57 < c.toNat ∧ 122 < L ∧ c.toNat = 95) ∨ (57 < c.toNat ∧ 122 < L ∧ c.toNat ≠ 95) ∨ (57 < c.toNat ∧ 97 ≤ L ∧ L ≤ 122) := by
    by_cases h1 : c.toNat < 48
    ·exact .inl ⟨h1, hl1 h1⟩
    ·omega
   have hbig : True → decide ((1152921504606846976 : Int) ≤ (v : Int)) = false := fun _ => decide_eq_false (by omega)
   have wv : IntKind.u64.wrap ((v : Int) * 16) = ((v * 16 : Nat) : Int) := by rw [IntKind.wrap_u64]; omega
   have hmul : (v : Int) * 16 = ((v * 16 : Nat) : Int) := by omega
   generalize hvv : v * 16 = vb at wv hmul
   replace hl1 := hide hl1
   replace ql := hide ql
   rcases hcls with ⟨h1, h2⟩ | ⟨h1, h2⟩ | ⟨h1, h2⟩ | ⟨h1, h2, h3⟩ | ⟨h1, h2, h3⟩ | ⟨h1, h2, h3⟩
   ·-- below the digits
    have hn : rdN 16 65535 s = none := by
     cases hr : rdN 16 65535 s with
     | none => rfl
     | some m => rcases hch m hr with h | h <;> omega
    have k1 : decide ((48 : Int) ≤ (c.toNat : Int)) = false := decide_eq_false (by omega)
    have k3 : decide ((97 : Int) ≤ (L : Int)) = false := decide_eq_false (by omega)
    have e95 : ((c.toNat : Int) == 95) = false := by rw [beq_eq_false_iff_ne]; omega
    clear hch hov hnx hvf hvv hmul
    replace hn := hide hn
    replace hv := hide hv
    replace h1 := hide h1
    replace h2 := hide h2
    replace hclt := hide hclt
    replace hl2 := hide hl2
    replace hlt := hlt
    go_wp2_with fail
    refine (ql.out _).mono ?_
    rintro e w_ ⟨rfl, rfl⟩
    go_wp2
    go_ret2
    exact hbad.out _ 2 _ hn.out (.inr rfl) hEc.out
   ·-- a digit
    have k1 : decide ((48 : Int) ≤ (c.toNat : Int)) = true := decide_eq_true (by omega)
    have k2 : decide ((c.toNat : Int) ≤ (57 : Int)) = true := decide_eq_true (by omega)
    have e95 : ((c.toNat : Int) == 95) = false := by rw [beq_eq_false_iff_ne]; omega
    obtain ⟨d, hd⟩ : ∃ d : Nat, c.toNat = d + 48 := ⟨c.toNat - 48, by omega⟩
    have v1 : IntKind.u8.wrap ((c.toNat : Int) - 48) = (d : Int) := by rw [IntKind.wrap_u8]; omega
    have hdv : ∀ m, rdN 16 65535 s = some m → dv = d := fun m h => by rcases hch m h with h | h <;> omega
    have d16 : d < 16 := by omega
    have k5 : decide ((16 : Int) ≤ (d : Int)) = false := decide_eq_false (by omega)
    have wd : IntKind.u64.wrap (d : Int) = (d : Int) := by rw [IntKind.wrap_u64]; omega
    have ws : IntKind.u64.wrap ((vb : Int) + (d : Int)) = ((vb + d : Nat) : Int) := by rw [IntKind.wrap_u64]; omega
    have k6 : decide (((vb + d : Nat) : Int) < (vb : Int)) = false := decide_eq_false (by omega)
    have hnx2 : ∀ m, rdN 16 65535 s = some m → vb + d = vf 16 (s.take (k + 1)) := fun m h => by rw [hnx, ← hvf m h, hdv m h]; omega
    by_cases hover : 65535 < vb + d
    ·have hn : rdN 16 65535 s = none := by
      cases hr : rdN 16 65535 s with
      | none => rfl
      | some m => rw [hov (by rw [← hvf m hr, hdv m hr]; omega)] at hr; cases hr
     have k7 : decide ((65535 : Int) < ((vb + d : Nat) : Int)) = true := decide_eq_true (by omega)
     generalize hvs : vb + d = vs at ws k6 k7
     have hvb : vb ≤ vs := by omega
     clear hch hov hnx hnx2 hvf hvv hmul hdv hvs hover
     replace hn := hide hn
     replace hv := hide hv
     replace h1 := hide h1
     replace h2 := hide h2
     replace hclt := hide hclt
     replace hl2 := hide hl2
     replace hd := hide hd
     go_wp2
     go_ret2
     exact hbad.out _ 1 _ hn.out (.inl rfl) hEc.out
    ·have k7 : decide ((65535 : Int) < ((vb + d : Nat) : Int)) = false := decide_eq_false (by omega)
     have hle : vb + d ≤ 65535 := by omega
     generalize hvs : vb + d = vs at ws k6 k7 hle hnx2
     have hvb : vb ≤ vs := by omega
     clear hch hov hnx hvf hvv hmul hdv hvs hover
     replace hnx2 := hide hnx2
     replace hle := hide hle
     replace hv := hide hv
     replace h1 := hide h1
     replace h2 := hide h2
     replace hclt := hide hclt
     replace hl2 := hide hl2
     replace hd := hide hd
     go_wp2
     go_round
     case rel => exact ⟨k + 1, vs, rfl, by omega, by go_num, rfl, hle.out, hnx2.out⟩
     case measure => simp [intOf]; omega
   ·-- between
    have hn : rdN 16 65535 s = none := by
     cases hr : rdN 16 65535 s with
     | none => rfl
     | some m => rcases hch m hr with h | h <;> omega
    have k1 : decide ((48 : Int) ≤ (c.toNat : Int)) = true := decide_eq_true (by omega)
    have k2 : decide ((c.toNat : Int) ≤ (57 : Int)) = false := decide_eq_false (by omega)
    have k3 : decide ((97 : Int) ≤ (L : Int)) = false := decide_eq_false (by omega)
    have e95 : ((c.toNat : Int) == 95) = false := by rw [beq_eq_false_iff_ne]; omega
    clear hch hov hnx hvf hvv hmul
    replace hn := hide hn
    replace hv := hide hv
    replace h1 := hide h1
    replace h2 := hide h2
    replace hclt := hide hclt
    replace hl2 := hide hl2
    replace hlt := hlt
    go_wp2_with fail
    refine (ql.out _).mono ?_
    rintro e w_ ⟨rfl, rfl⟩
    go_wp2
    go_ret2
    exact hbad.out _ 2 _ hn.out (.inr rfl) hEc.out
   ·-- the underscore
    have hn : rdN 16 65535 s = none := by
     cases hr : rdN 16 65535 s with
     | none => rfl
     | some m => rcases hch m hr with h | h <;> omega
    have k1 : decide ((48 : Int) ≤ (c.toNat : Int)) = true := decide_eq_true (by omega)
    have k2 : decide ((c.toNat : Int) ≤ (57 : Int)) = false := decide_eq_false (by omega)
    have k3 : decide ((97 : Int) ≤ (L : Int)) = true := decide_eq_true (by omega)
    have k4 : decide ((L : Int) ≤ (122 : Int)) = false := decide_eq_false (by omega)
    have e95 : ((c.toNat : Int) == 95) = true := by rw [beq_iff_eq]; omega
    have q95 : ∀ W, Calls Tryz.prog 187 #[.int .u8 95] W fun e w' => e = .returned (.int .u8 127) ∧ W = w' := fun W => by
     have h := ql.out W
     rw [h3, h95 h3] at h
     exact h
    clear k3 k4
    replace q95 := hide q95
    clear hch hov hnx hvf hvv hmul
    replace hn := hide hn
    replace hv := hide hv
    replace h1 := hide h1
    replace h2 := hide h2
    replace hclt := hide hclt
    replace hl2 := hide hl2
    replace hlt := hlt
    go_wp2_with fail
    refine (q95.out _).mono ?_
    rintro e w_ ⟨rfl, rfl⟩
    go_wp2_with fail
    refine (q95.out _).mono ?_
    rintro e w_ ⟨rfl, rfl⟩
    go_wp2
    go_ret2
    exact hbad.out _ 2 _ hn.out (.inr rfl) hEc.out
   ·-- behind
    have hn : rdN 16 65535 s = none := by
     cases hr : rdN 16 65535 s with
     | none => rfl
     | some m => rcases hch m hr with h | h <;> omega
    have k1 : decide ((48 : Int) ≤ (c.toNat : Int)) = true := decide_eq_true (by omega)
    have k2 : decide ((c.toNat : Int) ≤ (57 : Int)) = false := decide_eq_false (by omega)
    have k3 : decide ((97 : Int) ≤ (L : Int)) = true := decide_eq_true (by omega)
    have k4 : decide ((L : Int) ≤ (122 : Int)) = false := decide_eq_false (by omega)
    have e95 : ((c.toNat : Int) == 95) = false := by rw [beq_eq_false_iff_ne]; omega
    clear hch hov hnx hvf hvv hmul
    replace hn := hide hn
    replace hv := hide hv
    replace h1 := hide h1
    replace h2 := hide h2
    replace hclt := hide hclt
    replace hl2 := hide hl2
    replace hlt := hlt
    go_wp2_with fail
    refine (ql.out _).mono ?_
    rintro e w_ ⟨rfl, rfl⟩
    go_wp2_with fail
    refine (ql.out _).mono ?_
    rintro e w_ ⟨rfl, rfl⟩
    go_wp2
    go_ret2
    exact hbad.out _ 2 _ hn.out (.inr rfl) hEc.out
   ·-- a letter
    have k1 : decide ((48 : Int) ≤ (c.toNat : Int)) = true := decide_eq_true (by omega)
    have k2 : decide ((c.toNat : Int) ≤ (57 : Int)) = false := decide_eq_false (by omega)
    have k3 : decide ((97 : Int) ≤ (L : Int)) = true := decide_eq_true (by omega)
    have k4 : decide ((L : Int) ≤ (122 : Int)) = true := decide_eq_true (by omega)
    have e95 : ((c.toNat : Int) == 95) = false := by rw [beq_eq_false_iff_ne]; omega
    obtain ⟨ee, hee⟩ : ∃ d : Nat, L = d + 97 := ⟨L - 97, by omega⟩
    obtain ⟨d, hd⟩ : ∃ d : Nat, d = ee + 10 := ⟨_, rfl⟩
    have v1 : IntKind.u8.wrap ((L : Int) - 97) = (ee : Int) := by rw [IntKind.wrap_u8]; omega
    have v2 : IntKind.u8.wrap ((ee : Int) + 10) = (d : Int) := by rw [IntKind.wrap_u8]; omega
    have hdv : ∀ m, rdN 16 65535 s = some m → dv = d := fun m h => by rcases hch m h with h | h <;> omega
    by_cases d16 : d < 16
    ·skip
     have k5 : decide ((16 : Int) ≤ (d : Int)) = false := decide_eq_false (by omega)
     have wd : IntKind.u64.wrap (d : Int) = (d : Int) := by rw [IntKind.wrap_u64]; omega
     have ws : IntKind.u64.wrap ((vb : Int) + (d : Int)) = ((vb + d : Nat) : Int) := by rw [IntKind.wrap_u64]; omega
     have k6 : decide (((vb + d : Nat) : Int) < (vb : Int)) = false := decide_eq_false (by omega)
     have hnx2 : ∀ m, rdN 16 65535 s = some m → vb + d = vf 16 (s.take (k + 1)) := fun m h => by rw [hnx, ← hvf m h, hdv m h]; omega
     by_cases hover : 65535 < vb + d
     ·have hn : rdN 16 65535 s = none := by
       cases hr : rdN 16 65535 s with
       | none => rfl
       | some m => rw [hov (by rw [← hvf m hr, hdv m hr]; omega)] at hr; cases hr
      have k7 : decide ((65535 : Int) < ((vb + d : Nat) : Int)) = true := decide_eq_true (by omega)
      generalize hvs : vb + d = vs at ws k6 k7
      have hvb : vb ≤ vs := by omega
      clear hch hov hnx hnx2 hvf hvv hmul hdv hvs hover
      replace hn := hide hn
      replace hv := hide hv
      replace h1 := hide h1
      replace h2 := hide h2
      replace hclt := hide hclt
      replace hl2 := hide hl2
      replace hd := hide hd
      go_wp2_with fail
      refine (ql.out _).mono ?_
      rintro e w_ ⟨rfl, rfl⟩
      go_wp2_with fail
      refine (ql.out _).mono ?_
      rintro e w_ ⟨rfl, rfl⟩
      go_wp2_with fail
      refine (ql.out _).mono ?_
      rintro e w_ ⟨rfl, rfl⟩
      go_wp2
      go_ret2
      exact hbad.out _ 1 _ hn.out (.inl rfl) hEc.out
     ·have k7 : decide ((65535 : Int) < ((vb + d : Nat) : Int)) = false := decide_eq_false (by omega)
      have hle : vb + d ≤ 65535 := by omega
      generalize hvs : vb + d = vs at ws k6 k7 hle hnx2
      have hvb : vb ≤ vs := by omega
      clear hch hov hnx hvf hvv hmul hdv hvs hover
      replace hnx2 := hide hnx2
      replace hle := hide hle
      replace hv := hide hv
      replace h1 := hide h1
      replace h2 := hide h2
      replace hclt := hide hclt
      replace hl2 := hide hl2
      replace hd := hide hd
      go_wp2_with fail
      refine (ql.out _).mono ?_
      rintro e w_ ⟨rfl, rfl⟩
      go_wp2_with fail
      refine (ql.out _).mono ?_
      rintro e w_ ⟨rfl, rfl⟩
      go_wp2_with fail
      refine (ql.out _).mono ?_
      rintro e w_ ⟨rfl, rfl⟩
      go_wp2
      go_round
      case rel => exact ⟨k + 1, vs, rfl, by omega, by go_num, rfl, hle.out, hnx2.out⟩
      case measure => simp [intOf]; omega
    ·have hn : rdN 16 65535 s = none := by
      cases hr : rdN 16 65535 s with
      | none => rfl
      | some m => rcases hch m hr with h | h <;> omega
     have k5 : decide ((16 : Int) ≤ (d : Int)) = true := decide_eq_true (by omega)
     clear hch hov hnx hvf hvv hmul
     replace hn := hide hn
     replace hv := hide hv
     replace h1 := hide h1
     replace h2 := hide h2
     replace hclt := hide hclt
     replace hl2 := hide hl2
     replace hlt := hlt
     go_wp2_with fail
     refine (ql.out _).mono ?_
     rintro e w_ ⟨rfl, rfl⟩
     go_wp2_with fail
     refine (ql.out _).mono ?_
     rintro e w_ ⟨rfl, rfl⟩
     go_wp2_with fail
     refine (ql.out _).mono ?_
     rintro e w_ ⟨rfl, rfl⟩
     go_wp2
     go_ret2
     exact hbad.out _ 2 _ hn.out (.inr rfl) hEc.out
  ·obtain rfl : k = s.length := by omega
   rw [List.take_of_length_le (Nat.le_refl _)] at hvf
   have hfin : IpP 65535 s w (.returned (.tuple #[.int .u64 (v : Int), .nilIface])) W1 := ⟨hEc.out, .inl ⟨v, hv, rfl, fun n hn => by
    have h1 := hvf n hn
    obtain ⟨_, he⟩ := (rdN_iff (by decide) (by decide)).1 hn
    rw [h1, ← he, vf_dig (by decide) (by decide)]⟩⟩
   replace hfin := hide hfin
   replace hvf := hide hvf
   replace hW := hide hW
   go_wp2
   go_ret2
   exact hfin.out
open Go.RowKit Go.Sort
theorem toErr_syn (s : List UInt8) (hs : s.length ≤ 1048576) (w : World) (hV : Vars w) :
  Calls Tryz.prog 168 #[.string ⟨#[80, 97, 114, 115, 101, 85, 105, 110, 116]⟩, .string ⟨s.toArray⟩, .int .i64 16, .int .i64 16, .iface 234 (.int .i64 2)] w fun e w' => (∃ T p, e = .returned (.iface T p)) ∧ Ext w w' := by
 obtain ⟨t1, p1, h1⟩ := hV.es
 refine (AnyPu.strconv_toError_syntax { Tryz.laysPu14 with } ⟨#[80, 97, 114, 115, 101, 85, 105, 110, 116]⟩ ⟨s.toArray⟩ 16 16 _ w (by rw [ba_size]; omega) h1 (.inr ⟨_, _, rfl⟩)).mono ?_
 rintro e w' ⟨N, rfl, _, _, hb⟩
 exact ⟨⟨_, _, rfl⟩, hb⟩
theorem toErr_rng (s : List UInt8) (hs : s.length ≤ 1048576) (w : World) (hV : Vars w) :
  Calls Tryz.prog 168 #[.string ⟨#[80, 97, 114, 115, 101, 85, 105, 110, 116]⟩, .string ⟨s.toArray⟩, .int .i64 16, .int .i64 16, .iface 234 (.int .i64 1)] w fun e w' => (∃ T p, e = .returned (.iface T p)) ∧ Ext w w' := by
 obtain ⟨t1, p1, h1⟩ := hV.er
 refine (AnyPu.strconv_toError_range { Tryz.laysPu14 with } ⟨#[80, 97, 114, 115, 101, 85, 105, 110, 116]⟩ ⟨s.toArray⟩ 16 16 _ w (by rw [ba_size]; omega) h1 (.inr ⟨_, _, rfl⟩)).mono ?_
 rintro e w' ⟨N, rfl, _, _, hb⟩
 exact ⟨⟨_, _, rfl⟩, hb⟩
set_option maxRecDepth 20000 in
theorem PU16_any (s : List UInt8) (w : World) (hV : Vars w) (hs : s.length ≤ 1048576) :
  Calls Tryz.prog 137 #[.string ⟨s.toArray⟩, .int .i64 16, .int .i64 16] w (PuP 16 65535 s w) := by
 have hok : ∀ (u : Nat) (W : World), u ≤ 65535 → (∀ n, rdN 16 65535 s = some n → n = u) → Ext w W → PuP 16 65535 s w (.returned (.tuple #[.int .u64 (u : Int), .nilIface])) W := fun u W h1 h2 h3 => ⟨h3, .inl ⟨u, h1, rfl, h2⟩⟩
 have hbad : ∀ (z : Int) T p (W : World), rdN 16 65535 s = none → Ext w W → PuP 16 65535 s w (.returned (.tuple #[.int .u64 z, .iface T p])) W := fun z T p W h1 h2 => ⟨h2, .inr ⟨h1, z, T, p, rfl⟩⟩
 have q := fun W => IPu16 s hs W
 have q1 := fun W h => toErr_syn s hs W h
 have q2 := fun W h => toErr_rng s hs W h
 replace q := hide q
 replace q1 := hide q1
 replace q2 := hide q2
 replace hok := hide hok
 replace hbad := hide hbad
 replace hV := hide hV
 replace hs := hide hs
 go_enter Tryz.func137, Tryz.ntmps137
 go_wp2_with fail
 refine (q.out _).mono ?_
 rintro e w1 ⟨he, ⟨u, hu, rfl, hn⟩ | ⟨hn, z, k, hk, rfl⟩⟩
 ·have hr := hok.out u w1 hu hn he
  replace hr := hide hr
  replace hn := hide hn
  replace hu := hide hu
  replace he := hide he
  go_wp2
  go_ret2
  exact hr.out
 ·replace hn := hide hn
  replace he := hide he
  rcases hk with rfl | rfl
  ·go_wp2_with fail
   refine (q2.out _ (hV.out.ext he.out)).mono ?_
   rintro e w2 ⟨⟨T, p, rfl⟩, he2⟩
   have hr := hbad.out z T p w2 hn.out (he.out.trans he2)
   replace hr := hide hr
   clear he2
   go_wp2
   go_ret2
   exact hr.out
  ·go_wp2_with fail
   refine (q1.out _ (hV.out.ext he.out)).mono ?_
   rintro e w2 ⟨⟨T, p, rfl⟩, he2⟩
   have hr := hbad.out z T p w2 hn.out (he.out.trans he2)
   replace hr := hide hr
   clear he2
   go_wp2
   go_ret2
   exact hr.out
theorem number16 (s : List UInt8) (w : World) (hD : Deb w) (hV : Vars w) (hs : s.length ≤ 1048576) :
  Calls Tryz.prog 139 #[.string ⟨s.toArray⟩, .int .i64 16, .int .i64 16] w (NumP 16 65535 s w) :=
 number_of 16 65535 16 (by decide) (by decide) s w (fun W h => PU16_any s W (hV.ext h) hs) fun u hu W h => Format16 u (by omega) W (hD.ext h)
open Go.RowKit Go.Sort
theorem spl_len (c : UInt8) (s : List UInt8) : ∀ x ∈ spl c s, x.length ≤ s.length := by
 refine spl_ind (P := fun s => ∀ x ∈ spl c s, x.length ≤ s.length) c (fun s h x hx => ?_) (fun a b h ih x hx => ?_) s.length s (Nat.le_refl _)
 ·rw [spl_no h] at hx
  rw [List.mem_singleton.1 hx]
  exact Nat.le_refl _
 ·rw [spl_at h] at hx
  rcases List.mem_cons.1 hx with rfl | hx
  ·simp
  ·have := ih x hx
   simp
   omega
theorem unpair_len : ∀ l : List Nat, (l.flatMap unpair).length = 2 * l.length
 | [] => rfl
 | n :: l => by rw [List.flatMap_cons, List.length_append, unpair_len l]; simp [unpair]; omega
theorem byte_new2 (w : World) (b1 b2 : UInt8) (t : TypeId) : ∀ j (hj : j < [b1, b2].length), (w.alloc (.cells #[.int .u8 (b1.toNat : Int), .int .u8 (b2.toNat : Int)] t)).cell? ((⟨w.heap.size, 0, none⟩ : Addr).add j) = some (.int .u8 ([b1, b2][j].toNat : Int)) := by
 intro j hj
 have hj2 : j < 2 := hj
 refine cells_new w #[.int .u8 (b1.toNat : Int), .int .u8 (b2.toNat : Int)] t j _ ?_
 match j, hj2 with
 | 0, _ => rfl
 | 1, _ => rfl
/-- What reading an address answers. -/
def AdP (s : List UInt8) (w : World) (e : Ending) (w' : World) : Prop := e = .returned (.tuple #[.string ⟨(addrC s).1.toArray⟩, .int .i64 (addrC s).2]) ∧ Ext w w'
theorem AdP.of {s a : List UInt8} {c : Int} {w W : World} (h : addrC s = (a, c)) (hE : Ext w W) : AdP s w (.returned (.tuple #[.string ⟨a.toArray⟩, .int .i64 c])) W := ⟨by rw [h], hE⟩
set_option maxRecDepth 20000 in
set_option maxHeartbeats 2000000 in
theorem AAddr4_any (s : List UInt8) (hs : s.length ≤ 1048576) (h4 : (spl 46 s).length = 4) (w : World) (hT : Tab w) (hV : Vars w) :
    Calls Tryz.prog 103 #[.string ⟨s.toArray⟩] w (AdP s w) := by
  have hS := Split_any s 46 w hV hs
  have hnum := fun (x : List UInt8) (hx : x ∈ spl 46 s) W (h : Ext w W) => number10_8 x W (hT.ext h) (hV.ext h) (Nat.le_trans (spl_len 46 s x hx) hs)
  have hC : addrC s = (match rdAll 10 255 (spl 46 s) with | some l => (l.map UInt8.ofNat, 0) | none => ([], 4)) := if_pos h4
  generalize spl 46 s = P at hS hnum hC h4
  replace hS := hide hS
  replace hnum := hide hnum
  replace hC := hide hC
  clear hT hV
  go_enter Tryz.func103, Tryz.ntmps103
  go_wp2_with fail
  refine hS.out.mono ?_
  rintro e w1 ⟨d, hd4, rfl, hEw, hc1⟩
  rw [h4] at hd4
  rw [h4]
  clear hS
  replace hc1 := hide hc1
  replace hEw := hide hEw
  replace hd4 := hd4
  generalize hg1 : w.heap.size = g1 at hc1
  go_wp2_with fail
  clear hg1
  go_loopw [4, 22] (fun v q wr => ∃ (k : Nat) (ns : List Nat), k ≤ 4 ∧ q = .int .i64 (k : Int) ∧ rdAll 10 255 (P.take k) = some ns ∧ ns.length = k ∧ OwnB 5 wr w1.heap.size v (ns.map UInt8.ofNat) ∧ Ext w1 wr) (fun _ q _ => 4 - (intOf q).toNat)
  case atStart => exact ⟨0, [], by omega, rfl, by rw [List.take_zero]; rfl, rfl, OwnB.nil, Ext.refl _⟩
  case round =>
    obtain ⟨k, ns, hk, rfl, hrd, hnl, hown, hE⟩ := hrel
    rename World => W0
    have hz0 := hE.size
    obtain ⟨vo, dd, rfl⟩ := hown.form
    have hlk : (ns.map UInt8.ofNat).length = k := by rw [List.length_map, hnl]
    rw [hlk] at hown ⊢
    replace hlk := hide hlk
    replace hE := hide hE
    replace hown := hide hown
    by_cases hlt : k < 4
    · have hkP : k < P.length := by omega
      have x0 : W0.cell? ⟨g1, k, none⟩ = some (.string ⟨(P[k]'hkP).toArray⟩) := hE.out.cell (hc1.out k hkP)
      have hn := hnum.out (P[k]'hkP) (List.getElem_mem hkP) W0 (hEw.out.trans hE.out)
      have hbad : rdN 10 255 (P[k]'hkP) = none → addrC s = ([], 4) := fun h => by rw [hC.out, rdAll_bad (List.getElem_mem hkP) h]
      have hnx := fun n (h : rdN 10 255 (P[k]'hkP) = some n) => rdAll_next hkP hrd h
      have hmost := fun n (h : rdN 10 255 (P[k]'hkP) = some n) => ((rdN_iff (b := 10) (by decide) (by decide)).1 h).1
      generalize (P[k]'hkP) = wd at x0 hn hbad hnx hmost
      replace hrd := hide hrd
      replace hnl := hide hnl
      cases hr : rdN 10 255 wd with
      | none =>
        have hb := hbad hr
        clear hbad hmost hnx
        replace hb := hide hb
        unfold NumP at hn
        rw [hr] at hn
        replace hn := hide hn
        replace hr := hide hr
        go_wp2_with fail
        refine hn.out.mono ?_
        rintro e w3 ⟨⟨z, rfl, _⟩, he3⟩
        have hE3 := hide (hEw.out.trans (hE.out.trans he3))
        clear he3
        go_wp2
        go_ret2
        exact AdP.of hb.out hE3.out
      | some n =>
        have hm := hmost n hr
        have hnx2 := hnx n hr
        clear hbad hmost hnx
        unfold NumP at hn
        rw [hr] at hn
        replace hn := hide hn
        replace hr := hide hr
        have hw8 : IntKind.u8.wrap (n : Int) = ((UInt8.ofNat n).toNat : Int) := by rw [IntKind.wrap_u8, UInt8.toNat_ofNat']; omega
        have hap : ns.map UInt8.ofNat ++ [UInt8.ofNat n] = (ns ++ [n]).map UInt8.ofNat := by simp
        generalize hu : UInt8.ofNat n = u at hw8 hap
        replace hu := hide hu
        replace hap := hide hap
        replace hnx2 := hide hnx2
        replace hm := hide hm
        go_wp2_with fail
        refine hn.out.mono ?_
        rintro e w3 ⟨⟨z, rfl, hz⟩, he3⟩
        obtain rfl := hz n rfl
        have hown3 := hide (hown.out.ext he3)
        have hE3 := hide (hE.out.trans he3)
        have hz3 := he3.size
        clear he3 hz
        go_wp2_with (at_builtin
                     have hox := hown3.out.alloc (Obj.cells #[.int .u8 (u.toNat : Int)] 5)
                     refine wpList_appendB rfl _ _ _ rfl okB8 okB8z rfl hox (by simp; omega) [u] rfl (by rw [hlk.out]; simp; omega) (byte_new _ _ _) ?_
                     intro v' w5 hown1 hg hat)
        go_roundw
        case rel => exact ⟨k + 1, ns ++ [n], by omega, by go_num, hnx2.out, by simp [hnl.out], by rw [← hap.out]; exact hown1, (hE3.out.alloc _).push (fun j hj => (hown3.out.lt j hj).1) hg⟩
        case measure => simp [intOf]; omega
    · obtain rfl : k = 4 := by omega
      rw [List.take_of_length_le (by omega)] at hrd
      have hfin : addrC s = (ns.map UInt8.ofNat, 0) := by rw [hC.out, hrd]
      have kd := run_stringB (P := Tryz.prog) (src := 148) (dst := 9) Tryz.underlying148 Tryz.underlying5 Tryz.underlying9 hown.out
      replace hfin := hide hfin
      replace hrd := hide hrd
      replace hnl := hide hnl
      go_wp2
      go_ret2
      exact AdP.of hfin.out (hEw.out.trans hE.out)
set_option maxRecDepth 20000 in
set_option maxHeartbeats 2000000 in
theorem AAddr16_any (s : List UInt8) (hs : s.length ≤ 1048576) (h4 : (spl 46 s).length ≠ 4) (w : World) (hD : Deb w) (hV : Vars w) :
    Calls Tryz.prog 103 #[.string ⟨s.toArray⟩] w (AdP s w) := by
  have hS := Split_any s 46 w hV hs
  have b4 : ((((spl 46 s).length : Nat) : Int) == 4) = false := by rw [beq_eq_false_iff_ne]; omega
  have hS2 := fun W (h : Ext w W) => Split_any s 58 W (hV.ext h) hs
  have hnum := fun (x : List UInt8) (hx : x ∈ spl 58 s) W (h : Ext w W) => number16 x W (hD.ext h) (hV.ext h) (Nat.le_trans (spl_len 58 s x hx) hs)
  by_cases h8 : (spl 58 s).length = 8
  · have hC : addrC s = (match rdAll 16 65535 (spl 58 s) with | some l => (l.flatMap unpair, 0) | none => ([], 4)) := by unfold addrC; rw [if_neg h4, if_pos h8]; cases rdAll 16 65535 (spl 58 s) <;> rfl
    generalize spl 46 s = P4 at b4 hS h4
    generalize spl 58 s = P at hS2 hnum hC h8
    replace hS := hide hS
    replace hS2 := hide hS2
    replace hnum := hide hnum
    replace hC := hide hC
    clear hD hV
    have h4' : ¬ P4.length = 4 := h4
    go_enter Tryz.func103, Tryz.ntmps103
    go_wp2_with fail
    refine hS.out.mono ?_
    rintro e w1 ⟨d, hd4, rfl, hEw1, _⟩
    replace hEw1 := hide hEw1
    go_wp2_with fail
    refine (hS2.out _ hEw1.out).mono ?_
    rintro e w2 ⟨d2, hd8, rfl, hEw2, hc1⟩
    have hEw := hide (hEw1.out.trans hEw2)
    clear hEw2 hEw1
    rw [h8] at hd8
    rw [h8]
    clear hS hS2
    replace hc1 := hide hc1
    generalize hg2 : w1.heap.size = g2 at hc1
    go_wp2_with fail
    clear hg2
    go_loopw [4, 48] (fun v q wr => ∃ (k : Nat) (ns : List Nat), k ≤ 8 ∧ q = .int .i64 (k : Int) ∧ rdAll 16 65535 (P.take k) = some ns ∧ ns.length = k ∧ OwnB 5 wr w2.heap.size v (ns.flatMap unpair) ∧ Ext w2 wr) (fun _ q _ => 8 - (intOf q).toNat)
    case atStart => exact ⟨0, [], by omega, rfl, by rw [List.take_zero]; rfl, rfl, OwnB.nil, Ext.refl _⟩
    case round =>
      obtain ⟨k, ns, hk, rfl, hrd, hnl, hown, hE⟩ := hrel
      rename World => W0
      have hz0 := hE.size
      obtain ⟨vo, dd, rfl⟩ := hown.form
      have hlk : (ns.flatMap unpair).length = 2 * k := by rw [unpair_len, hnl]
      rw [hlk] at hown ⊢
      replace hlk := hide hlk
      replace hE := hide hE
      replace hown := hide hown
      by_cases hlt : k < 8
      · have hkP : k < P.length := by omega
        have x0 : W0.cell? ⟨g2, k, none⟩ = some (.string ⟨(P[k]'hkP).toArray⟩) := hE.out.cell (hc1.out k hkP)
        have hn := hnum.out (P[k]'hkP) (List.getElem_mem hkP) W0 (hEw.out.trans hE.out)
        have hbad : rdN 16 65535 (P[k]'hkP) = none → addrC s = ([], 4) := fun h => by rw [hC.out, rdAll_bad (List.getElem_mem hkP) h]
        have hnx := fun n (h : rdN 16 65535 (P[k]'hkP) = some n) => rdAll_next hkP hrd h
        have hmost := fun n (h : rdN 16 65535 (P[k]'hkP) = some n) => ((rdN_iff (b := 16) (by decide) (by decide)).1 h).1
        generalize (P[k]'hkP) = wd at x0 hn hbad hnx hmost
        replace hrd := hide hrd
        replace hnl := hide hnl
        cases hr : rdN 16 65535 wd with
        | none =>
          have hb := hbad hr
          clear hbad hmost hnx
          replace hb := hide hb
          unfold NumP at hn
          rw [hr] at hn
          replace hn := hide hn
          replace hr := hide hr
          go_wp2_with fail
          refine hn.out.mono ?_
          rintro e w3 ⟨⟨z, rfl, _⟩, he3⟩
          have hE3 := hide (hEw.out.trans (hE.out.trans he3))
          clear he3
          go_wp2
          go_ret2
          exact AdP.of hb.out hE3.out
        | some n =>
          have hm := hmost n hr
          have hnx2 := hnx n hr
          clear hbad hmost hnx
          unfold NumP at hn
          rw [hr] at hn
          replace hn := hide hn
          replace hr := hide hr
          have hw8 : IntKind.u8.wrap (n : Int) = ((UInt8.ofNat n).toNat : Int) := by rw [IntKind.wrap_u8, UInt8.toNat_ofNat']; omega
          have hw9 : IntKind.u8.wrap ((n : Int) / 256) = ((UInt8.ofNat (n / 256)).toNat : Int) := by rw [IntKind.wrap_u8, UInt8.toNat_ofNat']; omega
          have hap : ns.flatMap unpair ++ [UInt8.ofNat (n / 256), UInt8.ofNat n] = (ns ++ [n]).flatMap unpair := by simp [unpair]
          generalize hu : UInt8.ofNat n = u at hw8 hap
          generalize hu2 : UInt8.ofNat (n / 256) = u2 at hw9 hap
          replace hu := hide hu
          replace hu2 := hide hu2
          replace hap := hide hap
          replace hnx2 := hide hnx2
          replace hm := hide hm
          go_wp2_with fail
          refine hn.out.mono ?_
          rintro e w3 ⟨⟨z, rfl, hz⟩, he3⟩
          obtain rfl := hz n rfl
          have hown3 := hide (hown.out.ext he3)
          have hE3 := hide (hE.out.trans he3)
          have hz3 := he3.size
          clear he3 hz
          go_wp2_with (at_builtin
                       have hox := hown3.out.alloc (Obj.cells #[.int .u8 (u2.toNat : Int), .int .u8 (u.toNat : Int)] 5)
                       refine wpList_appendB rfl _ _ _ rfl okB8 okB8z rfl hox (by simp; omega) [u2, u] rfl (by rw [hlk.out]; simp; omega) (byte_new2 _ _ _ _) ?_
                       intro v' w5 hown1 hg hat)
          go_roundw
          case rel => exact ⟨k + 1, ns ++ [n], by omega, by go_num, hnx2.out, by simp [hnl.out], by rw [← hap.out]; exact hown1, (hE3.out.alloc _).push (fun j hj => (hown3.out.lt j hj).1) hg⟩
          case measure => simp [intOf]; omega
      · obtain rfl : k = 8 := by omega
        rw [List.take_of_length_le (by omega)] at hrd
        have hfin : addrC s = (ns.flatMap unpair, 0) := by rw [hC.out, hrd]
        have kd := run_stringB (P := Tryz.prog) (src := 148) (dst := 9) Tryz.underlying148 Tryz.underlying5 Tryz.underlying9 hown.out
        replace hfin := hide hfin
        replace hrd := hide hrd
        replace hnl := hide hnl
        go_wp2
        go_ret2
        exact AdP.of hfin.out (hEw.out.trans hE.out)
  · have hC : addrC s = ([], 4) := by unfold addrC; rw [if_neg h4, if_neg h8]
    have b8 : ((((spl 58 s).length : Nat) : Int) != 8) = true := by rw [bne_iff_ne]; omega
    have h8' : ¬ (((spl 58 s).length : Nat) : Int) = 8 := by omega
    clear hnum
    generalize spl 46 s = P4 at b4 hS h4
    generalize spl 58 s = P8 at b8 hS2 h8 h8'
    replace hS := hide hS
    replace hS2 := hide hS2
    replace hC := hide hC
    clear hD hV
    go_enter Tryz.func103, Tryz.ntmps103
    go_wp2_with fail
    refine hS.out.mono ?_
    rintro e w1 ⟨d, hd4, rfl, hEw1, _⟩
    replace hEw1 := hide hEw1
    go_wp2_with fail
    refine (hS2.out _ hEw1.out).mono ?_
    rintro e w2 ⟨d2, hd8, rfl, hEw2, _⟩
    have hEw := hide (hEw1.out.trans hEw2)
    clear hEw2 hEw1
    go_wp2
    go_ret2
    exact AdP.of hC.out hEw.out
theorem AAddr_any (s : List UInt8) (hs : s.length ≤ 1048576) (w : World) (hT : Tab w) (hD : Deb w) (hV : Vars w) :
  Calls Tryz.prog 103 #[.string ⟨s.toArray⟩] w (AdP s w) := by
 by_cases h4 : (spl 46 s).length = 4
 ·exact AAddr4_any s hs h4 w hT hV
 ·exact AAddr16_any s hs h4 w hD hV
end
section
open Go.RowKit Go.Sort
set_option linter.unusedVariables false
set_option maxRecDepth 20000 in
set_option maxHeartbeats 4000000 in
theorem ACheck_4 (f R : Int) (rd : Nat) (hR : R = (rd : Int)) (a : List UInt8) (l : Int) (w : World) (hal : a.length ≤ 1048576) (hS : sizeS f = 4) :
  Calls Tryz.prog 144 #[.agg #[.int .i64 f, .int .u64 R, .string ⟨a.toArray⟩, .int .i64 l]] w fun e w' => e = .returned (.int .i64 (errP (MayP ⟨f, rd, a, l⟩))) ∧ Ext w w' := by
 have mixed : Tryz.prog.follows Departure.mixedOrders = true := by kernel_rfl
 have hbld : ∀ W, (Instr.build 70 #[]).run Tryz.prog W = .ok (.agg #[.int .i64 0, .int .u64 0, .string ⟨#[]⟩, .int .i64 0]) W := fun W => run_build W 70 _ _ (by kernel_rfl)
 have heg : ∀ x y xs ys W, (eqGuard .eql 70 x y (.agg xs) (.agg ys)).run Tryz.prog W = .ok () W := fun x y xs ys W => run_eqGuard_agg W .eql _ x y xs ys Tryz.eqGuardType70
 have hz : (ByteArray.mk a.toArray).size = a.length := by simp [ByteArray.size]
 have hf0 : f ≠ 0 := fun h => by rw [h] at hS; exact absurd hS (by decide)
 have heq : ∀ W, (binOp .eql 70 (.agg #[.int .i64 f, .int .u64 R, .string ⟨a.toArray⟩, .int .i64 l]) (.agg #[.int .i64 0, .int .u64 0, .string ⟨#[]⟩, .int .i64 0])).run Tryz.prog W = .ok (.bool false) W := fun W => by
  have := run_eqP W f 0 R 0 a [] l 0
  rw [decide_eq_false (fun h => hf0 h.1)] at this
  exact this
 have gw : IntKind.i64.wrap 32 = 32 := by decide
 replace hS := hide hS
 replace hR := hide hR
 by_cases h1 : (a.length : Int) ≠ 4
 ·have he : errP (MayP ⟨f, rd, a, l⟩) = 2 := if_neg (fun h => h1 (h.1.2.1.trans hS.out))
  rw [he]
  have b1 : ((a.length : Int) != 4) = true := by simpa using h1
  replace he := hide he
  replace h1 := hide h1
  go_enter Tryz.func144, Tryz.ntmps144
  go_wp2_with fail
  refine (ASize_any _ _).mono ?_
  rw [hS.out]
  rintro e w1 ⟨rfl, rfl⟩
  go_wp2
  go_quiet (fail)
  go_wp2
  go_ret
  exact ⟨rfl, ((Ext.refl _).alloc _).drewN _⟩
 have b1 : ((a.length : Int) != 4) = false := by simpa using h1
 by_cases h2 : l < 0
 ·have he : errP (MayP ⟨f, rd, a, l⟩) = 2 := if_neg (fun h => by have : 0 ≤ l := h.1.2.2.1; omega)
  rw [he]
  replace he := hide he
  replace h1 := hide h1
  go_enter Tryz.func144, Tryz.ntmps144
  go_wp2_with fail
  refine (ASize_any _ _).mono ?_
  rw [hS.out]
  rintro e w1 ⟨rfl, rfl⟩
  go_wp2
  go_quiet (fail)
  go_wp2
  go_ret
  exact ⟨rfl, ((Ext.refl _).alloc _).drewN _⟩
 have b2 : decide (l < 0) = false := by simpa using h2
 by_cases h3 : (32 : Int) < l
 ·have he : errP (MayP ⟨f, rd, a, l⟩) = 2 := if_neg (fun h => by have h4 : l ≤ 8 * sizeS f := h.1.2.2.2.1; rw [hS.out] at h4; omega)
  rw [he]
  have b3 : decide ((32 : Int) < l) = true := by simpa using h3
  replace he := hide he
  replace h1 := hide h1
  go_enter Tryz.func144, Tryz.ntmps144
  go_wp2_with fail
  refine (ASize_any _ _).mono ?_
  rw [hS.out]
  rintro e w1 ⟨rfl, rfl⟩
  go_wp2
  go_quiet (fail)
  go_wp2
  go_ret
  exact ⟨rfl, ((Ext.refl _).alloc _).drewN _⟩
 have b3 : decide ((32 : Int) < l) = false := by simpa using h3
 by_cases h4 : rd ≠ 0 ∧ apartS f = false
 ·have he : errP (MayP ⟨f, rd, a, l⟩) = 2 := if_neg (fun h => by rcases (h.1.2.2.2.2 : rd = 0 ∨ apartS f = true) with h5 | h5; exact h4.1 h5; rw [h4.2] at h5; cases h5)
  rw [he]
  have b4 : (R != 0) = true := by have := hR.out; have := h4.1; simp; omega
  have hap := h4.2
  replace he := hide he
  replace h1 := hide h1
  replace h4 := hide h4
  go_enter Tryz.func144, Tryz.ntmps144
  go_wp2_with fail
  refine (ASize_any _ _).mono ?_
  rw [hS.out]
  rintro e w1 ⟨rfl, rfl⟩
  go_wp2
  go_quiet ((go_at_call 171; exact quiet_apart _ _ _))
  go_wp2
  go_ret
  exact ⟨rfl, ((Ext.refl _).alloc _).drewN _⟩
 have h9 : rd = 0 ∨ apartS f = true := by
  by_cases h5 : rd = 0
  ·exact .inl h5
  ·exact .inr (by cases hh : apartS f with | true => rfl | false => exact absurd ⟨h5, hh⟩ h4)
 have hform : formP ⟨f, rd, a, l⟩ := ⟨by rw [hS.out]; decide, by rw [hS.out]; simpa using h1, by show 0 ≤ l; omega, by rw [hS.out]; show l ≤ _; omega, h9⟩
 have hmk := fun W => masked_any a l W (by omega) (by omega) (by omega) (by omega)
 have he : (a = maskS a l ∧ errP (MayP ⟨f, rd, a, l⟩) = 0) ∨ (maskS a l ≠ a ∧ errP (MayP ⟨f, rd, a, l⟩) = 2) := by
  by_cases hm : maskS a l = a
  ·exact .inl ⟨hm.symm, if_pos ⟨hform, hm⟩⟩
  ·exact .inr ⟨hm, if_neg fun h => hm h.2⟩
 generalize errP (MayP ⟨f, rd, a, l⟩) = E at he
 generalize maskS a l = t at he hmk
 replace h1 := hide h1
 replace h4 := hide h4
 replace hform := hide hform
 obtain ⟨k0, k1, k2, k3⟩ := regrown_cells w f R ⟨a.toArray⟩ l 70
 have cM : ∀ d os, Calls Tryz.prog 172 #[.string ⟨a.toArray⟩, .int .i64 l] (grow (redrawn (w.alloc (.cells #[.int .i64 f, .int .u64 R, .string ⟨a.toArray⟩, .int .i64 l] 70)) d) os) fun e w'' => e = .returned (.string ⟨t.toArray⟩) ∧ ∃ p : Regrown, w'' = grow (redrawn (w.alloc (.cells #[.int .i64 f, .int .u64 R, .string ⟨a.toArray⟩, .int .i64 l] 70)) p.d) p.os := fun d os => Calls.regrown_of (hmk _)
 have cP : ∀ d os, Calls Tryz.prog 171 #[.int .i64 f] (grow (redrawn (w.alloc (.cells #[.int .i64 f, .int .u64 R, .string ⟨a.toArray⟩, .int .i64 l] 70)) d) os) fun e w'' => e = .returned (.bool (apartS f)) ∧ ∃ p : Regrown, w'' = grow (redrawn (w.alloc (.cells #[.int .i64 f, .int .u64 R, .string ⟨a.toArray⟩, .int .i64 l] 70)) p.d) p.os := fun d os => regrown_same (Aapart_any _ _)
 clear hmk
 by_cases h5 : rd = 0
 ·obtain rfl : R = 0 := by rw [hR.out, h5]; rfl
  replace h5 := hide h5
  replace h9 := hide h9
  rcases he with ⟨rfl, rfl⟩ | ⟨hne, rfl⟩
  ·go_enter Tryz.func144, Tryz.ntmps144
   go_wp2_with fail
   refine (ASize_any _ _).mono ?_
   rw [hS.out]
   rintro e w1 ⟨rfl, rfl⟩
   go_wp2
   refine wp_region_quiet_below (by assumption) (by kernel_rfl) ?_
   repeat (quiet_step (first | exact cP _ _ | exact cM _ _))
   refine wpQuiet_nil ?_
   intro _ hw'
   obtain ⟨⟨dq, osq⟩, hw''⟩ := hw'
   subst hw''
   go_wp2
   go_ret
   exact ⟨rfl, ((Ext.refl _).alloc _).trans (below_regrown _ dq osq)⟩
  ·have b5 : (t == a) = false := beq_eq_false_iff_ne.2 hne
   have b6 : (t != a) = true := bne_iff_ne.2 hne
   replace hne := hide hne
   go_enter Tryz.func144, Tryz.ntmps144
   go_wp2_with fail
   refine (ASize_any _ _).mono ?_
   rw [hS.out]
   rintro e w1 ⟨rfl, rfl⟩
   go_wp2
   refine wp_region_quiet_below (by assumption) (by kernel_rfl) ?_
   repeat (quiet_step (first | exact cP _ _ | exact cM _ _))
   refine wpQuiet_nil ?_
   intro _ hw'
   obtain ⟨⟨dq, osq⟩, hw''⟩ := hw'
   subst hw''
   go_wp2
   go_ret
   exact ⟨rfl, ((Ext.refl _).alloc _).trans (below_regrown _ dq osq)⟩
 ·have b4 : (R != 0) = true := by have := hR.out; simp; omega
  have hap : apartS f = true := by rcases h9 with h | h; exact absurd h h5; exact h
  rw [hap] at cP
  replace h5 := hide h5
  replace h9 := hide h9
  rcases he with ⟨rfl, rfl⟩ | ⟨hne, rfl⟩
  ·go_enter Tryz.func144, Tryz.ntmps144
   go_wp2_with fail
   refine (ASize_any _ _).mono ?_
   rw [hS.out]
   rintro e w1 ⟨rfl, rfl⟩
   go_wp2
   refine wp_region_quiet_below (by assumption) (by kernel_rfl) ?_
   repeat (quiet_step (first | exact cP _ _ | exact cM _ _))
   refine wpQuiet_nil ?_
   intro _ hw'
   obtain ⟨⟨dq, osq⟩, hw''⟩ := hw'
   subst hw''
   go_wp2
   go_ret
   exact ⟨rfl, ((Ext.refl _).alloc _).trans (below_regrown _ dq osq)⟩
  ·have b5 : (t == a) = false := beq_eq_false_iff_ne.2 hne
   have b6 : (t != a) = true := bne_iff_ne.2 hne
   replace hne := hide hne
   go_enter Tryz.func144, Tryz.ntmps144
   go_wp2_with fail
   refine (ASize_any _ _).mono ?_
   rw [hS.out]
   rintro e w1 ⟨rfl, rfl⟩
   go_wp2
   refine wp_region_quiet_below (by assumption) (by kernel_rfl) ?_
   repeat (quiet_step (first | exact cP _ _ | exact cM _ _))
   refine wpQuiet_nil ?_
   intro _ hw'
   obtain ⟨⟨dq, osq⟩, hw''⟩ := hw'
   subst hw''
   go_wp2
   go_ret
   exact ⟨rfl, ((Ext.refl _).alloc _).trans (below_regrown _ dq osq)⟩
end
section
open Go.RowKit Go.Sort
set_option linter.unusedVariables false
set_option maxRecDepth 20000 in
set_option maxHeartbeats 4000000 in
theorem ACheck_16 (f R : Int) (rd : Nat) (hR : R = (rd : Int)) (a : List UInt8) (l : Int) (w : World) (hal : a.length ≤ 1048576) (hS : sizeS f = 16) :
  Calls Tryz.prog 144 #[.agg #[.int .i64 f, .int .u64 R, .string ⟨a.toArray⟩, .int .i64 l]] w fun e w' => e = .returned (.int .i64 (errP (MayP ⟨f, rd, a, l⟩))) ∧ Ext w w' := by
 have mixed : Tryz.prog.follows Departure.mixedOrders = true := by kernel_rfl
 have hbld : ∀ W, (Instr.build 70 #[]).run Tryz.prog W = .ok (.agg #[.int .i64 0, .int .u64 0, .string ⟨#[]⟩, .int .i64 0]) W := fun W => run_build W 70 _ _ (by kernel_rfl)
 have heg : ∀ x y xs ys W, (eqGuard .eql 70 x y (.agg xs) (.agg ys)).run Tryz.prog W = .ok () W := fun x y xs ys W => run_eqGuard_agg W .eql _ x y xs ys Tryz.eqGuardType70
 have hz : (ByteArray.mk a.toArray).size = a.length := by simp [ByteArray.size]
 have hf0 : f ≠ 0 := fun h => by rw [h] at hS; exact absurd hS (by decide)
 have heq : ∀ W, (binOp .eql 70 (.agg #[.int .i64 f, .int .u64 R, .string ⟨a.toArray⟩, .int .i64 l]) (.agg #[.int .i64 0, .int .u64 0, .string ⟨#[]⟩, .int .i64 0])).run Tryz.prog W = .ok (.bool false) W := fun W => by
  have := run_eqP W f 0 R 0 a [] l 0
  rw [decide_eq_false (fun h => hf0 h.1)] at this
  exact this
 have gw : IntKind.i64.wrap 128 = 128 := by decide
 replace hS := hide hS
 replace hR := hide hR
 by_cases h1 : (a.length : Int) ≠ 16
 ·have he : errP (MayP ⟨f, rd, a, l⟩) = 2 := if_neg (fun h => h1 (h.1.2.1.trans hS.out))
  rw [he]
  have b1 : ((a.length : Int) != 16) = true := by simpa using h1
  replace he := hide he
  replace h1 := hide h1
  go_enter Tryz.func144, Tryz.ntmps144
  go_wp2_with fail
  refine (ASize_any _ _).mono ?_
  rw [hS.out]
  rintro e w1 ⟨rfl, rfl⟩
  go_wp2
  go_quiet (fail)
  go_wp2
  go_ret
  exact ⟨rfl, ((Ext.refl _).alloc _).drewN _⟩
 have b1 : ((a.length : Int) != 16) = false := by simpa using h1
 by_cases h2 : l < 0
 ·have he : errP (MayP ⟨f, rd, a, l⟩) = 2 := if_neg (fun h => by have : 0 ≤ l := h.1.2.2.1; omega)
  rw [he]
  replace he := hide he
  replace h1 := hide h1
  go_enter Tryz.func144, Tryz.ntmps144
  go_wp2_with fail
  refine (ASize_any _ _).mono ?_
  rw [hS.out]
  rintro e w1 ⟨rfl, rfl⟩
  go_wp2
  go_quiet (fail)
  go_wp2
  go_ret
  exact ⟨rfl, ((Ext.refl _).alloc _).drewN _⟩
 have b2 : decide (l < 0) = false := by simpa using h2
 by_cases h3 : (128 : Int) < l
 ·have he : errP (MayP ⟨f, rd, a, l⟩) = 2 := if_neg (fun h => by have h4 : l ≤ 8 * sizeS f := h.1.2.2.2.1; rw [hS.out] at h4; omega)
  rw [he]
  have b3 : decide ((128 : Int) < l) = true := by simpa using h3
  replace he := hide he
  replace h1 := hide h1
  go_enter Tryz.func144, Tryz.ntmps144
  go_wp2_with fail
  refine (ASize_any _ _).mono ?_
  rw [hS.out]
  rintro e w1 ⟨rfl, rfl⟩
  go_wp2
  go_quiet (fail)
  go_wp2
  go_ret
  exact ⟨rfl, ((Ext.refl _).alloc _).drewN _⟩
 have b3 : decide ((128 : Int) < l) = false := by simpa using h3
 by_cases h4 : rd ≠ 0 ∧ apartS f = false
 ·have he : errP (MayP ⟨f, rd, a, l⟩) = 2 := if_neg (fun h => by rcases (h.1.2.2.2.2 : rd = 0 ∨ apartS f = true) with h5 | h5; exact h4.1 h5; rw [h4.2] at h5; cases h5)
  rw [he]
  have b4 : (R != 0) = true := by have := hR.out; have := h4.1; simp; omega
  have hap := h4.2
  replace he := hide he
  replace h1 := hide h1
  replace h4 := hide h4
  go_enter Tryz.func144, Tryz.ntmps144
  go_wp2_with fail
  refine (ASize_any _ _).mono ?_
  rw [hS.out]
  rintro e w1 ⟨rfl, rfl⟩
  go_wp2
  go_quiet ((go_at_call 171; exact quiet_apart _ _ _))
  go_wp2
  go_ret
  exact ⟨rfl, ((Ext.refl _).alloc _).drewN _⟩
 have h9 : rd = 0 ∨ apartS f = true := by
  by_cases h5 : rd = 0
  ·exact .inl h5
  ·exact .inr (by cases hh : apartS f with | true => rfl | false => exact absurd ⟨h5, hh⟩ h4)
 have hform : formP ⟨f, rd, a, l⟩ := ⟨by rw [hS.out]; decide, by rw [hS.out]; simpa using h1, by show 0 ≤ l; omega, by rw [hS.out]; show l ≤ _; omega, h9⟩
 have hmk := fun W => masked_any a l W (by omega) (by omega) (by omega) (by omega)
 have he : (a = maskS a l ∧ errP (MayP ⟨f, rd, a, l⟩) = 0) ∨ (maskS a l ≠ a ∧ errP (MayP ⟨f, rd, a, l⟩) = 2) := by
  by_cases hm : maskS a l = a
  ·exact .inl ⟨hm.symm, if_pos ⟨hform, hm⟩⟩
  ·exact .inr ⟨hm, if_neg fun h => hm h.2⟩
 generalize errP (MayP ⟨f, rd, a, l⟩) = E at he
 generalize maskS a l = t at he hmk
 replace h1 := hide h1
 replace h4 := hide h4
 replace hform := hide hform
 obtain ⟨k0, k1, k2, k3⟩ := regrown_cells w f R ⟨a.toArray⟩ l 70
 have cM : ∀ d os, Calls Tryz.prog 172 #[.string ⟨a.toArray⟩, .int .i64 l] (grow (redrawn (w.alloc (.cells #[.int .i64 f, .int .u64 R, .string ⟨a.toArray⟩, .int .i64 l] 70)) d) os) fun e w'' => e = .returned (.string ⟨t.toArray⟩) ∧ ∃ p : Regrown, w'' = grow (redrawn (w.alloc (.cells #[.int .i64 f, .int .u64 R, .string ⟨a.toArray⟩, .int .i64 l] 70)) p.d) p.os := fun d os => Calls.regrown_of (hmk _)
 have cP : ∀ d os, Calls Tryz.prog 171 #[.int .i64 f] (grow (redrawn (w.alloc (.cells #[.int .i64 f, .int .u64 R, .string ⟨a.toArray⟩, .int .i64 l] 70)) d) os) fun e w'' => e = .returned (.bool (apartS f)) ∧ ∃ p : Regrown, w'' = grow (redrawn (w.alloc (.cells #[.int .i64 f, .int .u64 R, .string ⟨a.toArray⟩, .int .i64 l] 70)) p.d) p.os := fun d os => regrown_same (Aapart_any _ _)
 clear hmk
 by_cases h5 : rd = 0
 ·obtain rfl : R = 0 := by rw [hR.out, h5]; rfl
  replace h5 := hide h5
  replace h9 := hide h9
  rcases he with ⟨rfl, rfl⟩ | ⟨hne, rfl⟩
  ·go_enter Tryz.func144, Tryz.ntmps144
   go_wp2_with fail
   refine (ASize_any _ _).mono ?_
   rw [hS.out]
   rintro e w1 ⟨rfl, rfl⟩
   go_wp2
   refine wp_region_quiet_below (by assumption) (by kernel_rfl) ?_
   repeat (quiet_step (first | exact cP _ _ | exact cM _ _))
   refine wpQuiet_nil ?_
   intro _ hw'
   obtain ⟨⟨dq, osq⟩, hw''⟩ := hw'
   subst hw''
   go_wp2
   go_ret
   exact ⟨rfl, ((Ext.refl _).alloc _).trans (below_regrown _ dq osq)⟩
  ·have b5 : (t == a) = false := beq_eq_false_iff_ne.2 hne
   have b6 : (t != a) = true := bne_iff_ne.2 hne
   replace hne := hide hne
   go_enter Tryz.func144, Tryz.ntmps144
   go_wp2_with fail
   refine (ASize_any _ _).mono ?_
   rw [hS.out]
   rintro e w1 ⟨rfl, rfl⟩
   go_wp2
   refine wp_region_quiet_below (by assumption) (by kernel_rfl) ?_
   repeat (quiet_step (first | exact cP _ _ | exact cM _ _))
   refine wpQuiet_nil ?_
   intro _ hw'
   obtain ⟨⟨dq, osq⟩, hw''⟩ := hw'
   subst hw''
   go_wp2
   go_ret
   exact ⟨rfl, ((Ext.refl _).alloc _).trans (below_regrown _ dq osq)⟩
 ·have b4 : (R != 0) = true := by have := hR.out; simp; omega
  have hap : apartS f = true := by rcases h9 with h | h; exact absurd h h5; exact h
  rw [hap] at cP
  replace h5 := hide h5
  replace h9 := hide h9
  rcases he with ⟨rfl, rfl⟩ | ⟨hne, rfl⟩
  ·go_enter Tryz.func144, Tryz.ntmps144
   go_wp2_with fail
   refine (ASize_any _ _).mono ?_
   rw [hS.out]
   rintro e w1 ⟨rfl, rfl⟩
   go_wp2
   refine wp_region_quiet_below (by assumption) (by kernel_rfl) ?_
   repeat (quiet_step (first | exact cP _ _ | exact cM _ _))
   refine wpQuiet_nil ?_
   intro _ hw'
   obtain ⟨⟨dq, osq⟩, hw''⟩ := hw'
   subst hw''
   go_wp2
   go_ret
   exact ⟨rfl, ((Ext.refl _).alloc _).trans (below_regrown _ dq osq)⟩
  ·have b5 : (t == a) = false := beq_eq_false_iff_ne.2 hne
   have b6 : (t != a) = true := bne_iff_ne.2 hne
   replace hne := hide hne
   go_enter Tryz.func144, Tryz.ntmps144
   go_wp2_with fail
   refine (ASize_any _ _).mono ?_
   rw [hS.out]
   rintro e w1 ⟨rfl, rfl⟩
   go_wp2
   refine wp_region_quiet_below (by assumption) (by kernel_rfl) ?_
   repeat (quiet_step (first | exact cP _ _ | exact cM _ _))
   refine wpQuiet_nil ?_
   intro _ hw'
   obtain ⟨⟨dq, osq⟩, hw''⟩ := hw'
   subst hw''
   go_wp2
   go_ret
   exact ⟨rfl, ((Ext.refl _).alloc _).trans (below_regrown _ dq osq)⟩
end
section
open Go.RowKit Go.Sort
set_option linter.unusedVariables false
set_option maxRecDepth 20000 in
set_option maxHeartbeats 4000000 in
theorem RMay_4 (f R : Int) (rd : Nat) (hR : R = (rd : Int)) (a : List UInt8) (l : Int) (w : World) (hal : a.length ≤ 1048576) (hS : sizeS f = 4) :
    Calls Tryz.prog 152 #[.agg #[.int .i64 f, .int .u64 R, .string ⟨a.toArray⟩, .int .i64 l]] w fun e w' => e = .returned (.bool (mayB ⟨f, rd, a, l⟩)) ∧ Ext w w' := by
  have mixed : Tryz.prog.follows Departure.mixedOrders = true := by kernel_rfl
  have hz : (ByteArray.mk a.toArray).size = a.length := by simp [ByteArray.size]
  have gw : IntKind.i64.wrap 32 = 32 := by decide
  replace hS := hide hS
  replace hR := hide hR
  by_cases h1 : (a.length : Int) ≠ 4
  · have he : mayB ⟨f, rd, a, l⟩ = false := decide_eq_false (fun h => h1 (h.1.2.1.trans hS.out))
    rw [he]
    have b1 : ((a.length : Int) != 4) = true := by simpa using h1
    replace he := hide he
    replace h1 := hide h1
    go_enter Tryz.func152, Tryz.ntmps152
    go_wp2_with fail
    refine (RSize_any _ _).mono ?_
    rw [hS.out]
    rintro e w1 ⟨rfl, rfl⟩
    go_wp2_with fail
    go_ret
    exact ⟨rfl, (Ext.refl _).alloc _⟩
  have b1 : ((a.length : Int) != 4) = false := by simpa using h1
  by_cases h2 : l < 0
  · have he : mayB ⟨f, rd, a, l⟩ = false := decide_eq_false (fun h => by have : 0 ≤ l := h.1.2.2.1; omega)
    rw [he]
    replace he := hide he
    replace h1 := hide h1
    go_enter Tryz.func152, Tryz.ntmps152
    go_wp2_with fail
    refine (RSize_any _ _).mono ?_
    rw [hS.out]
    rintro e w1 ⟨rfl, rfl⟩
    go_wp2_with fail
    go_ret
    exact ⟨rfl, (Ext.refl _).alloc _⟩
  have b2 : decide (l < 0) = false := by simpa using h2
  by_cases h3 : (32 : Int) < l
  · have he : mayB ⟨f, rd, a, l⟩ = false := decide_eq_false (fun h => by have h4 : l ≤ 8 * sizeS f := h.1.2.2.2.1; rw [hS.out] at h4; omega)
    rw [he]
    have b3 : decide ((32 : Int) < l) = true := by simpa using h3
    replace he := hide he
    replace h1 := hide h1
    go_enter Tryz.func152, Tryz.ntmps152
    go_wp2_with fail
    refine (RSize_any _ _).mono ?_
    rw [hS.out]
    rintro e w1 ⟨rfl, rfl⟩
    go_wp2_with fail
    go_ret
    exact ⟨rfl, (Ext.refl _).alloc _⟩
  have b3 : decide ((32 : Int) < l) = false := by simpa using h3
  by_cases h4 : rd ≠ 0 ∧ apartS f = false
  · have he : mayB ⟨f, rd, a, l⟩ = false := decide_eq_false (fun h => by rcases (h.1.2.2.2.2 : rd = 0 ∨ apartS f = true) with h5 | h5; exact h4.1 h5; rw [h4.2] at h5; cases h5)
    rw [he]
    have b4 : (R != 0) = true := by have := hR.out; have := h4.1; simp; omega
    have hap := h4.2
    replace he := hide he
    replace h1 := hide h1
    replace h4 := hide h4
    go_enter Tryz.func152, Tryz.ntmps152
    go_wp2_with fail
    refine (RSize_any _ _).mono ?_
    rw [hS.out]
    rintro e w1 ⟨rfl, rfl⟩
    go_wp2_with fail
    refine (RApart_any _ _).mono ?_
    rw [hap]
    rintro e w1 ⟨rfl, rfl⟩
    go_wp2
    go_ret
    exact ⟨rfl, (Ext.refl _).alloc _⟩
  have h9 : rd = 0 ∨ apartS f = true := by
    by_cases h5 : rd = 0
    · exact .inl h5
    · exact .inr (by cases hh : apartS f with | true => rfl | false => exact absurd ⟨h5, hh⟩ h4)
  have hform : formP ⟨f, rd, a, l⟩ := ⟨by rw [hS.out]; decide, by rw [hS.out]; simpa using h1, by show 0 ≤ l; omega, by rw [hS.out]; show l ≤ _; omega, h9⟩
  have hbits := MayP.bits hform
  rw [show sizeS (Pfx.fam ⟨f, rd, a, l⟩) = 4 from hS.out] at hbits
  obtain ⟨l, rfl⟩ : ∃ n : Nat, l = n := ⟨l.toNat, by omega⟩
  have hl : l ≤ 32 := by omega
  have ha4 : a.length = 4 := by omega
  have hMt : (∀ i : Nat, l ≤ i → i < 32 → bitN a i = false) → mayB ⟨f, rd, a, l⟩ = true := fun h => decide_eq_true (hbits.2 fun i h1 h2 => h i (by have : (l : Int) ≤ i := h1; omega) (by omega))
  have hMf : ∀ k : Nat, l ≤ k → k < 32 → bitN a k = true → mayB ⟨f, rd, a, l⟩ = false := fun k h1 h2 h3 => decide_eq_false (fun h => by have := hbits.1 h k (by show (l : Int) ≤ k; omega) (by omega); rw [h3] at this; cases this)
  generalize mayB ⟨f, rd, a, l⟩ = M at hMt hMf ⊢
  clear h1 h2 h3 h4 hbits hform
  replace hMt := hide hMt
  replace hMf := hide hMf
  by_cases h5 : rd = 0
  · obtain rfl : R = 0 := by rw [hR.out, h5]; rfl
    replace h5 := hide h5
    replace h9 := hide h9
    go_enter Tryz.func152, Tryz.ntmps152
    go_wp2_with fail
    refine (RSize_any _ _).mono ?_
    rw [hS.out]
    rintro e w1 ⟨rfl, rfl⟩
    go_wp2_with fail
    go_loopw [4] (fun q wr => ∃ k : Nat, l ≤ k ∧ k ≤ 32 ∧ q = .int .i64 k ∧ Hid (∀ i : Nat, l ≤ i → i < k → bitN a i = false) ∧ Ext (w.alloc (.cells #[.int .i64 f, .int .u64 0, .string ⟨a.toArray⟩, .int .i64 l] 70)) wr) (fun q _ => 32 - (intOf q).toNat)
    case atStart => exact ⟨l, Nat.le_refl _, hl, rfl, (fun i h1 h2 => by omega), Ext.refl _⟩
    case round =>
      obtain ⟨k, hlk, hk, rfl, hz0, hE⟩ := hrel
      have c2 := hE.cell ((Blk.new w 70 #[.int .i64 f, .int .u64 0, .string ⟨a.toArray⟩, .int .i64 l]).cell 2)
      have c2' : wr.cell? ⟨w.heap.size, 2, none⟩ = some (.string ⟨a.toArray⟩) := c2
      clear c2
      replace hE := hide hE
      by_cases hlt : k < 32
      · have hb := RBit_any a k wr (by omega) (by omega) (by omega)
        have hbz : bitZ a k = bitN a k := by unfold bitZ; rw [if_neg (by omega)]; rfl
        rw [hbz] at hb
        clear hbz
        cases hbk : bitN a k with
        | true =>
          rw [hbk] at hb
          have hmay := hMf.out k hlk hlt hbk
          replace hb := hide hb
          replace hbk := hide hbk
          replace hmay := hide hmay
          go_wp2_with fail
          refine hb.out.mono ?_
          rintro e w5 ⟨rfl, rfl⟩
          go_wp2
          go_ret
          exact ⟨by rw [hmay.out]; rfl, ((Ext.refl _).alloc _).trans hE.out⟩
        | false =>
          rw [hbk] at hb
          replace hb := hide hb
          replace hbk := hide hbk
          go_wp2_with fail
          refine hb.out.mono ?_
          rintro e w5 ⟨rfl, rfl⟩
          go_wp2
          go_roundw
          case rel => exact ⟨k + 1, by omega, by omega, by go_num, (fun i h1 h2 => by rcases Nat.lt_succ_iff_lt_or_eq.1 h2 with h | rfl; exact hz0.out i h1 h; exact hbk.out), hE.out⟩
          case measure => simp [intOf]; omega
      · obtain rfl : k = 32 := by omega
        have hmay := hMt.out hz0.out
        replace hmay := hide hmay
        go_wp2
        go_ret
        exact ⟨by rw [hmay.out]; rfl, ((Ext.refl _).alloc _).trans hE.out⟩
  · have b4 : (R != 0) = true := by have := hR.out; simp; omega
    have hap : apartS f = true := by rcases h9 with h | h; exact absurd h h5; exact h
    replace h5 := hide h5
    replace h9 := hide h9
    go_enter Tryz.func152, Tryz.ntmps152
    go_wp2_with fail
    refine (RSize_any _ _).mono ?_
    rw [hS.out]
    rintro e w1 ⟨rfl, rfl⟩
    go_wp2_with fail
    refine (RApart_any _ _).mono ?_
    rw [hap]
    rintro e w1 ⟨rfl, rfl⟩
    go_wp2_with fail
    go_loopw [4] (fun q wr => ∃ k : Nat, l ≤ k ∧ k ≤ 32 ∧ q = .int .i64 k ∧ Hid (∀ i : Nat, l ≤ i → i < k → bitN a i = false) ∧ Ext (w.alloc (.cells #[.int .i64 f, .int .u64 R, .string ⟨a.toArray⟩, .int .i64 l] 70)) wr) (fun q _ => 32 - (intOf q).toNat)
    case atStart => exact ⟨l, Nat.le_refl _, hl, rfl, (fun i h1 h2 => by omega), Ext.refl _⟩
    case round =>
      obtain ⟨k, hlk, hk, rfl, hz0, hE⟩ := hrel
      have c2 := hE.cell ((Blk.new w 70 #[.int .i64 f, .int .u64 R, .string ⟨a.toArray⟩, .int .i64 l]).cell 2)
      have c2' : wr.cell? ⟨w.heap.size, 2, none⟩ = some (.string ⟨a.toArray⟩) := c2
      clear c2
      replace hE := hide hE
      by_cases hlt : k < 32
      · have hb := RBit_any a k wr (by omega) (by omega) (by omega)
        have hbz : bitZ a k = bitN a k := by unfold bitZ; rw [if_neg (by omega)]; rfl
        rw [hbz] at hb
        clear hbz
        cases hbk : bitN a k with
        | true =>
          rw [hbk] at hb
          have hmay := hMf.out k hlk hlt hbk
          replace hb := hide hb
          replace hbk := hide hbk
          replace hmay := hide hmay
          go_wp2_with fail
          refine hb.out.mono ?_
          rintro e w5 ⟨rfl, rfl⟩
          go_wp2
          go_ret
          exact ⟨by rw [hmay.out]; rfl, ((Ext.refl _).alloc _).trans hE.out⟩
        | false =>
          rw [hbk] at hb
          replace hb := hide hb
          replace hbk := hide hbk
          go_wp2_with fail
          refine hb.out.mono ?_
          rintro e w5 ⟨rfl, rfl⟩
          go_wp2
          go_roundw
          case rel => exact ⟨k + 1, by omega, by omega, by go_num, (fun i h1 h2 => by rcases Nat.lt_succ_iff_lt_or_eq.1 h2 with h | rfl; exact hz0.out i h1 h; exact hbk.out), hE.out⟩
          case measure => simp [intOf]; omega
      · obtain rfl : k = 32 := by omega
        have hmay := hMt.out hz0.out
        replace hmay := hide hmay
        go_wp2
        go_ret
        exact ⟨by rw [hmay.out]; rfl, ((Ext.refl _).alloc _).trans hE.out⟩
open Go.RowKit Go.Sort
set_option maxRecDepth 20000 in
set_option maxHeartbeats 4000000 in
theorem RMay_16 (f R : Int) (rd : Nat) (hR : R = (rd : Int)) (a : List UInt8) (l : Int) (w : World) (hal : a.length ≤ 1048576) (hS : sizeS f = 16) :
    Calls Tryz.prog 152 #[.agg #[.int .i64 f, .int .u64 R, .string ⟨a.toArray⟩, .int .i64 l]] w fun e w' => e = .returned (.bool (mayB ⟨f, rd, a, l⟩)) ∧ Ext w w' := by
  have mixed : Tryz.prog.follows Departure.mixedOrders = true := by kernel_rfl
  have hz : (ByteArray.mk a.toArray).size = a.length := by simp [ByteArray.size]
  have gw : IntKind.i64.wrap 128 = 128 := by decide
  replace hS := hide hS
  replace hR := hide hR
  by_cases h1 : (a.length : Int) ≠ 16
  · have he : mayB ⟨f, rd, a, l⟩ = false := decide_eq_false (fun h => h1 (h.1.2.1.trans hS.out))
    rw [he]
    have b1 : ((a.length : Int) != 16) = true := by simpa using h1
    replace he := hide he
    replace h1 := hide h1
    go_enter Tryz.func152, Tryz.ntmps152
    go_wp2_with fail
    refine (RSize_any _ _).mono ?_
    rw [hS.out]
    rintro e w1 ⟨rfl, rfl⟩
    go_wp2_with fail
    go_ret
    exact ⟨rfl, (Ext.refl _).alloc _⟩
  have b1 : ((a.length : Int) != 16) = false := by simpa using h1
  by_cases h2 : l < 0
  · have he : mayB ⟨f, rd, a, l⟩ = false := decide_eq_false (fun h => by have : 0 ≤ l := h.1.2.2.1; omega)
    rw [he]
    replace he := hide he
    replace h1 := hide h1
    go_enter Tryz.func152, Tryz.ntmps152
    go_wp2_with fail
    refine (RSize_any _ _).mono ?_
    rw [hS.out]
    rintro e w1 ⟨rfl, rfl⟩
    go_wp2_with fail
    go_ret
    exact ⟨rfl, (Ext.refl _).alloc _⟩
  have b2 : decide (l < 0) = false := by simpa using h2
  by_cases h3 : (128 : Int) < l
  · have he : mayB ⟨f, rd, a, l⟩ = false := decide_eq_false (fun h => by have h4 : l ≤ 8 * sizeS f := h.1.2.2.2.1; rw [hS.out] at h4; omega)
    rw [he]
    have b3 : decide ((128 : Int) < l) = true := by simpa using h3
    replace he := hide he
    replace h1 := hide h1
    go_enter Tryz.func152, Tryz.ntmps152
    go_wp2_with fail
    refine (RSize_any _ _).mono ?_
    rw [hS.out]
    rintro e w1 ⟨rfl, rfl⟩
    go_wp2_with fail
    go_ret
    exact ⟨rfl, (Ext.refl _).alloc _⟩
  have b3 : decide ((128 : Int) < l) = false := by simpa using h3
  by_cases h4 : rd ≠ 0 ∧ apartS f = false
  · have he : mayB ⟨f, rd, a, l⟩ = false := decide_eq_false (fun h => by rcases (h.1.2.2.2.2 : rd = 0 ∨ apartS f = true) with h5 | h5; exact h4.1 h5; rw [h4.2] at h5; cases h5)
    rw [he]
    have b4 : (R != 0) = true := by have := hR.out; have := h4.1; simp; omega
    have hap := h4.2
    replace he := hide he
    replace h1 := hide h1
    replace h4 := hide h4
    go_enter Tryz.func152, Tryz.ntmps152
    go_wp2_with fail
    refine (RSize_any _ _).mono ?_
    rw [hS.out]
    rintro e w1 ⟨rfl, rfl⟩
    go_wp2_with fail
    refine (RApart_any _ _).mono ?_
    rw [hap]
    rintro e w1 ⟨rfl, rfl⟩
    go_wp2
    go_ret
    exact ⟨rfl, (Ext.refl _).alloc _⟩
  have h9 : rd = 0 ∨ apartS f = true := by
    by_cases h5 : rd = 0
    · exact .inl h5
    · exact .inr (by cases hh : apartS f with | true => rfl | false => exact absurd ⟨h5, hh⟩ h4)
  have hform : formP ⟨f, rd, a, l⟩ := ⟨by rw [hS.out]; decide, by rw [hS.out]; simpa using h1, by show 0 ≤ l; omega, by rw [hS.out]; show l ≤ _; omega, h9⟩
  have hbits := MayP.bits hform
  rw [show sizeS (Pfx.fam ⟨f, rd, a, l⟩) = 16 from hS.out] at hbits
  obtain ⟨l, rfl⟩ : ∃ n : Nat, l = n := ⟨l.toNat, by omega⟩
  have hl : l ≤ 128 := by omega
  have ha4 : a.length = 16 := by omega
  have hMt : (∀ i : Nat, l ≤ i → i < 128 → bitN a i = false) → mayB ⟨f, rd, a, l⟩ = true := fun h => decide_eq_true (hbits.2 fun i h1 h2 => h i (by have : (l : Int) ≤ i := h1; omega) (by omega))
  have hMf : ∀ k : Nat, l ≤ k → k < 128 → bitN a k = true → mayB ⟨f, rd, a, l⟩ = false := fun k h1 h2 h3 => decide_eq_false (fun h => by have := hbits.1 h k (by show (l : Int) ≤ k; omega) (by omega); rw [h3] at this; cases this)
  generalize mayB ⟨f, rd, a, l⟩ = M at hMt hMf ⊢
  clear h1 h2 h3 h4 hbits hform
  replace hMt := hide hMt
  replace hMf := hide hMf
  by_cases h5 : rd = 0
  · obtain rfl : R = 0 := by rw [hR.out, h5]; rfl
    replace h5 := hide h5
    replace h9 := hide h9
    go_enter Tryz.func152, Tryz.ntmps152
    go_wp2_with fail
    refine (RSize_any _ _).mono ?_
    rw [hS.out]
    rintro e w1 ⟨rfl, rfl⟩
    go_wp2_with fail
    go_loopw [4] (fun q wr => ∃ k : Nat, l ≤ k ∧ k ≤ 128 ∧ q = .int .i64 k ∧ Hid (∀ i : Nat, l ≤ i → i < k → bitN a i = false) ∧ Ext (w.alloc (.cells #[.int .i64 f, .int .u64 0, .string ⟨a.toArray⟩, .int .i64 l] 70)) wr) (fun q _ => 128 - (intOf q).toNat)
    case atStart => exact ⟨l, Nat.le_refl _, hl, rfl, (fun i h1 h2 => by omega), Ext.refl _⟩
    case round =>
      obtain ⟨k, hlk, hk, rfl, hz0, hE⟩ := hrel
      have c2 := hE.cell ((Blk.new w 70 #[.int .i64 f, .int .u64 0, .string ⟨a.toArray⟩, .int .i64 l]).cell 2)
      have c2' : wr.cell? ⟨w.heap.size, 2, none⟩ = some (.string ⟨a.toArray⟩) := c2
      clear c2
      replace hE := hide hE
      by_cases hlt : k < 128
      · have hb := RBit_any a k wr (by omega) (by omega) (by omega)
        have hbz : bitZ a k = bitN a k := by unfold bitZ; rw [if_neg (by omega)]; rfl
        rw [hbz] at hb
        clear hbz
        cases hbk : bitN a k with
        | true =>
          rw [hbk] at hb
          have hmay := hMf.out k hlk hlt hbk
          replace hb := hide hb
          replace hbk := hide hbk
          replace hmay := hide hmay
          go_wp2_with fail
          refine hb.out.mono ?_
          rintro e w5 ⟨rfl, rfl⟩
          go_wp2
          go_ret
          exact ⟨by rw [hmay.out]; rfl, ((Ext.refl _).alloc _).trans hE.out⟩
        | false =>
          rw [hbk] at hb
          replace hb := hide hb
          replace hbk := hide hbk
          go_wp2_with fail
          refine hb.out.mono ?_
          rintro e w5 ⟨rfl, rfl⟩
          go_wp2
          go_roundw
          case rel => exact ⟨k + 1, by omega, by omega, by go_num, (fun i h1 h2 => by rcases Nat.lt_succ_iff_lt_or_eq.1 h2 with h | rfl; exact hz0.out i h1 h; exact hbk.out), hE.out⟩
          case measure => simp [intOf]; omega
      · obtain rfl : k = 128 := by omega
        have hmay := hMt.out hz0.out
        replace hmay := hide hmay
        go_wp2
        go_ret
        exact ⟨by rw [hmay.out]; rfl, ((Ext.refl _).alloc _).trans hE.out⟩
  · have b4 : (R != 0) = true := by have := hR.out; simp; omega
    have hap : apartS f = true := by rcases h9 with h | h; exact absurd h h5; exact h
    replace h5 := hide h5
    replace h9 := hide h9
    go_enter Tryz.func152, Tryz.ntmps152
    go_wp2_with fail
    refine (RSize_any _ _).mono ?_
    rw [hS.out]
    rintro e w1 ⟨rfl, rfl⟩
    go_wp2_with fail
    refine (RApart_any _ _).mono ?_
    rw [hap]
    rintro e w1 ⟨rfl, rfl⟩
    go_wp2_with fail
    go_loopw [4] (fun q wr => ∃ k : Nat, l ≤ k ∧ k ≤ 128 ∧ q = .int .i64 k ∧ Hid (∀ i : Nat, l ≤ i → i < k → bitN a i = false) ∧ Ext (w.alloc (.cells #[.int .i64 f, .int .u64 R, .string ⟨a.toArray⟩, .int .i64 l] 70)) wr) (fun q _ => 128 - (intOf q).toNat)
    case atStart => exact ⟨l, Nat.le_refl _, hl, rfl, (fun i h1 h2 => by omega), Ext.refl _⟩
    case round =>
      obtain ⟨k, hlk, hk, rfl, hz0, hE⟩ := hrel
      have c2 := hE.cell ((Blk.new w 70 #[.int .i64 f, .int .u64 R, .string ⟨a.toArray⟩, .int .i64 l]).cell 2)
      have c2' : wr.cell? ⟨w.heap.size, 2, none⟩ = some (.string ⟨a.toArray⟩) := c2
      clear c2
      replace hE := hide hE
      by_cases hlt : k < 128
      · have hb := RBit_any a k wr (by omega) (by omega) (by omega)
        have hbz : bitZ a k = bitN a k := by unfold bitZ; rw [if_neg (by omega)]; rfl
        rw [hbz] at hb
        clear hbz
        cases hbk : bitN a k with
        | true =>
          rw [hbk] at hb
          have hmay := hMf.out k hlk hlt hbk
          replace hb := hide hb
          replace hbk := hide hbk
          replace hmay := hide hmay
          go_wp2_with fail
          refine hb.out.mono ?_
          rintro e w5 ⟨rfl, rfl⟩
          go_wp2
          go_ret
          exact ⟨by rw [hmay.out]; rfl, ((Ext.refl _).alloc _).trans hE.out⟩
        | false =>
          rw [hbk] at hb
          replace hb := hide hb
          replace hbk := hide hbk
          go_wp2_with fail
          refine hb.out.mono ?_
          rintro e w5 ⟨rfl, rfl⟩
          go_wp2
          go_roundw
          case rel => exact ⟨k + 1, by omega, by omega, by go_num, (fun i h1 h2 => by rcases Nat.lt_succ_iff_lt_or_eq.1 h2 with h | rfl; exact hz0.out i h1 h; exact hbk.out), hE.out⟩
          case measure => simp [intOf]; omega
      · obtain rfl : k = 128 := by omega
        have hmay := hMt.out hz0.out
        replace hmay := hide hmay
        go_wp2
        go_ret
        exact ⟨by rw [hmay.out]; rfl, ((Ext.refl _).alloc _).trans hE.out⟩
end
section
open Go.RowKit Go.Sort
set_option linter.unusedVariables false
set_option maxRecDepth 20000 in
set_option maxHeartbeats 1000000 in
theorem ACheck_0 (f R : Int) (rd : Nat) (a : List UInt8) (l : Int) (w : World) (hal : a.length ≤ 1048576) (hS : sizeS f = 0) :
  Calls Tryz.prog 144 #[.agg #[.int .i64 f, .int .u64 R, .string ⟨a.toArray⟩, .int .i64 l]] w fun e w' => e = .returned (.int .i64 (errP (MayP ⟨f, rd, a, l⟩))) ∧ Ext w w' := by
 have mixed : Tryz.prog.follows Departure.mixedOrders = true := by kernel_rfl
 have hz : (ByteArray.mk a.toArray).size = a.length := by simp [ByteArray.size]
 have he : errP (MayP ⟨f, rd, a, l⟩) = 2 := if_neg (fun h => h.1.1 hS)
 rw [he]
 replace hS := hide hS
 replace he := hide he
 go_enter Tryz.func144, Tryz.ntmps144
 go_wp2_with fail
 refine (ASize_any _ _).mono ?_
 rw [hS.out]
 rintro e w1 ⟨rfl, rfl⟩
 go_wp2
 go_quiet (fail)
 go_wp2
 go_ret
 exact ⟨rfl, ((Ext.refl _).alloc _).drewN _⟩
/-- A prefix as a value. -/
def valP (p : Pfx) : Value := .agg #[.int .i64 p.fam, .int .u64 (p.rd : Int), .string ⟨p.addr.toArray⟩, .int .i64 p.len]
theorem ACheck_any (p : Pfx) (w : World) (hal : p.addr.length ≤ 1048576) :
  Calls Tryz.prog 144 #[valP p] w fun e w' => e = .returned (.int .i64 (errP (MayP p))) ∧ Ext w w' := by
 obtain ⟨f, rd, a, l⟩ := p
 rcases sizeS_cases f with hS | hS | hS
 ·exact ACheck_0 f _ rd a l w hal hS
 ·exact ACheck_4 f _ rd rfl a l w hal hS
 ·exact ACheck_16 f _ rd rfl a l w hal hS
open Go.RowKit Go.Sort
set_option maxRecDepth 20000 in
set_option maxHeartbeats 1000000 in
theorem RMay_0 (f R : Int) (rd : Nat) (a : List UInt8) (l : Int) (w : World) (hal : a.length ≤ 1048576) (hS : sizeS f = 0) :
  Calls Tryz.prog 152 #[.agg #[.int .i64 f, .int .u64 R, .string ⟨a.toArray⟩, .int .i64 l]] w fun e w' => e = .returned (.bool (mayB ⟨f, rd, a, l⟩)) ∧ Ext w w' := by
 have hz : (ByteArray.mk a.toArray).size = a.length := by simp [ByteArray.size]
 have he : mayB ⟨f, rd, a, l⟩ = false := decide_eq_false (fun h => h.1.1 hS)
 rw [he]
 replace hS := hide hS
 replace he := hide he
 go_enter Tryz.func152, Tryz.ntmps152
 go_wp2_with fail
 refine (RSize_any _ _).mono ?_
 rw [hS.out]
 rintro e w1 ⟨rfl, rfl⟩
 go_wp2
 go_ret
 exact ⟨rfl, (Ext.refl _).alloc _⟩
theorem RMay_any (p : Pfx) (w : World) (hal : p.addr.length ≤ 1048576) :
  Calls Tryz.prog 152 #[valP p] w fun e w' => e = .returned (.bool (mayB p)) ∧ Ext w w' := by
 obtain ⟨f, rd, a, l⟩ := p
 rcases sizeS_cases f with hS | hS | hS
 ·exact RMay_0 f _ rd a l w hal hS
 ·exact RMay_4 f _ rd rfl a l w hal hS
 ·exact RMay_16 f _ rd rfl a l w hal hS
open Go.RowKit Go.Sort
theorem errP_cases (p : Pfx) : (MayP p ∧ errP (MayP p) = 0) ∨ (¬ MayP p ∧ errP (MayP p) = 2) := by
 by_cases h : MayP p
 ·exact .inl ⟨h, if_pos h⟩
 ·exact .inr ⟨h, if_neg h⟩
theorem Blk.set4 {w : World} {g : Nat} {T : TypeId} {a b c d : Value} (h : Blk w g T #[a, b, c, d]) (u0 u1 u2 u3 : Value) :
  Blk ((((w.setCell ⟨g, 0, none⟩ u0).setCell ⟨g, 1, none⟩ u1).setCell ⟨g, 2, none⟩ u2).setCell ⟨g, 3, none⟩ u3) g T #[u0, u1, u2, u3] := by
 simpa using (((h.set_ 0 u0).set_ 1 u1).set_ 2 u2).set_ 3 u3
theorem Ext.set4 {a w : World} (h : Ext a w) {g : Nat} (hg : a.heap.size ≤ g) (u0 u1 u2 u3 : Value) :
  Ext a ((((w.setCell ⟨g, 0, none⟩ u0).setCell ⟨g, 1, none⟩ u1).setCell ⟨g, 2, none⟩ u2).setCell ⟨g, 3, none⟩ u3) :=
 (((h.setCell hg _).setCell hg _).setCell hg _).setCell hg _
/-- What a cut answers. -/
noncomputable instance (p : Pfx) (n : Int) : Decidable (cutOk p n) := Classical.propDecidable _
end
section
open Go.RowKit Go.Sort
set_option linter.unusedVariables false
theorem Itoa_any (u : Nat) (hu : u < 9223372036854775808) (w : World) (hT : Tab w) : Calls Tryz.prog 85 #[.int .i64 (u : Int)] w fun e w' => e = .returned (.string (dec u)) ∧ Ext w w' := by
 refine (Tryz.strconv_Itoa (u : Int) (by omega) (by omega) w hT).mono ?_
 rintro e w' ⟨rfl, k, os, rfl⟩
 refine ⟨by rw [Lib.itoa_nonneg]; rfl, ?_⟩
 refine ⟨rfl, rfl, rfl, by simp [grow, World.drewN], fun j hj => ?_⟩
 simp only [grow, World.drewN]
 rw [Array.getElem?_append_left hj]
def decB8 (u : UInt8) : ByteArray := dec u.toNat
theorem decB8_size (u : UInt8) : (decB8 u).size ≤ 21 := by
 have := Lib.itoa_length_le (u.toNat : Int) (by have := u.toNat_lt; omega) (by have := u.toNat_lt; omega)
 rw [Lib.itoa_nonneg] at this
 unfold decB8 dec
 simpa [ByteArray.size] using this
theorem Own.one {w : World} {B g : Nat} {T : TypeId} {x : ByteArray} (h : Blk w g T #[.string x]) (hB : B ≤ g) (hx : x.size ≤ maxLen) : Own EStr T w B (.slice (some ⟨g, 0, none⟩) 1 1) [x] := by
  refine ⟨[.string x], ⟨rfl, .inr ⟨g, 1, #[.string x], rfl, hB, h, Nat.le_refl _, by unfold maxLen; omega, rfl, rfl⟩⟩, fun k y hy => ?_⟩
  cases k with
  | zero =>
    obtain rfl : x = y := by simpa using hy
    refine ⟨[.string x], ⟨rfl, hx⟩, fun j u hu => ?_⟩
    match j, hu with
    | 0, hu => simpa using hu
  | succ k => simp at hy
set_option maxRecDepth 20000 in
set_option maxHeartbeats 2000000 in
theorem AAddrText4_any (bs : List UInt8) (h4 : bs.length = 4) (w : World) (hT : Tab w) (hlen : (Lib.join ((bs.map decB8).map (·.data.toList)) [46]).length ≤ 1048576) :
    Calls Tryz.prog 89 #[.string ⟨bs.toArray⟩] w fun e w' => e = .returned (.tuple #[.string ⟨(Lib.join ((bs.map decB8).map (·.data.toList)) [46]).toArray⟩, .int .i64 0]) ∧ Ext w w' := by
  have hz : (ByteArray.mk bs.toArray).size = 4 := by simp [ByteArray.size, h4]
  replace hT := hide hT
  go_enter Tryz.func89, Tryz.ntmps89
  go_wp2_with fail
  go_loopw [4, 13] (fun v q wr => ∃ k : Nat, k ≤ 4 ∧ q = .int .i64 k ∧ Own EStr 9 wr w.heap.size v ((bs.take k).map decB8) ∧ Ext w wr) (fun _ q _ => 4 - (intOf q).toNat)
  case atStart => exact ⟨0, by omega, rfl, by rw [List.take_zero]; exact Own.nil, Ext.refl _⟩
  case round =>
    obtain ⟨k, hk, rfl, hown, hE⟩ := hrel
    rename World => W0
    have hz0 := hE.size
    obtain ⟨vo, dd, rfl⟩ := hown.form
    have hlk : ((bs.take k).map decB8).length = k := by simp; omega
    rw [hlk] at hown ⊢
    replace hlk := hide hlk
    replace hE := hide hE
    replace hown := hide hown
    by_cases hlt : k < 4
    · have e1 : (ByteArray.mk bs.toArray)[k]'(by omega) = bs[k]'(by omega) := rfl
      have hnx : (bs.take k).map decB8 ++ [decB8 (bs[k]'(by omega))] = (bs.take (k + 1)).map decB8 := by rw [List.take_succ_eq_append_getElem (by omega), List.map_append]; rfl
      generalize bs[k]'(by omega) = u at e1 hnx
      have hu8 := u.toNat_lt
      have hsz := decB8_size u
      have hI := Itoa_any u.toNat (by omega) W0 (hT.out.ext hE.out)
      have w8 : IntKind.i64.wrap (u.toNat : Int) = (u.toNat : Int) := by rw [IntKind.wrap_i64]; omega
      replace hI := hide hI
      replace hnx := hide hnx
      replace hsz := hide hsz
      go_wp2_with fail
      refine hI.out.mono ?_
      rintro e w3 ⟨rfl, he3⟩
      have hown3 := hide (hown.out.ext he3)
      have hE3 := hide (hE.out.trans he3)
      have hz3 := he3.size
      clear he3
      go_wp2_with (at_builtin
                   have hox := hown3.out.alloc (Obj.cells #[.string (dec u.toNat)] 9)
                   refine wpList_push (E := EStr) rfl _ _ _ rfl okStr (by decide) (by decide) rfl hox (by rw [hlk.out]; omega) (by simp; omega) rfl (y := decB8 u) (cs := [.string (dec u.toNat)]) ⟨rfl, by have := hsz.out; unfold maxLen; omega⟩ (str_new' _ _ _) ?_
                   intro v' w5 hown1 hg hat)
      go_roundw
      case rel => exact ⟨k + 1, by omega, by go_num, by rw [← hnx.out]; exact hown1, (hE3.out.alloc _).push (fun j hj => (hown3.out.lt j hj).1) hg⟩
      case measure => simp [intOf]; omega
    · obtain rfl : k = 4 := by omega
      have hall : bs.take 4 = bs := List.take_of_length_le (by omega)
      rw [hall] at hown hlk
      obtain ⟨a9, c9, hv9, hc9, hs9⟩ := hown.out.slc
      injection hv9 with e1 e2 e3
      subst e1 e3
      clear e2
      have hJ := Join_any vo dd (bs.map decB8) 46 W0 _ (fun b hb => hb.2) hs9 (by intro h; have := hlk.out; rw [h] at this; exact absurd this (by simp)) hc9 (by rw [hlk.out]; omega) (by omega)
      rw [hlk.out] at hJ
      replace hJ := hide hJ
      go_wp2_with fail
      refine hJ.out.mono ?_
      rintro e w6 ⟨rfl, he6⟩
      replace he6 := hide he6
      go_wp2
      go_ret2
      exact ⟨by rw [List.map_map]; rfl, hE.out.trans he6.out⟩
end
section
open Go.RowKit Go.Sort
set_option linter.unusedVariables false
def hexB (n : Nat) : ByteArray := ⟨(digS 16 n).toArray⟩
theorem txt4_dec (bs : List UInt8) : Lib.join ((bs.map decB8).map (·.data.toList)) [46] = txt4 bs := by
 unfold txt4
 congr 1
 rw [List.map_map]
 apply List.map_congr_left
 intro u _
 show (Lib.decDigits u.toNat) = _
 rw [digS_dec]
theorem txt16_hex (bs : List UInt8) : Lib.join (((pairs bs).map hexB).map (·.data.toList)) [58] = txt16 bs := by
 unfold txt16
 congr 1
 rw [List.map_map]
 rfl
theorem addrT_len {a : List UInt8} : (addrT a).1.length ≤ 39 := by
 by_cases h : a.length = 4 ∨ a.length = 16
 ·have := text_addr h
  exact (addr_text (s := (addrT a).1) (by rw [this])).2.2
 ·unfold addrT
  rw [if_neg (by omega), if_neg (by omega)]
  simp
theorem hexB_size (n : Nat) (h : n ≤ 65535) : (hexB n).size ≤ 4 := by
 have := digS_len (b := 16) (by decide) 4 n (by omega) (by decide)
 simpa [hexB, ByteArray.size] using this
theorem or_byte16 (v : Nat) (b : UInt8) (hv : v < 72057594037927936) : bits BinOp.or IntKind.u64 ((v : Int) * 256) (b.toNat : Int) = ((v * 256 + b.toNat : Nat) : Int) := by
 have hb := b.toNat_lt
 rw [show (v : Int) * 256 = ((v * 256 : Nat) : Int) by omega, u64_or_nat _ _ (by omega) (by omega)]
 have h := Nat.shiftLeft_add_eq_or_of_lt (show b.toNat < 2 ^ 8 from hb) v
 rw [Nat.shiftLeft_eq] at h
 rw [← h]
set_option maxRecDepth 20000 in
set_option maxHeartbeats 2000000 in
theorem AAddrText16_any (bs : List UInt8) (h16 : bs.length = 16) (w : World) (hD : Deb w) :
    Calls Tryz.prog 89 #[.string ⟨bs.toArray⟩] w fun e w' => e = .returned (.tuple #[.string ⟨(txt16 bs).toArray⟩, .int .i64 0]) ∧ Ext w w' := by
  have mixed : Tryz.prog.follows Departure.mixedOrders = true := by kernel_rfl
  have hz : (ByteArray.mk bs.toArray).size = 16 := by simp [ByteArray.size, h16]
  have hpl : (pairs bs).length = 8 := by rw [pairs_length, h16]
  have htl : (txt16 bs).length ≤ 39 := by
    have := addrT_len (a := bs)
    unfold addrT at this
    rw [if_neg (by omega), if_pos h16] at this
    exact this
  replace hD := hide hD
  replace htl := hide htl
  go_enter Tryz.func89, Tryz.ntmps89
  go_wp2_with fail
  go_loopw [4, 6] (fun v q wr => ∃ k j : Nat, k ≤ 8 ∧ j = 2 * k ∧ q = .int .i64 (j : Int) ∧ Own EStr 9 wr w.heap.size v (((pairs bs).take k).map hexB) ∧ Ext w wr) (fun _ q _ => 16 - (intOf q).toNat)
  case atStart => exact ⟨0, 0, by omega, rfl, rfl, by rw [List.take_zero]; exact Own.nil, Ext.refl _⟩
  case round =>
    obtain ⟨k, j, hk, hj, rfl, hown, hE⟩ := hrel
    rename World => W0
    have hz0 := hE.size
    obtain ⟨vo, dd, rfl⟩ := hown.form
    have hlk : (((pairs bs).take k).map hexB).length = k := by simp; omega
    rw [hlk] at hown ⊢
    replace hlk := hide hlk
    replace hE := hide hE
    replace hown := hide hown
    by_cases hlt : k < 8
    · have hj1 : j + 1 < 16 := by omega
      have hjb : j + 1 < bs.length := by omega
      have hjz : j + 1 < (ByteArray.mk bs.toArray).size := by omega
      replace hj := hide hj
      have hp : (pairs bs)[k]? = some (256 * (bs[j]'(Nat.lt_of_succ_lt hjb)).toNat + (bs[j + 1]'hjb).toNat) := by
        have hj2 := hj.out
        subst hj2
        exact pairs_at bs k hjb
      have e1 : (ByteArray.mk bs.toArray)[j]'(Nat.lt_of_succ_lt hjz) = bs[j]'(Nat.lt_of_succ_lt hjb) := rfl
      have e2 : (ByteArray.mk bs.toArray)[j + 1]'hjz = bs[j + 1]'hjb := rfl
      generalize bs[j]'(Nat.lt_of_succ_lt hjb) = u1 at e1 hp
      generalize bs[j + 1]'hjb = u2 at e2 hp
      have l1 := u1.toNat_lt
      have l2 := u2.toNat_lt
      have hpk : (pairs bs)[k]'(by omega) = 256 * u1.toNat + u2.toNat := by
        have := List.getElem?_eq_getElem (show k < (pairs bs).length by omega)
        rw [this] at hp
        exact Option.some.inj hp
      have hnx : ((pairs bs).take k).map hexB ++ [hexB (256 * u1.toNat + u2.toNat)] = ((pairs bs).take (k + 1)).map hexB := by rw [List.take_succ_eq_append_getElem (by omega), List.map_append, hpk]; rfl
      have hsz := hexB_size (256 * u1.toNat + u2.toNat) (by omega)
      have hF := fun W h => Format16 (256 * u1.toNat + u2.toNat) (by omega) W h
      have w1 : IntKind.u64.wrap (u1.toNat : Int) = (u1.toNat : Int) := by rw [IntKind.wrap_u64]; omega
      have w2 : IntKind.u64.wrap (u2.toNat : Int) = (u2.toNat : Int) := by rw [IntKind.wrap_u64]; omega
      have w3 : IntKind.i64.wrap ((j : Int) + 1) = (j : Int) + 1 := by rw [IntKind.wrap_i64]; omega
      have w6 : IntKind.i64.wrap ((j : Int) + 2) = (j : Int) + 2 := by rw [IntKind.wrap_i64]; omega
      have w4 : ((j : Int) + 1).toNat = j + 1 := by omega
      have w5 : IntKind.u64.wrap ((u1.toNat : Int) * 256) = (u1.toNat : Int) * 256 := by rw [IntKind.wrap_u64]; omega
      have hor := or_byte16 u1.toNat u2 (by omega)
      rw [Nat.mul_comm u1.toNat 256] at hor
      generalize 256 * u1.toNat + u2.toNat = n at hnx hsz hF hor
      have hnm : (Tryz.f87.name == "runtime.NumGoroutine") = false := by kernel_rfl
      have hbd : Tryz.f87.body.isNone = false := by kernel_rfl
      replace hnm := hide hnm
      replace hbd := hide hbd
      have hb0 : (0 : Int) ≤ (j : Int) + 1 := by omega
      have hb1 : (j : Int) < 16 := by omega
      have hb2 : (j : Int) + 1 < 16 := by omega
      replace hF := hide hF
      replace hnx := hide hnx
      replace hsz := hide hsz
      clear hp hpk
      go_wp2_with fail
      go_region_law_o (first
        | (refine step_callN (fn := Tryz.f87) (by rfl) _ _ _ rfl Tryz.func87 hnm.out hbd.out #[.int .u64 (n : Int), .int .i64 16] (by simp [Act.eval, Act.put]) (hF.out _ (hD.out.ext hE.out.drew)) ?_
           rintro e w3 ⟨rfl, he3⟩
           refine ⟨_, rfl, ?_⟩
           have hown3 := hide (hown.out.drew.ext he3)
           have hE3 := hide (hE.out.drew.trans he3)
           have hz3 : W0.heap.size ≤ w3.heap.size := he3.size
           clear he3)
        | (refine step_push (E := EStr) (B := w.heap.size) (v := .slice vo k dd) (l := ((pairs bs).take k).map hexB) (y := hexB n) (cs := [.string (hexB n)]) rfl _ _ _ (by rfl) okStr (by decide) (by decide) (by rfl) (hown3.out.alloc _) (by rw [hlk.out]; omega) (by simp; omega) (by rfl) ⟨rfl, by have := hsz.out; unfold maxLen; omega⟩ (str_new' _ _ _) ?_
           intro v' w5 hown1 hg hat))
      all_goals
        go_wp2
        exact ⟨⟨k + 1, j + 2, by omega, by have := hj.out; omega, by go_num, by rw [← hnx.out]; exact hown1, (hE3.out.alloc _).push (fun j hj => (hown3.out.lt j hj).1) hg⟩, by simp [intOf]; omega⟩
    · obtain rfl : k = 8 := by omega
      subst hj
      have hall : (pairs bs).take 8 = pairs bs := List.take_of_length_le (by omega)
      rw [hall] at hown hlk
      obtain ⟨a9, c9, hv9, hc9, hs9⟩ := hown.out.slc
      injection hv9 with e1 e2 e3
      subst e1 e3
      clear e2
      have hJ := Join_any vo dd ((pairs bs).map hexB) 58 W0 _ (fun b hb => hb.2) hs9 (by intro h; have := hlk.out; rw [h] at this; exact absurd this (by simp)) hc9 (by rw [hlk.out]; omega) (by rw [txt16_hex]; have := htl.out; omega)
      rw [hlk.out, txt16_hex] at hJ
      replace hJ := hide hJ
      go_wp2_with fail
      refine hJ.out.mono ?_
      rintro e w6 ⟨rfl, he6⟩
      replace he6 := hide he6
      go_wp2
      go_ret2
      exact ⟨rfl, hE.out.trans he6.out⟩
set_option maxRecDepth 20000 in
theorem AAddrText_any (a : List UInt8) (ha : a.length ≤ 1048576) (w : World) (hT : Tab w) (hD : Deb w) :
  Calls Tryz.prog 89 #[.string ⟨a.toArray⟩] w fun e w' => e = .returned (.tuple #[.string ⟨(addrT a).1.toArray⟩, .int .i64 (addrT a).2]) ∧ Ext w w' := by
 by_cases h4 : a.length = 4
 ·have hl := addrT_len (a := a)
  have h := AAddrText4_any a h4 w hT (by rw [txt4_dec]; unfold addrT at hl; rw [if_pos h4] at hl; have hl2 : (txt4 a).length ≤ 39 := hl; omega)
  rw [txt4_dec] at h
  unfold addrT
  rw [if_pos h4]
  exact h
 ·by_cases h16 : a.length = 16
  ·unfold addrT
   rw [if_neg h4, if_pos h16]
   exact AAddrText16_any a h16 w hD
  ·unfold addrT
   rw [if_neg h4, if_neg h16]
   have hz : (ByteArray.mk a.toArray).size = a.length := by simp [ByteArray.size]
   have b1 : ((a.length : Int) == 4) = false := by rw [beq_eq_false_iff_ne]; omega
   have b2 : ((a.length : Int) == 16) = false := by rw [beq_eq_false_iff_ne]; omega
   clear hT hD
   go_enter Tryz.func89, Tryz.ntmps89
   go_wp2
   go_ret2
   exact ⟨rfl, Ext.refl _⟩
end
section
open Go.RowKit Go.Sort
set_option linter.unusedVariables false
theorem cut_len (h : List UInt8) (c : UInt8) : (Lib.cut h [c]).1.length ≤ h.length ∧ (Lib.cut h [c]).2.1.length ≤ h.length := by
 by_cases hm : c ∈ h
 ·obtain ⟨a, b, rfl, ha⟩ := first_at hm
  rw [cut_hit ha]
  simp
  omega
 ·rw [cut_miss hm]
  simp
/-- What reading a prefix answers. -/
def PsP (s : List UInt8) (w : World) (e : Ending) (w' : World) : Prop := e = .returned (.tuple #[valP (parseC s).1, .int .i64 (parseC s).2]) ∧ Ext w w'
theorem PsP.of {s : List UInt8} {p : Pfx} {c : Int} {w : World} (h : parseC s = (p, c)) (W : World) (hE : Ext w W) : PsP s w (.returned (.tuple #[valP p, .int .i64 c])) W := ⟨by rw [h], hE⟩
end
section
open Go.RowKit Go.Sort
set_option linter.unusedVariables false
def lb (l : List UInt8) : ByteArray := ⟨l.toArray⟩
end
end Go.Proofs.YtljibkfbldjgdaaGreatDoor
