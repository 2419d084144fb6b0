/- Walks: how long a family's addresses are; a bit of an address. Walks: an address with its first bits alone. Two prefixes compared; a Go function's call as a step of a region. -/
import Derived.Test.YtljibkfbldjgdaaGreatDoorProg
import Derived.Test.YtljibkfbldjgdaaGreatDoorP1
import Derived.Shelf.RegionOpenPlain
import Derived.Laws.StructEq
import Derived.Lib.QuietBelow
namespace Go.Proofs.YtljibkfbldjgdaaGreatDoor
open Go.RowKit
set_option linter.unusedVariables false

theorem fam_cases (f : Int) : f = 1 ∨ f = 2 ∨ f = 3 ∨ f = 4 ∨ f = 5 ∨ (f ≠ 1 ∧ f ≠ 2 ∧ f ≠ 3 ∧ f ≠ 4 ∧ f ≠ 5) := by omega
theorem ASize_any (f : Int) (w : World) : Calls Tryz.prog 145 #[.int .i64 f] w fun e w' => e = .returned (.int .i64 (sizeS f)) ∧ w = w' := by
  rcases fam_cases f with rfl | rfl | rfl | rfl | rfl | ⟨h1, h2, h3, h4, h5⟩
  all_goals
    go_enter Tryz.func145, Tryz.ntmps145
    go_wp2
    go_ret
    exact ⟨by simp [sizeS, *], rfl⟩
theorem RSize_any (f : Int) (w : World) : Calls Tryz.prog 153 #[.int .i64 f] w fun e w' => e = .returned (.int .i64 (sizeS f)) ∧ w = w' := by
  rcases fam_cases f with rfl | rfl | rfl | rfl | rfl | ⟨h1, h2, h3, h4, h5⟩
  all_goals
    go_enter Tryz.func153, Tryz.ntmps153
    go_wp2
    go_ret
    exact ⟨by simp [sizeS, *], rfl⟩
theorem Aapart_any (f : Int) (w : World) : Calls Tryz.prog 171 #[.int .i64 f] w fun e w' => e = .returned (.bool (apartS f)) ∧ w = w' := by
  rcases fam_cases f with rfl | rfl | rfl | rfl | rfl | ⟨h1, h2, h3, h4, h5⟩
  all_goals
    go_enter Tryz.func171, Tryz.ntmps171
    go_wp2
    go_ret
    exact ⟨by simp [apartS, *], rfl⟩
theorem RApart_any (f : Int) (w : World) : Calls Tryz.prog 175 #[.int .i64 f] w fun e w' => e = .returned (.bool (apartS f)) ∧ w = w' := by
  rcases fam_cases f with rfl | rfl | rfl | rfl | rfl | ⟨h1, h2, h3, h4, h5⟩
  all_goals
    go_enter Tryz.func175, Tryz.ntmps175
    go_wp2
    go_ret
    exact ⟨by simp [apartS, *], rfl⟩

/-- A bit as a number. -/
def bitV (b : Bool) : Int := if b then 1 else 0
theorem byte_bit (x : Nat) (j : Nat) : ((x / 2 ^ j % 2 : Nat) : Int) = bitV (x.testBit j) := by
  rw [Nat.testBit_eq_decide_div_mod_eq]
  unfold bitV
  by_cases h : x / 2 ^ j % 2 = 1
  · rw [h, decide_eq_true rfl]; rfl
  · rw [decide_eq_false h, if_neg (by simp)]
    have := Nat.mod_lt (x / 2 ^ j) (show 0 < 2 by omega)
    omega
theorem wrap64_id (x : Int) (h1 : 0 ≤ x) (h2 : x < 9223372036854775808) : wrap64 x = x := by
  unfold wrap64
  omega
theorem and_one (y : Nat) (h : y < 256) : bits .and .i64 (y : Int) 1 = ((y % 2 : Nat) : Int) := by
  have := (bits_nat .i64 8 (by decide) (fun n h1 h2 => by rw [IntKind.wrap_i64]; have : n < 256 := h2; omega) y 1 h (by decide)).1
  rw [Nat.and_one_is_mod] at this
  exact this
set_option maxRecDepth 20000 in
theorem RBit_any (a : List UInt8) (n : Int) (w : World) (ha : a.length ≤ 1048576) (h1 : -9223372036854775808 ≤ n) (h2 : n ≤ 9223372036854775807) :
    Calls Tryz.prog 176 #[.string ⟨a.toArray⟩, .int .i64 n] w fun e w' => e = .returned (.int .i64 (bitV (bitZ a n))) ∧ w = w' := by
  have hz : (ByteArray.mk a.toArray).size = a.length := by simp [ByteArray.size]
  by_cases hn : n < 0
  · have hb : bitV (bitZ a n) = 0 := by unfold bitZ; rw [if_pos hn]; rfl
    rw [hb]
    replace h1 := hide h1
    replace h2 := hide h2
    go_enter Tryz.func176, Tryz.ntmps176
    go_wp2
    go_ret
    exact ⟨rfl, rfl⟩
  · obtain ⟨m, rfl⟩ : ∃ m : Nat, n = m := ⟨n.toNat, by omega⟩
    have hb0 : bitZ a m = bitN a m := by unfold bitZ; rw [if_neg hn]; rfl
    rw [hb0]
    have g1 : wrap64 ((m : Int) / 8) = (m : Int) / 8 := wrap64_id _ (by omega) (by omega)
    have g3 : 0 ≤ (m : Int) / 8 := by omega
    by_cases hk : a.length ≤ m / 8
    · have hb : bitV (bitN a m) = 0 := by rw [bitN_out a m (by omega)]; rfl
      have hd : (a.length : Int) ≤ (m : Int) / 8 := by omega
      rw [hb]
      replace h1 := hide h1
      replace h2 := hide h2
      replace hb0 := hide hb0
      replace hb := hide hb
      replace hk := hide hk
      go_enter Tryz.func176, Tryz.ntmps176
      go_wp2
      go_ret
      exact ⟨rfl, rfl⟩
    · have hk' : m / 8 < a.length := by omega
      have hd : ¬ ((a.length : Int) ≤ (m : Int) / 8) := by omega
      have hd2 : (m : Int) / 8 < (a.length : Int) := by omega
      have hby : (ByteArray.mk a.toArray)[m / 8]'(by omega) = a[m / 8] := rfl
      have hbt : bitN a m = (a[m / 8]).toNat.testBit (7 - m % 8) := by unfold bitN; rw [List.getElem?_eq_getElem hk']
      generalize a[m / 8] = x at hby hbt
      have hx := x.toNat_lt
      have hle : x.toNat / 2 ^ (7 - m % 8) ≤ x.toNat := Nat.div_le_self _ _
      have g5 : ((x.toNat : Int) / 2 ^ (7 - m % 8)) = ((x.toNat / 2 ^ (7 - m % 8) : Nat) : Int) := by simp
      have g6 : wrap64 ((x.toNat : Int) / 2 ^ (7 - m % 8)) = ((x.toNat / 2 ^ (7 - m % 8) : Nat) : Int) := by rw [g5]; exact wrap64_id _ (Int.natCast_nonneg _) (Int.lt_trans (Int.ofNat_lt.2 (Nat.lt_of_le_of_lt hle hx)) (by decide))
      have g7 : bits .and .i64 (wrap64 ((x.toNat : Int) / 2 ^ (7 - m % 8))) 1 = bitV (bitN a m) := by
        rw [g6, and_one _ (Nat.lt_of_le_of_lt hle hx), hbt, ← byte_bit]
      replace h1 := hide h1
      replace h2 := hide h2
      replace hb0 := hide hb0
      replace hk := hide hk
      replace hbt := hide hbt
      replace g5 := hide g5
      replace g6 := hide g6
      go_enter Tryz.func176, Tryz.ntmps176
      go_wp2
      go_ret
      exact ⟨by first | rw [g7] | rfl, rfl⟩

theorem shl255 (l : Nat) (h1 : 1 ≤ l) (h7 : l ≤ 7) (x : UInt8) (X : Int) (hX : X = ((256 - 2 ^ (8 - l) : Nat) : Int)) : bits .and .u8 (x.toNat : Int) X = ((maskB (l : Int) x).toNat : Int) := by
  have hp : 2 ^ (8 - l) ≤ 2 ^ 7 := Nat.pow_le_pow_right (by omega) (by omega)
  have hp0 : 0 < 2 ^ (8 - l) := Nat.two_pow_pos _
  rw [hX, u8_and_nat _ _ x.toNat_lt (by omega), mask_and l h1 h7 x]

set_option maxRecDepth 20000 in
set_option maxHeartbeats 1000000 in
theorem masked_any (a : List UInt8) (n : Int) (w : World) (ha : a.length ≤ 16) (ha0 : 0 < a.length) (h1 : 0 ≤ n) (h2 : n ≤ 128) :
    Calls Tryz.prog 172 #[.string ⟨a.toArray⟩, .int .i64 n] w fun e w' => e = .returned (.string ⟨(maskS a n).toArray⟩) ∧ Ext w w' := by
  have mixed : Tryz.prog.follows Departure.mixedOrders = true := by kernel_rfl
  have hz : (ByteArray.mk a.toArray).size = a.length := by simp [ByteArray.size]
  have kc := fun (w : World) => Lib.run_convert_string_bytes (P := Tryz.prog) w 9 148 5 ⟨a.toArray⟩ Tryz.underlying9 Tryz.underlying148 Tryz.underlying5
  go_enter Tryz.func172, Tryz.ntmps172
  go_wp2
  have hcv := OwnB.conv (w := w) (e := 5) ⟨a.toArray⟩ (by unfold maxLen; omega)
  have hEc := ext_bytesWorld w 5 ⟨a.toArray⟩
  rw [hz] at hcv
  generalize hc : grownCap w a.length 0 5 = cp at hcv ⊢
  generalize hW : Lib.bytesWorld w 5 ⟨a.toArray⟩ = W1 at hcv hEc
  replace hc := hide hc
  replace hW := hide hW
  clear kc
  go_loopw [12] (fun q wr => ∃ k : Nat, k ≤ a.length ∧ q = .int .i64 k ∧ OwnB 5 wr w.heap.size (.slice (some ⟨w.heap.size, 0, none⟩) a.length cp) (maskK a n k) ∧ Ext w wr) (fun q _ => a.length - (intOf q).toNat)
  case atStart => exact ⟨0, Nat.zero_le _, rfl, by rw [maskK_zero]; simpa [hz] using hcv, hEc⟩
  case round =>
    clear hcv hEc hW hc W1
    obtain ⟨k, hk, rfl, hown, hE⟩ := hrel
    rename World => W0
    by_cases hlt : k < a.length
    · obtain ⟨x1, f1⟩ := hown.cell rfl k (by rw [maskK_len _ _ _ hk]; exact hlt)
      have hx : (maskK a n k)[k]'(by rw [maskK_len _ _ _ hk]; exact hlt) = a[k] := by
        have := maskK_at a n k hlt
        rw [List.getElem?_eq_getElem (by rw [maskK_len _ _ _ hk]; exact hlt)] at this
        exact Option.some.inj this
      rw [hx] at x1
      have hset := hown.set k (maskB (n - 8 * (k : Int)) a[k])
      rw [maskK_set a n k hlt] at hset
      have hEs := hE.setCell (p := ⟨w.heap.size, k, none⟩) (Nat.le_refl _) (.int .u8 ((maskB (n - 8 * (k : Int)) a[k]).toNat : Int))
      clear hx
      rcases (show n - 8 * (k : Int) ≤ 0 ∨ 8 ≤ n - 8 * (k : Int) ∨ ∃ l : Nat, 1 ≤ l ∧ l ≤ 7 ∧ n = 8 * (k : Int) + l from by
        by_cases h : n - 8 * (k : Int) ≤ 0
        · exact .inl h
        · by_cases h' : 8 ≤ n - 8 * (k : Int)
          · exact .inr (.inl h')
          · exact .inr (.inr ⟨(n - 8 * (k : Int)).toNat, by omega, by omega, by omega⟩)) with hl | hl | ⟨l, hl1, hl7, hnl⟩
      · have hb : (maskB (n - 8 * (k : Int)) a[k]).toNat = 0 := by unfold maskB; rw [if_pos hl]; rfl
        rw [hb] at hset hEs
        replace hset := hide hset
        replace hEs := hide hEs
        replace hown := hide hown
        replace hE := hide hE
        replace hb := hide hb
        go_wp2
        go_roundw
        case rel => exact ⟨k + 1, by omega, by go_num, hset.out, hEs.out⟩
        case measure => simp [intOf]; omega
      · have hsk := maskK_skip a n k hlt hl
        rw [hsk] at hown
        replace hset := hide hset
        replace hEs := hide hEs
        replace hown := hide hown
        replace hE := hide hE
        replace hsk := hide hsk
        go_wp2
        go_roundw
        case rel => exact ⟨k + 1, by omega, by go_num, hown.out, hE.out⟩
        case measure => simp [intOf]; omega
      · have hbm := fun X hX => shl255 l hl1 hl7 a[k] X hX
        rw [show n - 8 * (k : Int) = (l : Int) by omega] at hset hEs
        generalize maskB (l : Int) a[k] = y at hbm hset hEs
        replace hset := hide hset
        replace hEs := hide hEs
        replace hown := hide hown
        replace hE := hide hE
        rcases (show (l = 1 ∧ n - 8 * (k : Int) = 1) ∨ (l = 2 ∧ n - 8 * (k : Int) = 2) ∨ (l = 3 ∧ n - 8 * (k : Int) = 3) ∨ (l = 4 ∧ n - 8 * (k : Int) = 4) ∨ (l = 5 ∧ n - 8 * (k : Int) = 5) ∨ (l = 6 ∧ n - 8 * (k : Int) = 6) ∨ (l = 7 ∧ n - 8 * (k : Int) = 7) by omega) with ⟨rfl, hnl2⟩ | ⟨rfl, hnl2⟩ | ⟨rfl, hnl2⟩ | ⟨rfl, hnl2⟩ | ⟨rfl, hnl2⟩ | ⟨rfl, hnl2⟩ | ⟨rfl, hnl2⟩
        all_goals
          replace hbm := hide hbm
          have gw1 : IntKind.i64.wrap 1 = 1 := by decide
          have gw2 : IntKind.i64.wrap 2 = 2 := by decide
          have gw3 : IntKind.i64.wrap 3 = 3 := by decide
          have gw4 : IntKind.i64.wrap 4 = 4 := by decide
          have gw5 : IntKind.i64.wrap 5 = 5 := by decide
          have gw6 : IntKind.i64.wrap 6 = 6 := by decide
          have gw7 : IntKind.i64.wrap 7 = 7 := by decide
          replace hnl := hide hnl
          go_wp2
          go_region_law_o (fail)
          go_wp2
          go_roundw
          case rel => exact ⟨k + 1, by omega, by go_num, by rw [hbm.out _ (by decide)]; exact hset.out.kept (fun _ _ => rfl), by rw [hbm.out _ (by decide)]; exact hEs.out.drew⟩
          case measure => simp [intOf]; omega
    · obtain rfl : k = a.length := by omega
      rw [maskK_all] at hown
      have kd := run_stringB (P := Tryz.prog) (src := 148) (dst := 9) Tryz.underlying148 Tryz.underlying5 Tryz.underlying9 hown
      replace hown := hide hown
      go_wp2
      go_ret
      exact ⟨rfl, hE⟩
open Go.RowKit Go.Sort

theorem run_eqP (W : World) (f g : Int) (r s : Int) (x y : List UInt8) (l m : Int) :
    (binOp .eql 70 (.agg #[.int .i64 f, .int .u64 r, .string ⟨x.toArray⟩, .int .i64 l]) (.agg #[.int .i64 g, .int .u64 s, .string ⟨y.toArray⟩, .int .i64 m])).run Tryz.prog W = .ok (.bool (decide (f = g ∧ r = s ∧ x = y ∧ l = m))) W := by
  have hS : Tryz.prog.underlying 70 = some (.struct (Tryz.prog.fieldsOf 70)) := by kernel_rfl
  rw [run_eql_struct, run_equalIn_agg W 9999 _ _ _ hS Tryz.stoodInHeld70]
  simp only [Program.fieldsOf, Tryz.underlying70]
  have e1 : ∀ (a b : Int) (w : World), (Op.equalIn 9999 3 (.int .i64 a) (.int .i64 b)).run Tryz.prog w = .ok (a == b) w := fun a b w => run_equalIn_int w 9998 _ .i64 .i64 a b Tryz.underlying3
  have e2 : ∀ (a b : Int) (w : World), (Op.equalIn 9999 68 (.int .u64 a) (.int .u64 b)).run Tryz.prog w = .ok (a == b) w := fun a b w => run_equalIn_int w 9998 _ .u64 .u64 a b Tryz.underlying68
  have e3 : ∀ (a b : List UInt8) (w : World), (Op.equalIn 9999 9 (.string ⟨a.toArray⟩) (.string ⟨b.toArray⟩)).run Tryz.prog w = .ok (a == b) w := fun a b w => by
    rw [run_equalIn_string w 9998 _ _ _ Tryz.underlying9, ByteArray.toList_eq, ByteArray.toList_eq]
  by_cases h1 : f = g <;> by_cases h2 : r = s <;> by_cases h3 : x = y <;> by_cases h4 : l = m <;> simp [Op.eqFields, part, e1, e2, e3, h1, h2, h3, h4]

theorem step_callN {P : Program} {ops : Array Oper} {o : Oper} {a : Act} {w : World} {K : Act → World → Prop} {Q : Exit → Act → World → Prop} {X : Prop} (hw : Region.wanted o (yielded ops a.tmps) = true) (f : FuncId) {fn : Func} (xs : Array Operand) (ts : Array TypeId)
    (hop : o.op = Op.call { callee := Callee.value (Operand.func f), args := xs, argTypes := ts }) (hf : P.funcs[f]? = some fn) (hname : (fn.name == "runtime.NumGoroutine") = false) (hb : fn.body.isNone = false) (vs : Array Value) (hx : xs.map a.eval = vs)
    {R : Ending → World → Prop} (hc : Calls P f vs w R) (hk : ∀ e w', R e w' → ∃ u, e = .returned u ∧ K (a.put o.dst u) w') : if Region.wanted o (yielded ops a.tmps) = true then Oper.wp P o a w K Q else X := by
  rw [if_pos hw]
  unfold Oper.wp
  have h1 : fn.name ≠ "runtime.NumGoroutine" := by simpa using hname
  have hev : a.eval (Operand.func f) = .func (.func f) #[] #[] := rfl
  have h2 : ¬ (fn.body = none) := by intro h; simp [h] at hb
  have hrun : (execOp a.eval o).run P w = .ok (.enter f vs) w := by
    simp [execOp, hop, resolve, hev, Deferred.ofValue, invoke, hx, callFunc, hf, h1, h2]
  rw [hrun, Oper.upon_enter]
  exact hc.mono fun e w' h => by obtain ⟨u, rfl, hK⟩ := hk e w' h; exact hK

theorem quiet_apart (f : Int) (w : World) (n : Nat) : Calls Tryz.prog 171 #[.int .i64 f] (w.drewN n) fun e w'' => e = .returned (.bool (apartS f)) ∧ ∃ m, w'' = w.drewN m :=
  Calls.quiet_of_same ((Aapart_any f _).mono fun e w' h => ⟨h.1, h.2.symm⟩)

/-- A callee that turns nothing, met in a region of reads and of calls that make memory. -/
theorem regrown_same {P : Program} {f : FuncId} {args : Array Value} {w : World} {d : Nat} {os : Array Obj} {v : Value} (h : Calls P f args (grow (redrawn w d) os) fun e w' => e = .returned v ∧ grow (redrawn w d) os = w') :
    Calls P f args (grow (redrawn w d) os) fun e w'' => e = .returned v ∧ ∃ p : Regrown, w'' = grow (redrawn w p.d) p.os :=
  Calls.regrown_of (h.mono fun e w' h => ⟨h.1, h.2 ▸ Below.refl _ _⟩)
/-- A prefix in a block of its own, as such a region reads it. -/
theorem regrown_cells (w : World) (f R : Int) (s : ByteArray) (l : Int) (T : TypeId) :
    (∀ d os, (grow (redrawn (w.alloc (.cells #[.int .i64 f, .int .u64 R, .string s, .int .i64 l] T)) d) os).cell? ⟨w.heap.size, 0, none⟩ = some (.int .i64 f)) ∧
    (∀ d os, (grow (redrawn (w.alloc (.cells #[.int .i64 f, .int .u64 R, .string s, .int .i64 l] T)) d) os).cell? ⟨w.heap.size, 1, none⟩ = some (.int .u64 R)) ∧
    (∀ d os, (grow (redrawn (w.alloc (.cells #[.int .i64 f, .int .u64 R, .string s, .int .i64 l] T)) d) os).cell? ⟨w.heap.size, 2, none⟩ = some (.string s)) ∧
    (∀ d os, (grow (redrawn (w.alloc (.cells #[.int .i64 f, .int .u64 R, .string s, .int .i64 l] T)) d) os).cell? ⟨w.heap.size, 3, none⟩ = some (.int .i64 l)) :=
  ⟨cell_regrown ((Blk.new w T _).cell 0), cell_regrown ((Blk.new w T _).cell 1), cell_regrown ((Blk.new w T _).cell 2), cell_regrown ((Blk.new w T _).cell 3)⟩
theorem quiet_Apart (f : Int) (w : World) (n : Nat) : Calls Tryz.prog 175 #[.int .i64 f] (w.drewN n) fun e w'' => e = .returned (.bool (apartS f)) ∧ ∃ m, w'' = w.drewN m :=
  Calls.quiet_of_same ((RApart_any f _).mono fun e w' h => ⟨h.1, h.2.symm⟩)
noncomputable def mayB (p : Pfx) : Bool := decide (MayP p)
end Go.Proofs.YtljibkfbldjgdaaGreatDoor
