/- Chapter 35, walks: strings.Builder; the program's bytes as digits. Chapter 35, walks: the program's bytes as digits. Walks: an address as a text, by the document. Walks: the document's Split and Fam. Chapter 35, walks: a name (script.named), a number. Chapter 35, walks: strings.TrimLeft (does not build yet: the store of the set of 256 cells). Chapter 35, walks: is it a name (script.named)? Walks: strings.Split and strconv.ParseUint at longer texts. Chapter 35, walks: giving up; a number, a name, bytes of a word; a word of bytes. A law of regions that draw their order: a fact that every operation keeps holds at the end; the frame is the one of the text's order. A region that draws its order and makes memory, met by one word for each of its operations. A region that draws its order and makes memory, met by one word for each of its operations; a word for answers that are not one value. A re -/
import Derived.WalkKit
import Derived.Below
import Derived.Outline
import Derived.LoopTactic
import Derived.Laws.OwnMore
import Derived.Deep.AppendLies
import Derived.Deep.Draws
import Derived.Lib.Hide
import Derived.BigQuiet
import Derived.Deep.QuietTactic
import Derived.WalkSpells
import Derived.WalkLawsBesides
import Derived.Deep.RegionHeld3
import Derived.Deep.DrawnRows
import Derived.Deep.RegionLaw
import Derived.Test.YtkinghadgmbhbaaGreatDoorProg
import Derived.Test.YtkinghadgmbhbaaGreatDoorShelf
import Derived.Lib.ConvBytes
import Derived.Lib.Bytealg
import Derived.Lib.Small
import Derived.Lib.SplitLaws
import Derived.Lib.ParseIntB
import Derived.Lib.ParseIntBCases
import Derived.Lib.ItoaNum
import Derived.Lib.Join
import Derived.Test.YtkinghadgmbhbaaGreatDoorShelf2
import Derived.Lib.UnsafeStr
import Derived.Shelf.RegionOpenPlain
import Derived.Laws.StructEq
import Derived.Lib.QuietBelow
import Derived.Test.YtkinghadgmbhbaaGreatDoorRows
import Derived.ProofKit
import Derived.Deep.Slices
import Derived.Shelf.GgClosure.StringsRunes
import Derived.Lib.ItoaMem
import Derived.Lib.ItoaLen
import Derived.Shelf.Strings.Builder1
import Derived.Orders
import Derived.StillTail
import Derived.Defers
import Derived.Recover
import Derived.Test.YtkinghadgmbhbaaGreatDoorPE01
import Derived.Test.YtkinghadgmbhbaaGreatDoorPE02
namespace Go.Proofs.YtkinghadgmbhbaaGreatDoor
section
open Go.RowKit
set_option linter.unusedVariables false
/-- A builder in the block b, its memory from B on. -/
def BdAt (B b : Nat) (p : Value) (l : List UInt8) (w : World) : Prop := Lib.BuilderAt 69 5 B b p (Lib.byteCells l) w
def Bd (B b : Nat) (l : List UInt8) (w : World) : Prop := Lib.IsBuilder 69 5 B b (Lib.byteCells l) w
theorem bd_info : ∃ j, Tryz.prog.info? 69 = some j ∧ j.size = 2 := by
 have h : (Tryz.prog.info? 69).map (fun i => i.size) = some 2 := by kernel_rfl
 exact Option.map_eq_some_iff.1 h
theorem bd_lies : liesAt Tryz.prog Tryz.prog.depth 69 (2 / Tryz.prog.cellsOf 69) 0 69 1 = true := by kernel_rfl
set_option maxRecDepth 100000 in
set_option maxHeartbeats 1000000 in
theorem BCopy_used (b : Nat) (w : World) (h0 : w.cell? ⟨b, 0, none⟩ = some (.pointer (some ⟨b, 0, none⟩))) :
  Calls Tryz.prog 60 #[.pointer (some ⟨b, 0, none⟩)] w fun e w' => e = .returned (.tuple #[]) ∧ w' = w := by
 obtain ⟨j, hj, hjs⟩ := bd_info
 go_enter Tryz.func60, Tryz.ntmps60
 go_wp2
 rw [Lib.run_neq_ptr_same w _ Tryz.underlying67 hj]
 go_wp2
 go_end0
 exact ⟨rfl, rfl⟩
set_option maxRecDepth 100000 in
set_option maxHeartbeats 1000000 in
theorem BCopy_fresh (b : Nat) (w : World) (h0 : w.cell? ⟨b, 0, none⟩ = some (.pointer none)) (hsh : w.shape? b = some (69, 2)) (hfz : w.frozen? ⟨b, 0, none⟩ = false) :
  Calls Tryz.prog 60 #[.pointer (some ⟨b, 0, none⟩)] w fun e w' => e = .returned (.tuple #[]) ∧ w' = w.setCell ⟨b, 0, none⟩ (.pointer (some ⟨b, 0, none⟩)) := by
 obtain ⟨j, hj, hjs⟩ := bd_info
 go_enter Tryz.func60, Tryz.ntmps60
 go_wp2
 rw [Lib.run_to_unsafe w ⟨b, 0, none⟩ Tryz.underlying67 Tryz.underlying80 hj (by rw [hjs]; decide) hsh (Nat.zero_lt_succ 1)]
 simp only [Result.andThen]
 rw [Oper.upon_value]
 go_wp2
 rw [run_callFunc_extern Tryz.func83 (by kernel_rfl) (by kernel_rfl) (by kernel_rfl) (e := Extern.AbiNoEscape.same) (by kernel_rfl)]
 rw [Lib.run_noEscape]
 simp only [Result.andThen]
 rw [Oper.upon_value]
 go_wp2
 rw [Lib.run_from_unsafe w ⟨b, 0, none⟩ Tryz.underlying80 Tryz.underlying67 hj hsh bd_lies]
 simp only [Result.andThen]
 rw [Oper.upon_value]
 go_wp2
 go_end0
 exact ⟨rfl, rfl⟩
theorem BCopy_any (B b : Nat) (l : List UInt8) (w : World) (h : Bd B b l w) :
  Calls Tryz.prog 60 #[.pointer (some ⟨b, 0, none⟩)] w fun e w' => e = .returned (.tuple #[]) ∧ BdAt B b (.pointer (some ⟨b, 0, none⟩)) l w' ∧ Below B w w' := by
 rcases h with h | h
 ·refine (BCopy_fresh b w h.cell0 h.shape h.frozen0).mono ?_
  rintro e w' ⟨rfl, rfl⟩
  exact ⟨rfl, h.used _, (Below.refl B w).setCell (p := ⟨b, 0, none⟩) h.1 _⟩
 ·refine (BCopy_used b w h.cell0).mono ?_
  rintro e w' ⟨rfl, rfl⟩
  exact ⟨rfl, h, Below.refl B _⟩
theorem byteCells_app (l m : List UInt8) : Lib.byteCells (l ++ m) = Lib.byteCells l ++ Lib.byteCells m := by simp [Lib.byteCells]
theorem byteCells_len (l : List UInt8) : (Lib.byteCells l).length = l.length := by simp [Lib.byteCells]
theorem bd_byte : ∃ i, Tryz.prog.info? 5 = some i ∧ i.size = 1 ∧ i.bytes = 1 ∧ i.zero = some (.int .u8 0) := by
 have h : (Tryz.prog.info? 5).map (fun i => (i.size, i.bytes, i.zero)) = some (1, 1, some (.int .u8 0)) := by kernel_rfl
 obtain ⟨i, hi, hp⟩ := Option.map_eq_some_iff.1 h
 obtain ⟨h1, hp⟩ := Prod.mk.inj hp
 obtain ⟨h2, h3⟩ := Prod.mk.inj hp
 exact ⟨i, hi, h1, h2, h3⟩
set_option maxRecDepth 100000 in
set_option maxHeartbeats 1000000 in
theorem BWriteByte_any (B b : Nat) (l : List UInt8) (c : UInt8) (w : World) (h : Bd B b l w) (hlen : l.length ≤ 4194304) (hBw : B ≤ w.heap.size) :
  Calls Tryz.prog 96 #[.pointer (some ⟨b, 0, none⟩), .int .u8 (c.toNat : Int)] w fun e w' => e = .returned .nilIface ∧ Bd B b (l ++ [c]) w' ∧ Below B w w' := by
 obtain ⟨i0, hi, hz0, hz1, hz2⟩ := bd_byte
 go_enter Tryz.func96, Tryz.ntmps96
 go_wp2_with (go_at_call 60; refine (BCopy_any B b l _ h).mono ?_)
 rintro e w1 ⟨rfl, h1, hb1⟩
 obtain ⟨hB, v, hbk, hown, hne⟩ := h1
 rw [byteCells_len] at hown
 have c0 : w1.cell? ⟨b, 0, none⟩ = some (.pointer (some ⟨b, 0, none⟩)) := by rw [Lib.cell_of_heap hbk]; rfl
 have c1 : w1.cell? ⟨b, 1, none⟩ = some v := by rw [Lib.cell_of_heap hbk]; rfl
 have hlt : b < w1.heap.size := by
  rcases Nat.lt_or_ge b w1.heap.size with h' | h'
  ·exact h'
  ·rw [Array.getElem?_eq_none h'] at hbk; cases hbk
 have hb2 : ∀ w2 : World, (w1.alloc (.cells #[.int .u8 (c.toNat : Int)] 5)).grownBy w2 v.ownBlock → w2.heap[b]? = some (.cells #[.pointer (some ⟨b, 0, none⟩), v] 69 (0, 0)) := fun w2 hg => by
  rw [hg.block b (by simp; omega) (fun e => hne e.symm), Lib.alloc_old w1 _ b hlt]
  exact hbk
 go_wp2_with (at_builtin; refine wpList_append_own _ rfl _ _ 65 rfl B 5 i0 (.int .u8 0) 1 1 Tryz.underlying65 hi hz2 hz0 hz1 rfl (by decide) _ _ _ rfl (hown.alloc _) ⟨w1.heap.size, 0, none⟩ 1 1 [.int .u8 (c.toNat : Int)] rfl rfl ?c1 ?c2 ?c3 ?c4 ?c5 ?_)
 case c1 =>
  intro j u hj
  match j, hj with
  | 0, hj => simp at hj; subst hj; simp [Addr.add]
 case c2 => intro u hu; simp at hu; subst hu; rfl
 case c3 => unfold maxLen; simp; omega
 case c4 => simp; omega
 case c5 => have := hb1.size; simp; omega
 intro v' w2 hown' hgrow _
 have hb2 := hb2 w2 hgrow
 have d0 : w2.cell? ⟨b, 0, none⟩ = some (.pointer (some ⟨b, 0, none⟩)) := by rw [Lib.cell_of_heap hb2]; rfl
 have d1 : w2.cell? ⟨b, 1, none⟩ = some v := by rw [Lib.cell_of_heap hb2]; rfl
 have f1 : w2.frozen? ⟨b, 1, none⟩ = false := Lib.frozen_of_heap hb2 1
 obtain ⟨ao, n', cap, rfl⟩ : ∃ ao n' cap, v' = .slice ao n' cap := by
  rcases hown'.2 with ⟨hv, _⟩ | ⟨g, cap, cur, hv, _⟩
  ·exact ⟨_, _, _, hv⟩
  ·exact ⟨_, _, _, hv⟩
 go_wp2
 go_ret
 refine ⟨rfl, ?_, ?_⟩
 ·exact .inr (Lib.BuilderAt.put (T := 69) (e := 5) hB hb2 (bs' := Lib.byteCells (l ++ [c])) (by rw [byteCells_len, byteCells_app, List.length_append]; exact hown') (by decide))
 ·exact ((hb1.alloc (by have := hb1.size; omega) _).grown hgrow (by have := hb1.size; simp; omega) (fun k hk => (hown.lt k hk).1)).setCell (p := ⟨b, 1, none⟩) hB _
set_option maxRecDepth 100000 in
set_option maxHeartbeats 1000000 in
theorem BWriteString_any (B b : Nat) (l s : List UInt8) (w : World) (h : Bd B b l w) (hlen : l.length + s.length ≤ 268435456) (hBw : B ≤ w.heap.size) :
  Calls Tryz.prog 27 #[.pointer (some ⟨b, 0, none⟩), .string ⟨s.toArray⟩] w fun e w' => e = .returned (.tuple #[.int .i64 (s.length : Int), .nilIface]) ∧ Bd B b (l ++ s) w' ∧ Below B w w' := by
 obtain ⟨i0, hi, hz0, hz1, hz2⟩ := bd_byte
 go_enter Tryz.func27, Tryz.ntmps27
 go_wp2_with (go_at_call 60; refine (BCopy_any B b l _ h).mono ?_)
 rintro e w1 ⟨rfl, h1, hb1⟩
 obtain ⟨hB, v, hbk, hown, hne⟩ := h1
 rw [byteCells_len] at hown
 have c0 : w1.cell? ⟨b, 0, none⟩ = some (.pointer (some ⟨b, 0, none⟩)) := by rw [Lib.cell_of_heap hbk]; rfl
 have c1 : w1.cell? ⟨b, 1, none⟩ = some v := by rw [Lib.cell_of_heap hbk]; rfl
 have hlt : b < w1.heap.size := by
  rcases Nat.lt_or_ge b w1.heap.size with h' | h'
  ·exact h'
  ·rw [Array.getElem?_eq_none h'] at hbk; cases hbk
 have hb2 : ∀ w2 : World, w1.grownBy w2 v.ownBlock → w2.heap[b]? = some (.cells #[.pointer (some ⟨b, 0, none⟩), v] 69 (0, 0)) := fun w2 hg => by
  rw [hg.block b hlt (fun e => hne e.symm)]
  exact hbk
 go_wp2_with (at_builtin; refine Lib.wpList_append_own_string _ rfl _ _ 65 9 rfl B 5 i0 Tryz.underlying65 Tryz.underlying9 hi hz2 hz0 hz1 _ _ _ rfl hown ⟨s.toArray⟩ rfl ?c3 ?c4 ?c5 ?_)
 case c3 => unfold maxLen; simp [ByteArray.size]; omega
 case c4 => simp [ByteArray.size]; omega
 case c5 => have := hb1.size; simp; omega
 intro v' w2 hown' hgrow _
 have hb2 := hb2 w2 hgrow
 have d0 : w2.cell? ⟨b, 0, none⟩ = some (.pointer (some ⟨b, 0, none⟩)) := by rw [Lib.cell_of_heap hb2]; rfl
 have d1 : w2.cell? ⟨b, 1, none⟩ = some v := by rw [Lib.cell_of_heap hb2]; rfl
 have f1 : w2.frozen? ⟨b, 1, none⟩ = false := Lib.frozen_of_heap hb2 1
 obtain ⟨ao, n', cap, rfl⟩ : ∃ ao n' cap, v' = .slice ao n' cap := by
  rcases hown'.2 with ⟨hv, _⟩ | ⟨g, cap, cur, hv, _⟩
  ·exact ⟨_, _, _, hv⟩
  ·exact ⟨_, _, _, hv⟩
 go_wp2
 go_ret2
 refine ⟨rfl, ?_, ?_⟩
 ·exact .inr (Lib.BuilderAt.put (T := 69) (e := 5) hB hb2 (bs' := Lib.byteCells (l ++ s)) (by rw [byteCells_len, byteCells_app, List.length_append]; exact hown') (by decide))
 ·exact (hb1.grown hgrow (by have := hb1.size; simp; omega) (fun k hk => (hown.lt k hk).1)).setCell (p := ⟨b, 1, none⟩) hB _
end
section
open Go.RowKit
set_option linter.unusedVariables false
set_option maxRecDepth 100000 in
set_option maxHeartbeats 1000000 in
theorem WHex_any (s : List UInt8) (hs : s.length ≤ 1048576) (w : World) :
    Calls Tryz.prog 79 #[.string ⟨s.toArray⟩] w fun e w' => e = .returned (.string ⟨(hexS s).toArray⟩) ∧ Ext w w' := by
  go_enter Tryz.func79, Tryz.ntmps79
  go_wp2
  go_loopw [7] (fun q wr => ∃ k : Nat, k ≤ s.length ∧ q = .int .i64 k ∧ Bd w.heap.size w.heap.size (hexS (s.take k)) wr ∧ Ext w wr) (fun q _ => s.length - (intOf q).toNat)
  case atStart => exact ⟨0, Nat.zero_le _, rfl, .inl ⟨Nat.le_refl _, _, Array.getElem?_push_size, World.ownsRow_nil _ _ _ _, by simp [Value.ownBlock]⟩, (Ext.refl _).alloc _⟩
  case round =>
    obtain ⟨k, hk, rfl, hbd, hE⟩ := hrel
    have hsz := hE.size
    have hle : (hexS (s.take k)).length ≤ 2097152 := by rw [hexS_len, List.length_take]; omega
    replace hE := hide hE
    replace hbd := hide hbd
    by_cases hlt : k < s.length
    · have e1 : (ByteArray.mk s.toArray)[k]'(by rw [ba_size]; exact hlt) = s[k] := rfl
      have hnx : hexS (s.take (k + 1)) = (hexS (s.take k) ++ [dgt (s[k].toNat / 16)]) ++ [dgt (s[k].toNat % 16)] := by
        rw [List.take_succ_eq_append_getElem hlt, hexS, List.flatMap_append]
        simp [hexS]
      generalize s[k] = c at e1 hnx
      generalize hexS (s.take k) = X at *
      have hc := c.toNat_lt
      have g1 : c.toNat / 16 < 16 := by omega
      have g2 : c.toNat % 16 < 16 := by omega
      have t1 : (c.toNat : Int) / 16 = ((c.toNat / 16 : Nat) : Int) := by omega
      have d1 := digs_get _ g1
      have d2 := digs_get _ g2
      generalize c.toNat / 16 = n1 at *
      go_wp2_with first
        | (go_at_call 96
           refine (BWriteByte_any w.heap.size w.heap.size X (dgt n1) _ hbd.out (by omega) hsz).mono ?_
           rintro e W1 ⟨rfl, hbd1, hB1⟩
           have hE1 : Ext w W1 := Below.trans hE.out hB1
           have hsz1 := hE1.size
           replace hE1 := hide hE1
           replace hbd1 := hide hbd1
           clear hbd)
        | (go_at_call 96
           refine (BWriteByte_any w.heap.size w.heap.size (X ++ [dgt n1]) (dgt (c.toNat % 16)) _ hbd1.out (by simp; omega) hsz1).mono ?_
           rintro e W2 ⟨rfl, hbd2, hB2⟩
           have hE2 : Ext w W2 := Below.trans hE1.out hB2
           replace hE2 := hide hE2
           replace hbd2 := hide hbd2
           clear hbd1)
      go_roundw
      case rel => exact ⟨k + 1, by omega, by simp, by rw [hnx]; exact hbd2.out, hE2.out⟩
      case measure => simp [intOf]; omega
    · obtain rfl : k = s.length := by omega
      have hbd1 := hbd.out
      rw [List.take_length] at hbd1
      have q := Tryz.Builder_String_any w.heap.size w.heap.size (hexS s) wr hbd1 hsz
      replace q := hide q
      replace hbd1 := hide hbd1
      go_wp2_with (go_at_call 29
                   refine q.out.mono ?_
                   rintro e W1 ⟨rfl, hB1⟩
                   have hE1 : Ext w W1 := Below.trans hE.out hB1
                   replace hE1 := hide hE1)
      go_ret
      exact ⟨rfl, hE1.out⟩
def digs : ByteArray := ⟨#[48, 49, 50, 51, 52, 53, 54, 55, 56, 57, 97, 98, 99, 100, 101, 102]⟩
/-- Where a digit stands. -/
def hx (c : UInt8) : Int := if hval c < 16 then (hval c : Int) else -1
theorem hx_fin : ∀ n : Fin 256, Lib.indexByte digs.data.toList (UInt8.ofNat n.val) = hx (UInt8.ofNat n.val) := by decide +kernel
theorem hx_is (c : UInt8) : Lib.indexByte digs.data.toList c = hx c := by
 have := hx_fin ⟨c.toNat, c.toNat_lt⟩
 simpa using this
theorem WIdx_any (c : UInt8) (w : World) : Calls Tryz.prog 108 #[.string ⟨#[48, 49, 50, 51, 52, 53, 54, 55, 56, 57, 97, 98, 99, 100, 101, 102]⟩, .int .u8 (c.toNat : Int)] w fun e w' => e = .returned (.int .i64 (hx c)) ∧ w' = w := by
 refine (Tryz.strings_IndexByte digs (c.toNat : Int) w).mono ?_
 rintro e w' ⟨rfl, rfl⟩
 refine ⟨?_, rfl⟩
 rw [← hx_is]
 simp
theorem mkB0 (n : Nat) (hn : n ≤ 4194304) (W : World) : (Instr.makeSlice 65 (.int .i64 0) (.int .i64 (n : Int))).run Tryz.prog W = .ok (.slice (some ⟨W.heap.size, 0, none⟩) 0 n) (W.alloc (.cells (Array.replicate n (.int .u8 0)) 5)) := by
 obtain ⟨i, hi, h1, h2, hz⟩ := bd_byte
 have := run_make W 65 5 i (.int .u8 0) Tryz.underlying65 hi hz .i64 .i64 0 n (by omega) (by omega) (by rw [h2]; omega) (by omega)
 have hm : madeCells (Value.cells (.int .u8 0)) n = Array.replicate n (.int .u8 0) := by
  apply Array.ext
  ·simp [madeCells]
  ·intro i h1 h2
   simp [madeCells, Value.cells, Nat.mod_one]
 simp only [h1, Int.toNat_natCast, Nat.mul_one] at this
 rw [hm] at this
 simpa using this
theorem OwnB.room {e : TypeId} (w : World) (n : Nat) (hn : n ≤ maxLen) : OwnB e (w.alloc (.cells (Array.replicate n (.int .u8 0)) e)) w.heap.size (.slice (some ⟨w.heap.size, 0, none⟩) 0 n) [] :=
 .inr ⟨w.heap.size, n, _, (0, 0), rfl, Nat.le_refl _, heap_alloc_new w _, .inr rfl, Nat.zero_le _, hn, by simp, rfl⟩
theorem or_fin : ∀ a b : Fin 16, bits BinOp.or IntKind.i64 (wrap64 ((a.val : Int) * 16)) (b.val : Int) % 256 = ((UInt8.ofNat (16 * a.val + b.val)).toNat : Int) := by decide +kernel
open Go.RowKit Go.Sort
theorem quiet_WIdx (c : UInt8) (w : World) (m : Nat) : Calls Tryz.prog 108 #[.string ⟨#[48, 49, 50, 51, 52, 53, 54, 55, 56, 57, 97, 98, 99, 100, 101, 102]⟩, .int .u8 (c.toNat : Int)] (w.drewN m) fun e w'' => e = .returned (.int .i64 (hx c)) ∧ ∃ m, w'' = w.drewN m :=
 Calls.quiet_of_same ((WIdx_any c _).mono fun e w' h => ⟨h.1, h.2⟩)
set_option maxRecDepth 20000 in
set_option maxHeartbeats 1000000 in
theorem WUnhex_any (s : List UInt8) (hs : s.length ≤ 4194304) (w : World) :
    Calls Tryz.prog 87 #[.string ⟨s.toArray⟩] w (UnP s w) := by
  have t0 : Int.tmod (s.length : Int) 2 = ((s.length % 2 : Nat) : Int) := by rw [Int.tmod_eq_emod_of_nonneg (by omega)]; rfl
  have t3 : Int.tdiv (s.length : Int) 2 = ((s.length / 2 : Nat) : Int) := by rw [Int.tdiv_eq_ediv_of_nonneg (by omega)]; rfl
  have hm2 : s.length % 2 < 2 := Nat.mod_lt _ (by decide)
  by_cases hodd : s.length % 2 = 1
  · have hn := unhex_odd s hodd
    have hP : ∀ w', Ext w w' → UnP s w (.returned (.tuple #[.string ⟨#[]⟩, .int .i64 4])) w' := fun w' he => ⟨⟨4, by rw [hn]; rfl, by rw [hn]; simp⟩, he⟩
    rw [hodd] at t0
    replace hP := hide hP
    replace hn := hide hn
    go_enter Tryz.func87, Tryz.ntmps87
    go_wp2
    go_ret2
    exact hP.out _ (Ext.refl _)
  have heven : s.length % 2 = 0 := by omega
  rw [heven] at t0
  have hcap : s.length / 2 ≤ 4194304 := by omega
  generalize s.length / 2 = cp at t3 hcap
  have hmake := mkB0 cp hcap w
  go_enter Tryz.func87, Tryz.ntmps87
  go_wp2
  have hO := OwnB.room (e := 5) w cp (by unfold maxLen; omega)
  have hE0 : Ext w (w.alloc (.cells (Array.replicate cp (.int .u8 0)) 5)) := (Ext.refl _).alloc _
  generalize hW1 : w.alloc (.cells (Array.replicate cp (.int .u8 0)) 5) = W1 at hO hE0 ⊢
  clear hW1 hmake
  go_loopw [4, 5] (fun v q wr => ∃ (p : Nat) (l : List UInt8), p ≤ s.length ∧ p % 2 = 0 ∧ q = .int .i64 (p : Int) ∧ unhexS (s.take p) = some l ∧ l.length ≤ p ∧ OwnB 5 wr w.heap.size v l ∧ Ext w wr) (fun _ q _ => s.length - (intOf q).toNat)
  case atStart => exact ⟨0, [], Nat.zero_le _, rfl, rfl, rfl, Nat.zero_le _, hO, hE0⟩
  case round =>
    obtain ⟨p, l, hm, hp2, rfl, hl, hlen, hown, hE⟩ := hrel
    have hsz := hE.size
    replace hE := hide hE
    replace hown := hide hown
    by_cases hlt : p < s.length
    · have hlt2 : p + 1 < s.length := by omega
      have e1 : (ByteArray.mk s.toArray)[p]'(by rw [ba_size]; exact hlt) = s[p] := rfl
      have e2 : (ByteArray.mk s.toArray)[p + 1]'(by rw [ba_size]; exact hlt2) = s[p + 1] := rfl
      have hev : (s.take p).length % 2 = 0 := by rw [List.length_take]; omega
      have hnx : unhexS (s.take (p + 2)) = unhexS (s.take p ++ s[p] :: s[p + 1] :: []) := by
        rw [show p + 2 = p + 1 + 1 by omega, List.take_succ_eq_append_getElem hlt2, List.take_succ_eq_append_getElem hlt, List.append_assoc]
        rfl
      have hall : unhexS s = unhexS (s.take p ++ s[p] :: s[p + 1] :: s.drop (p + 1 + 1)) := by
        rw [← List.drop_eq_getElem_cons hlt2, ← List.drop_eq_getElem_cons hlt, List.take_append_drop]
      rw [unhex_pair _ _ _ _ hev, hl] at hnx hall
      dsimp only at hnx hall
      have hle : l.length ≤ 4194304 := by omega
      replace hlen := hide hlen
      replace hl := hide hl
      generalize s[p] = c at e1 hnx hall
      generalize s[p + 1] = d at e2 hnx hall
      have hout := hown.out
      obtain ⟨a0, c0, rfl⟩ := hout.form
      clear hout
      have qc := fun m => quiet_WIdx c wr m
      have qd := fun m => quiet_WIdx d wr m
      have hvc : hval c ≤ 16 := by unfold hval; split <;> (try split) <;> omega
      have hvd : hval d ≤ 16 := by unfold hval; split <;> (try split) <;> omega
      by_cases hgood : hval c < 16 ∧ hval d < 16
      · have xc : hx c = (hval c : Int) := if_pos hgood.1
        have xd : hx d = (hval d : Int) := if_pos hgood.2
        have hor := or_fin ⟨hval c, hgood.1⟩ ⟨hval d, hgood.2⟩
        dsimp only at hor
        rw [← xc, ← xd] at hor
        have b1 : decide (hx c < 0) = false := decide_eq_false (by omega)
        have b2 : decide (hx d < 0) = false := decide_eq_false (by omega)
        rw [if_pos hgood] at hnx
        have hnx : unhexS (s.take (p + 2)) = some (l ++ [UInt8.ofNat (16 * hval c + hval d)]) := hnx
        generalize UInt8.ofNat (16 * hval c + hval d) = z at hor hnx
        clear xc xd hall hgood hvc hvd
        replace hnx := hide hnx
        replace qc := hide qc
        replace qd := hide qd
        go_upto_region 7 with fail
        go_quiet ((go_at_call 108; first | (with_reducible exact qc.out _) | (with_reducible exact qd.out _)))
        have hownd := hown.out.drewN nq
        have hEd := hE.out.drewN nq
        replace hownd := hide hownd
        replace hEd := hide hEd
        have hszd : w.heap.size ≤ (wr.drewN nq).heap.size := hsz
        generalize hWd : wr.drewN nq = Wd at hownd hEd hszd ⊢
        clear hWd
        go_wp2_with (at_builtin
                     have hox := hownd.out.alloc (Obj.cells #[.int .u8 (z.toNat : Int)] 5)
                     refine wpList_appendB rfl _ _ _ rfl okB8 okB8z rfl hox (by simp; omega) [z] rfl (by simp; omega) (byte_new _ _ _) ?_
                     intro v1 W2 hown1 hg1 hat1
                     replace hown1 := hide hown1)
        go_roundw
        case rel => exact ⟨p + 2, l ++ [z], by omega, by omega, by simp, hnx.out, by have := hlen.out; simp; omega, hown1.out, (hEd.out.alloc _).push (fun j hj => (hownd.out.lt j hj).1) hg1⟩
        case measure => simp [intOf]; omega
      · rw [if_neg hgood] at hall
        have hP : ∀ w', Ext w w' → UnP s w (.returned (.tuple #[.string ⟨#[]⟩, .int .i64 4])) w' := fun w' he => ⟨⟨4, by rw [hall]; rfl, by rw [hall]; simp⟩, he⟩
        replace hP := hide hP
        clear hall hnx
        have hb : (decide (hx c < 0) || decide (hx d < 0)) = true := by
          by_cases h1 : hval c < 16
          · have xd : hx d = -1 := if_neg (fun h => hgood ⟨h1, h⟩)
            rw [xd, Bool.or_eq_true]; right; decide
          · have xc : hx c = -1 := if_neg h1
            rw [xc, Bool.or_eq_true]; left; decide
        clear hgood hvc hvd
        replace qc := hide qc
        replace qd := hide qd
        go_upto_region 7 with fail
        go_quiet ((go_at_call 108; first | (with_reducible exact qc.out _) | (with_reducible exact qd.out _)))
        have hEd := hE.out.drewN nq
        replace hEd := hide hEd
        generalize hWd : wr.drewN nq = Wd at hEd ⊢
        clear hWd
        rw [Bool.or_eq_true] at hb
        cases hb1 : decide (hx c < 0) with
        | true =>
          go_wp2
          go_ret2
          exact hP.out _ hEd.out
        | false =>
          rw [hb1] at hb
          have hb2 : decide (hx d < 0) = true := by simpa using hb
          clear hb
          go_wp2
          go_ret2
          exact hP.out _ hEd.out
    · have hm2' : p = s.length := by omega
      subst hm2'
      rw [List.take_length] at hl
      have hown1 := hown.out
      have kd := run_stringB (P := Tryz.prog) (src := 65) (dst := 9) Tryz.underlying65 Tryz.underlying5 Tryz.underlying9 hown1
      replace hown1 := hide hown1
      have hP : ∀ w', Ext w w' → UnP s w (.returned (.tuple #[.string ⟨l.toArray⟩, .int .i64 0])) w' := fun w' he => ⟨⟨0, by rw [hl]; rfl, by rw [hl]; simp⟩, he⟩
      replace hP := hide hP
      replace hlen := hide hlen
      replace hl := hide hl
      go_wp2
      go_ret2
      exact hP.out _ hE.out
end
section
open Go.RowKit Go.Sort
set_option linter.unusedVariables false
theorem digS_len20 (b n : Nat) (h10 : 10 ≤ b) (h16 : b ≤ 16) (h : n ≤ 65535) : (digS b n).length ≤ 5 := digS_len (by omega) 5 n (Nat.lt_of_lt_of_le (show n < 10 ^ 5 by omega) (Nat.pow_le_pow_left h10 5)) (by decide)
theorem join_grow (c : UInt8) (xs : List (List UInt8)) (x : List UInt8) : Lib.join (xs ++ [x]) [c] = if xs = [] then Lib.join xs [c] ++ x else Lib.join xs [c] ++ [c] ++ x := by
 rw [join_snoc]
 by_cases h : xs = []
 ·subst h; simp [Lib.join]
 ·rw [if_neg h, if_neg h]
set_option maxRecDepth 20000 in
set_option maxHeartbeats 2000000 in
theorem RAddrText4 (a : List UInt8) (h4 : a.length = 4) (w : World) :
  Calls Tryz.prog 45 #[.string ⟨a.toArray⟩] w fun e w' => e = .returned (.tuple #[.string ⟨(txt4 a).toArray⟩, .int .i64 0]) ∧ Ext w w' := by
 have hz : (ByteArray.mk a.toArray).size = 4 := by simp [ByteArray.size, h4]
 have qn := fun x hx W => RNumber_any 10 (by decide) (by decide) x hx W
 replace qn := hide qn
 go_enter Tryz.func45, Tryz.ntmps45
 go_wp2
 go_loopw [4, 5] (fun v q wr => ∃ (k : Nat) (S : List UInt8), k ≤ 4 ∧ q = .int .i64 k ∧ v = .string ⟨S.toArray⟩ ∧ S = Lib.join ((a.take k).map fun x => digS 10 x.toNat) [46] ∧ S.length ≤ 6 * k ∧ Ext w wr) (fun _ q _ => 4 - (intOf q).toNat)
 case atStart => exact ⟨0, [], by omega, rfl, rfl, by rw [List.take_zero]; rfl, by simp, Ext.refl _⟩
 case round =>
  obtain ⟨k, S, hk, rfl, rfl, hS, hSl, hE⟩ := hrel
  replace hE := hide hE
  by_cases hlt : k < 4
  ·have hka : k < a.length := by omega
   have e1 : (ByteArray.mk a.toArray)[k]'(by omega) = a[k] := rfl
   have hnx := join_grow 46 ((a.take k).map fun x => digS 10 x.toNat) (digS 10 a[k].toNat)
   rw [show ((a.take k).map fun x => digS 10 x.toNat) ++ [digS 10 a[k].toNat] = (a.take (k + 1)).map fun x => digS 10 x.toNat by rw [List.take_succ_eq_append_getElem hka, List.map_append]; rfl, ← hS] at hnx
   have hemp : ((a.take k).map fun x => digS 10 x.toNat) = [] ↔ k = 0 := ⟨fun h => by have := congrArg List.length h; rw [List.length_map, List.length_take, List.length_nil] at this; omega, fun h => by subst h; rfl⟩
   generalize a[k] = u at e1 hnx
   have hu := u.toNat_lt
   have hdl := digS_len20 10 u.toNat (by decide) (by decide) (by omega)
   have hq := fun W => qn.out u.toNat (by omega) W
   generalize digS 10 u.toNat = d at hdl hq hnx
   have w1 : IntKind.u64.wrap (u.toNat : Int) = (u.toNat : Int) := by rw [IntKind.wrap_u64]; omega
   have hs1 : ¬ 9223372036854775807 < (ByteArray.mk S.toArray).size + (ByteArray.mk d.toArray).size := by rw [ba_size, ba_size]; omega
   have hs2 : ¬ 9223372036854775807 < (ByteArray.mk S.toArray).size + (ByteArray.mk #[46]).size := by rw [ba_size]; show ¬ _ < S.length + 1; omega
   have hs3 : ¬ 9223372036854775807 < ((ByteArray.mk S.toArray) ++ ⟨#[46]⟩).size + (ByteArray.mk d.toArray).size := by rw [ba_sz_app, ba_size, ba_size]; show ¬ _ < S.length + 1 + d.length; omega
   replace hq := hide hq
   replace hS := hide hS
   by_cases hk0 : k = 0
   ·rw [if_pos (hemp.2 hk0)] at hnx
    subst hk0
    clear hemp
    replace hnx := hide hnx
    go_wp2_with fail
    refine (hq.out _).mono ?_
    rintro e w1 ⟨rfl, he⟩
    replace hE := hide (hE.out.trans he)
    clear he
    go_wp2
    go_roundw
    case rel => exact ⟨1, S ++ d, by omega, by go_num, by rw [ba_app], hnx.out.symm, by simp; omega, hE.out⟩
    case measure => simp [intOf]
   ·rw [if_neg fun h => hk0 (hemp.1 h)] at hnx
    have b1 : decide ((0 : Int) < (k : Int)) = true := decide_eq_true (by omega)
    clear hemp
    replace hnx := hide hnx
    go_wp2_with fail
    refine (hq.out _).mono ?_
    rintro e w1 ⟨rfl, he⟩
    replace hE := hide (hE.out.trans he)
    clear he
    go_wp2
    go_roundw
    case rel => exact ⟨k + 1, S ++ [46] ++ d, by omega, by go_num, by rw [ba_app1, ba_app], hnx.out.symm, by simp; omega, hE.out⟩
    case measure => simp [intOf]; omega
  ·obtain rfl : k = 4 := by omega
   have hall : S = txt4 a := by rw [hS, List.take_of_length_le (by omega)]; rfl
   clear hS hSl
   subst hall
   go_wp2
   go_ret2
   exact ⟨rfl, hE.out⟩
set_option maxRecDepth 20000 in
set_option maxHeartbeats 2000000 in
theorem RAddrText16 (a : List UInt8) (h16 : a.length = 16) (w : World) :
  Calls Tryz.prog 45 #[.string ⟨a.toArray⟩] w fun e w' => e = .returned (.tuple #[.string ⟨(txt16 a).toArray⟩, .int .i64 0]) ∧ Ext w w' := by
 have mixed : Tryz.prog.follows Departure.mixedOrders = true := by kernel_rfl
 have hz : (ByteArray.mk a.toArray).size = 16 := by simp [ByteArray.size, h16]
 have hpl : (pairs a).length = 8 := by rw [pairs_length, h16]
 have qn : ∀ x : Nat, x < 18446744073709551616 → ∀ W, Calls Tryz.prog 74 #[.int .u64 (x : Int), .int .u64 16] W fun e w' => e = .returned (.string ⟨(digS 16 x).toArray⟩) ∧ Ext W w' := fun x hx W => RNumber_any 16 (by decide) (by decide) x hx W
 replace qn := hide qn
 go_enter Tryz.func45, Tryz.ntmps45
 go_wp2
 go_loopw [4, 6] (fun v q wr => ∃ (k : Nat) (S : List UInt8), k ≤ 8 ∧ q = .int .i64 k ∧ v = .string ⟨S.toArray⟩ ∧ S = Lib.join (((pairs a).take k).map (digS 16)) [58] ∧ S.length ≤ 6 * k ∧ Ext w wr) (fun _ q _ => 8 - (intOf q).toNat)
 case atStart => exact ⟨0, [], by omega, rfl, rfl, by rw [List.take_zero]; rfl, by simp, Ext.refl _⟩
 case round =>
  obtain ⟨k, S, hk, rfl, rfl, hS, hSl, hE⟩ := hrel
  replace hE := hide hE
  by_cases hlt : k < 8
  ·have hpk : k < (pairs a).length := by omega
   have hnx := join_grow 58 (((pairs a).take k).map (digS 16)) (digS 16 (pairs a)[k])
   rw [show ((pairs a).take k).map (digS 16) ++ [digS 16 (pairs a)[k]] = ((pairs a).take (k + 1)).map (digS 16) by rw [List.take_succ_eq_append_getElem hpk, List.map_append]; rfl, ← hS] at hnx
   have hemp : (((pairs a).take k).map (digS 16)) = [] ↔ k = 0 := ⟨fun h => by have := congrArg List.length h; rw [List.length_map, List.length_take, List.length_nil] at this; omega, fun h => by subst h; rfl⟩
   obtain ⟨j, hj⟩ : ∃ j, j = 2 * k := ⟨_, rfl⟩
   have hjb : j + 1 < a.length := by omega
   have hjz : j + 1 < (ByteArray.mk a.toArray).size := by omega
   have hj1 : j + 1 < 16 := by omega
   have w0 : IntKind.i64.wrap (2 * (k : Int)) = (j : Int) := by rw [IntKind.wrap_i64]; omega
   have hp : (pairs a)[k]? = some (256 * (a[j]'(Nat.lt_of_succ_lt hjb)).toNat + (a[j + 1]'hjb).toNat) := by
    subst hj
    exact pairs_at a k hjb
   replace hj := hide hj
   rw [List.getElem?_eq_getElem hpk] at hp
   replace hp := Option.some.inj hp
   rw [hp] at hnx
   have e1 : (ByteArray.mk a.toArray)[j]'(Nat.lt_of_succ_lt hjz) = a[j]'(Nat.lt_of_succ_lt hjb) := rfl
   have e2 : (ByteArray.mk a.toArray)[j + 1]'hjz = a[j + 1]'hjb := rfl
   generalize a[j]'(Nat.lt_of_succ_lt hjb) = u1 at e1 hp hnx
   generalize a[j + 1]'hjb = u2 at e2 hp hnx
   have l1 := u1.toNat_lt
   have l2 := u2.toNat_lt
   clear hp
   have hdl := digS_len20 16 (256 * u1.toNat + u2.toNat) (by decide) (by decide) (by omega)
   have hq := fun W => qn.out (256 * u1.toNat + u2.toNat) (by omega) W
   generalize hdd : digS 16 (256 * u1.toNat + u2.toNat) = d at hdl hq hnx
   clear hdd
   have w1 : IntKind.u64.wrap (u1.toNat : Int) = (u1.toNat : Int) := by rw [IntKind.wrap_u64]; omega
   have w2 : IntKind.u64.wrap (u2.toNat : Int) = (u2.toNat : Int) := by rw [IntKind.wrap_u64]; omega
   have w3 : IntKind.i64.wrap ((j : Int) + 1) = (j : Int) + 1 := by rw [IntKind.wrap_i64]; omega
   have w4 : ((j : Int) + 1).toNat = j + 1 := by omega
   have w5 : IntKind.u64.wrap ((u1.toNat : Int) * 256) = (u1.toNat : Int) * 256 := by rw [IntKind.wrap_u64]; omega
   have hor := or_byte16 u1.toNat u2 (by omega)
   rw [Nat.mul_comm u1.toNat 256] at hor
   generalize 256 * u1.toNat + u2.toNat = n at hq hor
   have hb0 : (0 : Int) ≤ (j : Int) + 1 := by omega
   have hb1 : (j : Int) < 16 := by omega
   have hb2 : (j : Int) + 1 < 16 := by omega
   have hs1 : ¬ 9223372036854775807 < (ByteArray.mk S.toArray).size + (ByteArray.mk d.toArray).size := by rw [ba_size, ba_size]; omega
   have hs2 : ¬ 9223372036854775807 < (ByteArray.mk S.toArray).size + (ByteArray.mk #[58]).size := by rw [ba_size]; show ¬ _ < S.length + 1; omega
   have hs3 : ¬ 9223372036854775807 < ((ByteArray.mk S.toArray) ++ ⟨#[58]⟩).size + (ByteArray.mk d.toArray).size := by rw [ba_sz_app, ba_size, ba_size]; show ¬ _ < S.length + 1 + d.length; omega
   have hz1 := ba_size S
   have hz2 := ba_size d
   have hs4 : ¬ 9223372036854775807 < S.length + d.length := by omega
   have hs5 : ¬ 9223372036854775807 < S.length + 1 + d.length := by omega
   replace hq := hide hq
   replace hS := hide hS
   replace hSl := hide hSl
   replace hdl := hide hdl
   by_cases hk0 : k = 0
   ·rw [if_pos (hemp.2 hk0)] at hnx
    subst hk0
    have w00 : IntKind.i64.wrap 0 = (j : Int) := by have := hj.out; rw [IntKind.wrap_i64]; omega
    clear hemp w0
    replace hnx := hide hnx
    go_wp2_with fail
    have cq0 := Calls.regr hq.out wr
    refine wp_region_quiet_below (by assumption) (by kernel_rfl) ?_
    repeat (quiet_step (first | (with_reducible exact cq0 _ _)))
    refine wpQuiet_nil ?_
    intro _ hw_
    obtain ⟨⟨dq_, osq_⟩, hw_'⟩ := hw_
    subst hw_'
    replace hE := hide (hE.out.trans (below_regrown _ dq_ osq_))
    clear cq0
    generalize grow (redrawn wr dq_) osq_ = W2 at hE ⊢
    go_wp2
    go_roundw
    case rel => exact ⟨1, S ++ d, by omega, by go_num, by rw [ba_app], hnx.out.symm, by have := hSl.out; have := hdl.out; simp; omega, hE.out⟩
    case measure => simp [intOf]
   ·rw [if_neg fun h => hk0 (hemp.1 h)] at hnx
    have b1 : decide ((0 : Int) < (k : Int)) = true := decide_eq_true (by omega)
    clear hemp
    replace hnx := hide hnx
    go_wp2_with fail
    have cq0 := Calls.regr hq.out wr
    refine wp_region_quiet_below (by assumption) (by kernel_rfl) ?_
    repeat (quiet_step (first | (with_reducible exact cq0 _ _)))
    refine wpQuiet_nil ?_
    intro _ hw_
    obtain ⟨⟨dq_, osq_⟩, hw_'⟩ := hw_
    subst hw_'
    replace hE := hide (hE.out.trans (below_regrown _ dq_ osq_))
    clear cq0
    generalize grow (redrawn wr dq_) osq_ = W2 at hE ⊢
    go_wp2
    go_roundw
    case rel => exact ⟨k + 1, S ++ [58] ++ d, by omega, by go_num, by rw [ba_app1, ba_app], hnx.out.symm, by have := hSl.out; have := hdl.out; simp; omega, hE.out⟩
    case measure => simp [intOf]; omega
  ·obtain rfl : k = 8 := by omega
   have hall : S = txt16 a := by rw [hS, List.take_of_length_le (by omega)]; rfl
   clear hS hSl
   subst hall
   go_wp2
   go_ret2
   exact ⟨rfl, hE.out⟩
theorem RAddrText_any (a : List UInt8) (ha : a.length ≤ 1048576) (w : World) :
  Calls Tryz.prog 45 #[.string ⟨a.toArray⟩] w fun e w' => e = .returned (.tuple #[.string ⟨(addrT a).1.toArray⟩, .int .i64 (addrT a).2]) ∧ Ext w w' := by
 unfold addrT
 by_cases h4 : a.length = 4
 ·rw [if_pos h4]
  exact RAddrText4 a h4 w
 ·by_cases h16 : a.length = 16
  ·rw [if_neg h4, if_pos h16]
   exact RAddrText16 a h16 w
  ·rw [if_neg h4, if_neg h16]
   have hz : (ByteArray.mk a.toArray).size = a.length := by simp [ByteArray.size]
   have b1 : ((a.length : Int) == 4) = false := by rw [beq_eq_false_iff_ne]; omega
   have b2 : ((a.length : Int) == 16) = false := by rw [beq_eq_false_iff_ne]; omega
   go_enter Tryz.func45, Tryz.ntmps45
   go_wp2
   go_ret2
   exact ⟨rfl, Ext.refl _⟩
end
section
open Go.RowKit Go.Sort
set_option linter.unusedVariables false
/-- What a split answers: a row of the parts. -/
def SpP (c : UInt8) (s : List UInt8) (w : World) (e : Ending) (w' : World) : Prop :=
 Ext w w' ∧ ∃ g o d, e = .returned (.slice (some ⟨g, o, none⟩) (spl c s).length d) ∧ (spl c s).length ≤ d ∧ ∀ k, (h : k < (spl c s).length) → w'.cell? ⟨g, o + k, none⟩ = some (.string ⟨(spl c s)[k].toArray⟩)
theorem ba_extract (s : List UInt8) (i j : Nat) : (ByteArray.mk s.toArray).extract i j = ⟨((s.drop i).take (j - i)).toArray⟩ := by
 apply ByteArray.ext
 rw [ByteArray.data_extract]
 simp
def lb (l : List UInt8) : ByteArray := ⟨l.toArray⟩
theorem row_of_own {w w' : World} {B : Nat} {v : Value} {xs : List (List UInt8)} (h : Own EStr 9 w' B v (xs.map lb)) (hne : xs ≠ []) : ∃ g o d, v = .slice (some ⟨g, o, none⟩) xs.length d ∧ xs.length ≤ d ∧ ∀ k, (h : k < xs.length) → w'.cell? ⟨g, o + k, none⟩ = some (.string ⟨xs[k].toArray⟩) := by
 obtain ⟨a, d, hv, hd, hs⟩ := h.slc
 rw [List.length_map] at hv hd
 rcases hs with hs | ⟨g, o, rfl, hb, hs⟩
 ·exact absurd (List.map_eq_nil_iff.1 hs) hne
 ·refine ⟨g, o, d, hv, hd, fun k hk => ?_⟩
  obtain ⟨cs, ⟨rfl, _⟩, hcell⟩ := hs k (lb xs[k]) (by simp [hk])
  have := hcell 0 _ rfl
  simpa [EStr, Enc.flat, lb] using this
set_option maxRecDepth 20000 in
set_option maxHeartbeats 2000000 in
theorem RSplit_any (s : List UInt8) (hs : s.length ≤ 1048576) (c : UInt8) (w : World) :
    Calls Tryz.prog 30 #[.string ⟨s.toArray⟩, .int .u8 (c.toNat : Int)] w (SpP c s w) := by
  have hz : (ByteArray.mk s.toArray).size = s.length := ba_size s
  have hfin : ∀ (v : Value) (W : World), Own EStr 9 W w.heap.size v ((spl c s).map lb) → Ext w W → SpP c s w (.returned v) W := fun v W h hE => by
    obtain ⟨g, o, d, h1, h2, h3⟩ := row_of_own (w := w) h (spl_ne c s)
    exact ⟨hE, g, o, d, by rw [h1], h2, h3⟩
  generalize SpP c s w = Post at hfin ⊢
  replace hfin := hide hfin
  replace hz := hide hz
  go_enter Tryz.func30, Tryz.ntmps30
  go_wp2
  go_loopw [5, 6, 7] (fun v f q wr => ∃ (xs : List (List UInt8)) (fr i : Nat), q = .int .i64 (i : Int) ∧ f = .int .i64 (fr : Int) ∧ i ≤ s.length + 1 ∧ xs.length ≤ i ∧ fr ≤ i ∧ ((i ≤ s.length ∧ spl c s = xs ++ spl c (s.drop fr) ∧ c ∉ (s.drop fr).take (i - fr)) ∨ (i = s.length + 1 ∧ spl c s = xs)) ∧ Own EStr 9 wr w.heap.size v (xs.map lb) ∧ Ext w wr) (fun _ _ q _ => s.length + 1 - (intOf q).toNat)
  case atStart => exact ⟨[], 0, 0, rfl, rfl, by omega, by simp, by omega, .inl ⟨by omega, by simp, by simp⟩, Own.nil, Ext.refl _⟩
  case round =>
    obtain ⟨xs, fr, i, rfl, rfl, hi, hxl, hfi, hinv, hown, hE⟩ := hrel
    rename World => W0
    have hz0 := hE.size
    obtain ⟨vo, dd, rfl⟩ := hown.form
    have hlk : (xs.map lb).length = xs.length := List.length_map _
    rw [hlk] at hown ⊢
    have hwi : IntKind.i64.wrap ((i : Int) + 1) = (i : Int) + 1 := by rw [IntKind.wrap_i64]; omega
    have hzz := hz.out
    rcases hinv with ⟨hil, hsp, hnot⟩ | ⟨hil, hsp⟩
    · have hb0 : decide ((i : Int) ≤ (s.length : Int)) = true := decide_eq_true (by omega)
      by_cases hie : i = s.length
      · have hnx : (i + 1 ≤ s.length ∧ spl c s = (xs ++ [(s.drop fr).take (i - fr)]) ++ spl c (s.drop (i + 1)) ∧ c ∉ (s.drop (i + 1)).take (i + 1 - (i + 1))) ∨ (i + 1 = s.length + 1 ∧ spl c s = xs ++ [(s.drop fr).take (i - fr)]) := .inr ⟨by omega, by
          have hd : (s.drop fr).take (i - fr) = s.drop fr := List.take_of_length_le (by rw [List.length_drop]; omega)
          rw [hd] at hnot ⊢
          rw [hsp, spl_no hnot]⟩
        have bi : ((i : Int) == (s.length : Int)) = true := by rw [beq_iff_eq]; omega
        have bi2 : (i == s.length) = true := by rw [beq_iff_eq]; omega
        replace hnx := hide hnx
        replace hie := hide hie
        have hex : (ByteArray.mk s.toArray).extract fr i = ⟨((s.drop fr).take (i - fr)).toArray⟩ := ba_extract s fr i
        have hyy : [(s.drop fr).take (i - fr)].map lb = [⟨((s.drop fr).take (i - fr)).toArray⟩] := rfl
        have hys : (ByteArray.mk ((s.drop fr).take (i - fr)).toArray).size ≤ 1048576 := by rw [ba_size, List.length_take, List.length_drop]; omega
        generalize (ByteArray.mk ((s.drop fr).take (i - fr)).toArray) = y at hex hyy hys
        replace hyy := hide hyy
        replace hys := hide hys
        replace hsp := hide hsp
        replace hnot := hide hnot
        replace hown := hide hown
        replace hE := hide hE
        replace hlk := hide hlk
        replace hxl := hide hxl
        go_wp2_with (at_builtin
                     have hox := hown.out.alloc (Obj.cells #[.string y] 9)
                     refine wpList_push (E := EStr) rfl _ _ _ rfl okStr (by decide) (by decide) rfl hox (by rw [hlk.out]; have := hxl.out; omega) (by simp; omega) rfl (y := y) (cs := [.string y]) ⟨rfl, by have := hys.out; unfold maxLen; omega⟩ (str_new' _ _ _) ?_
                     intro v' w5 hown1 hg hat)
        go_roundw
        case rel => exact ⟨xs ++ [(s.drop fr).take (i - fr)], i + 1, i + 1, by go_num, by go_num, by omega, by have := hxl.out; simp; omega, by omega, hnx.out, by rw [List.map_append]; rw [hyy.out]; exact hown1, (hE.out.alloc _).push (fun j hj => (hown.out.lt j hj).1) hg⟩
        case measure => simp [intOf]; omega
      · have hilt : i < s.length := by omega
        have e1 : (ByteArray.mk s.toArray)[i]'(by omega) = s[i] := rfl
        have bi : ((i : Int) == (s.length : Int)) = false := by rw [beq_eq_false_iff_ne]; omega
        have bi2 : (i == s.length) = false := by rw [beq_eq_false_iff_ne]; omega
        by_cases hc : s[i] = c
        · have hnx : (i + 1 ≤ s.length ∧ spl c s = (xs ++ [(s.drop fr).take (i - fr)]) ++ spl c (s.drop (i + 1)) ∧ c ∉ (s.drop (i + 1)).take (i + 1 - (i + 1))) ∨ (i + 1 = s.length + 1 ∧ spl c s = xs ++ [(s.drop fr).take (i - fr)]) := .inl ⟨by omega, by
            have hd : s.drop fr = (s.drop fr).take (i - fr) ++ c :: s.drop (i + 1) := by
              have h1 : (s.drop fr).drop (i - fr) = s.drop i := by rw [List.drop_drop]; congr 1; omega
              have h2 : s.drop i = c :: s.drop (i + 1) := by rw [← hc]; exact List.drop_eq_getElem_cons hilt
              rw [← h2, ← h1, List.take_append_drop]
            rw [hsp]
            conv => lhs; rw [hd]
            rw [spl_at hnot]
            simp, by simp⟩
          rw [hc] at e1
          replace hnx := hide hnx
          replace hc := hide hc
          replace hie := hide hie
          have hex : (ByteArray.mk s.toArray).extract fr i = ⟨((s.drop fr).take (i - fr)).toArray⟩ := ba_extract s fr i
          have hyy : [(s.drop fr).take (i - fr)].map lb = [⟨((s.drop fr).take (i - fr)).toArray⟩] := rfl
          have hys : (ByteArray.mk ((s.drop fr).take (i - fr)).toArray).size ≤ 1048576 := by rw [ba_size, List.length_take, List.length_drop]; omega
          generalize (ByteArray.mk ((s.drop fr).take (i - fr)).toArray) = y at hex hyy hys
          replace hyy := hide hyy
          replace hys := hide hys
          replace hsp := hide hsp
          replace hnot := hide hnot
          replace hown := hide hown
          replace hE := hide hE
          replace hlk := hide hlk
          replace hxl := hide hxl
          go_wp2_with (at_builtin
                       have hox := hown.out.alloc (Obj.cells #[.string y] 9)
                       refine wpList_push (E := EStr) rfl _ _ _ rfl okStr (by decide) (by decide) rfl hox (by rw [hlk.out]; have := hxl.out; omega) (by simp; omega) rfl (y := y) (cs := [.string y]) ⟨rfl, by have := hys.out; unfold maxLen; omega⟩ (str_new' _ _ _) ?_
                       intro v' w5 hown1 hg hat)
          go_roundw
          case rel => exact ⟨xs ++ [(s.drop fr).take (i - fr)], i + 1, i + 1, by go_num, by go_num, by omega, by have := hxl.out; simp; omega, by omega, hnx.out, by rw [List.map_append]; rw [hyy.out]; exact hown1, (hE.out.alloc _).push (fun j hj => (hown.out.lt j hj).1) hg⟩
          case measure => simp [intOf]; omega
        · have hnx : c ∉ (s.drop fr).take (i + 1 - fr) := by
            rw [show i + 1 - fr = (i - fr) + 1 by omega, List.take_succ_eq_append_getElem (show i - fr < (s.drop fr).length by rw [List.length_drop]; omega)]
            intro hm
            rcases List.mem_append.1 hm with hm | hm
            · exact hnot hm
            · have h1 := List.mem_singleton.1 hm
              rw [List.getElem_drop] at h1
              apply hc
              rw [h1]
              congr 1
              omega
          have hcn : ¬ s[i].toNat = c.toNat := fun h => hc (UInt8.toNat_inj.1 h)
          generalize s[i] = u at e1 hcn hc
          have bc : ((u.toNat : Int) == (c.toNat : Int)) = false := by rw [beq_eq_false_iff_ne]; omega
          have bc2 : (u.toNat == c.toNat) = false := by rw [beq_eq_false_iff_ne]; omega
          have bc3 : (u == c) = false := by rw [beq_eq_false_iff_ne]; exact hc
          replace hnx := hide hnx
          replace hsp := hide hsp
          replace hnot := hide hnot
          replace hown := hide hown
          replace hE := hide hE
          replace hlk := hide hlk
          replace hie := hide hie
          replace hxl := hide hxl
          replace hc := hide hc
          go_wp2
          go_roundw
          case rel => exact ⟨xs, fr, i + 1, by go_num, rfl, by omega, by have := hxl.out; omega, by omega, .inl ⟨by omega, hsp.out, hnx.out⟩, hown.out, hE.out⟩
          case measure => simp [intOf]; omega
    · have hb0 : decide ((i : Int) ≤ (s.length : Int)) = false := decide_eq_false (by omega)
      have hf := hfin.out _ _ (by rw [hsp]; exact hown) hE
      replace hf := hide hf
      replace hsp := hide hsp
      replace hown := hide hown
      replace hE := hide hE
      replace hlk := hide hlk
      replace hil := hide hil
      have hb1 : ¬ i ≤ s.length := by have := hil.out; omega
      go_wp2
      exact hf.out
end
section
open Go.RowKit
set_option linter.unusedVariables false
def nameCs : List UInt8 := [97, 98, 99, 100, 101, 102, 103, 104, 105, 106, 107, 108, 109, 110, 111, 112, 113, 114, 115, 116, 117, 118, 119, 120, 121, 122, 48, 49, 50, 51, 52, 53, 54, 55, 56, 57, 45]
theorem cells_is : Lib.setCells nameCs = (Array.range 256).map fun n => Value.bool (nameCh (UInt8.ofNat n)) := by kernel_rfl
theorem cells_at (n : Nat) (h : n < 256) : (Lib.setCells nameCs)[n]? = some (.bool (nameCh (UInt8.ofNat n))) := by
 rw [cells_is]
 simp [h]
def strLen : Value → Nat
 | .string b => b.size
 | _ => 0
theorem strLen_of (l : List UInt8) : strLen (.string ⟨l.toArray⟩) = l.length := by simp [strLen, ByteArray.size]
set_option maxRecDepth 20000 in
set_option maxHeartbeats 1000000 in
theorem TrimA_any (s : List UInt8) (hs : s.length ≤ 4194304) (b : Nat) (w : World) (hc : ∀ x : UInt8, w.cell? ⟨b, x.toNat, none⟩ = some (.bool (nameCh x))) :
    Calls Tryz.prog 93 #[.string ⟨s.toArray⟩, .pointer (some ⟨b, 0, none⟩)] w fun e w' => e = .returned (.string ⟨(s.dropWhile nameCh).toArray⟩) ∧ w' = w := by
  go_enter Tryz.func93, Tryz.ntmps93
  go_wp2
  go_loop [0] (fun v => ∃ t : List UInt8, v = .string ⟨t.toArray⟩ ∧ t.length ≤ s.length ∧ t.dropWhile nameCh = s.dropWhile nameCh) (fun v => strLen v)
  case atStart => exact ⟨s, rfl, Nat.le_refl _, rfl⟩
  case round =>
    obtain ⟨t, rfl, ht, hd⟩ := hrel
    match t, ht, hd with
    | [], ht, hd =>
      have hd : [] = s.dropWhile nameCh := hd
      replace hd := hide hd
      go_wp2
      go_ret
      exact ⟨by rw [← hd.out]; rfl, rfl⟩
    | x :: r, ht, hd =>
      simp only [List.length_cons] at ht
      have b0 : decide ((0 : Int) < ((x :: r).length : Int)) = true := decide_eq_true (by simp only [List.length_cons]; omega)
      have e1 : ∀ h, (ByteArray.mk (x :: r).toArray)[0]'h = x := fun _ => rfl
      have q := fun W (h : W.cell? ⟨b, x.toNat, none⟩ = some (.bool (nameCh x))) => Tryz.asciiSet_contains b x (nameCh x) W h
      have q := q w (hc x)
      replace q := hide q
      cases hx : nameCh x
      · rw [hx] at q
        rw [List.dropWhile_cons, hx] at hd
        have hd : x :: r = s.dropWhile nameCh := hd
        replace hd := hide hd
        replace q := hide q.out
        go_wp2_with (go_at_call 113; refine q.out.mono ?_; rintro e w' ⟨rfl, rfl⟩)
        go_ret
        exact ⟨by rw [← hd.out]; rfl, rfl⟩
      · rw [hx] at q
        rw [List.dropWhile_cons, hx] at hd
        have hd2 : r.dropWhile nameCh = s.dropWhile nameCh := hd
        clear hd
        have he : ∀ j : Nat, j = r.length + 1 → (ByteArray.mk (x :: r).toArray).extract 1 j = ⟨r.toArray⟩ := fun j hj => by
          subst hj
          rw [ba_extract]
          simp
        have he := he _ rfl
        replace hd2 := hide hd2
        replace q := hide q.out
        go_wp2_with (go_at_call 113; refine q.out.mono ?_; rintro e w' ⟨rfl, rfl⟩)
        go_round
        case rel => exact ⟨r, rfl, by omega, hd2.out⟩
        case measure => simp [strLen_of]
theorem zero_set : ∀ w, (zeroValue 142).run Tryz.prog w = .ok (.agg (Array.replicate 256 (.bool false))) w := by
 intro w
 kernel_rfl
theorem nameCs_low : ∀ (j : Nat) b, nameCs[j]? = some b → b.toNat < 128 := fun j b h => by
 have : ∀ x ∈ nameCs, x.toNat < 128 := by decide
 exact this b (List.mem_of_getElem? h)
theorem MakeSet_any (w : World) : Calls Tryz.prog 92 #[.string ⟨#[97, 98, 99, 100, 101, 102, 103, 104, 105, 106, 107, 108, 109, 110, 111, 112, 113, 114, 115, 116, 117, 118, 119, 120, 121, 122, 48, 49, 50, 51, 52, 53, 54, 55, 56, 57, 45]⟩] w fun e w' => e = .returned (.tuple #[.agg (Lib.setCells nameCs), .bool true]) ∧ w' = w.alloc (.cells (Lib.setCells nameCs) 142) :=
 Tryz.strings_makeASCIISet zero_set ⟨nameCs.toArray⟩ w (by decide) nameCs_low
end
section
open Go.RowKit
set_option linter.unusedVariables false
theorem setZ_size : Tryz.zeroCells142.size = 256 := by kernel_rfl
theorem setK_size : (Lib.setCells nameCs).size = 256 := by kernel_rfl
theorem there_set (W : World) : (W.alloc (.cells Tryz.zeroCells142 142)).there W.heap.size 0 (Lib.setCells nameCs).size := fun i hi => by
 have hB := Blk.new W 142 Tryz.zeroCells142
 refine ⟨?_, hB.frozen _⟩
 rw [setK_size] at hi
 rw [hB.cell, Nat.zero_add, Array.getElem?_eq_getElem (by rw [setZ_size]; exact hi)]
 rfl
theorem alloc_size35 (w : World) (o : Obj) : (w.alloc o).heap.size = w.heap.size + 1 := Array.size_push _
theorem Ext.setCs35 {a : World} {g : Nat} (hg : a.heap.size ≤ g) : ∀ (vs : List Value) (o : Nat) (b : World), Ext a b → Ext a (b.setCells g o vs)
  | [], _, _, h => h
  | v :: r, o, b, h => by
    rw [World.setCells]
    exact Ext.setCs35 hg r (o + 1) _ (h.setCell (p := ⟨g, o, none⟩) hg v)
theorem set_cell (W : World) (x : UInt8) : ((W.alloc (.cells Tryz.zeroCells142 142)).setCells W.heap.size 0 (Lib.setCells nameCs).toList).cell? ⟨W.heap.size, x.toNat, none⟩ = some (.bool (nameCh x)) := by
 have hx := x.toNat_lt
 have h1 := World.rangeAt_setCells_same _ _ _ _ (there_set W) x.toNat (.bool (nameCh x)) (by
  rw [Array.getElem?_toList, cells_at _ hx]
  simp)
 rw [Nat.zero_add] at h1
 exact h1
set_option maxRecDepth 20000 in
set_option maxHeartbeats 1000000 in
theorem TrimL_any (s : List UInt8) (hs : s.length ≤ 4194304) (w : World) :
    Calls Tryz.prog 77 #[.string ⟨s.toArray⟩, .string ⟨#[97, 98, 99, 100, 101, 102, 103, 104, 105, 106, 107, 108, 109, 110, 111, 112, 113, 114, 115, 116, 117, 118, 119, 120, 121, 122, 48, 49, 50, 51, 52, 53, 54, 55, 56, 57, 45]⟩] w fun e w' => e = .returned (.string ⟨(s.dropWhile nameCh).toArray⟩) ∧ Ext w w' := by
  cases hs0 : s with
  | nil =>
    go_enter Tryz.func77, Tryz.ntmps77
    go_wp2
    go_ret
    exact ⟨rfl, Ext.refl _⟩
  | cons x r =>
    subst hs0
    go_enter Tryz.func77, Tryz.ntmps77
    have hi2 : (Tryz.prog.info? 142).map (fun i => i.size) = some (Lib.setCells nameCs).size := by kernel_rfl
    have h12 : (Lib.setCells nameCs).all (·.oneCell') = true := by
      kernel_rfl
    replace hi2 := hide hi2
    replace h12 := hide h12
    have hth := there_set (w.alloc (.cells (Lib.setCells nameCs) 142))
    have hcell := fun y => set_cell (w.alloc (.cells (Lib.setCells nameCs) 142)) y
    have hE : Ext w (((w.alloc (.cells (Lib.setCells nameCs) 142)).alloc (.cells Tryz.zeroCells142 142)).setCells (w.heap.size + 1) 0 (Lib.setCells nameCs).toList) :=
      Ext.setCs35 (Nat.le_succ _) _ _ _ (((Ext.refl w).alloc _).alloc _)
    rw [alloc_size35] at hth
    have hcell : ∀ y : UInt8, (((w.alloc (.cells (Lib.setCells nameCs) 142)).alloc (.cells Tryz.zeroCells142 142)).setCells (w.heap.size + 1) 0 (Lib.setCells nameCs).toList).cell? ⟨w.heap.size + 1, y.toNat, none⟩ = some (.bool (nameCh y)) := fun y => by
      have h := hcell y
      rw [alloc_size35] at h
      exact h
    have q := TrimA_any (x :: r) hs (w.heap.size + 1) _ hcell
    replace q := hide q
    replace hs := hide hs
    replace hth := hide hth
    replace hcell := hide hcell
    replace hE := hide hE
    go_wp2_with first
      | (go_at_call 92; refine (MakeSet_any _).mono ?_; rintro e w' ⟨rfl, rfl⟩)
      | (refine wpList_store_mid rfl 142 (.tmp 5) (.tmp 29) rfl (w.heap.size + 1) 0 (Lib.setCells nameCs) rfl rfl ?_ hi2.out h12.out ?_; with_reducible exact hth.out)
      | (go_at_call 93; refine q.out.mono ?_; rintro e w' ⟨rfl, rfl⟩)
    all_goals
      go_ret
      exact ⟨rfl, hE.out⟩
end
section
open Go.RowKit
set_option linter.unusedVariables false
theorem drop_nil {s : List UInt8} : (s.dropWhile nameCh = []) ↔ s.all nameCh = true := by
  induction s with
  | nil => simp
  | cons x r ih =>
    rw [List.dropWhile_cons]
    cases h : nameCh x <;> simp [h, ih]
set_option maxRecDepth 20000 in
set_option maxHeartbeats 1000000 in
theorem Named_any (s : List UInt8) (hs : s.length ≤ 4194304) (w : World) :
    Calls Tryz.prog 49 #[.string ⟨s.toArray⟩] w fun e w' => e = .returned (.bool (nameOk s)) ∧ Ext w w' := by
  cases hs0 : s with
  | nil =>
    go_enter Tryz.func49, Tryz.ntmps49
    go_wp2
    go_ret
    exact ⟨rfl, Ext.refl _⟩
  | cons x r =>
    subst hs0
    have q := TrimL_any (x :: r) hs w
    have e1 : ∀ h, (ByteArray.mk (x :: r).toArray)[0]'h = x := fun _ => rfl
    have hN : nameOk (x :: r) = (decide ((x :: r).length ≤ 16) && (decide (97 ≤ x.toNat) && decide ((x :: r).dropWhile nameCh = []))) := by
      unfold nameOk
      have h1 : decide (1 ≤ (x :: r).length) = true := decide_eq_true (by simp)
      have h2 : (x :: r).all nameCh = decide ((x :: r).dropWhile nameCh = []) := by
        rw [Bool.eq_iff_iff, decide_eq_true_eq]; exact drop_nil.symm
      rw [h1, h2, Bool.true_and]
      rfl
    have hR : ∀ b : Bool, (decide ((x :: r).length ≤ 16) && (decide (97 ≤ x.toNat) && decide ((x :: r).dropWhile nameCh = []))) = b → ∀ w', Ext w w' → (Ending.returned (.bool b) = Ending.returned (.bool (nameOk (x :: r))) ∧ Ext w w') := fun b hb w' he => ⟨by rw [hN, hb], he⟩
    clear hN
    generalize (x :: r).dropWhile nameCh = d at q hR
    replace hR := hide hR
    replace q := hide q
    replace hs := hide hs
    by_cases h1 : (x :: r).length ≤ 16
    · have hl1 := h1
      have b1 : decide ((r.length : Int) + 1 ≤ 16) = true := decide_eq_true (by simp only [List.length_cons] at h1; omega)
      replace h1 := hide h1
      replace hl1 := hide hl1
      by_cases h2 : 97 ≤ x.toNat
      · have b2 : decide ((97 : Int) ≤ (x.toNat : Int)) = true := decide_eq_true (by omega)
        cases hd : d with
        | nil =>
          subst hd
          go_enter Tryz.func49, Tryz.ntmps49
          go_wp2_with (go_at_call 77; refine q.out.mono ?_; rintro e w1 ⟨rfl, he⟩)
          go_ret
          exact hR.out true (by rw [decide_eq_true hl1.out, decide_eq_true h2]; rfl) _ he
        | cons y t =>
          subst hd
          go_enter Tryz.func49, Tryz.ntmps49
          go_wp2_with (go_at_call 77; refine q.out.mono ?_; rintro e w1 ⟨rfl, he⟩)
          go_ret
          exact hR.out false (by rw [decide_eq_false (show ¬ (y :: t = []) by simp), Bool.and_false, Bool.and_false]) _ he
      · have b2 : decide ((97 : Int) ≤ (x.toNat : Int)) = false := decide_eq_false (by omega)
        go_enter Tryz.func49, Tryz.ntmps49
        go_wp2
        go_ret
        exact hR.out false (by rw [decide_eq_false h2, Bool.false_and, Bool.and_false]) _ (Ext.refl _)
    · have h3 := hR.out false (by rw [decide_eq_false h1, Bool.false_and]) _ (Ext.refl _)
      have b1 : decide ((r.length : Int) + 1 ≤ 16) = false := decide_eq_false (by simp only [List.length_cons] at h1; omega)
      clear h1
      replace h3 := hide h3
      go_enter Tryz.func49, Tryz.ntmps49
      go_wp2
      go_ret
      exact h3.out
end
section
open Go.RowKit Go.Sort
set_option linter.unusedVariables false
theorem Split_big (s : List UInt8) (c : UInt8) (w : World) (hV : Vars w) (hs : s.length ≤ 4194304) :
  Calls Tryz.prog 35 #[.string ⟨s.toArray⟩, .string ⟨#[c]⟩] w fun e w' => ∃ d, (spl c s).length ≤ d ∧ e = .returned (.slice (some ⟨w.heap.size, 0, none⟩) (spl c s).length d) ∧ Ext w w' ∧ ∀ k, (h : k < (spl c s).length) → w'.cell? ⟨w.heap.size, k, none⟩ = some (.string ⟨(spl c s)[k].toArray⟩) := by
 obtain ⟨m, hm⟩ := hV.max
 have hm2 : (Lib.splitB ⟨#[c]⟩ 0 (Lib.countB ⟨s.toArray⟩ ⟨#[c]⟩) ⟨s.toArray⟩).map (·.data.toList) = spl c s := Lib.splitB_data _ _ _ _
 have hlen : Lib.countB ⟨s.toArray⟩ ⟨#[c]⟩ + 1 = (spl c s).length := by
  rw [← hm2, List.length_map]
  exact (Lib.splitB_all ⟨#[c]⟩ (Nat.le_refl 1) _ _ _ rfl).symm
 refine (Tryz.strings_Split ⟨s.toArray⟩ ⟨#[c]⟩ m w (by simp [ByteArray.size]; omega) hm (Nat.le_refl 1)).mono ?_
 rintro e w' ⟨rfl, rfl⟩
 refine ⟨_, Nat.le_of_eq hlen.symm, by rw [hlen], (Ext.refl _).alloc _, fun k h => ?_⟩
 rw [(Blk.new w 9 _).cell k]
 have hk : k < (Lib.splitB ⟨#[c]⟩ 0 (Lib.countB ⟨s.toArray⟩ ⟨#[c]⟩) ⟨s.toArray⟩).length := by
  have := congrArg List.length hm2
  rw [List.length_map] at this
  omega
 have he := congrArg (fun l => l[k]?) hm2
 simp only [List.getElem?_map, List.getElem?_eq_getElem hk, List.getElem?_eq_getElem h, Option.map_some, Option.some.injEq] at he
 rw [List.getElem?_toArray, List.getElem?_map, List.getElem?_eq_getElem hk, ← he]
 rw [ba_list]
 rfl
theorem PU64_okb (s : List UInt8) (u : Nat) (w : World) (hs : s.length ≤ 4194304) (hp : Lib.parseUintB 64 s = .ok u) :
  Calls Tryz.prog 85 #[.string ⟨s.toArray⟩, .int .i64 10, .int .i64 64] w fun e w' => e = .returned (.tuple #[.int .u64 u, .nilIface]) ∧ Ext w w' := by
 refine (Any.strconv_ParseUint_10_at64_ok Tryz.laysPu14 ⟨s.toArray⟩ (by simp [ByteArray.size]; omega) u hp w).mono ?_
 rintro e w' ⟨rfl, hw⟩
 refine ⟨rfl, ?_⟩
 rcases hw with rfl | rfl
 ·exact Ext.refl _
 ·exact ext_bytes _ _ _
theorem PU64_big (s : List UInt8) (w : World) (hV : Vars w) (hs : s.length ≤ 4194304) :
  Calls Tryz.prog 85 #[.string ⟨s.toArray⟩, .int .i64 10, .int .i64 64] w (PuP 10 18446744073709551615 s w) := by
 obtain ⟨t1, p1, h1⟩ := hV.es
 obtain ⟨t2, p2, h2⟩ := hV.er
 have hz : (ByteArray.mk s.toArray).size = s.length := ba_size s
 have hrd := fun n => rd_dec (B := 64) (s := s) (n := n) (by decide)
 rcases hp : Lib.parseUintB 64 s with u | _ | _
 ·rw [hp] at hrd
  refine (PU64_okb s u w hs hp).mono ?_
  rintro e w' ⟨rfl, hw⟩
  exact ⟨hw, .inl ⟨u, Lib.parseUintB_le hp, rfl, fun n hn => by have := hrd n hn; injection this with this; exact this.symm⟩⟩
 ·rw [hp] at hrd
  refine (Any.strconv_ParseUint_10_at64_syntax Tryz.laysPu14 ⟨s.toArray⟩ (by omega) hp _ w h1 (.inr ⟨_, _, rfl⟩)).mono ?_
  rintro e w' ⟨N, rfl, _, _, hb⟩
  refine ⟨hb, .inr ⟨?_, _, _, _, rfl⟩⟩
  cases hr : rdN 10 18446744073709551615 s with
  | none => rfl
  | some n => cases hrd n hr
 ·rw [hp] at hrd
  refine (Any.strconv_ParseUint_10_at64_range Tryz.laysPu14 ⟨s.toArray⟩ (by omega) hp _ w h2 (.inr ⟨_, _, rfl⟩)).mono ?_
  rintro e w' ⟨N, rfl, _, _, hb⟩
  refine ⟨hb, .inr ⟨?_, _, _, _, rfl⟩⟩
  cases hr : rdN 10 18446744073709551615 s with
  | none => rfl
  | some n => cases hrd n hr
end
section
open Go.RowKit
set_option linter.unusedVariables false
/-- What is given up with. -/
def wrongP (c : Int) : List PanicEntry := [{ v := .iface 107 (.agg #[.int .i64 c]), recovered := false }]
theorem give_any (c : Int) (w : World) : Calls Tryz.prog 37 #[.int .i64 c] w fun e w' => e = .panicked (wrongP c) ∧ w = w' := by
 go_enter Tryz.func37, Tryz.ntmps37
 go_wp2
 exact ⟨rfl, rfl, rfl⟩
/-- A number of a word, or given up. -/
def NumS (s : List UInt8) (a b : Nat) (w : World) (e : Ending) (w' : World) : Prop := (e = match rdC s a b with | some n => .returned (.int .u64 (n : Int)) | none => .panicked (wrongP 9)) ∧ Ext w w'
theorem rdC_iff {s : List UInt8} {a b n : Nat} : rdC s a b = some n ↔ a ≤ n ∧ n ≤ b ∧ digS 10 n = s := by
 constructor
 ·exact rdC_some
 ·rintro ⟨h1, h2, rfl⟩; exact rdC_dig h1 h2
theorem rdC_no {s : List UInt8} {a b u : Nat} (hu : ∀ n, rdN 10 18446744073709551615 s = some n → n = u) (hb : b ≤ 4294967295) (h : u < a ∨ b < u ∨ digS 10 u ≠ s) : rdC s a b = none := by
  cases hr : rdC s a b with
  | none => rfl
  | some n =>
    obtain ⟨h1, h2, h3⟩ := rdC_some hr
    have := hu n ((rdN_iff (by decide) (by decide)).2 ⟨by omega, h3⟩)
    subst this
    rcases h with h | h | h
    · omega
    · omega
    · exact absurd h3 h
theorem rdC_none {s : List UInt8} {a b : Nat} (hu : rdN 10 18446744073709551615 s = none) (hb : b ≤ 4294967295) : rdC s a b = none := by
  cases hr : rdC s a b with
  | none => rfl
  | some n =>
    obtain ⟨h1, h2, h3⟩ := rdC_some hr
    have := (rdN_iff (b := 10) (most := 18446744073709551615) (by decide) (by decide)).2 ⟨by omega, h3⟩
    rw [hu] at this
    cases this
set_option maxRecDepth 20000 in
theorem SNum_any (s : List UInt8) (a b : Nat) (hab : a ≤ 4294967295) (hb : b ≤ 4294967295) (w : World) (hT : Tab w) (hV : Vars w) (hs : s.length ≤ 4194304) :
  Calls Tryz.prog 66 #[.string ⟨s.toArray⟩, .int .u64 (a : Int), .int .u64 (b : Int)] w (NumS s a b w) := by
 have hpu := PU64_big s w hV hs
 have hf := fun (u : Nat) (hu : u ≤ 18446744073709551615) W (h : Ext w W) => (FormatUint_any u (by omega) W (hT.ext h)).mono (R' := fun e w' => e = .returned (.string ⟨(digS 10 u).toArray⟩) ∧ Ext W w') fun e w' q => ⟨by rw [q.1]; unfold dec; rw [digS_dec], q.2⟩
 have hok : ∀ (u : Nat) (W : World), a ≤ u → u ≤ b → digS 10 u = s → Ext w W → NumS s a b w (.returned (.int .u64 (u : Int))) W := by
  intro u W h1 h2 h3 hE
  refine ⟨?_, hE⟩
  rw [rdC_iff.2 ⟨h1, h2, h3⟩]
 have hbad : ∀ (W : World), rdC s a b = none → Ext w W → NumS s a b w (.panicked (wrongP 9)) W := by
  intro W h hE
  refine ⟨?_, hE⟩
  rw [h]
 have hno1 : ∀ u : Nat, (∀ n, rdN 10 18446744073709551615 s = some n → n = u) → u < a ∨ b < u ∨ digS 10 u ≠ s → rdC s a b = none := fun u h1 h2 => rdC_no h1 hb h2
 have hno2 : rdN 10 18446744073709551615 s = none → rdC s a b = none := fun h => rdC_none h hb
 generalize NumS s a b w = Post at *
 replace hok := hide hok
 replace hbad := hide hbad
 replace hno1 := hide hno1
 replace hno2 := hide hno2
 replace hpu := hide hpu
 replace hf := hide hf
 clear hT hV hs hab hb
 go_enter Tryz.func66, Tryz.ntmps66
 go_wp2_with fail
 refine hpu.out.mono ?_
 rintro e w1 ⟨he, ⟨u, hu, rfl, hn⟩ | ⟨hn, z, T, p, rfl⟩⟩
 ·have hq := fun W h => hf.out u hu W h
  have hr := fun W h1 h2 h3 h => hok.out u W h1 h2 h3 h
  have hx := fun W h1 h => hbad.out W (hno1.out u hn h1) h
  replace hx := hide hx
  replace hr := hide hr
  replace hq := hide hq
  replace hn := hide hn
  replace hu := hide hu
  replace he := hide he
  by_cases h1 : u < a
  ·have b1 : decide (u < a) = true := decide_eq_true h1
   have h1' := hide h1
   clear h1
   go_wp2_with fail
   refine (give_any _ _).mono ?_
   rintro e w3 ⟨rfl, rfl⟩
   go_wp2
   exact ⟨rfl, hx.out _ (.inl h1'.out) he.out⟩
  have b1 : decide (u < a) = false := decide_eq_false h1
  have h1' := hide h1
  clear h1
  by_cases h2 : b < u
  ·have b2 : decide (b < u) = true := decide_eq_true h2
   have h2' := hide h2
   clear h2
   go_wp2_with fail
   refine (give_any _ _).mono ?_
   rintro e w3 ⟨rfl, rfl⟩
   go_wp2
   exact ⟨rfl, hx.out _ (.inr (.inl h2'.out)) he.out⟩
  have b2 : decide (b < u) = false := decide_eq_false h2
  have h2' := hide h2
  clear h2
  go_wp2_with fail
  refine (hq.out _ he.out).mono ?_
  rintro e w2 ⟨rfl, he2⟩
  replace he2 := hide (he.out.trans he2)
  generalize digS 10 u = d at *
  by_cases hds : d = s
  ·subst hds
   go_wp2
   try go_ret
   exact hr.out _ (by have := h1'.out; omega) (by have := h2'.out; omega) (by trivial) he2.out
  ·have hdd : ((d == s) = false) := by simpa using hds
   have hdd2 : ((s == d) = false) := by simpa using fun h => hds h.symm
   have hdd3 : ((d != s) = true) := by simpa using hds
   replace hds := hide hds
   go_wp2_with fail
   refine (give_any _ _).mono ?_
   rintro e w3 ⟨rfl, rfl⟩
   go_wp2
   exact ⟨rfl, hx.out _ (.inr (.inr hds.out)) he2.out⟩
 ·replace hn := hide hn
  replace he := hide he
  go_wp2_with fail
  refine (give_any _ _).mono ?_
  rintro e w3 ⟨rfl, rfl⟩
  go_wp2
  exact ⟨rfl, hbad.out _ (hno2.out hn.out) he.out⟩
/-- A name of a word, or given up. -/
def NamS (s : List UInt8) (w : World) (e : Ending) (w' : World) : Prop := (e = if nameOk s = true then .returned (.string ⟨s.toArray⟩) else .panicked (wrongP 9)) ∧ Ext w w'
theorem SName_any (s : List UInt8) (hs : s.length ≤ 4194304) (w : World) :
  Calls Tryz.prog 68 #[.string ⟨s.toArray⟩] w (NamS s w) := by
 have q := Named_any s hs w
 have h1 : ∀ W, nameOk s = true → Ext w W → NamS s w (.returned (.string ⟨s.toArray⟩)) W := fun W h he => ⟨by rw [if_pos h], he⟩
 have h2 : ∀ W, nameOk s = false → Ext w W → NamS s w (.panicked (wrongP 9)) W := fun W h he => ⟨by rw [h]; rfl, he⟩
 generalize NamS s w = Post at *
 generalize nameOk s = b at *
 replace q := hide q
 replace h1 := hide h1
 replace h2 := hide h2
 go_enter Tryz.func68, Tryz.ntmps68
 cases b
 ·go_wp2_with (go_at_call 49; refine q.out.mono ?_; rintro e w1 ⟨rfl, he⟩; replace he := hide he)
  refine (give_any _ _).mono ?_
  rintro e w3 ⟨rfl, rfl⟩
  go_wp2
  exact ⟨rfl, h2.out _ (by trivial) he.out⟩
 ·go_wp2_with (go_at_call 49; refine q.out.mono ?_; rintro e w1 ⟨rfl, he⟩; replace he := hide he)
  try go_ret
  exact h1.out _ (by trivial) he.out
/-- Bytes of a word, or given up. -/
def BytS (s : List UInt8) (m : Nat) (w : World) (e : Ending) (w' : World) : Prop := (e = match readB m s with | some b => .returned (.string ⟨b.toArray⟩) | none => .panicked (wrongP 9)) ∧ Ext w w'
theorem unhex_len2 {s b : List UInt8} (h : unhexS s = some b) : b.length ≤ s.length := by
 have := hexS_len b
 rw [hex_unhex s b h] at this
 omega
set_option maxRecDepth 20000 in
theorem SBytes_any (s : List UInt8) (m : Nat) (hm : m ≤ 1048576) (hs : s.length ≤ 4194304) (w : World) :
    Calls Tryz.prog 69 #[.string ⟨s.toArray⟩, .int .i64 (m : Int)] w (BytS s m w) := by
  by_cases h0 : s = [45]
  · subst h0
    go_enter Tryz.func69, Tryz.ntmps69
    go_wp2
    go_ret
    exact ⟨rfl, Ext.refl _⟩
  have q := WUnhex_any s hs w
  have e1 : (s == [45]) = false := beq_eq_false_iff_ne.2 h0
  have e2 : (s != [45]) = true := by simpa using h0
  have hN : readB m s = match unhexS s with | some b => if b ≠ [] ∧ b.length ≤ m then some b else none | none => none := by unfold readB; rw [if_neg h0]; first | done | (cases unhexS s <;> rfl)
  have hbad : ∀ W, readB m s = none → Ext w W → BytS s m w (.panicked (wrongP 9)) W := fun W h he => ⟨by rw [h], he⟩
  have hok : ∀ W b, readB m s = some b → Ext w W → BytS s m w (.returned (.string ⟨b.toArray⟩)) W := fun W b h he => ⟨by rw [h], he⟩
  generalize BytS s m w = Post at *
  rw [hN] at hbad hok
  unfold UnP at q
  clear hN
  have hul := fun b => unhex_len2 (s := s) (b := b)
  generalize unhexS s = un at *
  replace h0 := hide h0
  replace hs := hide hs
  replace hm := hide hm
  cases hun : un with
  | none =>
    subst hun
    replace q := hide q
    replace hbad := hide hbad
    replace hok := hide hok
    replace hul := hide hul
    go_enter Tryz.func69, Tryz.ntmps69
    go_wp2_with fail
    refine q.out.mono ?_
    rintro e w1 ⟨⟨c, rfl, hc⟩, he⟩
    have hc1 : ¬ c = 0 := fun h => by have := hc.1 h; cases this
    clear hc
    have b1 : (c == 0) = false := beq_eq_false_iff_ne.2 hc1
    have b2 : (c != 0) = true := by simpa using hc1
    have b3 : decide (c = 0) = false := decide_eq_false hc1
    replace he := hide he
    go_wp2_with fail
    refine (give_any _ _).mono ?_
    rintro e w3 ⟨rfl, rfl⟩
    go_wp2
    exact ⟨rfl, hbad.out _ (by trivial) he.out⟩
  | some b =>
    subst hun
    have hbl := hul b rfl
    clear hul
    by_cases hb0 : b = []
    · subst hb0
      replace q := hide q
      replace hbad := hide hbad
      replace hok := hide hok
      go_enter Tryz.func69, Tryz.ntmps69
      go_wp2_with fail
      refine q.out.mono ?_
      rintro e w1 ⟨⟨c, rfl, hc⟩, he⟩
      obtain rfl : c = 0 := hc.2 rfl
      clear hc
      simp only [Option.getD_some]
      replace he := hide he
      go_wp2_with fail
      refine (give_any _ _).mono ?_
      rintro e w3 ⟨rfl, rfl⟩
      go_wp2
      exact ⟨rfl, hbad.out _ (if_neg fun h => h.1 rfl) he.out⟩
    have f1 : (b == []) = false := beq_eq_false_iff_ne.2 hb0
    have f2 : (b != []) = true := by simpa using hb0
    by_cases hl : b.length ≤ m
    · have d1 : decide (m < b.length) = false := decide_eq_false (by have := hm.out; omega)
      have hl' := hide hl
      have hb0' := hide hb0
      clear hl
      replace q := hide q
      replace hbad := hide hbad
      replace hok := hide hok
      replace hbl := hide hbl
      go_enter Tryz.func69, Tryz.ntmps69
      go_wp2_with fail
      refine q.out.mono ?_
      rintro e w1 ⟨⟨c, rfl, hc⟩, he⟩
      obtain rfl : c = 0 := hc.2 rfl
      clear hc
      simp only [Option.getD_some]
      replace he := hide he
      go_wp2
      try go_ret
      exact hok.out _ b (if_pos ⟨hb0'.out, hl'.out⟩) he.out
    · have d1 : decide (m < b.length) = true := decide_eq_true (by have := hm.out; omega)
      have hl' := hide hl
      have hb0' := hide hb0
      clear hl
      replace q := hide q
      replace hbad := hide hbad
      replace hok := hide hok
      replace hbl := hide hbl
      go_enter Tryz.func69, Tryz.ntmps69
      go_wp2_with fail
      refine q.out.mono ?_
      rintro e w1 ⟨⟨c, rfl, hc⟩, he⟩
      obtain rfl : c = 0 := hc.2 rfl
      clear hc
      simp only [Option.getD_some]
      replace he := hide he
      go_wp2_with fail
      refine (give_any _ _).mono ?_
      rintro e w3 ⟨rfl, rfl⟩
      go_wp2
      exact ⟨rfl, hbad.out _ (if_neg fun h => hl'.out h.2) he.out⟩
theorem SWord_any (b : List UInt8) (hb : b.length ≤ 1048576) (w : World) :
    Calls Tryz.prog 51 #[.string ⟨b.toArray⟩] w fun e w' => e = .returned (.string ⟨(wordB b).toArray⟩) ∧ Ext w w' := by
  have q := WHex_any b hb w
  cases b with
  | nil =>
    clear q
    go_enter Tryz.func51, Tryz.ntmps51
    go_wp2
    go_ret
    exact ⟨rfl, Ext.refl _⟩
  | cons x r =>
    have hR : ∀ h W, hexS (x :: r) = h → Ext w W → (Ending.returned (.string ⟨h.toArray⟩) = Ending.returned (.string ⟨(wordB (x :: r)).toArray⟩) ∧ Ext w W) := fun h W hh he => ⟨by unfold wordB; rw [if_neg (by simp), hh], he⟩
    generalize hexS (x :: r) = hx at *
    replace q := hide q
    replace hR := hide hR
    go_enter Tryz.func51, Tryz.ntmps51
    go_wp2_with fail
    refine q.out.mono ?_
    rintro e w1 ⟨rfl, he⟩
    go_wp2
    go_ret
    exact hR.out _ _ rfl he
end
section
set_option linter.unusedVariables false
def updF {α : Type} (f : Nat → α) (i : Nat) (x : α) : Nat → α := fun j => if j = i then x else f j
theorem updF_same {α : Type} (f : Nat → α) (i : Nat) (x : α) : updF f i x i = x := if_pos rfl
theorem updF_ne {α : Type} (f : Nat → α) {i j : Nat} (x : α) (h : j ≠ i) : updF f i x j = f j := if_neg h
def putD (done : Nat → Bool) (val : Nat → Value) : List Oper → Nat → Act → Act
 | [], _, a => a
 | o :: l, k, a => putD done val l (k + 1) (if done k = true then a.put o.dst (val k) else a)
def distB : List Oper → Bool
 | [] => true
 | o :: l => (match o.dst with | none => true | some d => l.all fun p => p.dst != some d) && distB l
theorem putD_put {done : Nat → Bool} {val : Nat → Value} (d : Option Tmp) (v : Value) : ∀ (l : List Oper) (k : Nat) (a : Act), (∀ o ∈ l, ∀ x, d = some x → o.dst ≠ some x) → putD done val l k (a.put d v) = (putD done val l k a).put d v
  | [], _, _, _ => rfl
  | o :: l, k, a, h => by
    simp only [putD]
    rw [← putD_put d v l (k + 1) _ fun p hp => h p (by simp [hp])]
    congr 1
    split
    · exact Act.put_comm a v _ fun x hx => h o (by simp) x hx
    · rfl
theorem putD_congr {done done' : Nat → Bool} {val val' : Nat → Value} : ∀ (l : List Oper) (k : Nat) (a : Act), (∀ j, k ≤ j → done j = done' j ∧ val j = val' j) → putD done val l k a = putD done' val' l k a
  | [], _, _, _ => rfl
  | o :: l, k, a, h => by
    simp only [putD]
    rw [(h k (Nat.le_refl _)).1, (h k (Nat.le_refl _)).2]
    exact putD_congr l (k + 1) _ fun j hj => h j (by omega)
theorem dist_tail {o : Oper} {l : List Oper} (h : distB (o :: l) = true) : distB l = true ∧ ∀ p ∈ l, ∀ x, o.dst = some x → p.dst ≠ some x := by
 simp only [distB, Bool.and_eq_true] at h
 refine ⟨h.2, fun p hp x hx => ?_⟩
 rw [hx] at h
 have := List.all_eq_true.1 h.1 p hp
 simpa using this
theorem putD_upd {done : Nat → Bool} {val : Nat → Value} (v : Value) : ∀ (l : List Oper) (k i : Nat) (a : Act) (o : Oper), distB l = true → l[i]? = some o → done (k + i) = false →
    putD (updF done (k + i) true) (updF val (k + i) v) l k a = (putD done val l k a).put o.dst v
  | [], _, _, _, _, _, h, _ => by simp at h
  | p :: l, k, 0, a, o, hB, ho, hd => by
    obtain rfl : p = o := by simpa using ho
    obtain ⟨_, hne⟩ := dist_tail hB
    simp only [putD, Nat.add_zero, updF_same, if_true]
    simp only [Nat.add_zero] at hd
    rw [hd, if_neg (by decide), putD_congr (done' := done) (val' := val) l (k + 1) _ fun j hj => ⟨updF_ne _ _ (by omega), updF_ne _ _ (by omega)⟩]
    exact putD_put _ _ l _ _ hne
  | p :: l, k, i + 1, a, o, hB, ho, hd => by
    have ho' : l[i]? = some o := by simpa using ho
    simp only [putD]
    rw [updF_ne _ _ (show k ≠ k + (i + 1) by omega), updF_ne _ _ (show k ≠ k + (i + 1) by omega)]
    have := putD_upd (val := val) v l (k + 1) i (if done k = true then a.put p.dst (val k) else a) o (dist_tail hB).1 ho' (by rw [show k + 1 + i = k + (i + 1) by omega]; exact hd)
    rw [show k + 1 + i = k + (i + 1) by omega] at this
    exact this
theorem putD_size {done : Nat → Bool} {val : Nat → Value} : ∀ (l : List Oper) (k : Nat) (a : Act), (putD done val l k a).tmps.size = a.tmps.size
  | [], _, _ => rfl
  | o :: l, k, a => by
    simp only [putD]
    rw [putD_size l]
    split
    · cases o.dst <;> simp [Act.put]
    · rfl
theorem eval_put_same {a : Act} {d : Tmp} {v : Value} (h : d < a.tmps.size) : (a.put (some d) v).eval (.tmp d) = v := by
 simp [Act.put, Act.eval, h]
theorem eval_putD {done : Nat → Bool} {val : Nat → Value} : ∀ (l : List Oper) (k i : Nat) (a : Act) (o : Oper) (d : Tmp), distB l = true → l[i]? = some o → o.dst = some d → done (k + i) = true → d < a.tmps.size → (putD done val l k a).eval (.tmp d) = val (k + i)
  | [], _, _, _, _, _, _, h, _, _, _ => by simp at h
  | p :: l, k, 0, a, o, d, hB, ho, hd, hk, hs => by
    obtain rfl : p = o := by simpa using ho
    simp only [Nat.add_zero] at hk ⊢
    simp only [putD]
    rw [hk, if_pos rfl, hd, putD_put (some d) _ l _ _ fun q hq x hx => (dist_tail hB).2 q hq x (by rw [hd]; exact hx)]
    exact eval_put_same (by rw [putD_size]; exact hs)
  | p :: l, k, i + 1, a, o, d, hB, ho, hd, hk, hs => by
    simp only [putD]
    have := eval_putD (done := done) (val := val) l (k + 1) i (if done k = true then a.put p.dst (val k) else a) o d (dist_tail hB).1 (by simpa using ho) hd (by rw [show k + 1 + i = k + (i + 1) by omega]; exact hk) (by split <;> (try cases p.dst) <;> simpa [Act.put] using hs)
    rw [show k + 1 + i = k + (i + 1) by omega] at this
    exact this
theorem eval_putD_out {done : Nat → Bool} {val : Nat → Value} (t : Tmp) : ∀ (l : List Oper) (k : Nat) (a : Act), (∀ o ∈ l, o.dst ≠ some t) → (putD done val l k a).eval (.tmp t) = a.eval (.tmp t)
  | [], _, _, _ => rfl
  | o :: l, k, a, h => by
    simp only [putD]
    rw [eval_putD_out t l (k + 1) _ fun p hp => h p (by simp [hp])]
    split
    · exact Act.eval_put fun d hd he => h o (by simp) (by rw [hd]; injection he with he; rw [he])
    · rfl
/-- How many are left. -/
def cntF (f : Nat → Bool) : Nat → Nat
 | 0 => 0
 | n + 1 => cntF f n + if f n = true then 0 else 1
theorem cntF_upd (f : Nat → Bool) (i : Nat) (hi : f i = false) : ∀ n, cntF (updF f i true) n + (if i < n then 1 else 0) = cntF f n
  | 0 => by simp [cntF]
  | n + 1 => by
    have ih := cntF_upd f i hi n
    simp only [cntF]
    by_cases h : n = i
    · subst h
      rw [if_neg (Nat.lt_irrefl n)] at ih
      have h1 : (if n < n + 1 then 1 else 0) = 1 := if_pos (Nat.lt_succ_self n)
      rw [updF_same, hi, h1]
      simp only [if_true, Bool.false_eq_true, if_false]
      omega
    · rw [updF_ne _ _ h]
      by_cases h2 : i < n
      · rw [if_pos h2] at ih
        have h1 : (if i < n + 1 then 1 else 0) = 1 := if_pos (by omega)
        rw [h1]
        omega
      · rw [if_neg h2] at ih
        have h1 : (if i < n + 1 then 1 else 0) = 0 := if_neg (by omega)
        rw [h1]
        omega
theorem cntF_zero (f : Nat → Bool) : ∀ n, cntF f n = 0 → ∀ i, i < n → f i = true
  | 0, _, i, hi => by omega
  | n + 1, h, i, hi => by
    simp only [cntF] at h
    by_cases hn : f n = true
    · rw [if_pos hn] at h
      rcases Nat.lt_or_ge i n with h2 | h2
      · exact cntF_zero f n h i h2
      · obtain rfl : i = n := by omega
        exact hn
    · rw [if_neg hn] at h; omega
theorem cntF_none (n : Nat) : cntF (fun _ => false) n = n := by
 induction n with
 | zero => rfl
 | succ n ih => simp [cntF, ih]
open Go.RowKit
def backM (md : Region.Mode) (ops : Array Oper) : Bool := (List.range ops.size).all fun i => match ops[i]? with | none => true | some o => o.after.all fun e => !Region.binds md e || decide (e.on < i)
theorem ready_nilM {md : Region.Mode} {ops : Array Oper} {listed : Array Bool} (hb : backM md ops = true) (hs : listed.size = ops.size) (h : Region.ready md ops listed = []) (i : Nat) : i < ops.size → listed.getD i false = true := by
  induction i using Nat.strongRecOn with
  | _ i ih =>
    intro hi
    cases hl : listed.getD i false with
    | true => rfl
    | false =>
      have hmem : i ∈ Region.ready md ops listed := mem_ready.2 ⟨by
        have : i < listed.size := by omega
        simp [this] at hl ⊢
        exact hl, ops[i], by simp [hi], fun e he hbd => by
        have hb' := List.all_eq_true.1 hb i (by simpa using hi)
        simp only [Array.getElem?_eq_getElem hi] at hb'
        have hlt : e.on < i := by
          rw [Array.all_eq_true] at hb'
          obtain ⟨k, hk, rfl⟩ := Array.mem_iff_getElem.1 he
          have h3 := hb' k hk
          rw [hbd] at h3
          simpa using h3
        exact ih e.on hlt (by omega)⟩
      rw [h] at hmem
      cases hmem
/-- What an operation yields: a value; a block of its own; a block that is filled later; nothing: it fills what number b made. -/
inductive Spec where
  | val (v : Value)
  | mk (f : Nat → Value) (t : TypeId) (cs : Array Value)
  | box (st : Nat) (t : TypeId) (z cs : Array Value)
  | fill (b : Nat)
def Spec.mem : Spec → Bool
 | .mk _ _ _ => true
 | .box _ _ _ _ => true
 | _ => false
def Spec.Ok (done : Nat → Bool) (v : Value) (w : World) (g : Nat) : Spec → Prop
 | .val u => v = u
 | .mk f t cs => v = f g ∧ Blk w g t cs
 | .box st t z cs => v = .pointer (some ⟨g, 0, none⟩) ∧ Blk w g t (if done st = true then cs else z)
 | .fill _ => True
/-- Nothing but block g has turned. -/
structure OnlyAt (g : Nat) (w w' : World) : Prop where
  os : w'.os = w.os
  tape : w'.tape = w.tape
  output : w'.output = w.output
  size : w'.heap.size = w.heap.size
  block : ∀ b, b ≠ g → w'.heap[b]? = w.heap[b]?
theorem OnlyAt.refl (g : Nat) (w : World) : OnlyAt g w w := ⟨rfl, rfl, rfl, rfl, fun _ _ => rfl⟩
theorem OnlyAt.setCell {g : Nat} {a w : World} (h : OnlyAt g a w) (o : Nat) (u : Value) : OnlyAt g a (w.setCell ⟨g, o, none⟩ u) :=
 ⟨h.os, h.tape, h.output, by simpa [World.setCell] using h.size, fun b hb => (Below.heap_setCell _ _ _ _ (show b ≠ g from hb)).trans (h.block b hb)⟩
theorem OnlyAt.ext {g : Nat} {W w w' : World} (h : OnlyAt g w w') (hE : Ext W w) (hg : W.heap.size ≤ g) : Ext W w' :=
 ⟨h.os.trans hE.os, h.tape.trans hE.tape, h.output.trans hE.output, by rw [h.size]; exact hE.size, fun b hb => (h.block b (by omega)).trans (hE.block b hb)⟩
def JS (W : World) (n : Nat) (sp : Nat → Spec) (done : Nat → Bool) (val : Nat → Value) (w : World) : Prop :=
 Ext W w ∧ ∃ G : Nat → Nat, (∀ i, i < n → done i = true → (sp i).Ok done (val i) w (G i)) ∧ (∀ i, i < n → done i = true → (sp i).mem = true → W.heap.size ≤ G i ∧ G i < w.heap.size) ∧
  (∀ i j, i < n → j < n → done i = true → done j = true → (sp i).mem = true → (sp j).mem = true → G i = G j → i = j) ∧ (∀ i b, i < n → sp i = .fill b → done i = true → done b = true)
theorem JS.start (W : World) (n : Nat) (sp : Nat → Spec) (val : Nat → Value) : JS W n sp (fun _ => false) val W.drew :=
 ⟨(Ext.refl W).drew, fun _ => 0, fun _ _ h => Bool.noConfusion h, fun _ _ h => Bool.noConfusion h, fun _ _ _ _ h => Bool.noConfusion h, fun _ _ _ _ h => Bool.noConfusion h⟩
def outB' (ops : Array Oper) (t : Tmp) : Bool := ops.toList.all fun o => o.dst != some t
theorem outB'_spec {ops : Array Oper} {t : Tmp} (h : outB' ops t = true) : ∀ o ∈ ops.toList, o.dst ≠ some t := fun o ho => by
 have := List.all_eq_true.1 h o ho
 simpa using this
theorem wanted_none' {o : Oper} {a : Nat → Option Bool} (h : o.guard = none) : Region.wanted o a = true := by
 unfold Region.wanted; rw [h]
theorem Spec.Ok.mono {sp : Spec} {done done' : Nat → Bool} {v : Value} {w w' : World} {g : Nat} (h : sp.Ok done v w g) (hd : ∀ st t z cs, sp = .box st t z cs → done' st = done st) (hw : sp.mem = true → w'.heap[g]? = w.heap[g]?) : sp.Ok done' v w' g := by
  cases sp with
  | val u => exact h
  | mk f t cs => exact ⟨h.1, (hw rfl).trans h.2⟩
  | box st t z cs =>
    refine ⟨h.1, ?_⟩
    rw [hd st t z cs rfl]
    exact (hw rfl).trans h.2
  | fill b => trivial
theorem Spec.Ok.lt {sp : Spec} {done : Nat → Bool} {v : Value} {w : World} {g : Nat} (h : sp.Ok done v w g) (hm : sp.mem = true) : g < w.heap.size := by
 cases sp with
 | val u => cases hm
 | mk f t cs => exact h.2.lt
 | box st t z cs => exact h.2.lt
 | fill b => cases hm
/-- Steps by their runs. -/
theorem step_val {P : Program} {Q : Exit → Act → World → Prop} {o : Oper} {a : Act} {w w'' : World} {u : Value} (h : (execOp a.eval o).run P w = .ok (.value u) w'') (he : Ext w w'') : Oper.wp P o a w (fun a' w'' => a' = a.put o.dst u ∧ Ext w w'') Q := by
 unfold Oper.wp
 rw [h]
 exact ⟨rfl, he⟩
theorem step_mk {P : Program} {Q : Exit → Act → World → Prop} {o : Oper} {a : Act} {w w'' : World} {g : Nat} {v : Value} {t : TypeId} {cs : Array Value} (h : (execOp a.eval o).run P w = .ok (.value v) w'') (hg : w.heap.size ≤ g) (he : Ext w w'') (hB : Blk w'' g t cs) (f : Nat → Value) (hv : v = f g) :
  Oper.wp P o a w (fun a' w'' => ∃ g, a' = a.put o.dst (f g) ∧ w.heap.size ≤ g ∧ Ext w w'' ∧ Blk w'' g t cs) Q := by
 unfold Oper.wp
 rw [h, hv]
 exact ⟨g, rfl, hg, he, hB⟩
theorem step_go {P : Program} {Q : Exit → Act → World → Prop} {o : Oper} {a : Act} {w : World} {u : Value} (f : FuncId) {fn : Func} (xs : Array Operand) (ts : Array TypeId)
  (hop : o.op = Op.call { callee := Callee.value (Operand.func f), args := xs, argTypes := ts }) (hf : P.funcs[f]? = some fn) (hname : (fn.name == "runtime.NumGoroutine") = false) (hb : fn.body.isNone = false) (vs : Array Value) (hx : xs.map a.eval = vs)
  (hc : Calls P f vs w fun e w' => e = .returned u ∧ Ext w w') : Oper.wp P o a w (fun a' w'' => a' = a.put o.dst u ∧ Ext w w'') Q := by
 unfold Oper.wp
 have h1 : fn.name ≠ "runtime.NumGoroutine" := by simpa using hname
 have hev : a.eval (Operand.func f) = .func (.func f) #[] #[] := rfl
 have h2 : ¬ (fn.body = none) := by intro h; simp [h] at hb
 have hrun : (execOp a.eval o).run P w = .ok (.enter f vs) w := by
  simp [execOp, hop, resolve, hev, Deferred.ofValue, invoke, hx, callFunc, hf, h1, h2]
 rw [hrun, Oper.upon_enter]
 exact hc.mono fun e w' h => by obtain ⟨rfl, hE⟩ := h; exact ⟨rfl, hE⟩
/-- What an operation yields: a value; a block of its own; a block that is filled later; nothing: it fills what number b made; something of which R holds, in blocks of its own from lo up to hi. -/
inductive Wd where
  | val (v : Value)
  | mk (f : Nat → Value) (t : TypeId) (cs : Array Value)
  | box (st : Nat) (t : TypeId) (z : Array Value) (cs : (Nat → Value) → Array Value)
  | fill (b : Nat)
  | any (R : Nat → Nat → Value → World → Prop)
def Wd.mem : Wd → Bool
 | .mk _ _ _ => true
 | .box _ _ _ _ => true
 | .any _ => true
 | _ => false
def Wd.Ok (done : Nat → Bool) (val : Nat → Value) (v : Value) (w : World) (g h : Nat) : Wd → Prop
 | .val u => v = u
 | .mk f t cs => (v = f g ∧ Blk w g t cs) ∧ h = g + 1
 | .box st t z cs => (v = .pointer (some ⟨g, 0, none⟩) ∧ Blk w g t (if done st = true then cs val else z)) ∧ h = g + 1
 | .fill _ => True
 | .any R => R g h v w
/-- What stays while nothing but other blocks turns. -/
def Stays (W : World) (R : Nat → Nat → Value → World → Prop) : Prop :=
 ∀ lo hi v w w', R lo hi v w → (∀ b, b < W.heap.size ∨ (lo ≤ b ∧ b < hi) → w'.heap[b]? = w.heap[b]?) → w.heap.size ≤ w'.heap.size → R lo hi v w'
def JW (W : World) (n : Nat) (sp : Nat → Wd) (done : Nat → Bool) (val : Nat → Value) (w : World) : Prop :=
 Ext W w ∧ ∃ G H : Nat → Nat, (∀ i, i < n → done i = true → (sp i).Ok done val (val i) w (G i) (H i)) ∧ (∀ i, i < n → done i = true → (sp i).mem = true → W.heap.size ≤ G i ∧ G i ≤ H i ∧ H i ≤ w.heap.size) ∧
  (∀ i j, i < n → j < n → i ≠ j → done i = true → done j = true → (sp i).mem = true → (sp j).mem = true → H i ≤ G j ∨ H j ≤ G i) ∧ (∀ i b, i < n → sp i = .fill b → done i = true → done b = true)
theorem JW.start (W : World) (n : Nat) (sp : Nat → Wd) (val : Nat → Value) : JW W n sp (fun _ => false) val W.drew :=
 ⟨(Ext.refl W).drew, fun _ => 0, fun _ => 0, fun _ _ h => Bool.noConfusion h, fun _ _ h => Bool.noConfusion h, fun _ _ _ _ _ h => Bool.noConfusion h, fun _ _ _ _ h => Bool.noConfusion h⟩
def StepW (P : Program) (Q : Exit → Act → World → Prop) (sp : Nat → Wd) (o : Oper) (a : Act) (w : World) (G : Nat → Nat) (val : Nat → Value) : Wd → Prop
  | .val u => Oper.wp P o a w (fun a' w'' => a' = a.put o.dst u ∧ Ext w w'') Q
  | .mk f t cs => Oper.wp P o a w (fun a' w'' => ∃ g, a' = a.put o.dst (f g) ∧ w.heap.size ≤ g ∧ Ext w w'' ∧ Blk w'' g t cs) Q
  | .box _ t z _ => Oper.wp P o a w (fun a' w'' => ∃ g, a' = a.put o.dst (.pointer (some ⟨g, 0, none⟩)) ∧ w.heap.size ≤ g ∧ Ext w w'' ∧ Blk w'' g t z) Q
  | .fill b => match sp b with
    | .box _ t _ cs => Oper.wp P o a w (fun a' w'' => ∃ v, a' = a.put o.dst v ∧ OnlyAt (G b) w w'' ∧ Blk w'' (G b) t (cs val)) Q
    | _ => False
  | .any R => Oper.wp P o a w (fun a' w'' => ∃ v, a' = a.put o.dst v ∧ Ext w w'' ∧ R w.heap.size w''.heap.size v w'') Q
theorem Wd.Ok.mono {W : World} {sp : Wd} (hR : ∀ R, sp = .any R → Stays W R) {done done' : Nat → Bool} {val val' : Nat → Value} {v : Value} {w w' : World} {g h : Nat} (hk : sp.Ok done val v w g h) (hd : ∀ st t z cs, sp = .box st t z cs → done' st = done st ∧ (done st = true → cs val' = cs val))
    (hw : sp.mem = true → ∀ b, b < W.heap.size ∨ (g ≤ b ∧ b < h) → w'.heap[b]? = w.heap[b]?) (hs : w.heap.size ≤ w'.heap.size) : sp.Ok done' val' v w' g h := by
  cases sp with
  | val u => exact hk
  | mk f t cs => exact ⟨⟨hk.1.1, (hw rfl g (.inr ⟨Nat.le_refl _, by have := hk.2; omega⟩)).trans hk.1.2⟩, hk.2⟩
  | box st t z cs =>
    refine ⟨⟨hk.1.1, ?_⟩, hk.2⟩
    obtain ⟨h1, h2⟩ := hd st t z cs rfl
    rw [h1]
    have := hk.1.2
    have hb : Blk w' g t (if done st = true then cs val else z) := (hw rfl g (.inr ⟨Nat.le_refl _, by have := hk.2; omega⟩)).trans this
    by_cases e : done st = true
    · rw [if_pos e] at hb ⊢
      rw [h2 e]
      exact hb
    · rw [if_neg e] at hb ⊢
      exact hb
  | fill b => trivial
  | any R => exact hR R rfl g h v w w' hk (hw rfl) hs
/-- The same, and that what is done has all done that it waits for. -/
def JV (W : World) (ops : Array Oper) (sp : Nat → Wd) (done : Nat → Bool) (val : Nat → Value) (w : World) : Prop :=
 JW W ops.size sp done val w ∧ ∀ i o, ops[i]? = some o → done i = true → ∀ e ∈ o.after, Region.binds .any e = true → done e.on = true
theorem JV.start (W : World) (ops : Array Oper) (sp : Nat → Wd) (val : Nat → Value) : JV W ops sp (fun _ => false) val W.drew := ⟨JW.start _ _ _ _, fun _ _ _ h => Bool.noConfusion h⟩
/-- An operation that is not skipped: it bears no guard, or its guard's word is what it wants. -/
def GuardOk (ops : Array Oper) (sp : Nat → Wd) (n m : Nat) (o : Oper) : Prop :=
 o.guard = none ∨ ∃ j want oj d, o.guard = some (j, want) ∧ ops[j]? = some oj ∧ oj.dst = some d ∧ d < m ∧ j < n ∧ sp j = .val (.bool want) ∧ o.after.any (fun e => Region.binds .any e && e.on == j) = true
theorem GuardOk.wanted {ops : Array Oper} {sp : Nat → Wd} {n : Nat} {a0 : Act} {o : Oper} {done : Nat → Bool} {val : Nat → Value} {w : World} {G H : Nat → Nat} (hB : distB ops.toList = true) (h : GuardOk ops sp n a0.tmps.size o)
  (hdep : ∀ e ∈ o.after, Region.binds .any e = true → done e.on = true) (hok : ∀ j, j < n → done j = true → (sp j).Ok done val (val j) w (G j) (H j)) :
  Region.wanted o (yielded ops (putD done val ops.toList 0 a0).tmps) = true := by
 rcases h with h | ⟨j, want, oj, d, h1, h2, h3, h4, h5, h6, h7⟩
 ·exact wanted_none' h
 ·obtain ⟨e, he, heb⟩ := Array.any_eq_true'.1 h7
  obtain ⟨hb1, hb2⟩ := (Bool.and_eq_true _ _).mp heb
  have hj : done j = true := by
   have := hdep e he hb1
   rwa [show e.on = j by simpa using hb2] at this
  have hv := hok j h5 hj
  rw [h6] at hv
  replace hv : val j = .bool want := hv
  have hev := eval_putD (done := done) (val := val) ops.toList 0 j a0 oj d hB (by simpa using h2) h3 (by rw [Nat.zero_add]; exact hj) h4
  rw [Nat.zero_add, hv] at hev
  have hsz : d < (putD done val ops.toList 0 a0).tmps.size := by rw [putD_size]; exact h4
  have hy : yielded ops (putD done val ops.toList 0 a0).tmps j = some want := by
   generalize putD done val ops.toList 0 a0 = a at hev hsz ⊢
   have hg : a.tmps[d]? = some (.bool want) := by
    simp [Act.eval, hsz] at hev
    rw [Array.getElem?_eq_getElem hsz, hev]
   simp [yielded, h2, h3, hg]
  simp [Region.wanted, h1, hy]
/-- As JV, over the first n. -/
def JN (W : World) (n : Nat) (ops : Array Oper) (sp : Nat → Wd) (done : Nat → Bool) (val : Nat → Value) (w : World) : Prop :=
 JW W n sp done val w ∧ ∀ i o, ops[i]? = some o → done i = true → ∀ e ∈ o.after, Region.binds .any e = true → done e.on = true
theorem JN.start (W : World) (n : Nat) (ops : Array Oper) (sp : Nat → Wd) (val : Nat → Value) : JN W n ops sp (fun _ => false) val W.drew := ⟨JW.start _ _ _ _, fun _ _ _ h => Bool.noConfusion h⟩
end
section
open Go.RowKit
set_option linter.unusedVariables false
/-- The world but one block. -/
structure But (g : Nat) (w w' : World) : Prop where
  os : w'.os = w.os
  tape : w'.tape = w.tape
  output : w'.output = w.output
  size : w.heap.size ≤ w'.heap.size
  block : ∀ b, b < w.heap.size → b ≠ g → w'.heap[b]? = w.heap[b]?
theorem But.of {g : Nat} {w w' : World} (h : Ext w w') : But g w w' := ⟨h.os, h.tape, h.output, h.size, fun b hb _ => h.block b hb⟩
theorem But.refl (g : Nat) (w : World) : But g w w := .of (Ext.refl w)
theorem But.trans {g : Nat} {a b c : World} (h : But g a b) (k : But g b c) : But g a c :=
 ⟨k.os.trans h.os, k.tape.trans h.tape, k.output.trans h.output, Nat.le_trans h.size k.size, fun x hx hg => (k.block x (Nat.lt_of_lt_of_le hx h.size) hg).trans (h.block x hx hg)⟩
theorem But.blk {g h : Nat} {w w' : World} {t : TypeId} {cs : Array Value} (b : But g w w') (k : Blk w h t cs) (hg : h ≠ g) : Blk w' h t cs := (b.block h k.lt hg).trans k
theorem But.ext {g : Nat} {w0 w w' : World} (h : Ext w0 w) (b : But g w w') (hg : w0.heap.size ≤ g) : Ext w0 w' :=
 ⟨b.os.trans h.os, b.tape.trans h.tape, b.output.trans h.output, Nat.le_trans h.size b.size, fun x hx => (b.block x (Nat.lt_of_lt_of_le hx h.size) (by omega)).trans (h.block x hx)⟩
theorem But.set {g : Nat} {a w : World} (h : But g a w) (o : Nat) (u : Value) : But g a (w.setCell ⟨g, o, none⟩ u) :=
 ⟨h.os, h.tape, h.output, by simpa [World.setCell] using h.size, fun b hb hg => (Below.heap_setCell _ _ _ _ (show b ≠ g from hg)).trans (h.block b hb hg)⟩
theorem Blk.but {g h : Nat} {w w' : World} {t : TypeId} {cs : Array Value} (k : Blk w h t cs) (b : But g w w') (hg : h ≠ g) : Blk w' h t cs := b.blk k hg
theorem But.alloc {g : Nat} {a w : World} (h : But g a w) (o : Obj) : But g a (w.alloc o) := h.trans (But.of ((Ext.refl w).alloc o))
theorem But.far {g k : Nat} {a w : World} (h : But g a w) (hk : a.heap.size ≤ k) (o : Nat) (u : Value) : But g a (w.setCell ⟨k, o, none⟩ u) :=
 ⟨h.os, h.tape, h.output, by simpa [World.setCell] using h.size, fun b hb hg => (Below.heap_setCell _ _ _ _ (show b ≠ k by omega)).trans (h.block b hb hg)⟩
end
section
open Go.RowKit
set_option linter.unusedVariables false
def wrongR (c : Int) : List PanicEntry := [{ v := .iface 107 (.agg #[.int .i64 c]), recovered := true }]
set_option maxRecDepth 20000 in
set_option maxHeartbeats 2000000 in
theorem gcatch_panicking (c : Int) (q : Nat) (y : Value) (w : World) (hQ : Blk w q 23 #[y]) :
  CallsD Tryz.prog 63 #[.pointer (some ⟨q, 0, none⟩)] (.panicking (wrongP c)) w fun e u' w' =>
   e = .returned (.tuple #[]) ∧ u' = .panicking (wrongR c) ∧ But q w w' ∧ Blk w' q 23 #[.int .i64 c] := by
 have hta : ∀ W, (Instr.typeAssert (.iface 107 (.agg #[.int .i64 c])) 20 107 true).run Tryz.prog W = .ok (.tuple #[.agg #[.int .i64 c], .bool true]) W := fun W => by kernel_rfl
 refine callsD_of_wpS Tryz.func63 rfl fun c₀ cs hu => ?_
 unfold wrongP at hu
 have Q2 := hQ.alloc (Obj.cells #[.int .i64 c] 107)
 have hb := (But.refl q w).alloc (Obj.cells #[.int .i64 c] 107)
 have C2 : (w.alloc (Obj.cells #[.int .i64 c] 107)).cell? ⟨w.heap.size, 0, none⟩ = some (.int .i64 c) := (Blk.new w 107 #[.int .i64 c]).cell 0
 generalize hW : w.alloc (Obj.cells #[.int .i64 c] 107) = W2 at Q2 hb C2 ⊢
 have c2 : W2.cell? ⟨q, 0, none⟩ = some y := Q2.cell 0
 have f1 := fun i => Q2.frozen i
 have Q3 : Blk (W2.setCell ⟨q, 0, none⟩ (.int .i64 c)) q 23 #[.int .i64 c] := Q2.set_ 0 (.int .i64 c)
 have hb3 := hb.set 0 (.int .i64 c)
 clear hQ hb Q2
 replace Q3 := hide Q3
 replace hb3 := hide hb3
 simp only [Tryz.ntmps63, List.size_toArray, List.length_cons, List.length_nil, Nat.reduceAdd, Nat.reduceSub, Array.replicate_succ, Array.replicate_zero, List.push_toArray, List.append_toArray, List.nil_append, List.cons_append]
 apply wpS_seq
 apply wpS_region
 simp [wpOpsS, go_sem, recoverD, hu, Exit.thenS]
 refine wpS_of_wp ?_
 go_wp2
 simp [bodyPostS, results, Tryz.results63, wrongR]
 exact ⟨hb3.out, Q3.out⟩
theorem gcatch_idle (q : Nat) (w : World) :
  CallsD Tryz.prog 63 #[.pointer (some ⟨q, 0, none⟩)] .returning w fun e u' w' => e = .returned (.tuple #[]) ∧ u' = .returning ∧ w' = w := by
 refine callsD_of_wpS Tryz.func63 rfl fun c₀ cs hu => ?_
 simp only [Tryz.ntmps63, List.size_toArray, List.length_cons, List.length_nil, Nat.reduceAdd, Nat.reduceSub, Array.replicate_succ, Array.replicate_zero, List.push_toArray, List.append_toArray, List.nil_append, List.cons_append]
 apply wpS_seq
 apply wpS_region
 simp [wpOpsS, go_sem, recoverD, hu, Exit.thenS]
 refine wpS_of_wp ?_
 go_wp2
 cases c₀
 simp_all [bodyPostS, results, Tryz.results63]
set_option maxRecDepth 20000 in
set_option maxHeartbeats 2000000 in
theorem guard_dies {Post : Ending → World → Prop} {a : Act} {W : World} {pe : Nat} {c : Int}
  (hd : a.defers = [{ target := .fn (.func 63) #[.pointer (some ⟨pe, 0, none⟩)], args := #[] }])
  (h2 : a.tmps[2]? = some (.pointer (some ⟨pe, 0, none⟩))) (Q : Blk W pe 23 #[.int .i64 0])
  (hp : ∀ W', But pe W W' → Post (.returned (.int .i64 c)) W') :
  bodyPostD Tryz.prog Tryz.f32 Post (.panic (wrongP c)) a W := by
 show Leaves Tryz.prog Tryz.f32 a.tmps Post a.defers (.panicking (wrongP c)) W
 rw [hd]
 refine leaves_cons (f := 63) (args := #[.pointer (some ⟨pe, 0, none⟩)]) (by simp) (by simp [go_sem]) ?_
 refine (gcatch_panicking c pe _ W Q).mono ?_
 rintro e u' w'' ⟨rfl, rfl, hb, hq⟩
 have y2 : w''.cell? ⟨pe, 0, none⟩ = some (.int .i64 c) := hq.cell 0
 have hq := hp w'' hb
 simp [Leaves, settle, wrongR, results, Tryz.results32, go_sem, h2, y2, hq]
set_option maxRecDepth 20000 in
theorem guard_returns {Post : Ending → World → Prop} {a : Act} {W : World} {pe : Nat} {c : Int}
  (hd : a.defers = [{ target := .fn (.func 63) #[.pointer (some ⟨pe, 0, none⟩)], args := #[] }])
  (h2 : a.tmps[2]? = some (.pointer (some ⟨pe, 0, none⟩))) (y : W.cell? ⟨pe, 0, none⟩ = some (.int .i64 c)) (hp : Post (.returned (.int .i64 c)) W) :
  bodyPostD Tryz.prog Tryz.f32 Post .ret a W := by
 show Leaves Tryz.prog Tryz.f32 a.tmps Post a.defers .returning W
 rw [hd]
 refine leaves_cons (f := 63) (args := #[.pointer (some ⟨pe, 0, none⟩)]) (by simp) (by simp [go_sem]) ?_
 refine (gcatch_idle pe W).mono ?_
 rintro e u' w'' ⟨rfl, rfl, rfl⟩
 simp [Leaves, settle, results, Tryz.results32, go_sem, h2, y, hp]
set_option maxRecDepth 20000 in
/-- What is done, called: it returns, or gives up. -/
theorem Guard_any (g : Nat) (lb : Array Value) (eg : ∀ args w, (callFunc g args).run Tryz.prog w = .ok (.enter g args) w) (w : World) (Q : World → Prop) (R : Int → World → Prop)
  (hc : Calls Tryz.prog g lb (w.alloc (Obj.cells #[.int .i64 0] 23)) fun e W => (e = .returned (.tuple #[]) ∧ Q W) ∨ ∃ c, e = .panicked (wrongP c) ∧ R c W)
  (hQ : ∀ W, Q W → Blk W w.heap.size 23 #[.int .i64 0]) (hR : ∀ c W, R c W → Blk W w.heap.size 23 #[.int .i64 0])
  (Post : Ending → World → Prop) (h0 : ∀ W W', Q W → But w.heap.size W W' → Post (.returned (.int .i64 0)) W') (h1 : ∀ c W W', R c W → But w.heap.size W W' → Post (.returned (.int .i64 c)) W') :
  Calls Tryz.prog 32 #[.func (.func g) #[] lb] w Post := by
 have hmf : ∀ (fn : Fn) (first cap : Array Value) (w : World), (Instr.makeFunc fn first cap).run Tryz.prog w = .ok (.func fn first cap) w := fun _ _ _ _ => rfl
 replace hc := hide hc
 replace hQ := hide hQ
 replace hR := hide hR
 replace h0 := hide h0
 replace h1 := hide h1
 go_enter_defers Tryz.func32, Tryz.ntmps32
 go_wp2_with fail
 refine hc.out.mono ?_
 rintro e W (⟨rfl, hq⟩ | ⟨c, rfl, hr⟩)
 ·have B := hQ.out W hq
  have h9 := fun W' hb => h0.out W W' hq hb
  have B0 := hide (B.set_ 0 (.int .i64 0))
  have B1 := hide ((But.refl w.heap.size W).set 0 (.int .i64 0))
  have c0 : W.cell? ⟨w.heap.size, 0, none⟩ = some (.int .i64 0) := B.cell 0
  have f0 := fun i => B.frozen i
  clear hc hQ hR h0 h1 hq B
  generalize w.heap.size = pe at *
  replace h9 := hide h9
  go_wp2_with fail
  exact guard_returns (c := 0) rfl rfl (B0.out.cell 0) (h9.out _ B1.out)
 ·exact guard_dies (c := c) rfl rfl (hR.out c W hr) fun W' hb => h1.out c W W' hr hb
end
section
open Go.RowKit Go.Sort
set_option linter.unusedVariables false
/-- What reading a prefix answers. -/
def PsP (s : List UInt8) (w : World) (e : Ending) (w' : World) : Prop := e = .returned (.tuple #[valP (parseC s).1, .int .i64 (parseC s).2]) ∧ Ext w w'
theorem PsP.of {s : List UInt8} {p : Pfx} {c : Int} {w : World} (h : parseC s = (p, c)) (W : World) (hE : Ext w W) : PsP s w (.returned (.tuple #[valP p, .int .i64 c])) W := ⟨by rw [h], hE⟩
end
end Go.Proofs.YtkinghadgmbhbaaGreatDoor
