/- Chapter 35, walks: an event by small numbers (the law's of). Printed by genof.py. -/
import Derived.WalkKit
import Derived.Below
import Derived.Outline
import Derived.LoopTactic
import Derived.Laws.OwnMore
import Derived.Deep.AppendLies
import Derived.Deep.Draws
import Derived.Lib.Hide
import Derived.BigQuiet
import Derived.Deep.QuietTactic
import Derived.WalkSpells
import Derived.WalkLawsBesides
import Derived.Deep.RegionHeld3
import Derived.Deep.DrawnRows
import Derived.Deep.RegionLaw
import Derived.Test.YtkinghadgmbhbaaGreatDoorProg
import Derived.Test.YtkinghadgmbhbaaGreatDoorShelf
import Derived.Lib.ConvBytes
import Derived.Lib.Bytealg
import Derived.Lib.Small
import Derived.Lib.SplitLaws
import Derived.Lib.ParseIntB
import Derived.Lib.ParseIntBCases
import Derived.Lib.ItoaNum
import Derived.Lib.Join
import Derived.Test.YtkinghadgmbhbaaGreatDoorShelf2
import Derived.Lib.UnsafeStr
import Derived.Shelf.RegionOpenPlain
import Derived.Laws.StructEq
import Derived.Lib.QuietBelow
import Derived.Test.YtkinghadgmbhbaaGreatDoorRows
import Derived.ProofKit
import Derived.Deep.Slices
import Derived.Shelf.GgClosure.StringsRunes
import Derived.Lib.ItoaMem
import Derived.Lib.ItoaLen
import Derived.Shelf.Strings.Builder1
import Derived.Orders
import Derived.StillTail
import Derived.Defers
import Derived.Recover
import Derived.Laws.EntriesVeiled
import Derived.Deep.DeepCutAuto
import Derived.Test.YtkinghadgmbhbaaGreatDoorPC01
import Derived.Test.YtkinghadgmbhbaaGreatDoorPC02
import Derived.Test.YtkinghadgmbhbaaGreatDoorPC03
import Derived.Test.YtkinghadgmbhbaaGreatDoorPC04
namespace Go.Proofs.YtkinghadgmbhbaaGreatDoor
section
open Go.RowKit
set_option linter.unusedVariables false
set_option linter.unusedSimpArgs false
/-- An event by small numbers. -/
structure DoS where
  kind : UInt8
  conn : UInt8
  peer : UInt8
  ticks : Nat
  draw : UInt32
  bytes : List UInt8
  b : Nat → UInt8
  six : Bool
def DoS.bs (d : DoS) : List UInt8 := [d.b 0, d.b 1, d.b 2, d.b 3, d.b 4, d.b 5, d.b 6, d.b 7, d.b 8, d.b 9, d.b 10, d.b 11, d.b 12, d.b 13, d.b 14, d.b 15]
def doCs (d : DoS) : List Value := [.int .u8 (d.kind.toNat : Int), .int .u8 (d.conn.toNat : Int), .int .u8 (d.peer.toNat : Int), .int .u16 (d.ticks : Int), .int .u32 (d.draw.toNat : Int), .string ⟨d.bytes.toArray⟩, .int .u8 ((d.b 0).toNat : Int), .int .u8 ((d.b 1).toNat : Int), .int .u8 ((d.b 2).toNat : Int), .int .u8 ((d.b 3).toNat : Int), .int .u8 ((d.b 4).toNat : Int), .int .u8 ((d.b 5).toNat : Int), .int .u8 ((d.b 6).toNat : Int), .int .u8 ((d.b 7).toNat : Int), .int .u8 ((d.b 8).toNat : Int), .int .u8 ((d.b 9).toNat : Int), .int .u8 ((d.b 10).toNat : Int), .int .u8 ((d.b 11).toNat : Int), .int .u8 ((d.b 12).toNat : Int), .int .u8 ((d.b 13).toNat : Int), .int .u8 ((d.b 14).toNat : Int), .int .u8 ((d.b 15).toNat : Int), .bool d.six]
def conS (d : DoS) : Nat := d.conn.toNat % 64 + 1
def perS (d : DoS) : List UInt8 := [112, UInt8.ofNat (97 + d.peer.toNat % 26)]
/-- The event. -/
def ofS (d : DoS) : EvS :=
 match d.kind.toNat % 10 with
 | 0 => ⟨1, (conS d : Int), if d.six = true then d.bs else d.bs.take 4, [], [], 0, 0⟩
 | 1 => ⟨2, (conS d : Int), [], perS d, [], 0, 0⟩
 | 2 => ⟨3, 0, [], perS d, [], 0, 0⟩
 | 3 => ⟨4, (conS d : Int), [], [], d.bytes.take 40, 0, 0⟩
 | 4 => ⟨5, (conS d : Int), [], [], [], 0, 0⟩
 | 5 => ⟨6, 0, [], [], [], ((d.ticks % 4096 + 1 : Nat) : Int), 0⟩
 | 6 => ⟨7, 0, [], [], d.bytes.take 40, 0, 0⟩
 | 7 => ⟨8, 0, [], [], d.bytes.take 40, 0, 0⟩
 | 8 => ⟨9, 0, [], [], [], 0, d.draw⟩
 | _ => ⟨10, 0, [], [], [], 0, 0⟩
theorem perS_ok (d : DoS) : nameOk (perS d) = true := by
 have h : ∀ n : Fin 26, nameOk [112, UInt8.ofNat (97 + n.val)] = true := by decide +kernel
 exact h ⟨d.peer.toNat % 26, Nat.mod_lt _ (by decide)⟩
theorem ofS_ok (d : DoS) : evOk (ofS d) = true := by
 have hp := perS_ok d
 have hc : (1 : Int) ≤ (conS d : Int) ∧ (conS d : Int) ≤ 64 := by unfold conS; omega
 have hb : (d.bytes.take 40).length ≤ 40 := by rw [List.length_take]; omega
 have ht : (1 : Int) ≤ ((d.ticks % 4096 + 1 : Nat) : Int) ∧ ((d.ticks % 4096 + 1 : Nat) : Int) ≤ 4096 := by omega
 have ha : (if d.six = true then d.bs else d.bs.take 4).length = 4 ∨ (if d.six = true then d.bs else d.bs.take 4).length = 16 := by
  cases d.six
  ·exact .inl rfl
  ·exact .inr rfl
 have hb1 : (d.bytes.take 40).length ≤ 16384 := by omega
 have hb2 : (d.bytes.take 40).length ≤ 65536 := by omega
 unfold ofS
 generalize (if d.six = true then d.bs else d.bs.take 4) = ad at *
 generalize d.bytes.take 40 = by_ at *
 generalize ((d.ticks % 4096 + 1 : Nat) : Int) = tk at *
 generalize (conS d : Int) = cn at *
 generalize perS d = pr at *
 split <;> simp [evOk, connOk, hp, hc, hb1, hb2, ht, ha]
set_option maxRecDepth 20000 in
set_option maxHeartbeats 4000000 in
theorem Of35_0 (d : DoS) (hk : d.kind.toNat % 10 = 0) (w : World) : Calls Tryz.prog 12 #[.agg #[.int .u8 (d.kind.toNat : Int), .int .u8 (d.conn.toNat : Int), .int .u8 (d.peer.toNat : Int), .int .u16 (d.ticks : Int), .int .u32 (d.draw.toNat : Int), .string ⟨d.bytes.toArray⟩, .int .u8 ((d.b 0).toNat : Int), .int .u8 ((d.b 1).toNat : Int), .int .u8 ((d.b 2).toNat : Int), .int .u8 ((d.b 3).toNat : Int), .int .u8 ((d.b 4).toNat : Int), .int .u8 ((d.b 5).toNat : Int), .int .u8 ((d.b 6).toNat : Int), .int .u8 ((d.b 7).toNat : Int), .int .u8 ((d.b 8).toNat : Int), .int .u8 ((d.b 9).toNat : Int), .int .u8 ((d.b 10).toNat : Int), .int .u8 ((d.b 11).toNat : Int), .int .u8 ((d.b 12).toNat : Int), .int .u8 ((d.b 13).toNat : Int), .int .u8 ((d.b 14).toNat : Int), .int .u8 ((d.b 15).toNat : Int), .bool d.six]] w fun e w' => e = .returned (.agg (evCs (ofS d)).toArray) ∧ Ext w w' := by
  have tK : Int.tmod (d.kind.toNat : Int) 10 = 0 := by rw [Int.tmod_eq_emod_of_nonneg (by omega)]; omega
  have tC : Int.tmod (d.conn.toNat : Int) 64 = ((d.conn.toNat % 64 : Nat) : Int) := by rw [Int.tmod_eq_emod_of_nonneg (by omega)]; omega
  have tP : Int.tmod (d.peer.toNat : Int) 26 = ((d.peer.toNat % 26 : Nat) : Int) := by rw [Int.tmod_eq_emod_of_nonneg (by omega)]; omega
  have hof : ofS d = ⟨1, (conS d : Int), if d.six = true then d.bs else d.bs.take 4, [], [], 0, 0⟩ := by simp only [ofS, hk]
  have hcn : d.conn.toNat % 64 < 64 := Nat.mod_lt _ (by decide)
  have hpn : d.peer.toNat % 26 < 26 := Nat.mod_lt _ (by decide)
  obtain ⟨c2, hc2⟩ : ∃ c, conS d = c := ⟨_, rfl⟩
  have hc3 : (1 : Int) + ((d.conn.toNat % 64 : Nat) : Int) = (c2 : Int) := by rw [← hc2]; unfold conS; omega
  obtain ⟨x, hx⟩ : ∃ x : UInt8, UInt8.ofNat (97 + d.peer.toNat % 26) = x := ⟨_, rfl⟩
  have hx3 : (97 : Int) + ((d.peer.toNat % 26 : Nat) : Int) = (x.toNat : Int) := by
    rw [← hx, UInt8.toNat_ofNat']; omega
  have hper : perS d = [112, x] := by unfold perS; rw [hx]
  generalize d.conn.toNat % 64 = cn at *
  generalize d.peer.toNat % 26 = pn at *
  have hw1 : IntKind.i64.wrap ((1 : Int) + (cn : Int)) = (c2 : Int) := by rw [hc3, IntKind.wrap_i64]; omega
  have hw2 : IntKind.u8.wrap ((97 : Int) + (pn : Int)) = (x.toNat : Int) := by rw [hx3, IntKind.wrap_u8]; have := x.toNat_lt; omega
  have A := Blk.new w 36 #[.int .u8 (d.kind.toNat : Int), .int .u8 (d.conn.toNat : Int), .int .u8 (d.peer.toNat : Int), .int .u16 (d.ticks : Int), .int .u32 (d.draw.toNat : Int), .string ⟨d.bytes.toArray⟩, .int .u8 ((d.b 0).toNat : Int), .int .u8 ((d.b 1).toNat : Int), .int .u8 ((d.b 2).toNat : Int), .int .u8 ((d.b 3).toNat : Int), .int .u8 ((d.b 4).toNat : Int), .int .u8 ((d.b 5).toNat : Int), .int .u8 ((d.b 6).toNat : Int), .int .u8 ((d.b 7).toNat : Int), .int .u8 ((d.b 8).toNat : Int), .int .u8 ((d.b 9).toNat : Int), .int .u8 ((d.b 10).toNat : Int), .int .u8 ((d.b 11).toNat : Int), .int .u8 ((d.b 12).toNat : Int), .int .u8 ((d.b 13).toNat : Int), .int .u8 ((d.b 14).toNat : Int), .int .u8 ((d.b 15).toNat : Int), .bool d.six]
  have E := (Ext.refl w).alloc (Obj.cells #[.int .u8 (d.kind.toNat : Int), .int .u8 (d.conn.toNat : Int), .int .u8 (d.peer.toNat : Int), .int .u16 (d.ticks : Int), .int .u32 (d.draw.toNat : Int), .string ⟨d.bytes.toArray⟩, .int .u8 ((d.b 0).toNat : Int), .int .u8 ((d.b 1).toNat : Int), .int .u8 ((d.b 2).toNat : Int), .int .u8 ((d.b 3).toNat : Int), .int .u8 ((d.b 4).toNat : Int), .int .u8 ((d.b 5).toNat : Int), .int .u8 ((d.b 6).toNat : Int), .int .u8 ((d.b 7).toNat : Int), .int .u8 ((d.b 8).toNat : Int), .int .u8 ((d.b 9).toNat : Int), .int .u8 ((d.b 10).toNat : Int), .int .u8 ((d.b 11).toNat : Int), .int .u8 ((d.b 12).toNat : Int), .int .u8 ((d.b 13).toNat : Int), .int .u8 ((d.b 14).toNat : Int), .int .u8 ((d.b 15).toNat : Int), .bool d.six] 36)
  have hz : (w.alloc (Obj.cells #[.int .u8 (d.kind.toNat : Int), .int .u8 (d.conn.toNat : Int), .int .u8 (d.peer.toNat : Int), .int .u16 (d.ticks : Int), .int .u32 (d.draw.toNat : Int), .string ⟨d.bytes.toArray⟩, .int .u8 ((d.b 0).toNat : Int), .int .u8 ((d.b 1).toNat : Int), .int .u8 ((d.b 2).toNat : Int), .int .u8 ((d.b 3).toNat : Int), .int .u8 ((d.b 4).toNat : Int), .int .u8 ((d.b 5).toNat : Int), .int .u8 ((d.b 6).toNat : Int), .int .u8 ((d.b 7).toNat : Int), .int .u8 ((d.b 8).toNat : Int), .int .u8 ((d.b 9).toNat : Int), .int .u8 ((d.b 10).toNat : Int), .int .u8 ((d.b 11).toNat : Int), .int .u8 ((d.b 12).toNat : Int), .int .u8 ((d.b 13).toNat : Int), .int .u8 ((d.b 14).toNat : Int), .int .u8 ((d.b 15).toNat : Int), .bool d.six] 36)).heap.size = w.heap.size + 1 := by simp
  generalize hV1 : w.alloc (Obj.cells #[.int .u8 (d.kind.toNat : Int), .int .u8 (d.conn.toNat : Int), .int .u8 (d.peer.toNat : Int), .int .u16 (d.ticks : Int), .int .u32 (d.draw.toNat : Int), .string ⟨d.bytes.toArray⟩, .int .u8 ((d.b 0).toNat : Int), .int .u8 ((d.b 1).toNat : Int), .int .u8 ((d.b 2).toNat : Int), .int .u8 ((d.b 3).toNat : Int), .int .u8 ((d.b 4).toNat : Int), .int .u8 ((d.b 5).toNat : Int), .int .u8 ((d.b 6).toNat : Int), .int .u8 ((d.b 7).toNat : Int), .int .u8 ((d.b 8).toNat : Int), .int .u8 ((d.b 9).toNat : Int), .int .u8 ((d.b 10).toNat : Int), .int .u8 ((d.b 11).toNat : Int), .int .u8 ((d.b 12).toNat : Int), .int .u8 ((d.b 13).toNat : Int), .int .u8 ((d.b 14).toNat : Int), .int .u8 ((d.b 15).toNat : Int), .bool d.six] 36) = V1 at A E hz
  have R := Blk.new V1 31 #[.int .i64 0, .int .i64 0, .string ⟨#[]⟩, .string ⟨#[]⟩, .string ⟨#[]⟩, .int .i64 0, .int .u32 0]
  replace E := E.alloc (Obj.cells #[.int .i64 0, .int .i64 0, .string ⟨#[]⟩, .string ⟨#[]⟩, .string ⟨#[]⟩, .int .i64 0, .int .u32 0] 31)
  replace A := A.alloc (Obj.cells #[.int .i64 0, .int .i64 0, .string ⟨#[]⟩, .string ⟨#[]⟩, .string ⟨#[]⟩, .int .i64 0, .int .u32 0] 31)
  have hz2 : (V1.alloc (Obj.cells #[.int .i64 0, .int .i64 0, .string ⟨#[]⟩, .string ⟨#[]⟩, .string ⟨#[]⟩, .int .i64 0, .int .u32 0] 31)).heap.size = w.heap.size + 2 := by simp [hz]
  rw [hz] at R
  generalize hV2 : V1.alloc (Obj.cells #[.int .i64 0, .int .i64 0, .string ⟨#[]⟩, .string ⟨#[]⟩, .string ⟨#[]⟩, .int .i64 0, .int .u32 0] 31) = V2 at A E R hz2
  have a0' := A.cell 0
  have B := Blk.new V2 31 #[.int .i64 1, .int .i64 0, .string ⟨#[]⟩, .string ⟨#[]⟩, .string ⟨#[]⟩, .int .i64 0, .int .u32 0]
  replace E := E.alloc (Obj.cells #[.int .i64 1, .int .i64 0, .string ⟨#[]⟩, .string ⟨#[]⟩, .string ⟨#[]⟩, .int .i64 0, .int .u32 0] 31)
  replace A := A.alloc (Obj.cells #[.int .i64 1, .int .i64 0, .string ⟨#[]⟩, .string ⟨#[]⟩, .string ⟨#[]⟩, .int .i64 0, .int .u32 0] 31)
  replace R := R.alloc (Obj.cells #[.int .i64 1, .int .i64 0, .string ⟨#[]⟩, .string ⟨#[]⟩, .string ⟨#[]⟩, .int .i64 0, .int .u32 0] 31)
  rw [hz2] at B
  generalize hV3 : V2.alloc (Obj.cells #[.int .i64 1, .int .i64 0, .string ⟨#[]⟩, .string ⟨#[]⟩, .string ⟨#[]⟩, .int .i64 0, .int .u32 0] 31) = V3 at A E R B
  obtain ⟨p, hp⟩ : ∃ p, w.heap.size = p := ⟨_, rfl⟩
  rw [hp] at A R B hz hz2 a0'
  replace a0' : V2.cell? ⟨p, 0, none⟩ = some (.int .u8 (d.kind.toNat : Int)) := a0'
  have hwp : w.heap.size ≤ p := by omega
  clear hc3 hx3 hx hk
  replace hV1 := hide hV1
  replace hV2 := hide hV2
  replace hV3 := hide hV3
  replace hp := hide hp
  replace A := hide A
  replace E := hide E
  replace R := hide R
  replace B := hide B
  replace hz := hide hz
  replace hz2 := hide hz2
  replace hwp := hide hwp
  replace hof := hide hof
  replace hper := hide hper
  replace hc2 := hide hc2
  go_enter Tryz.func12, Tryz.ntmps12
  go_upto_region 1 with fail
  try rw [hV1.out]
  try rw [hV2.out]
  try simp only [hp.out]
  try simp only [hz.out]
  clear hV1 hV2 hp
  go_upto_region 2 with fail
  try rw [hV3.out]
  try simp only [hz2.out]
  clear hV3 hz hz2 a0'
  have a1 : V3.cell? ⟨p, 1, none⟩ = some (.int .u8 (d.conn.toNat : Int)) := A.out.cell 1
  have a2 : V3.cell? ⟨p, 2, none⟩ = some (.int .u8 (d.peer.toNat : Int)) := A.out.cell 2
  have X := Blk.new V3 5 #[.int .u8 (x.toNat : Int)]
  have A4 := A.out.alloc (Obj.cells #[.int .u8 (x.toNat : Int)] 5)
  have R4 := R.out.alloc (Obj.cells #[.int .u8 (x.toNat : Int)] 5)
  have B4 := B.out.alloc (Obj.cells #[.int .u8 (x.toNat : Int)] 5)
  have E4 := E.out.alloc (Obj.cells #[.int .u8 (x.toNat : Int)] 5)
  have hcv : (convert 65 9 (.slice (some ⟨V3.heap.size, 0, none⟩) 1 1)).run Tryz.prog (V3.alloc (Obj.cells #[.int .u8 (x.toNat : Int)] 5)) = .ok (.string ⟨#[x]⟩) (V3.alloc (Obj.cells #[.int .u8 (x.toNat : Int)] 5)) :=
    run_convert_bytes_back _ 65 9 5 ⟨V3.heap.size, 0, none⟩ 1 [x] Tryz.underlying65 Tryz.underlying5 Tryz.underlying9 fun j hj => byte_new V3 x 5 j hj
  have happ : (ByteArray.mk #[112]) ++ ⟨#[x]⟩ = (⟨#[112, x]⟩ : ByteArray) := by apply ByteArray.ext; simp
  clear X
  replace A4 := hide A4
  replace R4 := hide R4
  replace B4 := hide B4
  replace E4 := hide E4
  go_upto_region 4 with fail
  clear a1 a2 hcv A R B E
  generalize V3.alloc (Obj.cells #[.int .u8 (x.toNat : Int)] 5) = V4 at A4 R4 B4 E4 ⊢
  clear tK tC tP hw1 hw2 happ
  have b0 : V4.cell? ⟨p + 2, 0, none⟩ = some (.int .i64 1) := B4.out.cell 0
  have b1 : V4.cell? ⟨p + 2, 1, none⟩ = some (.int .i64 0) := B4.out.cell 1
  have b2 : V4.cell? ⟨p + 2, 2, none⟩ = some (.string ⟨#[]⟩) := B4.out.cell 2
  have b3 : V4.cell? ⟨p + 2, 3, none⟩ = some (.string ⟨#[]⟩) := B4.out.cell 3
  have b4 : V4.cell? ⟨p + 2, 4, none⟩ = some (.string ⟨#[]⟩) := B4.out.cell 4
  have b5 : V4.cell? ⟨p + 2, 5, none⟩ = some (.int .i64 0) := B4.out.cell 5
  have b6 : V4.cell? ⟨p + 2, 6, none⟩ = some (.int .u32 0) := B4.out.cell 6
  have bf := fun i => B4.out.frozen i
  have cv := fun (V : World) (hA : Blk V p 36 #[.int .u8 (d.kind.toNat : Int), .int .u8 (d.conn.toNat : Int), .int .u8 (d.peer.toNat : Int), .int .u16 (d.ticks : Int), .int .u32 (d.draw.toNat : Int), .string ⟨d.bytes.toArray⟩, .int .u8 ((d.b 0).toNat : Int), .int .u8 ((d.b 1).toNat : Int), .int .u8 ((d.b 2).toNat : Int), .int .u8 ((d.b 3).toNat : Int), .int .u8 ((d.b 4).toNat : Int), .int .u8 ((d.b 5).toNat : Int), .int .u8 ((d.b 6).toNat : Int), .int .u8 ((d.b 7).toNat : Int), .int .u8 ((d.b 8).toNat : Int), .int .u8 ((d.b 9).toNat : Int), .int .u8 ((d.b 10).toNat : Int), .int .u8 ((d.b 11).toNat : Int), .int .u8 ((d.b 12).toNat : Int), .int .u8 ((d.b 13).toNat : Int), .int .u8 ((d.b 14).toNat : Int), .int .u8 ((d.b 15).toNat : Int), .bool d.six]) => run_convert_bytes_back V 65 9 5 ⟨p, 6, none⟩ 16 (d.bs.take 4) Tryz.underlying65 Tryz.underlying5 Tryz.underlying9 (fun j hj => by
    have hj4 : j < 4 := by simpa [DoS.bs] using hj
    match j, hj4 with
    | 0, _ => exact hA.cell 6
    | 1, _ => exact hA.cell 7
    | 2, _ => exact hA.cell 8
    | 3, _ => exact hA.cell 9
  )
  have cv16 := fun (V : World) (hA : Blk V p 36 #[.int .u8 (d.kind.toNat : Int), .int .u8 (d.conn.toNat : Int), .int .u8 (d.peer.toNat : Int), .int .u16 (d.ticks : Int), .int .u32 (d.draw.toNat : Int), .string ⟨d.bytes.toArray⟩, .int .u8 ((d.b 0).toNat : Int), .int .u8 ((d.b 1).toNat : Int), .int .u8 ((d.b 2).toNat : Int), .int .u8 ((d.b 3).toNat : Int), .int .u8 ((d.b 4).toNat : Int), .int .u8 ((d.b 5).toNat : Int), .int .u8 ((d.b 6).toNat : Int), .int .u8 ((d.b 7).toNat : Int), .int .u8 ((d.b 8).toNat : Int), .int .u8 ((d.b 9).toNat : Int), .int .u8 ((d.b 10).toNat : Int), .int .u8 ((d.b 11).toNat : Int), .int .u8 ((d.b 12).toNat : Int), .int .u8 ((d.b 13).toNat : Int), .int .u8 ((d.b 14).toNat : Int), .int .u8 ((d.b 15).toNat : Int), .bool d.six]) => run_convert_bytes_back V 65 9 5 ⟨p, 6, none⟩ 16 d.bs Tryz.underlying65 Tryz.underlying5 Tryz.underlying9 (fun j hj => by
    have hj4 : j < 16 := by simpa [DoS.bs] using hj
    match j, hj4 with
    | 0, _ => exact hA.cell 6
    | 1, _ => exact hA.cell 7
    | 2, _ => exact hA.cell 8
    | 3, _ => exact hA.cell 9
    | 4, _ => exact hA.cell 10
    | 5, _ => exact hA.cell 11
    | 6, _ => exact hA.cell 12
    | 7, _ => exact hA.cell 13
    | 8, _ => exact hA.cell 14
    | 9, _ => exact hA.cell 15
    | 10, _ => exact hA.cell 16
    | 11, _ => exact hA.cell 17
    | 12, _ => exact hA.cell 18
    | 13, _ => exact hA.cell 19
    | 14, _ => exact hA.cell 20
    | 15, _ => exact hA.cell 21
    | n + 16, h => omega
  )
  have a22 : V4.cell? ⟨p, 22, none⟩ = some (.bool d.six) := A4.out.cell 22
  have A5 := A4.out.far (p := ⟨p + 2, 1, none⟩) (show p ≠ p + 2 by omega) (.int .i64 (c2 : Int))
  have A6 := A5.far (p := ⟨p + 2, 2, none⟩) (show p ≠ p + 2 by omega) (.string ⟨(d.bs.take 4).toArray⟩)
  replace cv := cv _ A5
  replace cv16 := cv16 _ A6
  have hl4 : (d.bs.take 4).length = 4 := rfl
  have hl16 : d.bs.length = 16 := rfl
  rw [hl4] at cv
  rw [hl16] at cv16
  clear A5 A6 hl4 hl16
  cases hsix : d.six with
  | false =>
    rw [hsix] at a22 hof
    have B5 : Blk ((V4.setCell ⟨p + 2, 1, none⟩ (.int .i64 (c2 : Int))).setCell ⟨p + 2, 2, none⟩ (.string ⟨(d.bs.take 4).toArray⟩)) (p + 2) 31 #[.int .i64 1, .int .i64 (c2 : Int), .string ⟨(d.bs.take 4).toArray⟩, .string ⟨#[]⟩, .string ⟨#[]⟩, .int .i64 0, .int .u32 0] := ((B4.out.set_ 1 (.int .i64 (c2 : Int))).set_ 2 (.string ⟨(d.bs.take 4).toArray⟩))
    have R5 : Blk ((V4.setCell ⟨p + 2, 1, none⟩ (.int .i64 (c2 : Int))).setCell ⟨p + 2, 2, none⟩ (.string ⟨(d.bs.take 4).toArray⟩)) (p + 1) 31 #[.int .i64 0, .int .i64 0, .string ⟨#[]⟩, .string ⟨#[]⟩, .string ⟨#[]⟩, .int .i64 0, .int .u32 0] := ((R4.out.far (p := ⟨p + 2, 1, none⟩) (show p + 1 ≠ p + 2 by omega) (.int .i64 (c2 : Int))).far (p := ⟨p + 2, 2, none⟩) (show p + 1 ≠ p + 2 by omega) (.string ⟨(d.bs.take 4).toArray⟩))
    have E5 : Ext w ((V4.setCell ⟨p + 2, 1, none⟩ (.int .i64 (c2 : Int))).setCell ⟨p + 2, 2, none⟩ (.string ⟨(d.bs.take 4).toArray⟩)) := ((E4.out.setCell (p := ⟨p + 2, 1, none⟩) (show w.heap.size ≤ p + 2 by have := hwp.out; omega) (.int .i64 (c2 : Int))).setCell (p := ⟨p + 2, 2, none⟩) (show w.heap.size ≤ p + 2 by have := hwp.out; omega) (.string ⟨(d.bs.take 4).toArray⟩))
    replace B5 := hide B5
    replace R5 := hide R5
    replace E5 := hide E5
    go_upto_region 27 with fail
    generalize ((V4.setCell ⟨p + 2, 1, none⟩ (.int .i64 (c2 : Int))).setCell ⟨p + 2, 2, none⟩ (.string ⟨(d.bs.take 4).toArray⟩)) = V5 at B5 R5 E5 ⊢
    clear b0 b1 b2 b3 b4 b5 b6 bf A4 R4 B4 E4
    have b0 : V5.cell? ⟨p + 2, 0, none⟩ = some (.int .i64 1) := B5.out.cell 0
    have b1 : V5.cell? ⟨p + 2, 1, none⟩ = some (.int .i64 (c2 : Int)) := B5.out.cell 1
    have b2 : V5.cell? ⟨p + 2, 2, none⟩ = some (.string ⟨(d.bs.take 4).toArray⟩) := B5.out.cell 2
    have b3 : V5.cell? ⟨p + 2, 3, none⟩ = some (.string ⟨#[]⟩) := B5.out.cell 3
    have b4 : V5.cell? ⟨p + 2, 4, none⟩ = some (.string ⟨#[]⟩) := B5.out.cell 4
    have b5 : V5.cell? ⟨p + 2, 5, none⟩ = some (.int .i64 0) := B5.out.cell 5
    have b6 : V5.cell? ⟨p + 2, 6, none⟩ = some (.int .u32 0) := B5.out.cell 6
    have r0 : V5.cell? ⟨p + 1, 0, none⟩ = some (.int .i64 0) := R5.out.cell 0
    have r1 : V5.cell? ⟨p + 1, 1, none⟩ = some (.int .i64 0) := R5.out.cell 1
    have r2 : V5.cell? ⟨p + 1, 2, none⟩ = some (.string ⟨#[]⟩) := R5.out.cell 2
    have r3 : V5.cell? ⟨p + 1, 3, none⟩ = some (.string ⟨#[]⟩) := R5.out.cell 3
    have r4 : V5.cell? ⟨p + 1, 4, none⟩ = some (.string ⟨#[]⟩) := R5.out.cell 4
    have r5 : V5.cell? ⟨p + 1, 5, none⟩ = some (.int .i64 0) := R5.out.cell 5
    have r6 : V5.cell? ⟨p + 1, 6, none⟩ = some (.int .u32 0) := R5.out.cell 6
    have rf := fun i => R5.out.frozen i
    have hE := E5.out.set7 (show w.heap.size ≤ p + 1 by have := hwp.out; omega) (.int .i64 1) (.int .i64 (c2 : Int)) (.string ⟨(d.bs.take 4).toArray⟩) (.string ⟨#[]⟩) (.string ⟨#[]⟩) (.int .i64 0) (.int .u32 0)
    have hRZ := R5.out.fill7 (.int .i64 1) (.int .i64 (c2 : Int)) (.string ⟨(d.bs.take 4).toArray⟩) (.string ⟨#[]⟩) (.string ⟨#[]⟩) (.int .i64 0) (.int .u32 0)
    have z0 := hRZ.cell 0
    have z1 := hRZ.cell 1
    have z2 := hRZ.cell 2
    have z3 := hRZ.cell 3
    have z4 := hRZ.cell 4
    have z5 := hRZ.cell 5
    have z6 := hRZ.cell 6
    simp at z0 z1 z2 z3 z4 z5 z6
    clear hRZ R5 B5 E5
    replace hE := hide hE
    go_wp2
    exact bodyPost_ret (v := .agg #[.int .i64 1, .int .i64 (c2 : Int), .string ⟨(d.bs.take 4).toArray⟩, .string ⟨#[]⟩, .string ⟨#[]⟩, .int .i64 0, .int .u32 0]) (by simp [results, Tryz.results12, go_sem, z0, z1, z2, z3, z4, z5, z6]) rfl ⟨by rw [hof.out, hc2.out]; rfl, hE.out⟩
  | true =>
    rw [hsix] at a22 hof
    have B5 : Blk (((V4.setCell ⟨p + 2, 1, none⟩ (.int .i64 (c2 : Int))).setCell ⟨p + 2, 2, none⟩ (.string ⟨(d.bs.take 4).toArray⟩)).setCell ⟨p + 2, 2, none⟩ (.string ⟨d.bs.toArray⟩)) (p + 2) 31 #[.int .i64 1, .int .i64 (c2 : Int), .string ⟨d.bs.toArray⟩, .string ⟨#[]⟩, .string ⟨#[]⟩, .int .i64 0, .int .u32 0] := (((B4.out.set_ 1 (.int .i64 (c2 : Int))).set_ 2 (.string ⟨(d.bs.take 4).toArray⟩)).set_ 2 (.string ⟨d.bs.toArray⟩))
    have R5 : Blk (((V4.setCell ⟨p + 2, 1, none⟩ (.int .i64 (c2 : Int))).setCell ⟨p + 2, 2, none⟩ (.string ⟨(d.bs.take 4).toArray⟩)).setCell ⟨p + 2, 2, none⟩ (.string ⟨d.bs.toArray⟩)) (p + 1) 31 #[.int .i64 0, .int .i64 0, .string ⟨#[]⟩, .string ⟨#[]⟩, .string ⟨#[]⟩, .int .i64 0, .int .u32 0] := (((R4.out.far (p := ⟨p + 2, 1, none⟩) (show p + 1 ≠ p + 2 by omega) (.int .i64 (c2 : Int))).far (p := ⟨p + 2, 2, none⟩) (show p + 1 ≠ p + 2 by omega) (.string ⟨(d.bs.take 4).toArray⟩)).far (p := ⟨p + 2, 2, none⟩) (show p + 1 ≠ p + 2 by omega) (.string ⟨d.bs.toArray⟩))
    have E5 : Ext w (((V4.setCell ⟨p + 2, 1, none⟩ (.int .i64 (c2 : Int))).setCell ⟨p + 2, 2, none⟩ (.string ⟨(d.bs.take 4).toArray⟩)).setCell ⟨p + 2, 2, none⟩ (.string ⟨d.bs.toArray⟩)) := (((E4.out.setCell (p := ⟨p + 2, 1, none⟩) (show w.heap.size ≤ p + 2 by have := hwp.out; omega) (.int .i64 (c2 : Int))).setCell (p := ⟨p + 2, 2, none⟩) (show w.heap.size ≤ p + 2 by have := hwp.out; omega) (.string ⟨(d.bs.take 4).toArray⟩)).setCell (p := ⟨p + 2, 2, none⟩) (show w.heap.size ≤ p + 2 by have := hwp.out; omega) (.string ⟨d.bs.toArray⟩))
    replace B5 := hide B5
    replace R5 := hide R5
    replace E5 := hide E5
    go_upto_region 27 with fail
    generalize (((V4.setCell ⟨p + 2, 1, none⟩ (.int .i64 (c2 : Int))).setCell ⟨p + 2, 2, none⟩ (.string ⟨(d.bs.take 4).toArray⟩)).setCell ⟨p + 2, 2, none⟩ (.string ⟨d.bs.toArray⟩)) = V5 at B5 R5 E5 ⊢
    clear b0 b1 b2 b3 b4 b5 b6 bf A4 R4 B4 E4
    have b0 : V5.cell? ⟨p + 2, 0, none⟩ = some (.int .i64 1) := B5.out.cell 0
    have b1 : V5.cell? ⟨p + 2, 1, none⟩ = some (.int .i64 (c2 : Int)) := B5.out.cell 1
    have b2 : V5.cell? ⟨p + 2, 2, none⟩ = some (.string ⟨d.bs.toArray⟩) := B5.out.cell 2
    have b3 : V5.cell? ⟨p + 2, 3, none⟩ = some (.string ⟨#[]⟩) := B5.out.cell 3
    have b4 : V5.cell? ⟨p + 2, 4, none⟩ = some (.string ⟨#[]⟩) := B5.out.cell 4
    have b5 : V5.cell? ⟨p + 2, 5, none⟩ = some (.int .i64 0) := B5.out.cell 5
    have b6 : V5.cell? ⟨p + 2, 6, none⟩ = some (.int .u32 0) := B5.out.cell 6
    have r0 : V5.cell? ⟨p + 1, 0, none⟩ = some (.int .i64 0) := R5.out.cell 0
    have r1 : V5.cell? ⟨p + 1, 1, none⟩ = some (.int .i64 0) := R5.out.cell 1
    have r2 : V5.cell? ⟨p + 1, 2, none⟩ = some (.string ⟨#[]⟩) := R5.out.cell 2
    have r3 : V5.cell? ⟨p + 1, 3, none⟩ = some (.string ⟨#[]⟩) := R5.out.cell 3
    have r4 : V5.cell? ⟨p + 1, 4, none⟩ = some (.string ⟨#[]⟩) := R5.out.cell 4
    have r5 : V5.cell? ⟨p + 1, 5, none⟩ = some (.int .i64 0) := R5.out.cell 5
    have r6 : V5.cell? ⟨p + 1, 6, none⟩ = some (.int .u32 0) := R5.out.cell 6
    have rf := fun i => R5.out.frozen i
    have hE := E5.out.set7 (show w.heap.size ≤ p + 1 by have := hwp.out; omega) (.int .i64 1) (.int .i64 (c2 : Int)) (.string ⟨d.bs.toArray⟩) (.string ⟨#[]⟩) (.string ⟨#[]⟩) (.int .i64 0) (.int .u32 0)
    have hRZ := R5.out.fill7 (.int .i64 1) (.int .i64 (c2 : Int)) (.string ⟨d.bs.toArray⟩) (.string ⟨#[]⟩) (.string ⟨#[]⟩) (.int .i64 0) (.int .u32 0)
    have z0 := hRZ.cell 0
    have z1 := hRZ.cell 1
    have z2 := hRZ.cell 2
    have z3 := hRZ.cell 3
    have z4 := hRZ.cell 4
    have z5 := hRZ.cell 5
    have z6 := hRZ.cell 6
    simp at z0 z1 z2 z3 z4 z5 z6
    clear hRZ R5 B5 E5
    replace hE := hide hE
    go_wp2
    exact bodyPost_ret (v := .agg #[.int .i64 1, .int .i64 (c2 : Int), .string ⟨d.bs.toArray⟩, .string ⟨#[]⟩, .string ⟨#[]⟩, .int .i64 0, .int .u32 0]) (by simp [results, Tryz.results12, go_sem, z0, z1, z2, z3, z4, z5, z6]) rfl ⟨by rw [hof.out, hc2.out]; rfl, hE.out⟩
set_option maxRecDepth 20000 in
set_option maxHeartbeats 4000000 in
theorem Of35_1 (d : DoS) (hk : d.kind.toNat % 10 = 1) (w : World) : Calls Tryz.prog 12 #[.agg #[.int .u8 (d.kind.toNat : Int), .int .u8 (d.conn.toNat : Int), .int .u8 (d.peer.toNat : Int), .int .u16 (d.ticks : Int), .int .u32 (d.draw.toNat : Int), .string ⟨d.bytes.toArray⟩, .int .u8 ((d.b 0).toNat : Int), .int .u8 ((d.b 1).toNat : Int), .int .u8 ((d.b 2).toNat : Int), .int .u8 ((d.b 3).toNat : Int), .int .u8 ((d.b 4).toNat : Int), .int .u8 ((d.b 5).toNat : Int), .int .u8 ((d.b 6).toNat : Int), .int .u8 ((d.b 7).toNat : Int), .int .u8 ((d.b 8).toNat : Int), .int .u8 ((d.b 9).toNat : Int), .int .u8 ((d.b 10).toNat : Int), .int .u8 ((d.b 11).toNat : Int), .int .u8 ((d.b 12).toNat : Int), .int .u8 ((d.b 13).toNat : Int), .int .u8 ((d.b 14).toNat : Int), .int .u8 ((d.b 15).toNat : Int), .bool d.six]] w fun e w' => e = .returned (.agg (evCs (ofS d)).toArray) ∧ Ext w w' := by
 have tK : Int.tmod (d.kind.toNat : Int) 10 = 1 := by rw [Int.tmod_eq_emod_of_nonneg (by omega)]; omega
 have tC : Int.tmod (d.conn.toNat : Int) 64 = ((d.conn.toNat % 64 : Nat) : Int) := by rw [Int.tmod_eq_emod_of_nonneg (by omega)]; omega
 have tP : Int.tmod (d.peer.toNat : Int) 26 = ((d.peer.toNat % 26 : Nat) : Int) := by rw [Int.tmod_eq_emod_of_nonneg (by omega)]; omega
 have hof : ofS d = ⟨2, (conS d : Int), [], perS d, [], 0, 0⟩ := by simp only [ofS, hk]
 have hcn : d.conn.toNat % 64 < 64 := Nat.mod_lt _ (by decide)
 have hpn : d.peer.toNat % 26 < 26 := Nat.mod_lt _ (by decide)
 obtain ⟨c2, hc2⟩ : ∃ c, conS d = c := ⟨_, rfl⟩
 have hc3 : (1 : Int) + ((d.conn.toNat % 64 : Nat) : Int) = (c2 : Int) := by rw [← hc2]; unfold conS; omega
 obtain ⟨x, hx⟩ : ∃ x : UInt8, UInt8.ofNat (97 + d.peer.toNat % 26) = x := ⟨_, rfl⟩
 have hx3 : (97 : Int) + ((d.peer.toNat % 26 : Nat) : Int) = (x.toNat : Int) := by
  rw [← hx, UInt8.toNat_ofNat']; omega
 have hper : perS d = [112, x] := by unfold perS; rw [hx]
 generalize d.conn.toNat % 64 = cn at *
 generalize d.peer.toNat % 26 = pn at *
 have hw1 : IntKind.i64.wrap ((1 : Int) + (cn : Int)) = (c2 : Int) := by rw [hc3, IntKind.wrap_i64]; omega
 have hw2 : IntKind.u8.wrap ((97 : Int) + (pn : Int)) = (x.toNat : Int) := by rw [hx3, IntKind.wrap_u8]; have := x.toNat_lt; omega
 have A := Blk.new w 36 #[.int .u8 (d.kind.toNat : Int), .int .u8 (d.conn.toNat : Int), .int .u8 (d.peer.toNat : Int), .int .u16 (d.ticks : Int), .int .u32 (d.draw.toNat : Int), .string ⟨d.bytes.toArray⟩, .int .u8 ((d.b 0).toNat : Int), .int .u8 ((d.b 1).toNat : Int), .int .u8 ((d.b 2).toNat : Int), .int .u8 ((d.b 3).toNat : Int), .int .u8 ((d.b 4).toNat : Int), .int .u8 ((d.b 5).toNat : Int), .int .u8 ((d.b 6).toNat : Int), .int .u8 ((d.b 7).toNat : Int), .int .u8 ((d.b 8).toNat : Int), .int .u8 ((d.b 9).toNat : Int), .int .u8 ((d.b 10).toNat : Int), .int .u8 ((d.b 11).toNat : Int), .int .u8 ((d.b 12).toNat : Int), .int .u8 ((d.b 13).toNat : Int), .int .u8 ((d.b 14).toNat : Int), .int .u8 ((d.b 15).toNat : Int), .bool d.six]
 have E := (Ext.refl w).alloc (Obj.cells #[.int .u8 (d.kind.toNat : Int), .int .u8 (d.conn.toNat : Int), .int .u8 (d.peer.toNat : Int), .int .u16 (d.ticks : Int), .int .u32 (d.draw.toNat : Int), .string ⟨d.bytes.toArray⟩, .int .u8 ((d.b 0).toNat : Int), .int .u8 ((d.b 1).toNat : Int), .int .u8 ((d.b 2).toNat : Int), .int .u8 ((d.b 3).toNat : Int), .int .u8 ((d.b 4).toNat : Int), .int .u8 ((d.b 5).toNat : Int), .int .u8 ((d.b 6).toNat : Int), .int .u8 ((d.b 7).toNat : Int), .int .u8 ((d.b 8).toNat : Int), .int .u8 ((d.b 9).toNat : Int), .int .u8 ((d.b 10).toNat : Int), .int .u8 ((d.b 11).toNat : Int), .int .u8 ((d.b 12).toNat : Int), .int .u8 ((d.b 13).toNat : Int), .int .u8 ((d.b 14).toNat : Int), .int .u8 ((d.b 15).toNat : Int), .bool d.six] 36)
 have hz : (w.alloc (Obj.cells #[.int .u8 (d.kind.toNat : Int), .int .u8 (d.conn.toNat : Int), .int .u8 (d.peer.toNat : Int), .int .u16 (d.ticks : Int), .int .u32 (d.draw.toNat : Int), .string ⟨d.bytes.toArray⟩, .int .u8 ((d.b 0).toNat : Int), .int .u8 ((d.b 1).toNat : Int), .int .u8 ((d.b 2).toNat : Int), .int .u8 ((d.b 3).toNat : Int), .int .u8 ((d.b 4).toNat : Int), .int .u8 ((d.b 5).toNat : Int), .int .u8 ((d.b 6).toNat : Int), .int .u8 ((d.b 7).toNat : Int), .int .u8 ((d.b 8).toNat : Int), .int .u8 ((d.b 9).toNat : Int), .int .u8 ((d.b 10).toNat : Int), .int .u8 ((d.b 11).toNat : Int), .int .u8 ((d.b 12).toNat : Int), .int .u8 ((d.b 13).toNat : Int), .int .u8 ((d.b 14).toNat : Int), .int .u8 ((d.b 15).toNat : Int), .bool d.six] 36)).heap.size = w.heap.size + 1 := by simp
 generalize hV1 : w.alloc (Obj.cells #[.int .u8 (d.kind.toNat : Int), .int .u8 (d.conn.toNat : Int), .int .u8 (d.peer.toNat : Int), .int .u16 (d.ticks : Int), .int .u32 (d.draw.toNat : Int), .string ⟨d.bytes.toArray⟩, .int .u8 ((d.b 0).toNat : Int), .int .u8 ((d.b 1).toNat : Int), .int .u8 ((d.b 2).toNat : Int), .int .u8 ((d.b 3).toNat : Int), .int .u8 ((d.b 4).toNat : Int), .int .u8 ((d.b 5).toNat : Int), .int .u8 ((d.b 6).toNat : Int), .int .u8 ((d.b 7).toNat : Int), .int .u8 ((d.b 8).toNat : Int), .int .u8 ((d.b 9).toNat : Int), .int .u8 ((d.b 10).toNat : Int), .int .u8 ((d.b 11).toNat : Int), .int .u8 ((d.b 12).toNat : Int), .int .u8 ((d.b 13).toNat : Int), .int .u8 ((d.b 14).toNat : Int), .int .u8 ((d.b 15).toNat : Int), .bool d.six] 36) = V1 at A E hz
 have R := Blk.new V1 31 #[.int .i64 0, .int .i64 0, .string ⟨#[]⟩, .string ⟨#[]⟩, .string ⟨#[]⟩, .int .i64 0, .int .u32 0]
 replace E := E.alloc (Obj.cells #[.int .i64 0, .int .i64 0, .string ⟨#[]⟩, .string ⟨#[]⟩, .string ⟨#[]⟩, .int .i64 0, .int .u32 0] 31)
 replace A := A.alloc (Obj.cells #[.int .i64 0, .int .i64 0, .string ⟨#[]⟩, .string ⟨#[]⟩, .string ⟨#[]⟩, .int .i64 0, .int .u32 0] 31)
 have hz2 : (V1.alloc (Obj.cells #[.int .i64 0, .int .i64 0, .string ⟨#[]⟩, .string ⟨#[]⟩, .string ⟨#[]⟩, .int .i64 0, .int .u32 0] 31)).heap.size = w.heap.size + 2 := by simp [hz]
 rw [hz] at R
 generalize hV2 : V1.alloc (Obj.cells #[.int .i64 0, .int .i64 0, .string ⟨#[]⟩, .string ⟨#[]⟩, .string ⟨#[]⟩, .int .i64 0, .int .u32 0] 31) = V2 at A E R hz2
 have a0' := A.cell 0
 have B := Blk.new V2 31 #[.int .i64 2, .int .i64 0, .string ⟨#[]⟩, .string ⟨#[]⟩, .string ⟨#[]⟩, .int .i64 0, .int .u32 0]
 replace E := E.alloc (Obj.cells #[.int .i64 2, .int .i64 0, .string ⟨#[]⟩, .string ⟨#[]⟩, .string ⟨#[]⟩, .int .i64 0, .int .u32 0] 31)
 replace A := A.alloc (Obj.cells #[.int .i64 2, .int .i64 0, .string ⟨#[]⟩, .string ⟨#[]⟩, .string ⟨#[]⟩, .int .i64 0, .int .u32 0] 31)
 replace R := R.alloc (Obj.cells #[.int .i64 2, .int .i64 0, .string ⟨#[]⟩, .string ⟨#[]⟩, .string ⟨#[]⟩, .int .i64 0, .int .u32 0] 31)
 rw [hz2] at B
 generalize hV3 : V2.alloc (Obj.cells #[.int .i64 2, .int .i64 0, .string ⟨#[]⟩, .string ⟨#[]⟩, .string ⟨#[]⟩, .int .i64 0, .int .u32 0] 31) = V3 at A E R B
 obtain ⟨p, hp⟩ : ∃ p, w.heap.size = p := ⟨_, rfl⟩
 rw [hp] at A R B hz hz2 a0'
 replace a0' : V2.cell? ⟨p, 0, none⟩ = some (.int .u8 (d.kind.toNat : Int)) := a0'
 have hwp : w.heap.size ≤ p := by omega
 clear hc3 hx3 hx hk
 replace hV1 := hide hV1
 replace hV2 := hide hV2
 replace hV3 := hide hV3
 replace hp := hide hp
 replace A := hide A
 replace E := hide E
 replace R := hide R
 replace B := hide B
 replace hz := hide hz
 replace hz2 := hide hz2
 replace hwp := hide hwp
 replace hof := hide hof
 replace hper := hide hper
 replace hc2 := hide hc2
 go_enter Tryz.func12, Tryz.ntmps12
 go_upto_region 1 with fail
 try rw [hV1.out]
 try rw [hV2.out]
 try simp only [hp.out]
 try simp only [hz.out]
 clear hV1 hV2 hp
 go_upto_region 2 with fail
 try rw [hV3.out]
 try simp only [hz2.out]
 clear hV3 hz hz2 a0'
 have a1 : V3.cell? ⟨p, 1, none⟩ = some (.int .u8 (d.conn.toNat : Int)) := A.out.cell 1
 have a2 : V3.cell? ⟨p, 2, none⟩ = some (.int .u8 (d.peer.toNat : Int)) := A.out.cell 2
 have X := Blk.new V3 5 #[.int .u8 (x.toNat : Int)]
 have A4 := A.out.alloc (Obj.cells #[.int .u8 (x.toNat : Int)] 5)
 have R4 := R.out.alloc (Obj.cells #[.int .u8 (x.toNat : Int)] 5)
 have B4 := B.out.alloc (Obj.cells #[.int .u8 (x.toNat : Int)] 5)
 have E4 := E.out.alloc (Obj.cells #[.int .u8 (x.toNat : Int)] 5)
 have hcv : (convert 65 9 (.slice (some ⟨V3.heap.size, 0, none⟩) 1 1)).run Tryz.prog (V3.alloc (Obj.cells #[.int .u8 (x.toNat : Int)] 5)) = .ok (.string ⟨#[x]⟩) (V3.alloc (Obj.cells #[.int .u8 (x.toNat : Int)] 5)) :=
  run_convert_bytes_back _ 65 9 5 ⟨V3.heap.size, 0, none⟩ 1 [x] Tryz.underlying65 Tryz.underlying5 Tryz.underlying9 fun j hj => byte_new V3 x 5 j hj
 have happ : (ByteArray.mk #[112]) ++ ⟨#[x]⟩ = (⟨#[112, x]⟩ : ByteArray) := by apply ByteArray.ext; simp
 clear X
 replace A4 := hide A4
 replace R4 := hide R4
 replace B4 := hide B4
 replace E4 := hide E4
 go_upto_region 4 with fail
 clear a1 a2 hcv A R B E
 generalize V3.alloc (Obj.cells #[.int .u8 (x.toNat : Int)] 5) = V4 at A4 R4 B4 E4 ⊢
 clear tK tC tP hw1 hw2 happ
 have b0 : V4.cell? ⟨p + 2, 0, none⟩ = some (.int .i64 2) := B4.out.cell 0
 have b1 : V4.cell? ⟨p + 2, 1, none⟩ = some (.int .i64 0) := B4.out.cell 1
 have b2 : V4.cell? ⟨p + 2, 2, none⟩ = some (.string ⟨#[]⟩) := B4.out.cell 2
 have b3 : V4.cell? ⟨p + 2, 3, none⟩ = some (.string ⟨#[]⟩) := B4.out.cell 3
 have b4 : V4.cell? ⟨p + 2, 4, none⟩ = some (.string ⟨#[]⟩) := B4.out.cell 4
 have b5 : V4.cell? ⟨p + 2, 5, none⟩ = some (.int .i64 0) := B4.out.cell 5
 have b6 : V4.cell? ⟨p + 2, 6, none⟩ = some (.int .u32 0) := B4.out.cell 6
 have bf := fun i => B4.out.frozen i
 have B5 : Blk ((V4.setCell ⟨p + 2, 1, none⟩ (.int .i64 (c2 : Int))).setCell ⟨p + 2, 3, none⟩ (.string ⟨#[112, x]⟩)) (p + 2) 31 #[.int .i64 2, .int .i64 (c2 : Int), .string ⟨#[]⟩, .string ⟨#[112, x]⟩, .string ⟨#[]⟩, .int .i64 0, .int .u32 0] := ((B4.out.set_ 1 (.int .i64 (c2 : Int))).set_ 3 (.string ⟨#[112, x]⟩))
 have R5 : Blk ((V4.setCell ⟨p + 2, 1, none⟩ (.int .i64 (c2 : Int))).setCell ⟨p + 2, 3, none⟩ (.string ⟨#[112, x]⟩)) (p + 1) 31 #[.int .i64 0, .int .i64 0, .string ⟨#[]⟩, .string ⟨#[]⟩, .string ⟨#[]⟩, .int .i64 0, .int .u32 0] := ((R4.out.far (p := ⟨p + 2, 1, none⟩) (show p + 1 ≠ p + 2 by omega) (.int .i64 (c2 : Int))).far (p := ⟨p + 2, 3, none⟩) (show p + 1 ≠ p + 2 by omega) (.string ⟨#[112, x]⟩))
 have E5 : Ext w ((V4.setCell ⟨p + 2, 1, none⟩ (.int .i64 (c2 : Int))).setCell ⟨p + 2, 3, none⟩ (.string ⟨#[112, x]⟩)) := ((E4.out.setCell (p := ⟨p + 2, 1, none⟩) (show w.heap.size ≤ p + 2 by have := hwp.out; omega) (.int .i64 (c2 : Int))).setCell (p := ⟨p + 2, 3, none⟩) (show w.heap.size ≤ p + 2 by have := hwp.out; omega) (.string ⟨#[112, x]⟩))
 replace B5 := hide B5
 replace R5 := hide R5
 replace E5 := hide E5
 go_upto_region 27 with fail
 generalize ((V4.setCell ⟨p + 2, 1, none⟩ (.int .i64 (c2 : Int))).setCell ⟨p + 2, 3, none⟩ (.string ⟨#[112, x]⟩)) = V5 at B5 R5 E5 ⊢
 clear b0 b1 b2 b3 b4 b5 b6 bf A4 R4 B4 E4
 have b0 : V5.cell? ⟨p + 2, 0, none⟩ = some (.int .i64 2) := B5.out.cell 0
 have b1 : V5.cell? ⟨p + 2, 1, none⟩ = some (.int .i64 (c2 : Int)) := B5.out.cell 1
 have b2 : V5.cell? ⟨p + 2, 2, none⟩ = some (.string ⟨#[]⟩) := B5.out.cell 2
 have b3 : V5.cell? ⟨p + 2, 3, none⟩ = some (.string ⟨#[112, x]⟩) := B5.out.cell 3
 have b4 : V5.cell? ⟨p + 2, 4, none⟩ = some (.string ⟨#[]⟩) := B5.out.cell 4
 have b5 : V5.cell? ⟨p + 2, 5, none⟩ = some (.int .i64 0) := B5.out.cell 5
 have b6 : V5.cell? ⟨p + 2, 6, none⟩ = some (.int .u32 0) := B5.out.cell 6
 have r0 : V5.cell? ⟨p + 1, 0, none⟩ = some (.int .i64 0) := R5.out.cell 0
 have r1 : V5.cell? ⟨p + 1, 1, none⟩ = some (.int .i64 0) := R5.out.cell 1
 have r2 : V5.cell? ⟨p + 1, 2, none⟩ = some (.string ⟨#[]⟩) := R5.out.cell 2
 have r3 : V5.cell? ⟨p + 1, 3, none⟩ = some (.string ⟨#[]⟩) := R5.out.cell 3
 have r4 : V5.cell? ⟨p + 1, 4, none⟩ = some (.string ⟨#[]⟩) := R5.out.cell 4
 have r5 : V5.cell? ⟨p + 1, 5, none⟩ = some (.int .i64 0) := R5.out.cell 5
 have r6 : V5.cell? ⟨p + 1, 6, none⟩ = some (.int .u32 0) := R5.out.cell 6
 have rf := fun i => R5.out.frozen i
 have hE := E5.out.set7 (show w.heap.size ≤ p + 1 by have := hwp.out; omega) (.int .i64 2) (.int .i64 (c2 : Int)) (.string ⟨#[]⟩) (.string ⟨#[112, x]⟩) (.string ⟨#[]⟩) (.int .i64 0) (.int .u32 0)
 have hRZ := R5.out.fill7 (.int .i64 2) (.int .i64 (c2 : Int)) (.string ⟨#[]⟩) (.string ⟨#[112, x]⟩) (.string ⟨#[]⟩) (.int .i64 0) (.int .u32 0)
 have z0 := hRZ.cell 0
 have z1 := hRZ.cell 1
 have z2 := hRZ.cell 2
 have z3 := hRZ.cell 3
 have z4 := hRZ.cell 4
 have z5 := hRZ.cell 5
 have z6 := hRZ.cell 6
 simp at z0 z1 z2 z3 z4 z5 z6
 clear hRZ R5 B5 E5
 replace hE := hide hE
 go_wp2
 exact bodyPost_ret (v := .agg #[.int .i64 2, .int .i64 (c2 : Int), .string ⟨#[]⟩, .string ⟨#[112, x]⟩, .string ⟨#[]⟩, .int .i64 0, .int .u32 0]) (by simp [results, Tryz.results12, go_sem, z0, z1, z2, z3, z4, z5, z6]) rfl ⟨by rw [hof.out, hc2.out, hper.out]; rfl, hE.out⟩
set_option maxRecDepth 20000 in
set_option maxHeartbeats 4000000 in
theorem Of35_2 (d : DoS) (hk : d.kind.toNat % 10 = 2) (w : World) : Calls Tryz.prog 12 #[.agg #[.int .u8 (d.kind.toNat : Int), .int .u8 (d.conn.toNat : Int), .int .u8 (d.peer.toNat : Int), .int .u16 (d.ticks : Int), .int .u32 (d.draw.toNat : Int), .string ⟨d.bytes.toArray⟩, .int .u8 ((d.b 0).toNat : Int), .int .u8 ((d.b 1).toNat : Int), .int .u8 ((d.b 2).toNat : Int), .int .u8 ((d.b 3).toNat : Int), .int .u8 ((d.b 4).toNat : Int), .int .u8 ((d.b 5).toNat : Int), .int .u8 ((d.b 6).toNat : Int), .int .u8 ((d.b 7).toNat : Int), .int .u8 ((d.b 8).toNat : Int), .int .u8 ((d.b 9).toNat : Int), .int .u8 ((d.b 10).toNat : Int), .int .u8 ((d.b 11).toNat : Int), .int .u8 ((d.b 12).toNat : Int), .int .u8 ((d.b 13).toNat : Int), .int .u8 ((d.b 14).toNat : Int), .int .u8 ((d.b 15).toNat : Int), .bool d.six]] w fun e w' => e = .returned (.agg (evCs (ofS d)).toArray) ∧ Ext w w' := by
 have tK : Int.tmod (d.kind.toNat : Int) 10 = 2 := by rw [Int.tmod_eq_emod_of_nonneg (by omega)]; omega
 have tC : Int.tmod (d.conn.toNat : Int) 64 = ((d.conn.toNat % 64 : Nat) : Int) := by rw [Int.tmod_eq_emod_of_nonneg (by omega)]; omega
 have tP : Int.tmod (d.peer.toNat : Int) 26 = ((d.peer.toNat % 26 : Nat) : Int) := by rw [Int.tmod_eq_emod_of_nonneg (by omega)]; omega
 have hof : ofS d = ⟨3, 0, [], perS d, [], 0, 0⟩ := by simp only [ofS, hk]
 have hcn : d.conn.toNat % 64 < 64 := Nat.mod_lt _ (by decide)
 have hpn : d.peer.toNat % 26 < 26 := Nat.mod_lt _ (by decide)
 obtain ⟨c2, hc2⟩ : ∃ c, conS d = c := ⟨_, rfl⟩
 have hc3 : (1 : Int) + ((d.conn.toNat % 64 : Nat) : Int) = (c2 : Int) := by rw [← hc2]; unfold conS; omega
 obtain ⟨x, hx⟩ : ∃ x : UInt8, UInt8.ofNat (97 + d.peer.toNat % 26) = x := ⟨_, rfl⟩
 have hx3 : (97 : Int) + ((d.peer.toNat % 26 : Nat) : Int) = (x.toNat : Int) := by
  rw [← hx, UInt8.toNat_ofNat']; omega
 have hper : perS d = [112, x] := by unfold perS; rw [hx]
 generalize d.conn.toNat % 64 = cn at *
 generalize d.peer.toNat % 26 = pn at *
 have hw1 : IntKind.i64.wrap ((1 : Int) + (cn : Int)) = (c2 : Int) := by rw [hc3, IntKind.wrap_i64]; omega
 have hw2 : IntKind.u8.wrap ((97 : Int) + (pn : Int)) = (x.toNat : Int) := by rw [hx3, IntKind.wrap_u8]; have := x.toNat_lt; omega
 have A := Blk.new w 36 #[.int .u8 (d.kind.toNat : Int), .int .u8 (d.conn.toNat : Int), .int .u8 (d.peer.toNat : Int), .int .u16 (d.ticks : Int), .int .u32 (d.draw.toNat : Int), .string ⟨d.bytes.toArray⟩, .int .u8 ((d.b 0).toNat : Int), .int .u8 ((d.b 1).toNat : Int), .int .u8 ((d.b 2).toNat : Int), .int .u8 ((d.b 3).toNat : Int), .int .u8 ((d.b 4).toNat : Int), .int .u8 ((d.b 5).toNat : Int), .int .u8 ((d.b 6).toNat : Int), .int .u8 ((d.b 7).toNat : Int), .int .u8 ((d.b 8).toNat : Int), .int .u8 ((d.b 9).toNat : Int), .int .u8 ((d.b 10).toNat : Int), .int .u8 ((d.b 11).toNat : Int), .int .u8 ((d.b 12).toNat : Int), .int .u8 ((d.b 13).toNat : Int), .int .u8 ((d.b 14).toNat : Int), .int .u8 ((d.b 15).toNat : Int), .bool d.six]
 have E := (Ext.refl w).alloc (Obj.cells #[.int .u8 (d.kind.toNat : Int), .int .u8 (d.conn.toNat : Int), .int .u8 (d.peer.toNat : Int), .int .u16 (d.ticks : Int), .int .u32 (d.draw.toNat : Int), .string ⟨d.bytes.toArray⟩, .int .u8 ((d.b 0).toNat : Int), .int .u8 ((d.b 1).toNat : Int), .int .u8 ((d.b 2).toNat : Int), .int .u8 ((d.b 3).toNat : Int), .int .u8 ((d.b 4).toNat : Int), .int .u8 ((d.b 5).toNat : Int), .int .u8 ((d.b 6).toNat : Int), .int .u8 ((d.b 7).toNat : Int), .int .u8 ((d.b 8).toNat : Int), .int .u8 ((d.b 9).toNat : Int), .int .u8 ((d.b 10).toNat : Int), .int .u8 ((d.b 11).toNat : Int), .int .u8 ((d.b 12).toNat : Int), .int .u8 ((d.b 13).toNat : Int), .int .u8 ((d.b 14).toNat : Int), .int .u8 ((d.b 15).toNat : Int), .bool d.six] 36)
 have hz : (w.alloc (Obj.cells #[.int .u8 (d.kind.toNat : Int), .int .u8 (d.conn.toNat : Int), .int .u8 (d.peer.toNat : Int), .int .u16 (d.ticks : Int), .int .u32 (d.draw.toNat : Int), .string ⟨d.bytes.toArray⟩, .int .u8 ((d.b 0).toNat : Int), .int .u8 ((d.b 1).toNat : Int), .int .u8 ((d.b 2).toNat : Int), .int .u8 ((d.b 3).toNat : Int), .int .u8 ((d.b 4).toNat : Int), .int .u8 ((d.b 5).toNat : Int), .int .u8 ((d.b 6).toNat : Int), .int .u8 ((d.b 7).toNat : Int), .int .u8 ((d.b 8).toNat : Int), .int .u8 ((d.b 9).toNat : Int), .int .u8 ((d.b 10).toNat : Int), .int .u8 ((d.b 11).toNat : Int), .int .u8 ((d.b 12).toNat : Int), .int .u8 ((d.b 13).toNat : Int), .int .u8 ((d.b 14).toNat : Int), .int .u8 ((d.b 15).toNat : Int), .bool d.six] 36)).heap.size = w.heap.size + 1 := by simp
 generalize hV1 : w.alloc (Obj.cells #[.int .u8 (d.kind.toNat : Int), .int .u8 (d.conn.toNat : Int), .int .u8 (d.peer.toNat : Int), .int .u16 (d.ticks : Int), .int .u32 (d.draw.toNat : Int), .string ⟨d.bytes.toArray⟩, .int .u8 ((d.b 0).toNat : Int), .int .u8 ((d.b 1).toNat : Int), .int .u8 ((d.b 2).toNat : Int), .int .u8 ((d.b 3).toNat : Int), .int .u8 ((d.b 4).toNat : Int), .int .u8 ((d.b 5).toNat : Int), .int .u8 ((d.b 6).toNat : Int), .int .u8 ((d.b 7).toNat : Int), .int .u8 ((d.b 8).toNat : Int), .int .u8 ((d.b 9).toNat : Int), .int .u8 ((d.b 10).toNat : Int), .int .u8 ((d.b 11).toNat : Int), .int .u8 ((d.b 12).toNat : Int), .int .u8 ((d.b 13).toNat : Int), .int .u8 ((d.b 14).toNat : Int), .int .u8 ((d.b 15).toNat : Int), .bool d.six] 36) = V1 at A E hz
 have R := Blk.new V1 31 #[.int .i64 0, .int .i64 0, .string ⟨#[]⟩, .string ⟨#[]⟩, .string ⟨#[]⟩, .int .i64 0, .int .u32 0]
 replace E := E.alloc (Obj.cells #[.int .i64 0, .int .i64 0, .string ⟨#[]⟩, .string ⟨#[]⟩, .string ⟨#[]⟩, .int .i64 0, .int .u32 0] 31)
 replace A := A.alloc (Obj.cells #[.int .i64 0, .int .i64 0, .string ⟨#[]⟩, .string ⟨#[]⟩, .string ⟨#[]⟩, .int .i64 0, .int .u32 0] 31)
 have hz2 : (V1.alloc (Obj.cells #[.int .i64 0, .int .i64 0, .string ⟨#[]⟩, .string ⟨#[]⟩, .string ⟨#[]⟩, .int .i64 0, .int .u32 0] 31)).heap.size = w.heap.size + 2 := by simp [hz]
 rw [hz] at R
 generalize hV2 : V1.alloc (Obj.cells #[.int .i64 0, .int .i64 0, .string ⟨#[]⟩, .string ⟨#[]⟩, .string ⟨#[]⟩, .int .i64 0, .int .u32 0] 31) = V2 at A E R hz2
 have a0' := A.cell 0
 have B := Blk.new V2 31 #[.int .i64 3, .int .i64 0, .string ⟨#[]⟩, .string ⟨#[]⟩, .string ⟨#[]⟩, .int .i64 0, .int .u32 0]
 replace E := E.alloc (Obj.cells #[.int .i64 3, .int .i64 0, .string ⟨#[]⟩, .string ⟨#[]⟩, .string ⟨#[]⟩, .int .i64 0, .int .u32 0] 31)
 replace A := A.alloc (Obj.cells #[.int .i64 3, .int .i64 0, .string ⟨#[]⟩, .string ⟨#[]⟩, .string ⟨#[]⟩, .int .i64 0, .int .u32 0] 31)
 replace R := R.alloc (Obj.cells #[.int .i64 3, .int .i64 0, .string ⟨#[]⟩, .string ⟨#[]⟩, .string ⟨#[]⟩, .int .i64 0, .int .u32 0] 31)
 rw [hz2] at B
 generalize hV3 : V2.alloc (Obj.cells #[.int .i64 3, .int .i64 0, .string ⟨#[]⟩, .string ⟨#[]⟩, .string ⟨#[]⟩, .int .i64 0, .int .u32 0] 31) = V3 at A E R B
 obtain ⟨p, hp⟩ : ∃ p, w.heap.size = p := ⟨_, rfl⟩
 rw [hp] at A R B hz hz2 a0'
 replace a0' : V2.cell? ⟨p, 0, none⟩ = some (.int .u8 (d.kind.toNat : Int)) := a0'
 have hwp : w.heap.size ≤ p := by omega
 clear hc3 hx3 hx hk
 replace hV1 := hide hV1
 replace hV2 := hide hV2
 replace hV3 := hide hV3
 replace hp := hide hp
 replace A := hide A
 replace E := hide E
 replace R := hide R
 replace B := hide B
 replace hz := hide hz
 replace hz2 := hide hz2
 replace hwp := hide hwp
 replace hof := hide hof
 replace hper := hide hper
 replace hc2 := hide hc2
 go_enter Tryz.func12, Tryz.ntmps12
 go_upto_region 1 with fail
 try rw [hV1.out]
 try rw [hV2.out]
 try simp only [hp.out]
 try simp only [hz.out]
 clear hV1 hV2 hp
 go_upto_region 2 with fail
 try rw [hV3.out]
 try simp only [hz2.out]
 clear hV3 hz hz2 a0'
 have a1 : V3.cell? ⟨p, 1, none⟩ = some (.int .u8 (d.conn.toNat : Int)) := A.out.cell 1
 have a2 : V3.cell? ⟨p, 2, none⟩ = some (.int .u8 (d.peer.toNat : Int)) := A.out.cell 2
 have X := Blk.new V3 5 #[.int .u8 (x.toNat : Int)]
 have A4 := A.out.alloc (Obj.cells #[.int .u8 (x.toNat : Int)] 5)
 have R4 := R.out.alloc (Obj.cells #[.int .u8 (x.toNat : Int)] 5)
 have B4 := B.out.alloc (Obj.cells #[.int .u8 (x.toNat : Int)] 5)
 have E4 := E.out.alloc (Obj.cells #[.int .u8 (x.toNat : Int)] 5)
 have hcv : (convert 65 9 (.slice (some ⟨V3.heap.size, 0, none⟩) 1 1)).run Tryz.prog (V3.alloc (Obj.cells #[.int .u8 (x.toNat : Int)] 5)) = .ok (.string ⟨#[x]⟩) (V3.alloc (Obj.cells #[.int .u8 (x.toNat : Int)] 5)) :=
  run_convert_bytes_back _ 65 9 5 ⟨V3.heap.size, 0, none⟩ 1 [x] Tryz.underlying65 Tryz.underlying5 Tryz.underlying9 fun j hj => byte_new V3 x 5 j hj
 have happ : (ByteArray.mk #[112]) ++ ⟨#[x]⟩ = (⟨#[112, x]⟩ : ByteArray) := by apply ByteArray.ext; simp
 clear X
 replace A4 := hide A4
 replace R4 := hide R4
 replace B4 := hide B4
 replace E4 := hide E4
 go_upto_region 4 with fail
 clear a1 a2 hcv A R B E
 generalize V3.alloc (Obj.cells #[.int .u8 (x.toNat : Int)] 5) = V4 at A4 R4 B4 E4 ⊢
 clear tK tC tP hw1 hw2 happ
 have b0 : V4.cell? ⟨p + 2, 0, none⟩ = some (.int .i64 3) := B4.out.cell 0
 have b1 : V4.cell? ⟨p + 2, 1, none⟩ = some (.int .i64 0) := B4.out.cell 1
 have b2 : V4.cell? ⟨p + 2, 2, none⟩ = some (.string ⟨#[]⟩) := B4.out.cell 2
 have b3 : V4.cell? ⟨p + 2, 3, none⟩ = some (.string ⟨#[]⟩) := B4.out.cell 3
 have b4 : V4.cell? ⟨p + 2, 4, none⟩ = some (.string ⟨#[]⟩) := B4.out.cell 4
 have b5 : V4.cell? ⟨p + 2, 5, none⟩ = some (.int .i64 0) := B4.out.cell 5
 have b6 : V4.cell? ⟨p + 2, 6, none⟩ = some (.int .u32 0) := B4.out.cell 6
 have bf := fun i => B4.out.frozen i
 have B5 : Blk (V4.setCell ⟨p + 2, 3, none⟩ (.string ⟨#[112, x]⟩)) (p + 2) 31 #[.int .i64 3, .int .i64 0, .string ⟨#[]⟩, .string ⟨#[112, x]⟩, .string ⟨#[]⟩, .int .i64 0, .int .u32 0] := (B4.out.set_ 3 (.string ⟨#[112, x]⟩))
 have R5 : Blk (V4.setCell ⟨p + 2, 3, none⟩ (.string ⟨#[112, x]⟩)) (p + 1) 31 #[.int .i64 0, .int .i64 0, .string ⟨#[]⟩, .string ⟨#[]⟩, .string ⟨#[]⟩, .int .i64 0, .int .u32 0] := (R4.out.far (p := ⟨p + 2, 3, none⟩) (show p + 1 ≠ p + 2 by omega) (.string ⟨#[112, x]⟩))
 have E5 : Ext w (V4.setCell ⟨p + 2, 3, none⟩ (.string ⟨#[112, x]⟩)) := (E4.out.setCell (p := ⟨p + 2, 3, none⟩) (show w.heap.size ≤ p + 2 by have := hwp.out; omega) (.string ⟨#[112, x]⟩))
 replace B5 := hide B5
 replace R5 := hide R5
 replace E5 := hide E5
 go_upto_region 27 with fail
 generalize (V4.setCell ⟨p + 2, 3, none⟩ (.string ⟨#[112, x]⟩)) = V5 at B5 R5 E5 ⊢
 clear b0 b1 b2 b3 b4 b5 b6 bf A4 R4 B4 E4
 have b0 : V5.cell? ⟨p + 2, 0, none⟩ = some (.int .i64 3) := B5.out.cell 0
 have b1 : V5.cell? ⟨p + 2, 1, none⟩ = some (.int .i64 0) := B5.out.cell 1
 have b2 : V5.cell? ⟨p + 2, 2, none⟩ = some (.string ⟨#[]⟩) := B5.out.cell 2
 have b3 : V5.cell? ⟨p + 2, 3, none⟩ = some (.string ⟨#[112, x]⟩) := B5.out.cell 3
 have b4 : V5.cell? ⟨p + 2, 4, none⟩ = some (.string ⟨#[]⟩) := B5.out.cell 4
 have b5 : V5.cell? ⟨p + 2, 5, none⟩ = some (.int .i64 0) := B5.out.cell 5
 have b6 : V5.cell? ⟨p + 2, 6, none⟩ = some (.int .u32 0) := B5.out.cell 6
 have r0 : V5.cell? ⟨p + 1, 0, none⟩ = some (.int .i64 0) := R5.out.cell 0
 have r1 : V5.cell? ⟨p + 1, 1, none⟩ = some (.int .i64 0) := R5.out.cell 1
 have r2 : V5.cell? ⟨p + 1, 2, none⟩ = some (.string ⟨#[]⟩) := R5.out.cell 2
 have r3 : V5.cell? ⟨p + 1, 3, none⟩ = some (.string ⟨#[]⟩) := R5.out.cell 3
 have r4 : V5.cell? ⟨p + 1, 4, none⟩ = some (.string ⟨#[]⟩) := R5.out.cell 4
 have r5 : V5.cell? ⟨p + 1, 5, none⟩ = some (.int .i64 0) := R5.out.cell 5
 have r6 : V5.cell? ⟨p + 1, 6, none⟩ = some (.int .u32 0) := R5.out.cell 6
 have rf := fun i => R5.out.frozen i
 have hE := E5.out.set7 (show w.heap.size ≤ p + 1 by have := hwp.out; omega) (.int .i64 3) (.int .i64 0) (.string ⟨#[]⟩) (.string ⟨#[112, x]⟩) (.string ⟨#[]⟩) (.int .i64 0) (.int .u32 0)
 have hRZ := R5.out.fill7 (.int .i64 3) (.int .i64 0) (.string ⟨#[]⟩) (.string ⟨#[112, x]⟩) (.string ⟨#[]⟩) (.int .i64 0) (.int .u32 0)
 have z0 := hRZ.cell 0
 have z1 := hRZ.cell 1
 have z2 := hRZ.cell 2
 have z3 := hRZ.cell 3
 have z4 := hRZ.cell 4
 have z5 := hRZ.cell 5
 have z6 := hRZ.cell 6
 simp at z0 z1 z2 z3 z4 z5 z6
 clear hRZ R5 B5 E5
 replace hE := hide hE
 go_wp2
 exact bodyPost_ret (v := .agg #[.int .i64 3, .int .i64 0, .string ⟨#[]⟩, .string ⟨#[112, x]⟩, .string ⟨#[]⟩, .int .i64 0, .int .u32 0]) (by simp [results, Tryz.results12, go_sem, z0, z1, z2, z3, z4, z5, z6]) rfl ⟨by rw [hof.out, hper.out]; rfl, hE.out⟩
set_option maxRecDepth 20000 in
set_option maxHeartbeats 4000000 in
theorem Of35_3 (d : DoS) (hk : d.kind.toNat % 10 = 3) (w : World) : Calls Tryz.prog 12 #[.agg #[.int .u8 (d.kind.toNat : Int), .int .u8 (d.conn.toNat : Int), .int .u8 (d.peer.toNat : Int), .int .u16 (d.ticks : Int), .int .u32 (d.draw.toNat : Int), .string ⟨d.bytes.toArray⟩, .int .u8 ((d.b 0).toNat : Int), .int .u8 ((d.b 1).toNat : Int), .int .u8 ((d.b 2).toNat : Int), .int .u8 ((d.b 3).toNat : Int), .int .u8 ((d.b 4).toNat : Int), .int .u8 ((d.b 5).toNat : Int), .int .u8 ((d.b 6).toNat : Int), .int .u8 ((d.b 7).toNat : Int), .int .u8 ((d.b 8).toNat : Int), .int .u8 ((d.b 9).toNat : Int), .int .u8 ((d.b 10).toNat : Int), .int .u8 ((d.b 11).toNat : Int), .int .u8 ((d.b 12).toNat : Int), .int .u8 ((d.b 13).toNat : Int), .int .u8 ((d.b 14).toNat : Int), .int .u8 ((d.b 15).toNat : Int), .bool d.six]] w fun e w' => e = .returned (.agg (evCs (ofS d)).toArray) ∧ Ext w w' := by
 have tK : Int.tmod (d.kind.toNat : Int) 10 = 3 := by rw [Int.tmod_eq_emod_of_nonneg (by omega)]; omega
 have tC : Int.tmod (d.conn.toNat : Int) 64 = ((d.conn.toNat % 64 : Nat) : Int) := by rw [Int.tmod_eq_emod_of_nonneg (by omega)]; omega
 have tP : Int.tmod (d.peer.toNat : Int) 26 = ((d.peer.toNat % 26 : Nat) : Int) := by rw [Int.tmod_eq_emod_of_nonneg (by omega)]; omega
 have hof : ofS d = ⟨4, (conS d : Int), [], [], d.bytes.take 40, 0, 0⟩ := by simp only [ofS, hk]
 have hcn : d.conn.toNat % 64 < 64 := Nat.mod_lt _ (by decide)
 have hpn : d.peer.toNat % 26 < 26 := Nat.mod_lt _ (by decide)
 obtain ⟨c2, hc2⟩ : ∃ c, conS d = c := ⟨_, rfl⟩
 have hc3 : (1 : Int) + ((d.conn.toNat % 64 : Nat) : Int) = (c2 : Int) := by rw [← hc2]; unfold conS; omega
 obtain ⟨x, hx⟩ : ∃ x : UInt8, UInt8.ofNat (97 + d.peer.toNat % 26) = x := ⟨_, rfl⟩
 have hx3 : (97 : Int) + ((d.peer.toNat % 26 : Nat) : Int) = (x.toNat : Int) := by
  rw [← hx, UInt8.toNat_ofNat']; omega
 have hper : perS d = [112, x] := by unfold perS; rw [hx]
 generalize d.conn.toNat % 64 = cn at *
 generalize d.peer.toNat % 26 = pn at *
 have hw1 : IntKind.i64.wrap ((1 : Int) + (cn : Int)) = (c2 : Int) := by rw [hc3, IntKind.wrap_i64]; omega
 have hw2 : IntKind.u8.wrap ((97 : Int) + (pn : Int)) = (x.toNat : Int) := by rw [hx3, IntKind.wrap_u8]; have := x.toNat_lt; omega
 have A := Blk.new w 36 #[.int .u8 (d.kind.toNat : Int), .int .u8 (d.conn.toNat : Int), .int .u8 (d.peer.toNat : Int), .int .u16 (d.ticks : Int), .int .u32 (d.draw.toNat : Int), .string ⟨d.bytes.toArray⟩, .int .u8 ((d.b 0).toNat : Int), .int .u8 ((d.b 1).toNat : Int), .int .u8 ((d.b 2).toNat : Int), .int .u8 ((d.b 3).toNat : Int), .int .u8 ((d.b 4).toNat : Int), .int .u8 ((d.b 5).toNat : Int), .int .u8 ((d.b 6).toNat : Int), .int .u8 ((d.b 7).toNat : Int), .int .u8 ((d.b 8).toNat : Int), .int .u8 ((d.b 9).toNat : Int), .int .u8 ((d.b 10).toNat : Int), .int .u8 ((d.b 11).toNat : Int), .int .u8 ((d.b 12).toNat : Int), .int .u8 ((d.b 13).toNat : Int), .int .u8 ((d.b 14).toNat : Int), .int .u8 ((d.b 15).toNat : Int), .bool d.six]
 have E := (Ext.refl w).alloc (Obj.cells #[.int .u8 (d.kind.toNat : Int), .int .u8 (d.conn.toNat : Int), .int .u8 (d.peer.toNat : Int), .int .u16 (d.ticks : Int), .int .u32 (d.draw.toNat : Int), .string ⟨d.bytes.toArray⟩, .int .u8 ((d.b 0).toNat : Int), .int .u8 ((d.b 1).toNat : Int), .int .u8 ((d.b 2).toNat : Int), .int .u8 ((d.b 3).toNat : Int), .int .u8 ((d.b 4).toNat : Int), .int .u8 ((d.b 5).toNat : Int), .int .u8 ((d.b 6).toNat : Int), .int .u8 ((d.b 7).toNat : Int), .int .u8 ((d.b 8).toNat : Int), .int .u8 ((d.b 9).toNat : Int), .int .u8 ((d.b 10).toNat : Int), .int .u8 ((d.b 11).toNat : Int), .int .u8 ((d.b 12).toNat : Int), .int .u8 ((d.b 13).toNat : Int), .int .u8 ((d.b 14).toNat : Int), .int .u8 ((d.b 15).toNat : Int), .bool d.six] 36)
 have hz : (w.alloc (Obj.cells #[.int .u8 (d.kind.toNat : Int), .int .u8 (d.conn.toNat : Int), .int .u8 (d.peer.toNat : Int), .int .u16 (d.ticks : Int), .int .u32 (d.draw.toNat : Int), .string ⟨d.bytes.toArray⟩, .int .u8 ((d.b 0).toNat : Int), .int .u8 ((d.b 1).toNat : Int), .int .u8 ((d.b 2).toNat : Int), .int .u8 ((d.b 3).toNat : Int), .int .u8 ((d.b 4).toNat : Int), .int .u8 ((d.b 5).toNat : Int), .int .u8 ((d.b 6).toNat : Int), .int .u8 ((d.b 7).toNat : Int), .int .u8 ((d.b 8).toNat : Int), .int .u8 ((d.b 9).toNat : Int), .int .u8 ((d.b 10).toNat : Int), .int .u8 ((d.b 11).toNat : Int), .int .u8 ((d.b 12).toNat : Int), .int .u8 ((d.b 13).toNat : Int), .int .u8 ((d.b 14).toNat : Int), .int .u8 ((d.b 15).toNat : Int), .bool d.six] 36)).heap.size = w.heap.size + 1 := by simp
 generalize hV1 : w.alloc (Obj.cells #[.int .u8 (d.kind.toNat : Int), .int .u8 (d.conn.toNat : Int), .int .u8 (d.peer.toNat : Int), .int .u16 (d.ticks : Int), .int .u32 (d.draw.toNat : Int), .string ⟨d.bytes.toArray⟩, .int .u8 ((d.b 0).toNat : Int), .int .u8 ((d.b 1).toNat : Int), .int .u8 ((d.b 2).toNat : Int), .int .u8 ((d.b 3).toNat : Int), .int .u8 ((d.b 4).toNat : Int), .int .u8 ((d.b 5).toNat : Int), .int .u8 ((d.b 6).toNat : Int), .int .u8 ((d.b 7).toNat : Int), .int .u8 ((d.b 8).toNat : Int), .int .u8 ((d.b 9).toNat : Int), .int .u8 ((d.b 10).toNat : Int), .int .u8 ((d.b 11).toNat : Int), .int .u8 ((d.b 12).toNat : Int), .int .u8 ((d.b 13).toNat : Int), .int .u8 ((d.b 14).toNat : Int), .int .u8 ((d.b 15).toNat : Int), .bool d.six] 36) = V1 at A E hz
 have R := Blk.new V1 31 #[.int .i64 0, .int .i64 0, .string ⟨#[]⟩, .string ⟨#[]⟩, .string ⟨#[]⟩, .int .i64 0, .int .u32 0]
 replace E := E.alloc (Obj.cells #[.int .i64 0, .int .i64 0, .string ⟨#[]⟩, .string ⟨#[]⟩, .string ⟨#[]⟩, .int .i64 0, .int .u32 0] 31)
 replace A := A.alloc (Obj.cells #[.int .i64 0, .int .i64 0, .string ⟨#[]⟩, .string ⟨#[]⟩, .string ⟨#[]⟩, .int .i64 0, .int .u32 0] 31)
 have hz2 : (V1.alloc (Obj.cells #[.int .i64 0, .int .i64 0, .string ⟨#[]⟩, .string ⟨#[]⟩, .string ⟨#[]⟩, .int .i64 0, .int .u32 0] 31)).heap.size = w.heap.size + 2 := by simp [hz]
 rw [hz] at R
 generalize hV2 : V1.alloc (Obj.cells #[.int .i64 0, .int .i64 0, .string ⟨#[]⟩, .string ⟨#[]⟩, .string ⟨#[]⟩, .int .i64 0, .int .u32 0] 31) = V2 at A E R hz2
 have a0' := A.cell 0
 have B := Blk.new V2 31 #[.int .i64 4, .int .i64 0, .string ⟨#[]⟩, .string ⟨#[]⟩, .string ⟨#[]⟩, .int .i64 0, .int .u32 0]
 replace E := E.alloc (Obj.cells #[.int .i64 4, .int .i64 0, .string ⟨#[]⟩, .string ⟨#[]⟩, .string ⟨#[]⟩, .int .i64 0, .int .u32 0] 31)
 replace A := A.alloc (Obj.cells #[.int .i64 4, .int .i64 0, .string ⟨#[]⟩, .string ⟨#[]⟩, .string ⟨#[]⟩, .int .i64 0, .int .u32 0] 31)
 replace R := R.alloc (Obj.cells #[.int .i64 4, .int .i64 0, .string ⟨#[]⟩, .string ⟨#[]⟩, .string ⟨#[]⟩, .int .i64 0, .int .u32 0] 31)
 rw [hz2] at B
 generalize hV3 : V2.alloc (Obj.cells #[.int .i64 4, .int .i64 0, .string ⟨#[]⟩, .string ⟨#[]⟩, .string ⟨#[]⟩, .int .i64 0, .int .u32 0] 31) = V3 at A E R B
 obtain ⟨p, hp⟩ : ∃ p, w.heap.size = p := ⟨_, rfl⟩
 rw [hp] at A R B hz hz2 a0'
 replace a0' : V2.cell? ⟨p, 0, none⟩ = some (.int .u8 (d.kind.toNat : Int)) := a0'
 have hwp : w.heap.size ≤ p := by omega
 clear hc3 hx3 hx hk
 replace hV1 := hide hV1
 replace hV2 := hide hV2
 replace hV3 := hide hV3
 replace hp := hide hp
 replace A := hide A
 replace E := hide E
 replace R := hide R
 replace B := hide B
 replace hz := hide hz
 replace hz2 := hide hz2
 replace hwp := hide hwp
 replace hof := hide hof
 replace hper := hide hper
 replace hc2 := hide hc2
 go_enter Tryz.func12, Tryz.ntmps12
 go_upto_region 1 with fail
 try rw [hV1.out]
 try rw [hV2.out]
 try simp only [hp.out]
 try simp only [hz.out]
 clear hV1 hV2 hp
 go_upto_region 2 with fail
 try rw [hV3.out]
 try simp only [hz2.out]
 clear hV3 hz hz2 a0'
 have a1 : V3.cell? ⟨p, 1, none⟩ = some (.int .u8 (d.conn.toNat : Int)) := A.out.cell 1
 have a2 : V3.cell? ⟨p, 2, none⟩ = some (.int .u8 (d.peer.toNat : Int)) := A.out.cell 2
 have X := Blk.new V3 5 #[.int .u8 (x.toNat : Int)]
 have A4 := A.out.alloc (Obj.cells #[.int .u8 (x.toNat : Int)] 5)
 have R4 := R.out.alloc (Obj.cells #[.int .u8 (x.toNat : Int)] 5)
 have B4 := B.out.alloc (Obj.cells #[.int .u8 (x.toNat : Int)] 5)
 have E4 := E.out.alloc (Obj.cells #[.int .u8 (x.toNat : Int)] 5)
 have hcv : (convert 65 9 (.slice (some ⟨V3.heap.size, 0, none⟩) 1 1)).run Tryz.prog (V3.alloc (Obj.cells #[.int .u8 (x.toNat : Int)] 5)) = .ok (.string ⟨#[x]⟩) (V3.alloc (Obj.cells #[.int .u8 (x.toNat : Int)] 5)) :=
  run_convert_bytes_back _ 65 9 5 ⟨V3.heap.size, 0, none⟩ 1 [x] Tryz.underlying65 Tryz.underlying5 Tryz.underlying9 fun j hj => byte_new V3 x 5 j hj
 have happ : (ByteArray.mk #[112]) ++ ⟨#[x]⟩ = (⟨#[112, x]⟩ : ByteArray) := by apply ByteArray.ext; simp
 clear X
 replace A4 := hide A4
 replace R4 := hide R4
 replace B4 := hide B4
 replace E4 := hide E4
 go_upto_region 4 with fail
 clear a1 a2 hcv A R B E
 generalize V3.alloc (Obj.cells #[.int .u8 (x.toNat : Int)] 5) = V4 at A4 R4 B4 E4 ⊢
 clear tK tC tP hw1 hw2 happ
 have b0 : V4.cell? ⟨p + 2, 0, none⟩ = some (.int .i64 4) := B4.out.cell 0
 have b1 : V4.cell? ⟨p + 2, 1, none⟩ = some (.int .i64 0) := B4.out.cell 1
 have b2 : V4.cell? ⟨p + 2, 2, none⟩ = some (.string ⟨#[]⟩) := B4.out.cell 2
 have b3 : V4.cell? ⟨p + 2, 3, none⟩ = some (.string ⟨#[]⟩) := B4.out.cell 3
 have b4 : V4.cell? ⟨p + 2, 4, none⟩ = some (.string ⟨#[]⟩) := B4.out.cell 4
 have b5 : V4.cell? ⟨p + 2, 5, none⟩ = some (.int .i64 0) := B4.out.cell 5
 have b6 : V4.cell? ⟨p + 2, 6, none⟩ = some (.int .u32 0) := B4.out.cell 6
 have bf := fun i => B4.out.frozen i
 have a5 : V4.cell? ⟨p, 5, none⟩ = some (.string ⟨d.bytes.toArray⟩) := A4.out.cell 5
 obtain ⟨m, hm⟩ : ∃ m, min d.bytes.length 40 = m := ⟨_, rfl⟩
 have hmn : (min (d.bytes.length : Int) 40) = (m : Int) := by omega
 have hml : m ≤ d.bytes.length := by omega
 have hxt : (ByteArray.mk d.bytes.toArray).extract 0 m = ⟨(d.bytes.take 40).toArray⟩ := by rw [ba_extract]; simp only [List.drop_zero, Nat.sub_zero]; rw [← hm]; congr 2; rw [List.take_eq_take_iff]; omega
 generalize d.bytes.take 40 = bt at hxt hof
 clear hm
 have B5 : Blk ((V4.setCell ⟨p + 2, 1, none⟩ (.int .i64 (c2 : Int))).setCell ⟨p + 2, 4, none⟩ (.string ⟨bt.toArray⟩)) (p + 2) 31 #[.int .i64 4, .int .i64 (c2 : Int), .string ⟨#[]⟩, .string ⟨#[]⟩, .string ⟨bt.toArray⟩, .int .i64 0, .int .u32 0] := ((B4.out.set_ 1 (.int .i64 (c2 : Int))).set_ 4 (.string ⟨bt.toArray⟩))
 have R5 : Blk ((V4.setCell ⟨p + 2, 1, none⟩ (.int .i64 (c2 : Int))).setCell ⟨p + 2, 4, none⟩ (.string ⟨bt.toArray⟩)) (p + 1) 31 #[.int .i64 0, .int .i64 0, .string ⟨#[]⟩, .string ⟨#[]⟩, .string ⟨#[]⟩, .int .i64 0, .int .u32 0] := ((R4.out.far (p := ⟨p + 2, 1, none⟩) (show p + 1 ≠ p + 2 by omega) (.int .i64 (c2 : Int))).far (p := ⟨p + 2, 4, none⟩) (show p + 1 ≠ p + 2 by omega) (.string ⟨bt.toArray⟩))
 have E5 : Ext w ((V4.setCell ⟨p + 2, 1, none⟩ (.int .i64 (c2 : Int))).setCell ⟨p + 2, 4, none⟩ (.string ⟨bt.toArray⟩)) := ((E4.out.setCell (p := ⟨p + 2, 1, none⟩) (show w.heap.size ≤ p + 2 by have := hwp.out; omega) (.int .i64 (c2 : Int))).setCell (p := ⟨p + 2, 4, none⟩) (show w.heap.size ≤ p + 2 by have := hwp.out; omega) (.string ⟨bt.toArray⟩))
 replace B5 := hide B5
 replace R5 := hide R5
 replace E5 := hide E5
 go_upto_region 27 with fail
 generalize ((V4.setCell ⟨p + 2, 1, none⟩ (.int .i64 (c2 : Int))).setCell ⟨p + 2, 4, none⟩ (.string ⟨bt.toArray⟩)) = V5 at B5 R5 E5 ⊢
 clear b0 b1 b2 b3 b4 b5 b6 bf A4 R4 B4 E4
 have b0 : V5.cell? ⟨p + 2, 0, none⟩ = some (.int .i64 4) := B5.out.cell 0
 have b1 : V5.cell? ⟨p + 2, 1, none⟩ = some (.int .i64 (c2 : Int)) := B5.out.cell 1
 have b2 : V5.cell? ⟨p + 2, 2, none⟩ = some (.string ⟨#[]⟩) := B5.out.cell 2
 have b3 : V5.cell? ⟨p + 2, 3, none⟩ = some (.string ⟨#[]⟩) := B5.out.cell 3
 have b4 : V5.cell? ⟨p + 2, 4, none⟩ = some (.string ⟨bt.toArray⟩) := B5.out.cell 4
 have b5 : V5.cell? ⟨p + 2, 5, none⟩ = some (.int .i64 0) := B5.out.cell 5
 have b6 : V5.cell? ⟨p + 2, 6, none⟩ = some (.int .u32 0) := B5.out.cell 6
 have r0 : V5.cell? ⟨p + 1, 0, none⟩ = some (.int .i64 0) := R5.out.cell 0
 have r1 : V5.cell? ⟨p + 1, 1, none⟩ = some (.int .i64 0) := R5.out.cell 1
 have r2 : V5.cell? ⟨p + 1, 2, none⟩ = some (.string ⟨#[]⟩) := R5.out.cell 2
 have r3 : V5.cell? ⟨p + 1, 3, none⟩ = some (.string ⟨#[]⟩) := R5.out.cell 3
 have r4 : V5.cell? ⟨p + 1, 4, none⟩ = some (.string ⟨#[]⟩) := R5.out.cell 4
 have r5 : V5.cell? ⟨p + 1, 5, none⟩ = some (.int .i64 0) := R5.out.cell 5
 have r6 : V5.cell? ⟨p + 1, 6, none⟩ = some (.int .u32 0) := R5.out.cell 6
 have rf := fun i => R5.out.frozen i
 have hE := E5.out.set7 (show w.heap.size ≤ p + 1 by have := hwp.out; omega) (.int .i64 4) (.int .i64 (c2 : Int)) (.string ⟨#[]⟩) (.string ⟨#[]⟩) (.string ⟨bt.toArray⟩) (.int .i64 0) (.int .u32 0)
 have hRZ := R5.out.fill7 (.int .i64 4) (.int .i64 (c2 : Int)) (.string ⟨#[]⟩) (.string ⟨#[]⟩) (.string ⟨bt.toArray⟩) (.int .i64 0) (.int .u32 0)
 have z0 := hRZ.cell 0
 have z1 := hRZ.cell 1
 have z2 := hRZ.cell 2
 have z3 := hRZ.cell 3
 have z4 := hRZ.cell 4
 have z5 := hRZ.cell 5
 have z6 := hRZ.cell 6
 simp at z0 z1 z2 z3 z4 z5 z6
 clear hRZ R5 B5 E5
 replace hE := hide hE
 go_wp2
 exact bodyPost_ret (v := .agg #[.int .i64 4, .int .i64 (c2 : Int), .string ⟨#[]⟩, .string ⟨#[]⟩, .string ⟨bt.toArray⟩, .int .i64 0, .int .u32 0]) (by simp [results, Tryz.results12, go_sem, z0, z1, z2, z3, z4, z5, z6]) rfl ⟨by rw [hof.out, hc2.out]; rfl, hE.out⟩
set_option maxRecDepth 20000 in
set_option maxHeartbeats 4000000 in
theorem Of35_4 (d : DoS) (hk : d.kind.toNat % 10 = 4) (w : World) : Calls Tryz.prog 12 #[.agg #[.int .u8 (d.kind.toNat : Int), .int .u8 (d.conn.toNat : Int), .int .u8 (d.peer.toNat : Int), .int .u16 (d.ticks : Int), .int .u32 (d.draw.toNat : Int), .string ⟨d.bytes.toArray⟩, .int .u8 ((d.b 0).toNat : Int), .int .u8 ((d.b 1).toNat : Int), .int .u8 ((d.b 2).toNat : Int), .int .u8 ((d.b 3).toNat : Int), .int .u8 ((d.b 4).toNat : Int), .int .u8 ((d.b 5).toNat : Int), .int .u8 ((d.b 6).toNat : Int), .int .u8 ((d.b 7).toNat : Int), .int .u8 ((d.b 8).toNat : Int), .int .u8 ((d.b 9).toNat : Int), .int .u8 ((d.b 10).toNat : Int), .int .u8 ((d.b 11).toNat : Int), .int .u8 ((d.b 12).toNat : Int), .int .u8 ((d.b 13).toNat : Int), .int .u8 ((d.b 14).toNat : Int), .int .u8 ((d.b 15).toNat : Int), .bool d.six]] w fun e w' => e = .returned (.agg (evCs (ofS d)).toArray) ∧ Ext w w' := by
 have tK : Int.tmod (d.kind.toNat : Int) 10 = 4 := by rw [Int.tmod_eq_emod_of_nonneg (by omega)]; omega
 have tC : Int.tmod (d.conn.toNat : Int) 64 = ((d.conn.toNat % 64 : Nat) : Int) := by rw [Int.tmod_eq_emod_of_nonneg (by omega)]; omega
 have tP : Int.tmod (d.peer.toNat : Int) 26 = ((d.peer.toNat % 26 : Nat) : Int) := by rw [Int.tmod_eq_emod_of_nonneg (by omega)]; omega
 have hof : ofS d = ⟨5, (conS d : Int), [], [], [], 0, 0⟩ := by simp only [ofS, hk]
 have hcn : d.conn.toNat % 64 < 64 := Nat.mod_lt _ (by decide)
 have hpn : d.peer.toNat % 26 < 26 := Nat.mod_lt _ (by decide)
 obtain ⟨c2, hc2⟩ : ∃ c, conS d = c := ⟨_, rfl⟩
 have hc3 : (1 : Int) + ((d.conn.toNat % 64 : Nat) : Int) = (c2 : Int) := by rw [← hc2]; unfold conS; omega
 obtain ⟨x, hx⟩ : ∃ x : UInt8, UInt8.ofNat (97 + d.peer.toNat % 26) = x := ⟨_, rfl⟩
 have hx3 : (97 : Int) + ((d.peer.toNat % 26 : Nat) : Int) = (x.toNat : Int) := by
  rw [← hx, UInt8.toNat_ofNat']; omega
 have hper : perS d = [112, x] := by unfold perS; rw [hx]
 generalize d.conn.toNat % 64 = cn at *
 generalize d.peer.toNat % 26 = pn at *
 have hw1 : IntKind.i64.wrap ((1 : Int) + (cn : Int)) = (c2 : Int) := by rw [hc3, IntKind.wrap_i64]; omega
 have hw2 : IntKind.u8.wrap ((97 : Int) + (pn : Int)) = (x.toNat : Int) := by rw [hx3, IntKind.wrap_u8]; have := x.toNat_lt; omega
 have A := Blk.new w 36 #[.int .u8 (d.kind.toNat : Int), .int .u8 (d.conn.toNat : Int), .int .u8 (d.peer.toNat : Int), .int .u16 (d.ticks : Int), .int .u32 (d.draw.toNat : Int), .string ⟨d.bytes.toArray⟩, .int .u8 ((d.b 0).toNat : Int), .int .u8 ((d.b 1).toNat : Int), .int .u8 ((d.b 2).toNat : Int), .int .u8 ((d.b 3).toNat : Int), .int .u8 ((d.b 4).toNat : Int), .int .u8 ((d.b 5).toNat : Int), .int .u8 ((d.b 6).toNat : Int), .int .u8 ((d.b 7).toNat : Int), .int .u8 ((d.b 8).toNat : Int), .int .u8 ((d.b 9).toNat : Int), .int .u8 ((d.b 10).toNat : Int), .int .u8 ((d.b 11).toNat : Int), .int .u8 ((d.b 12).toNat : Int), .int .u8 ((d.b 13).toNat : Int), .int .u8 ((d.b 14).toNat : Int), .int .u8 ((d.b 15).toNat : Int), .bool d.six]
 have E := (Ext.refl w).alloc (Obj.cells #[.int .u8 (d.kind.toNat : Int), .int .u8 (d.conn.toNat : Int), .int .u8 (d.peer.toNat : Int), .int .u16 (d.ticks : Int), .int .u32 (d.draw.toNat : Int), .string ⟨d.bytes.toArray⟩, .int .u8 ((d.b 0).toNat : Int), .int .u8 ((d.b 1).toNat : Int), .int .u8 ((d.b 2).toNat : Int), .int .u8 ((d.b 3).toNat : Int), .int .u8 ((d.b 4).toNat : Int), .int .u8 ((d.b 5).toNat : Int), .int .u8 ((d.b 6).toNat : Int), .int .u8 ((d.b 7).toNat : Int), .int .u8 ((d.b 8).toNat : Int), .int .u8 ((d.b 9).toNat : Int), .int .u8 ((d.b 10).toNat : Int), .int .u8 ((d.b 11).toNat : Int), .int .u8 ((d.b 12).toNat : Int), .int .u8 ((d.b 13).toNat : Int), .int .u8 ((d.b 14).toNat : Int), .int .u8 ((d.b 15).toNat : Int), .bool d.six] 36)
 have hz : (w.alloc (Obj.cells #[.int .u8 (d.kind.toNat : Int), .int .u8 (d.conn.toNat : Int), .int .u8 (d.peer.toNat : Int), .int .u16 (d.ticks : Int), .int .u32 (d.draw.toNat : Int), .string ⟨d.bytes.toArray⟩, .int .u8 ((d.b 0).toNat : Int), .int .u8 ((d.b 1).toNat : Int), .int .u8 ((d.b 2).toNat : Int), .int .u8 ((d.b 3).toNat : Int), .int .u8 ((d.b 4).toNat : Int), .int .u8 ((d.b 5).toNat : Int), .int .u8 ((d.b 6).toNat : Int), .int .u8 ((d.b 7).toNat : Int), .int .u8 ((d.b 8).toNat : Int), .int .u8 ((d.b 9).toNat : Int), .int .u8 ((d.b 10).toNat : Int), .int .u8 ((d.b 11).toNat : Int), .int .u8 ((d.b 12).toNat : Int), .int .u8 ((d.b 13).toNat : Int), .int .u8 ((d.b 14).toNat : Int), .int .u8 ((d.b 15).toNat : Int), .bool d.six] 36)).heap.size = w.heap.size + 1 := by simp
 generalize hV1 : w.alloc (Obj.cells #[.int .u8 (d.kind.toNat : Int), .int .u8 (d.conn.toNat : Int), .int .u8 (d.peer.toNat : Int), .int .u16 (d.ticks : Int), .int .u32 (d.draw.toNat : Int), .string ⟨d.bytes.toArray⟩, .int .u8 ((d.b 0).toNat : Int), .int .u8 ((d.b 1).toNat : Int), .int .u8 ((d.b 2).toNat : Int), .int .u8 ((d.b 3).toNat : Int), .int .u8 ((d.b 4).toNat : Int), .int .u8 ((d.b 5).toNat : Int), .int .u8 ((d.b 6).toNat : Int), .int .u8 ((d.b 7).toNat : Int), .int .u8 ((d.b 8).toNat : Int), .int .u8 ((d.b 9).toNat : Int), .int .u8 ((d.b 10).toNat : Int), .int .u8 ((d.b 11).toNat : Int), .int .u8 ((d.b 12).toNat : Int), .int .u8 ((d.b 13).toNat : Int), .int .u8 ((d.b 14).toNat : Int), .int .u8 ((d.b 15).toNat : Int), .bool d.six] 36) = V1 at A E hz
 have R := Blk.new V1 31 #[.int .i64 0, .int .i64 0, .string ⟨#[]⟩, .string ⟨#[]⟩, .string ⟨#[]⟩, .int .i64 0, .int .u32 0]
 replace E := E.alloc (Obj.cells #[.int .i64 0, .int .i64 0, .string ⟨#[]⟩, .string ⟨#[]⟩, .string ⟨#[]⟩, .int .i64 0, .int .u32 0] 31)
 replace A := A.alloc (Obj.cells #[.int .i64 0, .int .i64 0, .string ⟨#[]⟩, .string ⟨#[]⟩, .string ⟨#[]⟩, .int .i64 0, .int .u32 0] 31)
 have hz2 : (V1.alloc (Obj.cells #[.int .i64 0, .int .i64 0, .string ⟨#[]⟩, .string ⟨#[]⟩, .string ⟨#[]⟩, .int .i64 0, .int .u32 0] 31)).heap.size = w.heap.size + 2 := by simp [hz]
 rw [hz] at R
 generalize hV2 : V1.alloc (Obj.cells #[.int .i64 0, .int .i64 0, .string ⟨#[]⟩, .string ⟨#[]⟩, .string ⟨#[]⟩, .int .i64 0, .int .u32 0] 31) = V2 at A E R hz2
 have a0' := A.cell 0
 have B := Blk.new V2 31 #[.int .i64 5, .int .i64 0, .string ⟨#[]⟩, .string ⟨#[]⟩, .string ⟨#[]⟩, .int .i64 0, .int .u32 0]
 replace E := E.alloc (Obj.cells #[.int .i64 5, .int .i64 0, .string ⟨#[]⟩, .string ⟨#[]⟩, .string ⟨#[]⟩, .int .i64 0, .int .u32 0] 31)
 replace A := A.alloc (Obj.cells #[.int .i64 5, .int .i64 0, .string ⟨#[]⟩, .string ⟨#[]⟩, .string ⟨#[]⟩, .int .i64 0, .int .u32 0] 31)
 replace R := R.alloc (Obj.cells #[.int .i64 5, .int .i64 0, .string ⟨#[]⟩, .string ⟨#[]⟩, .string ⟨#[]⟩, .int .i64 0, .int .u32 0] 31)
 rw [hz2] at B
 generalize hV3 : V2.alloc (Obj.cells #[.int .i64 5, .int .i64 0, .string ⟨#[]⟩, .string ⟨#[]⟩, .string ⟨#[]⟩, .int .i64 0, .int .u32 0] 31) = V3 at A E R B
 obtain ⟨p, hp⟩ : ∃ p, w.heap.size = p := ⟨_, rfl⟩
 rw [hp] at A R B hz hz2 a0'
 replace a0' : V2.cell? ⟨p, 0, none⟩ = some (.int .u8 (d.kind.toNat : Int)) := a0'
 have hwp : w.heap.size ≤ p := by omega
 clear hc3 hx3 hx hk
 replace hV1 := hide hV1
 replace hV2 := hide hV2
 replace hV3 := hide hV3
 replace hp := hide hp
 replace A := hide A
 replace E := hide E
 replace R := hide R
 replace B := hide B
 replace hz := hide hz
 replace hz2 := hide hz2
 replace hwp := hide hwp
 replace hof := hide hof
 replace hper := hide hper
 replace hc2 := hide hc2
 go_enter Tryz.func12, Tryz.ntmps12
 go_upto_region 1 with fail
 try rw [hV1.out]
 try rw [hV2.out]
 try simp only [hp.out]
 try simp only [hz.out]
 clear hV1 hV2 hp
 go_upto_region 2 with fail
 try rw [hV3.out]
 try simp only [hz2.out]
 clear hV3 hz hz2 a0'
 have a1 : V3.cell? ⟨p, 1, none⟩ = some (.int .u8 (d.conn.toNat : Int)) := A.out.cell 1
 have a2 : V3.cell? ⟨p, 2, none⟩ = some (.int .u8 (d.peer.toNat : Int)) := A.out.cell 2
 have X := Blk.new V3 5 #[.int .u8 (x.toNat : Int)]
 have A4 := A.out.alloc (Obj.cells #[.int .u8 (x.toNat : Int)] 5)
 have R4 := R.out.alloc (Obj.cells #[.int .u8 (x.toNat : Int)] 5)
 have B4 := B.out.alloc (Obj.cells #[.int .u8 (x.toNat : Int)] 5)
 have E4 := E.out.alloc (Obj.cells #[.int .u8 (x.toNat : Int)] 5)
 have hcv : (convert 65 9 (.slice (some ⟨V3.heap.size, 0, none⟩) 1 1)).run Tryz.prog (V3.alloc (Obj.cells #[.int .u8 (x.toNat : Int)] 5)) = .ok (.string ⟨#[x]⟩) (V3.alloc (Obj.cells #[.int .u8 (x.toNat : Int)] 5)) :=
  run_convert_bytes_back _ 65 9 5 ⟨V3.heap.size, 0, none⟩ 1 [x] Tryz.underlying65 Tryz.underlying5 Tryz.underlying9 fun j hj => byte_new V3 x 5 j hj
 have happ : (ByteArray.mk #[112]) ++ ⟨#[x]⟩ = (⟨#[112, x]⟩ : ByteArray) := by apply ByteArray.ext; simp
 clear X
 replace A4 := hide A4
 replace R4 := hide R4
 replace B4 := hide B4
 replace E4 := hide E4
 go_upto_region 4 with fail
 clear a1 a2 hcv A R B E
 generalize V3.alloc (Obj.cells #[.int .u8 (x.toNat : Int)] 5) = V4 at A4 R4 B4 E4 ⊢
 clear tK tC tP hw1 hw2 happ
 have b0 : V4.cell? ⟨p + 2, 0, none⟩ = some (.int .i64 5) := B4.out.cell 0
 have b1 : V4.cell? ⟨p + 2, 1, none⟩ = some (.int .i64 0) := B4.out.cell 1
 have b2 : V4.cell? ⟨p + 2, 2, none⟩ = some (.string ⟨#[]⟩) := B4.out.cell 2
 have b3 : V4.cell? ⟨p + 2, 3, none⟩ = some (.string ⟨#[]⟩) := B4.out.cell 3
 have b4 : V4.cell? ⟨p + 2, 4, none⟩ = some (.string ⟨#[]⟩) := B4.out.cell 4
 have b5 : V4.cell? ⟨p + 2, 5, none⟩ = some (.int .i64 0) := B4.out.cell 5
 have b6 : V4.cell? ⟨p + 2, 6, none⟩ = some (.int .u32 0) := B4.out.cell 6
 have bf := fun i => B4.out.frozen i
 have B5 : Blk (V4.setCell ⟨p + 2, 1, none⟩ (.int .i64 (c2 : Int))) (p + 2) 31 #[.int .i64 5, .int .i64 (c2 : Int), .string ⟨#[]⟩, .string ⟨#[]⟩, .string ⟨#[]⟩, .int .i64 0, .int .u32 0] := (B4.out.set_ 1 (.int .i64 (c2 : Int)))
 have R5 : Blk (V4.setCell ⟨p + 2, 1, none⟩ (.int .i64 (c2 : Int))) (p + 1) 31 #[.int .i64 0, .int .i64 0, .string ⟨#[]⟩, .string ⟨#[]⟩, .string ⟨#[]⟩, .int .i64 0, .int .u32 0] := (R4.out.far (p := ⟨p + 2, 1, none⟩) (show p + 1 ≠ p + 2 by omega) (.int .i64 (c2 : Int)))
 have E5 : Ext w (V4.setCell ⟨p + 2, 1, none⟩ (.int .i64 (c2 : Int))) := (E4.out.setCell (p := ⟨p + 2, 1, none⟩) (show w.heap.size ≤ p + 2 by have := hwp.out; omega) (.int .i64 (c2 : Int)))
 replace B5 := hide B5
 replace R5 := hide R5
 replace E5 := hide E5
 go_upto_region 27 with fail
 generalize (V4.setCell ⟨p + 2, 1, none⟩ (.int .i64 (c2 : Int))) = V5 at B5 R5 E5 ⊢
 clear b0 b1 b2 b3 b4 b5 b6 bf A4 R4 B4 E4
 have b0 : V5.cell? ⟨p + 2, 0, none⟩ = some (.int .i64 5) := B5.out.cell 0
 have b1 : V5.cell? ⟨p + 2, 1, none⟩ = some (.int .i64 (c2 : Int)) := B5.out.cell 1
 have b2 : V5.cell? ⟨p + 2, 2, none⟩ = some (.string ⟨#[]⟩) := B5.out.cell 2
 have b3 : V5.cell? ⟨p + 2, 3, none⟩ = some (.string ⟨#[]⟩) := B5.out.cell 3
 have b4 : V5.cell? ⟨p + 2, 4, none⟩ = some (.string ⟨#[]⟩) := B5.out.cell 4
 have b5 : V5.cell? ⟨p + 2, 5, none⟩ = some (.int .i64 0) := B5.out.cell 5
 have b6 : V5.cell? ⟨p + 2, 6, none⟩ = some (.int .u32 0) := B5.out.cell 6
 have r0 : V5.cell? ⟨p + 1, 0, none⟩ = some (.int .i64 0) := R5.out.cell 0
 have r1 : V5.cell? ⟨p + 1, 1, none⟩ = some (.int .i64 0) := R5.out.cell 1
 have r2 : V5.cell? ⟨p + 1, 2, none⟩ = some (.string ⟨#[]⟩) := R5.out.cell 2
 have r3 : V5.cell? ⟨p + 1, 3, none⟩ = some (.string ⟨#[]⟩) := R5.out.cell 3
 have r4 : V5.cell? ⟨p + 1, 4, none⟩ = some (.string ⟨#[]⟩) := R5.out.cell 4
 have r5 : V5.cell? ⟨p + 1, 5, none⟩ = some (.int .i64 0) := R5.out.cell 5
 have r6 : V5.cell? ⟨p + 1, 6, none⟩ = some (.int .u32 0) := R5.out.cell 6
 have rf := fun i => R5.out.frozen i
 have hE := E5.out.set7 (show w.heap.size ≤ p + 1 by have := hwp.out; omega) (.int .i64 5) (.int .i64 (c2 : Int)) (.string ⟨#[]⟩) (.string ⟨#[]⟩) (.string ⟨#[]⟩) (.int .i64 0) (.int .u32 0)
 have hRZ := R5.out.fill7 (.int .i64 5) (.int .i64 (c2 : Int)) (.string ⟨#[]⟩) (.string ⟨#[]⟩) (.string ⟨#[]⟩) (.int .i64 0) (.int .u32 0)
 have z0 := hRZ.cell 0
 have z1 := hRZ.cell 1
 have z2 := hRZ.cell 2
 have z3 := hRZ.cell 3
 have z4 := hRZ.cell 4
 have z5 := hRZ.cell 5
 have z6 := hRZ.cell 6
 simp at z0 z1 z2 z3 z4 z5 z6
 clear hRZ R5 B5 E5
 replace hE := hide hE
 go_wp2
 exact bodyPost_ret (v := .agg #[.int .i64 5, .int .i64 (c2 : Int), .string ⟨#[]⟩, .string ⟨#[]⟩, .string ⟨#[]⟩, .int .i64 0, .int .u32 0]) (by simp [results, Tryz.results12, go_sem, z0, z1, z2, z3, z4, z5, z6]) rfl ⟨by rw [hof.out, hc2.out]; rfl, hE.out⟩
set_option maxRecDepth 20000 in
set_option maxHeartbeats 4000000 in
theorem Of35_5 (d : DoS) (hk : d.kind.toNat % 10 = 5) (w : World) : Calls Tryz.prog 12 #[.agg #[.int .u8 (d.kind.toNat : Int), .int .u8 (d.conn.toNat : Int), .int .u8 (d.peer.toNat : Int), .int .u16 (d.ticks : Int), .int .u32 (d.draw.toNat : Int), .string ⟨d.bytes.toArray⟩, .int .u8 ((d.b 0).toNat : Int), .int .u8 ((d.b 1).toNat : Int), .int .u8 ((d.b 2).toNat : Int), .int .u8 ((d.b 3).toNat : Int), .int .u8 ((d.b 4).toNat : Int), .int .u8 ((d.b 5).toNat : Int), .int .u8 ((d.b 6).toNat : Int), .int .u8 ((d.b 7).toNat : Int), .int .u8 ((d.b 8).toNat : Int), .int .u8 ((d.b 9).toNat : Int), .int .u8 ((d.b 10).toNat : Int), .int .u8 ((d.b 11).toNat : Int), .int .u8 ((d.b 12).toNat : Int), .int .u8 ((d.b 13).toNat : Int), .int .u8 ((d.b 14).toNat : Int), .int .u8 ((d.b 15).toNat : Int), .bool d.six]] w fun e w' => e = .returned (.agg (evCs (ofS d)).toArray) ∧ Ext w w' := by
 have tK : Int.tmod (d.kind.toNat : Int) 10 = 5 := by rw [Int.tmod_eq_emod_of_nonneg (by omega)]; omega
 have tC : Int.tmod (d.conn.toNat : Int) 64 = ((d.conn.toNat % 64 : Nat) : Int) := by rw [Int.tmod_eq_emod_of_nonneg (by omega)]; omega
 have tP : Int.tmod (d.peer.toNat : Int) 26 = ((d.peer.toNat % 26 : Nat) : Int) := by rw [Int.tmod_eq_emod_of_nonneg (by omega)]; omega
 have hof : ofS d = ⟨6, 0, [], [], [], ((d.ticks % 4096 + 1 : Nat) : Int), 0⟩ := by simp only [ofS, hk]
 have hcn : d.conn.toNat % 64 < 64 := Nat.mod_lt _ (by decide)
 have hpn : d.peer.toNat % 26 < 26 := Nat.mod_lt _ (by decide)
 obtain ⟨c2, hc2⟩ : ∃ c, conS d = c := ⟨_, rfl⟩
 have hc3 : (1 : Int) + ((d.conn.toNat % 64 : Nat) : Int) = (c2 : Int) := by rw [← hc2]; unfold conS; omega
 obtain ⟨x, hx⟩ : ∃ x : UInt8, UInt8.ofNat (97 + d.peer.toNat % 26) = x := ⟨_, rfl⟩
 have hx3 : (97 : Int) + ((d.peer.toNat % 26 : Nat) : Int) = (x.toNat : Int) := by
  rw [← hx, UInt8.toNat_ofNat']; omega
 have hper : perS d = [112, x] := by unfold perS; rw [hx]
 generalize d.conn.toNat % 64 = cn at *
 generalize d.peer.toNat % 26 = pn at *
 have hw1 : IntKind.i64.wrap ((1 : Int) + (cn : Int)) = (c2 : Int) := by rw [hc3, IntKind.wrap_i64]; omega
 have hw2 : IntKind.u8.wrap ((97 : Int) + (pn : Int)) = (x.toNat : Int) := by rw [hx3, IntKind.wrap_u8]; have := x.toNat_lt; omega
 have A := Blk.new w 36 #[.int .u8 (d.kind.toNat : Int), .int .u8 (d.conn.toNat : Int), .int .u8 (d.peer.toNat : Int), .int .u16 (d.ticks : Int), .int .u32 (d.draw.toNat : Int), .string ⟨d.bytes.toArray⟩, .int .u8 ((d.b 0).toNat : Int), .int .u8 ((d.b 1).toNat : Int), .int .u8 ((d.b 2).toNat : Int), .int .u8 ((d.b 3).toNat : Int), .int .u8 ((d.b 4).toNat : Int), .int .u8 ((d.b 5).toNat : Int), .int .u8 ((d.b 6).toNat : Int), .int .u8 ((d.b 7).toNat : Int), .int .u8 ((d.b 8).toNat : Int), .int .u8 ((d.b 9).toNat : Int), .int .u8 ((d.b 10).toNat : Int), .int .u8 ((d.b 11).toNat : Int), .int .u8 ((d.b 12).toNat : Int), .int .u8 ((d.b 13).toNat : Int), .int .u8 ((d.b 14).toNat : Int), .int .u8 ((d.b 15).toNat : Int), .bool d.six]
 have E := (Ext.refl w).alloc (Obj.cells #[.int .u8 (d.kind.toNat : Int), .int .u8 (d.conn.toNat : Int), .int .u8 (d.peer.toNat : Int), .int .u16 (d.ticks : Int), .int .u32 (d.draw.toNat : Int), .string ⟨d.bytes.toArray⟩, .int .u8 ((d.b 0).toNat : Int), .int .u8 ((d.b 1).toNat : Int), .int .u8 ((d.b 2).toNat : Int), .int .u8 ((d.b 3).toNat : Int), .int .u8 ((d.b 4).toNat : Int), .int .u8 ((d.b 5).toNat : Int), .int .u8 ((d.b 6).toNat : Int), .int .u8 ((d.b 7).toNat : Int), .int .u8 ((d.b 8).toNat : Int), .int .u8 ((d.b 9).toNat : Int), .int .u8 ((d.b 10).toNat : Int), .int .u8 ((d.b 11).toNat : Int), .int .u8 ((d.b 12).toNat : Int), .int .u8 ((d.b 13).toNat : Int), .int .u8 ((d.b 14).toNat : Int), .int .u8 ((d.b 15).toNat : Int), .bool d.six] 36)
 have hz : (w.alloc (Obj.cells #[.int .u8 (d.kind.toNat : Int), .int .u8 (d.conn.toNat : Int), .int .u8 (d.peer.toNat : Int), .int .u16 (d.ticks : Int), .int .u32 (d.draw.toNat : Int), .string ⟨d.bytes.toArray⟩, .int .u8 ((d.b 0).toNat : Int), .int .u8 ((d.b 1).toNat : Int), .int .u8 ((d.b 2).toNat : Int), .int .u8 ((d.b 3).toNat : Int), .int .u8 ((d.b 4).toNat : Int), .int .u8 ((d.b 5).toNat : Int), .int .u8 ((d.b 6).toNat : Int), .int .u8 ((d.b 7).toNat : Int), .int .u8 ((d.b 8).toNat : Int), .int .u8 ((d.b 9).toNat : Int), .int .u8 ((d.b 10).toNat : Int), .int .u8 ((d.b 11).toNat : Int), .int .u8 ((d.b 12).toNat : Int), .int .u8 ((d.b 13).toNat : Int), .int .u8 ((d.b 14).toNat : Int), .int .u8 ((d.b 15).toNat : Int), .bool d.six] 36)).heap.size = w.heap.size + 1 := by simp
 generalize hV1 : w.alloc (Obj.cells #[.int .u8 (d.kind.toNat : Int), .int .u8 (d.conn.toNat : Int), .int .u8 (d.peer.toNat : Int), .int .u16 (d.ticks : Int), .int .u32 (d.draw.toNat : Int), .string ⟨d.bytes.toArray⟩, .int .u8 ((d.b 0).toNat : Int), .int .u8 ((d.b 1).toNat : Int), .int .u8 ((d.b 2).toNat : Int), .int .u8 ((d.b 3).toNat : Int), .int .u8 ((d.b 4).toNat : Int), .int .u8 ((d.b 5).toNat : Int), .int .u8 ((d.b 6).toNat : Int), .int .u8 ((d.b 7).toNat : Int), .int .u8 ((d.b 8).toNat : Int), .int .u8 ((d.b 9).toNat : Int), .int .u8 ((d.b 10).toNat : Int), .int .u8 ((d.b 11).toNat : Int), .int .u8 ((d.b 12).toNat : Int), .int .u8 ((d.b 13).toNat : Int), .int .u8 ((d.b 14).toNat : Int), .int .u8 ((d.b 15).toNat : Int), .bool d.six] 36) = V1 at A E hz
 have R := Blk.new V1 31 #[.int .i64 0, .int .i64 0, .string ⟨#[]⟩, .string ⟨#[]⟩, .string ⟨#[]⟩, .int .i64 0, .int .u32 0]
 replace E := E.alloc (Obj.cells #[.int .i64 0, .int .i64 0, .string ⟨#[]⟩, .string ⟨#[]⟩, .string ⟨#[]⟩, .int .i64 0, .int .u32 0] 31)
 replace A := A.alloc (Obj.cells #[.int .i64 0, .int .i64 0, .string ⟨#[]⟩, .string ⟨#[]⟩, .string ⟨#[]⟩, .int .i64 0, .int .u32 0] 31)
 have hz2 : (V1.alloc (Obj.cells #[.int .i64 0, .int .i64 0, .string ⟨#[]⟩, .string ⟨#[]⟩, .string ⟨#[]⟩, .int .i64 0, .int .u32 0] 31)).heap.size = w.heap.size + 2 := by simp [hz]
 rw [hz] at R
 generalize hV2 : V1.alloc (Obj.cells #[.int .i64 0, .int .i64 0, .string ⟨#[]⟩, .string ⟨#[]⟩, .string ⟨#[]⟩, .int .i64 0, .int .u32 0] 31) = V2 at A E R hz2
 have a0' := A.cell 0
 have B := Blk.new V2 31 #[.int .i64 6, .int .i64 0, .string ⟨#[]⟩, .string ⟨#[]⟩, .string ⟨#[]⟩, .int .i64 0, .int .u32 0]
 replace E := E.alloc (Obj.cells #[.int .i64 6, .int .i64 0, .string ⟨#[]⟩, .string ⟨#[]⟩, .string ⟨#[]⟩, .int .i64 0, .int .u32 0] 31)
 replace A := A.alloc (Obj.cells #[.int .i64 6, .int .i64 0, .string ⟨#[]⟩, .string ⟨#[]⟩, .string ⟨#[]⟩, .int .i64 0, .int .u32 0] 31)
 replace R := R.alloc (Obj.cells #[.int .i64 6, .int .i64 0, .string ⟨#[]⟩, .string ⟨#[]⟩, .string ⟨#[]⟩, .int .i64 0, .int .u32 0] 31)
 rw [hz2] at B
 generalize hV3 : V2.alloc (Obj.cells #[.int .i64 6, .int .i64 0, .string ⟨#[]⟩, .string ⟨#[]⟩, .string ⟨#[]⟩, .int .i64 0, .int .u32 0] 31) = V3 at A E R B
 obtain ⟨p, hp⟩ : ∃ p, w.heap.size = p := ⟨_, rfl⟩
 rw [hp] at A R B hz hz2 a0'
 replace a0' : V2.cell? ⟨p, 0, none⟩ = some (.int .u8 (d.kind.toNat : Int)) := a0'
 have hwp : w.heap.size ≤ p := by omega
 clear hc3 hx3 hx hk
 replace hV1 := hide hV1
 replace hV2 := hide hV2
 replace hV3 := hide hV3
 replace hp := hide hp
 replace A := hide A
 replace E := hide E
 replace R := hide R
 replace B := hide B
 replace hz := hide hz
 replace hz2 := hide hz2
 replace hwp := hide hwp
 replace hof := hide hof
 replace hper := hide hper
 replace hc2 := hide hc2
 go_enter Tryz.func12, Tryz.ntmps12
 go_upto_region 1 with fail
 try rw [hV1.out]
 try rw [hV2.out]
 try simp only [hp.out]
 try simp only [hz.out]
 clear hV1 hV2 hp
 go_upto_region 2 with fail
 try rw [hV3.out]
 try simp only [hz2.out]
 clear hV3 hz hz2 a0'
 have a1 : V3.cell? ⟨p, 1, none⟩ = some (.int .u8 (d.conn.toNat : Int)) := A.out.cell 1
 have a2 : V3.cell? ⟨p, 2, none⟩ = some (.int .u8 (d.peer.toNat : Int)) := A.out.cell 2
 have X := Blk.new V3 5 #[.int .u8 (x.toNat : Int)]
 have A4 := A.out.alloc (Obj.cells #[.int .u8 (x.toNat : Int)] 5)
 have R4 := R.out.alloc (Obj.cells #[.int .u8 (x.toNat : Int)] 5)
 have B4 := B.out.alloc (Obj.cells #[.int .u8 (x.toNat : Int)] 5)
 have E4 := E.out.alloc (Obj.cells #[.int .u8 (x.toNat : Int)] 5)
 have hcv : (convert 65 9 (.slice (some ⟨V3.heap.size, 0, none⟩) 1 1)).run Tryz.prog (V3.alloc (Obj.cells #[.int .u8 (x.toNat : Int)] 5)) = .ok (.string ⟨#[x]⟩) (V3.alloc (Obj.cells #[.int .u8 (x.toNat : Int)] 5)) :=
  run_convert_bytes_back _ 65 9 5 ⟨V3.heap.size, 0, none⟩ 1 [x] Tryz.underlying65 Tryz.underlying5 Tryz.underlying9 fun j hj => byte_new V3 x 5 j hj
 have happ : (ByteArray.mk #[112]) ++ ⟨#[x]⟩ = (⟨#[112, x]⟩ : ByteArray) := by apply ByteArray.ext; simp
 clear X
 replace A4 := hide A4
 replace R4 := hide R4
 replace B4 := hide B4
 replace E4 := hide E4
 go_upto_region 4 with fail
 clear a1 a2 hcv A R B E
 generalize V3.alloc (Obj.cells #[.int .u8 (x.toNat : Int)] 5) = V4 at A4 R4 B4 E4 ⊢
 clear tK tC tP hw1 hw2 happ
 have b0 : V4.cell? ⟨p + 2, 0, none⟩ = some (.int .i64 6) := B4.out.cell 0
 have b1 : V4.cell? ⟨p + 2, 1, none⟩ = some (.int .i64 0) := B4.out.cell 1
 have b2 : V4.cell? ⟨p + 2, 2, none⟩ = some (.string ⟨#[]⟩) := B4.out.cell 2
 have b3 : V4.cell? ⟨p + 2, 3, none⟩ = some (.string ⟨#[]⟩) := B4.out.cell 3
 have b4 : V4.cell? ⟨p + 2, 4, none⟩ = some (.string ⟨#[]⟩) := B4.out.cell 4
 have b5 : V4.cell? ⟨p + 2, 5, none⟩ = some (.int .i64 0) := B4.out.cell 5
 have b6 : V4.cell? ⟨p + 2, 6, none⟩ = some (.int .u32 0) := B4.out.cell 6
 have bf := fun i => B4.out.frozen i
 have a3 : V4.cell? ⟨p, 3, none⟩ = some (.int .u16 (d.ticks : Int)) := A4.out.cell 3
 have tT : Int.tmod (d.ticks : Int) 4096 = ((d.ticks % 4096 : Nat) : Int) := by rw [Int.tmod_eq_emod_of_nonneg (by omega)]; omega
 have htn : d.ticks % 4096 < 4096 := Nat.mod_lt _ (by decide)
 obtain ⟨t2, ht2⟩ : ∃ t, d.ticks % 4096 + 1 = t := ⟨_, rfl⟩
 have ht3 : IntKind.i64.wrap ((1 : Int) + ((d.ticks % 4096 : Nat) : Int)) = (t2 : Int) := by rw [IntKind.wrap_i64]; omega
 generalize d.ticks % 4096 = tn at tT htn ht3
 replace ht2 := hide ht2
 have B5 : Blk (V4.setCell ⟨p + 2, 5, none⟩ (.int .i64 (t2 : Int))) (p + 2) 31 #[.int .i64 6, .int .i64 0, .string ⟨#[]⟩, .string ⟨#[]⟩, .string ⟨#[]⟩, .int .i64 (t2 : Int), .int .u32 0] := (B4.out.set_ 5 (.int .i64 (t2 : Int)))
 have R5 : Blk (V4.setCell ⟨p + 2, 5, none⟩ (.int .i64 (t2 : Int))) (p + 1) 31 #[.int .i64 0, .int .i64 0, .string ⟨#[]⟩, .string ⟨#[]⟩, .string ⟨#[]⟩, .int .i64 0, .int .u32 0] := (R4.out.far (p := ⟨p + 2, 5, none⟩) (show p + 1 ≠ p + 2 by omega) (.int .i64 (t2 : Int)))
 have E5 : Ext w (V4.setCell ⟨p + 2, 5, none⟩ (.int .i64 (t2 : Int))) := (E4.out.setCell (p := ⟨p + 2, 5, none⟩) (show w.heap.size ≤ p + 2 by have := hwp.out; omega) (.int .i64 (t2 : Int)))
 replace B5 := hide B5
 replace R5 := hide R5
 replace E5 := hide E5
 go_upto_region 27 with fail
 generalize (V4.setCell ⟨p + 2, 5, none⟩ (.int .i64 (t2 : Int))) = V5 at B5 R5 E5 ⊢
 clear b0 b1 b2 b3 b4 b5 b6 bf A4 R4 B4 E4
 have b0 : V5.cell? ⟨p + 2, 0, none⟩ = some (.int .i64 6) := B5.out.cell 0
 have b1 : V5.cell? ⟨p + 2, 1, none⟩ = some (.int .i64 0) := B5.out.cell 1
 have b2 : V5.cell? ⟨p + 2, 2, none⟩ = some (.string ⟨#[]⟩) := B5.out.cell 2
 have b3 : V5.cell? ⟨p + 2, 3, none⟩ = some (.string ⟨#[]⟩) := B5.out.cell 3
 have b4 : V5.cell? ⟨p + 2, 4, none⟩ = some (.string ⟨#[]⟩) := B5.out.cell 4
 have b5 : V5.cell? ⟨p + 2, 5, none⟩ = some (.int .i64 (t2 : Int)) := B5.out.cell 5
 have b6 : V5.cell? ⟨p + 2, 6, none⟩ = some (.int .u32 0) := B5.out.cell 6
 have r0 : V5.cell? ⟨p + 1, 0, none⟩ = some (.int .i64 0) := R5.out.cell 0
 have r1 : V5.cell? ⟨p + 1, 1, none⟩ = some (.int .i64 0) := R5.out.cell 1
 have r2 : V5.cell? ⟨p + 1, 2, none⟩ = some (.string ⟨#[]⟩) := R5.out.cell 2
 have r3 : V5.cell? ⟨p + 1, 3, none⟩ = some (.string ⟨#[]⟩) := R5.out.cell 3
 have r4 : V5.cell? ⟨p + 1, 4, none⟩ = some (.string ⟨#[]⟩) := R5.out.cell 4
 have r5 : V5.cell? ⟨p + 1, 5, none⟩ = some (.int .i64 0) := R5.out.cell 5
 have r6 : V5.cell? ⟨p + 1, 6, none⟩ = some (.int .u32 0) := R5.out.cell 6
 have rf := fun i => R5.out.frozen i
 have hE := E5.out.set7 (show w.heap.size ≤ p + 1 by have := hwp.out; omega) (.int .i64 6) (.int .i64 0) (.string ⟨#[]⟩) (.string ⟨#[]⟩) (.string ⟨#[]⟩) (.int .i64 (t2 : Int)) (.int .u32 0)
 have hRZ := R5.out.fill7 (.int .i64 6) (.int .i64 0) (.string ⟨#[]⟩) (.string ⟨#[]⟩) (.string ⟨#[]⟩) (.int .i64 (t2 : Int)) (.int .u32 0)
 have z0 := hRZ.cell 0
 have z1 := hRZ.cell 1
 have z2 := hRZ.cell 2
 have z3 := hRZ.cell 3
 have z4 := hRZ.cell 4
 have z5 := hRZ.cell 5
 have z6 := hRZ.cell 6
 simp at z0 z1 z2 z3 z4 z5 z6
 clear hRZ R5 B5 E5
 replace hE := hide hE
 go_wp2
 exact bodyPost_ret (v := .agg #[.int .i64 6, .int .i64 0, .string ⟨#[]⟩, .string ⟨#[]⟩, .string ⟨#[]⟩, .int .i64 (t2 : Int), .int .u32 0]) (by simp [results, Tryz.results12, go_sem, z0, z1, z2, z3, z4, z5, z6]) rfl ⟨by rw [hof.out, ht2.out]; rfl, hE.out⟩
set_option maxRecDepth 20000 in
set_option maxHeartbeats 4000000 in
theorem Of35_6 (d : DoS) (hk : d.kind.toNat % 10 = 6) (w : World) : Calls Tryz.prog 12 #[.agg #[.int .u8 (d.kind.toNat : Int), .int .u8 (d.conn.toNat : Int), .int .u8 (d.peer.toNat : Int), .int .u16 (d.ticks : Int), .int .u32 (d.draw.toNat : Int), .string ⟨d.bytes.toArray⟩, .int .u8 ((d.b 0).toNat : Int), .int .u8 ((d.b 1).toNat : Int), .int .u8 ((d.b 2).toNat : Int), .int .u8 ((d.b 3).toNat : Int), .int .u8 ((d.b 4).toNat : Int), .int .u8 ((d.b 5).toNat : Int), .int .u8 ((d.b 6).toNat : Int), .int .u8 ((d.b 7).toNat : Int), .int .u8 ((d.b 8).toNat : Int), .int .u8 ((d.b 9).toNat : Int), .int .u8 ((d.b 10).toNat : Int), .int .u8 ((d.b 11).toNat : Int), .int .u8 ((d.b 12).toNat : Int), .int .u8 ((d.b 13).toNat : Int), .int .u8 ((d.b 14).toNat : Int), .int .u8 ((d.b 15).toNat : Int), .bool d.six]] w fun e w' => e = .returned (.agg (evCs (ofS d)).toArray) ∧ Ext w w' := by
 have tK : Int.tmod (d.kind.toNat : Int) 10 = 6 := by rw [Int.tmod_eq_emod_of_nonneg (by omega)]; omega
 have tC : Int.tmod (d.conn.toNat : Int) 64 = ((d.conn.toNat % 64 : Nat) : Int) := by rw [Int.tmod_eq_emod_of_nonneg (by omega)]; omega
 have tP : Int.tmod (d.peer.toNat : Int) 26 = ((d.peer.toNat % 26 : Nat) : Int) := by rw [Int.tmod_eq_emod_of_nonneg (by omega)]; omega
 have hof : ofS d = ⟨7, 0, [], [], d.bytes.take 40, 0, 0⟩ := by simp only [ofS, hk]
 have hcn : d.conn.toNat % 64 < 64 := Nat.mod_lt _ (by decide)
 have hpn : d.peer.toNat % 26 < 26 := Nat.mod_lt _ (by decide)
 obtain ⟨c2, hc2⟩ : ∃ c, conS d = c := ⟨_, rfl⟩
 have hc3 : (1 : Int) + ((d.conn.toNat % 64 : Nat) : Int) = (c2 : Int) := by rw [← hc2]; unfold conS; omega
 obtain ⟨x, hx⟩ : ∃ x : UInt8, UInt8.ofNat (97 + d.peer.toNat % 26) = x := ⟨_, rfl⟩
 have hx3 : (97 : Int) + ((d.peer.toNat % 26 : Nat) : Int) = (x.toNat : Int) := by
  rw [← hx, UInt8.toNat_ofNat']; omega
 have hper : perS d = [112, x] := by unfold perS; rw [hx]
 generalize d.conn.toNat % 64 = cn at *
 generalize d.peer.toNat % 26 = pn at *
 have hw1 : IntKind.i64.wrap ((1 : Int) + (cn : Int)) = (c2 : Int) := by rw [hc3, IntKind.wrap_i64]; omega
 have hw2 : IntKind.u8.wrap ((97 : Int) + (pn : Int)) = (x.toNat : Int) := by rw [hx3, IntKind.wrap_u8]; have := x.toNat_lt; omega
 have A := Blk.new w 36 #[.int .u8 (d.kind.toNat : Int), .int .u8 (d.conn.toNat : Int), .int .u8 (d.peer.toNat : Int), .int .u16 (d.ticks : Int), .int .u32 (d.draw.toNat : Int), .string ⟨d.bytes.toArray⟩, .int .u8 ((d.b 0).toNat : Int), .int .u8 ((d.b 1).toNat : Int), .int .u8 ((d.b 2).toNat : Int), .int .u8 ((d.b 3).toNat : Int), .int .u8 ((d.b 4).toNat : Int), .int .u8 ((d.b 5).toNat : Int), .int .u8 ((d.b 6).toNat : Int), .int .u8 ((d.b 7).toNat : Int), .int .u8 ((d.b 8).toNat : Int), .int .u8 ((d.b 9).toNat : Int), .int .u8 ((d.b 10).toNat : Int), .int .u8 ((d.b 11).toNat : Int), .int .u8 ((d.b 12).toNat : Int), .int .u8 ((d.b 13).toNat : Int), .int .u8 ((d.b 14).toNat : Int), .int .u8 ((d.b 15).toNat : Int), .bool d.six]
 have E := (Ext.refl w).alloc (Obj.cells #[.int .u8 (d.kind.toNat : Int), .int .u8 (d.conn.toNat : Int), .int .u8 (d.peer.toNat : Int), .int .u16 (d.ticks : Int), .int .u32 (d.draw.toNat : Int), .string ⟨d.bytes.toArray⟩, .int .u8 ((d.b 0).toNat : Int), .int .u8 ((d.b 1).toNat : Int), .int .u8 ((d.b 2).toNat : Int), .int .u8 ((d.b 3).toNat : Int), .int .u8 ((d.b 4).toNat : Int), .int .u8 ((d.b 5).toNat : Int), .int .u8 ((d.b 6).toNat : Int), .int .u8 ((d.b 7).toNat : Int), .int .u8 ((d.b 8).toNat : Int), .int .u8 ((d.b 9).toNat : Int), .int .u8 ((d.b 10).toNat : Int), .int .u8 ((d.b 11).toNat : Int), .int .u8 ((d.b 12).toNat : Int), .int .u8 ((d.b 13).toNat : Int), .int .u8 ((d.b 14).toNat : Int), .int .u8 ((d.b 15).toNat : Int), .bool d.six] 36)
 have hz : (w.alloc (Obj.cells #[.int .u8 (d.kind.toNat : Int), .int .u8 (d.conn.toNat : Int), .int .u8 (d.peer.toNat : Int), .int .u16 (d.ticks : Int), .int .u32 (d.draw.toNat : Int), .string ⟨d.bytes.toArray⟩, .int .u8 ((d.b 0).toNat : Int), .int .u8 ((d.b 1).toNat : Int), .int .u8 ((d.b 2).toNat : Int), .int .u8 ((d.b 3).toNat : Int), .int .u8 ((d.b 4).toNat : Int), .int .u8 ((d.b 5).toNat : Int), .int .u8 ((d.b 6).toNat : Int), .int .u8 ((d.b 7).toNat : Int), .int .u8 ((d.b 8).toNat : Int), .int .u8 ((d.b 9).toNat : Int), .int .u8 ((d.b 10).toNat : Int), .int .u8 ((d.b 11).toNat : Int), .int .u8 ((d.b 12).toNat : Int), .int .u8 ((d.b 13).toNat : Int), .int .u8 ((d.b 14).toNat : Int), .int .u8 ((d.b 15).toNat : Int), .bool d.six] 36)).heap.size = w.heap.size + 1 := by simp
 generalize hV1 : w.alloc (Obj.cells #[.int .u8 (d.kind.toNat : Int), .int .u8 (d.conn.toNat : Int), .int .u8 (d.peer.toNat : Int), .int .u16 (d.ticks : Int), .int .u32 (d.draw.toNat : Int), .string ⟨d.bytes.toArray⟩, .int .u8 ((d.b 0).toNat : Int), .int .u8 ((d.b 1).toNat : Int), .int .u8 ((d.b 2).toNat : Int), .int .u8 ((d.b 3).toNat : Int), .int .u8 ((d.b 4).toNat : Int), .int .u8 ((d.b 5).toNat : Int), .int .u8 ((d.b 6).toNat : Int), .int .u8 ((d.b 7).toNat : Int), .int .u8 ((d.b 8).toNat : Int), .int .u8 ((d.b 9).toNat : Int), .int .u8 ((d.b 10).toNat : Int), .int .u8 ((d.b 11).toNat : Int), .int .u8 ((d.b 12).toNat : Int), .int .u8 ((d.b 13).toNat : Int), .int .u8 ((d.b 14).toNat : Int), .int .u8 ((d.b 15).toNat : Int), .bool d.six] 36) = V1 at A E hz
 have R := Blk.new V1 31 #[.int .i64 0, .int .i64 0, .string ⟨#[]⟩, .string ⟨#[]⟩, .string ⟨#[]⟩, .int .i64 0, .int .u32 0]
 replace E := E.alloc (Obj.cells #[.int .i64 0, .int .i64 0, .string ⟨#[]⟩, .string ⟨#[]⟩, .string ⟨#[]⟩, .int .i64 0, .int .u32 0] 31)
 replace A := A.alloc (Obj.cells #[.int .i64 0, .int .i64 0, .string ⟨#[]⟩, .string ⟨#[]⟩, .string ⟨#[]⟩, .int .i64 0, .int .u32 0] 31)
 have hz2 : (V1.alloc (Obj.cells #[.int .i64 0, .int .i64 0, .string ⟨#[]⟩, .string ⟨#[]⟩, .string ⟨#[]⟩, .int .i64 0, .int .u32 0] 31)).heap.size = w.heap.size + 2 := by simp [hz]
 rw [hz] at R
 generalize hV2 : V1.alloc (Obj.cells #[.int .i64 0, .int .i64 0, .string ⟨#[]⟩, .string ⟨#[]⟩, .string ⟨#[]⟩, .int .i64 0, .int .u32 0] 31) = V2 at A E R hz2
 have a0' := A.cell 0
 have B := Blk.new V2 31 #[.int .i64 7, .int .i64 0, .string ⟨#[]⟩, .string ⟨#[]⟩, .string ⟨#[]⟩, .int .i64 0, .int .u32 0]
 replace E := E.alloc (Obj.cells #[.int .i64 7, .int .i64 0, .string ⟨#[]⟩, .string ⟨#[]⟩, .string ⟨#[]⟩, .int .i64 0, .int .u32 0] 31)
 replace A := A.alloc (Obj.cells #[.int .i64 7, .int .i64 0, .string ⟨#[]⟩, .string ⟨#[]⟩, .string ⟨#[]⟩, .int .i64 0, .int .u32 0] 31)
 replace R := R.alloc (Obj.cells #[.int .i64 7, .int .i64 0, .string ⟨#[]⟩, .string ⟨#[]⟩, .string ⟨#[]⟩, .int .i64 0, .int .u32 0] 31)
 rw [hz2] at B
 generalize hV3 : V2.alloc (Obj.cells #[.int .i64 7, .int .i64 0, .string ⟨#[]⟩, .string ⟨#[]⟩, .string ⟨#[]⟩, .int .i64 0, .int .u32 0] 31) = V3 at A E R B
 obtain ⟨p, hp⟩ : ∃ p, w.heap.size = p := ⟨_, rfl⟩
 rw [hp] at A R B hz hz2 a0'
 replace a0' : V2.cell? ⟨p, 0, none⟩ = some (.int .u8 (d.kind.toNat : Int)) := a0'
 have hwp : w.heap.size ≤ p := by omega
 clear hc3 hx3 hx hk
 replace hV1 := hide hV1
 replace hV2 := hide hV2
 replace hV3 := hide hV3
 replace hp := hide hp
 replace A := hide A
 replace E := hide E
 replace R := hide R
 replace B := hide B
 replace hz := hide hz
 replace hz2 := hide hz2
 replace hwp := hide hwp
 replace hof := hide hof
 replace hper := hide hper
 replace hc2 := hide hc2
 go_enter Tryz.func12, Tryz.ntmps12
 go_upto_region 1 with fail
 try rw [hV1.out]
 try rw [hV2.out]
 try simp only [hp.out]
 try simp only [hz.out]
 clear hV1 hV2 hp
 go_upto_region 2 with fail
 try rw [hV3.out]
 try simp only [hz2.out]
 clear hV3 hz hz2 a0'
 have a1 : V3.cell? ⟨p, 1, none⟩ = some (.int .u8 (d.conn.toNat : Int)) := A.out.cell 1
 have a2 : V3.cell? ⟨p, 2, none⟩ = some (.int .u8 (d.peer.toNat : Int)) := A.out.cell 2
 have X := Blk.new V3 5 #[.int .u8 (x.toNat : Int)]
 have A4 := A.out.alloc (Obj.cells #[.int .u8 (x.toNat : Int)] 5)
 have R4 := R.out.alloc (Obj.cells #[.int .u8 (x.toNat : Int)] 5)
 have B4 := B.out.alloc (Obj.cells #[.int .u8 (x.toNat : Int)] 5)
 have E4 := E.out.alloc (Obj.cells #[.int .u8 (x.toNat : Int)] 5)
 have hcv : (convert 65 9 (.slice (some ⟨V3.heap.size, 0, none⟩) 1 1)).run Tryz.prog (V3.alloc (Obj.cells #[.int .u8 (x.toNat : Int)] 5)) = .ok (.string ⟨#[x]⟩) (V3.alloc (Obj.cells #[.int .u8 (x.toNat : Int)] 5)) :=
  run_convert_bytes_back _ 65 9 5 ⟨V3.heap.size, 0, none⟩ 1 [x] Tryz.underlying65 Tryz.underlying5 Tryz.underlying9 fun j hj => byte_new V3 x 5 j hj
 have happ : (ByteArray.mk #[112]) ++ ⟨#[x]⟩ = (⟨#[112, x]⟩ : ByteArray) := by apply ByteArray.ext; simp
 clear X
 replace A4 := hide A4
 replace R4 := hide R4
 replace B4 := hide B4
 replace E4 := hide E4
 go_upto_region 4 with fail
 clear a1 a2 hcv A R B E
 generalize V3.alloc (Obj.cells #[.int .u8 (x.toNat : Int)] 5) = V4 at A4 R4 B4 E4 ⊢
 clear tK tC tP hw1 hw2 happ
 have b0 : V4.cell? ⟨p + 2, 0, none⟩ = some (.int .i64 7) := B4.out.cell 0
 have b1 : V4.cell? ⟨p + 2, 1, none⟩ = some (.int .i64 0) := B4.out.cell 1
 have b2 : V4.cell? ⟨p + 2, 2, none⟩ = some (.string ⟨#[]⟩) := B4.out.cell 2
 have b3 : V4.cell? ⟨p + 2, 3, none⟩ = some (.string ⟨#[]⟩) := B4.out.cell 3
 have b4 : V4.cell? ⟨p + 2, 4, none⟩ = some (.string ⟨#[]⟩) := B4.out.cell 4
 have b5 : V4.cell? ⟨p + 2, 5, none⟩ = some (.int .i64 0) := B4.out.cell 5
 have b6 : V4.cell? ⟨p + 2, 6, none⟩ = some (.int .u32 0) := B4.out.cell 6
 have bf := fun i => B4.out.frozen i
 have a5 : V4.cell? ⟨p, 5, none⟩ = some (.string ⟨d.bytes.toArray⟩) := A4.out.cell 5
 obtain ⟨m, hm⟩ : ∃ m, min d.bytes.length 40 = m := ⟨_, rfl⟩
 have hmn : (min (d.bytes.length : Int) 40) = (m : Int) := by omega
 have hml : m ≤ d.bytes.length := by omega
 have hxt : (ByteArray.mk d.bytes.toArray).extract 0 m = ⟨(d.bytes.take 40).toArray⟩ := by rw [ba_extract]; simp only [List.drop_zero, Nat.sub_zero]; rw [← hm]; congr 2; rw [List.take_eq_take_iff]; omega
 generalize d.bytes.take 40 = bt at hxt hof
 clear hm
 have B5 : Blk (V4.setCell ⟨p + 2, 4, none⟩ (.string ⟨bt.toArray⟩)) (p + 2) 31 #[.int .i64 7, .int .i64 0, .string ⟨#[]⟩, .string ⟨#[]⟩, .string ⟨bt.toArray⟩, .int .i64 0, .int .u32 0] := (B4.out.set_ 4 (.string ⟨bt.toArray⟩))
 have R5 : Blk (V4.setCell ⟨p + 2, 4, none⟩ (.string ⟨bt.toArray⟩)) (p + 1) 31 #[.int .i64 0, .int .i64 0, .string ⟨#[]⟩, .string ⟨#[]⟩, .string ⟨#[]⟩, .int .i64 0, .int .u32 0] := (R4.out.far (p := ⟨p + 2, 4, none⟩) (show p + 1 ≠ p + 2 by omega) (.string ⟨bt.toArray⟩))
 have E5 : Ext w (V4.setCell ⟨p + 2, 4, none⟩ (.string ⟨bt.toArray⟩)) := (E4.out.setCell (p := ⟨p + 2, 4, none⟩) (show w.heap.size ≤ p + 2 by have := hwp.out; omega) (.string ⟨bt.toArray⟩))
 replace B5 := hide B5
 replace R5 := hide R5
 replace E5 := hide E5
 go_upto_region 27 with fail
 generalize (V4.setCell ⟨p + 2, 4, none⟩ (.string ⟨bt.toArray⟩)) = V5 at B5 R5 E5 ⊢
 clear b0 b1 b2 b3 b4 b5 b6 bf A4 R4 B4 E4
 have b0 : V5.cell? ⟨p + 2, 0, none⟩ = some (.int .i64 7) := B5.out.cell 0
 have b1 : V5.cell? ⟨p + 2, 1, none⟩ = some (.int .i64 0) := B5.out.cell 1
 have b2 : V5.cell? ⟨p + 2, 2, none⟩ = some (.string ⟨#[]⟩) := B5.out.cell 2
 have b3 : V5.cell? ⟨p + 2, 3, none⟩ = some (.string ⟨#[]⟩) := B5.out.cell 3
 have b4 : V5.cell? ⟨p + 2, 4, none⟩ = some (.string ⟨bt.toArray⟩) := B5.out.cell 4
 have b5 : V5.cell? ⟨p + 2, 5, none⟩ = some (.int .i64 0) := B5.out.cell 5
 have b6 : V5.cell? ⟨p + 2, 6, none⟩ = some (.int .u32 0) := B5.out.cell 6
 have r0 : V5.cell? ⟨p + 1, 0, none⟩ = some (.int .i64 0) := R5.out.cell 0
 have r1 : V5.cell? ⟨p + 1, 1, none⟩ = some (.int .i64 0) := R5.out.cell 1
 have r2 : V5.cell? ⟨p + 1, 2, none⟩ = some (.string ⟨#[]⟩) := R5.out.cell 2
 have r3 : V5.cell? ⟨p + 1, 3, none⟩ = some (.string ⟨#[]⟩) := R5.out.cell 3
 have r4 : V5.cell? ⟨p + 1, 4, none⟩ = some (.string ⟨#[]⟩) := R5.out.cell 4
 have r5 : V5.cell? ⟨p + 1, 5, none⟩ = some (.int .i64 0) := R5.out.cell 5
 have r6 : V5.cell? ⟨p + 1, 6, none⟩ = some (.int .u32 0) := R5.out.cell 6
 have rf := fun i => R5.out.frozen i
 have hE := E5.out.set7 (show w.heap.size ≤ p + 1 by have := hwp.out; omega) (.int .i64 7) (.int .i64 0) (.string ⟨#[]⟩) (.string ⟨#[]⟩) (.string ⟨bt.toArray⟩) (.int .i64 0) (.int .u32 0)
 have hRZ := R5.out.fill7 (.int .i64 7) (.int .i64 0) (.string ⟨#[]⟩) (.string ⟨#[]⟩) (.string ⟨bt.toArray⟩) (.int .i64 0) (.int .u32 0)
 have z0 := hRZ.cell 0
 have z1 := hRZ.cell 1
 have z2 := hRZ.cell 2
 have z3 := hRZ.cell 3
 have z4 := hRZ.cell 4
 have z5 := hRZ.cell 5
 have z6 := hRZ.cell 6
 simp at z0 z1 z2 z3 z4 z5 z6
 clear hRZ R5 B5 E5
 replace hE := hide hE
 go_wp2
 exact bodyPost_ret (v := .agg #[.int .i64 7, .int .i64 0, .string ⟨#[]⟩, .string ⟨#[]⟩, .string ⟨bt.toArray⟩, .int .i64 0, .int .u32 0]) (by simp [results, Tryz.results12, go_sem, z0, z1, z2, z3, z4, z5, z6]) rfl ⟨by rw [hof.out]; rfl, hE.out⟩
set_option maxRecDepth 20000 in
set_option maxHeartbeats 4000000 in
theorem Of35_7 (d : DoS) (hk : d.kind.toNat % 10 = 7) (w : World) : Calls Tryz.prog 12 #[.agg #[.int .u8 (d.kind.toNat : Int), .int .u8 (d.conn.toNat : Int), .int .u8 (d.peer.toNat : Int), .int .u16 (d.ticks : Int), .int .u32 (d.draw.toNat : Int), .string ⟨d.bytes.toArray⟩, .int .u8 ((d.b 0).toNat : Int), .int .u8 ((d.b 1).toNat : Int), .int .u8 ((d.b 2).toNat : Int), .int .u8 ((d.b 3).toNat : Int), .int .u8 ((d.b 4).toNat : Int), .int .u8 ((d.b 5).toNat : Int), .int .u8 ((d.b 6).toNat : Int), .int .u8 ((d.b 7).toNat : Int), .int .u8 ((d.b 8).toNat : Int), .int .u8 ((d.b 9).toNat : Int), .int .u8 ((d.b 10).toNat : Int), .int .u8 ((d.b 11).toNat : Int), .int .u8 ((d.b 12).toNat : Int), .int .u8 ((d.b 13).toNat : Int), .int .u8 ((d.b 14).toNat : Int), .int .u8 ((d.b 15).toNat : Int), .bool d.six]] w fun e w' => e = .returned (.agg (evCs (ofS d)).toArray) ∧ Ext w w' := by
 have tK : Int.tmod (d.kind.toNat : Int) 10 = 7 := by rw [Int.tmod_eq_emod_of_nonneg (by omega)]; omega
 have tC : Int.tmod (d.conn.toNat : Int) 64 = ((d.conn.toNat % 64 : Nat) : Int) := by rw [Int.tmod_eq_emod_of_nonneg (by omega)]; omega
 have tP : Int.tmod (d.peer.toNat : Int) 26 = ((d.peer.toNat % 26 : Nat) : Int) := by rw [Int.tmod_eq_emod_of_nonneg (by omega)]; omega
 have hof : ofS d = ⟨8, 0, [], [], d.bytes.take 40, 0, 0⟩ := by simp only [ofS, hk]
 have hcn : d.conn.toNat % 64 < 64 := Nat.mod_lt _ (by decide)
 have hpn : d.peer.toNat % 26 < 26 := Nat.mod_lt _ (by decide)
 obtain ⟨c2, hc2⟩ : ∃ c, conS d = c := ⟨_, rfl⟩
 have hc3 : (1 : Int) + ((d.conn.toNat % 64 : Nat) : Int) = (c2 : Int) := by rw [← hc2]; unfold conS; omega
 obtain ⟨x, hx⟩ : ∃ x : UInt8, UInt8.ofNat (97 + d.peer.toNat % 26) = x := ⟨_, rfl⟩
 have hx3 : (97 : Int) + ((d.peer.toNat % 26 : Nat) : Int) = (x.toNat : Int) := by
  rw [← hx, UInt8.toNat_ofNat']; omega
 have hper : perS d = [112, x] := by unfold perS; rw [hx]
 generalize d.conn.toNat % 64 = cn at *
 generalize d.peer.toNat % 26 = pn at *
 have hw1 : IntKind.i64.wrap ((1 : Int) + (cn : Int)) = (c2 : Int) := by rw [hc3, IntKind.wrap_i64]; omega
 have hw2 : IntKind.u8.wrap ((97 : Int) + (pn : Int)) = (x.toNat : Int) := by rw [hx3, IntKind.wrap_u8]; have := x.toNat_lt; omega
 have A := Blk.new w 36 #[.int .u8 (d.kind.toNat : Int), .int .u8 (d.conn.toNat : Int), .int .u8 (d.peer.toNat : Int), .int .u16 (d.ticks : Int), .int .u32 (d.draw.toNat : Int), .string ⟨d.bytes.toArray⟩, .int .u8 ((d.b 0).toNat : Int), .int .u8 ((d.b 1).toNat : Int), .int .u8 ((d.b 2).toNat : Int), .int .u8 ((d.b 3).toNat : Int), .int .u8 ((d.b 4).toNat : Int), .int .u8 ((d.b 5).toNat : Int), .int .u8 ((d.b 6).toNat : Int), .int .u8 ((d.b 7).toNat : Int), .int .u8 ((d.b 8).toNat : Int), .int .u8 ((d.b 9).toNat : Int), .int .u8 ((d.b 10).toNat : Int), .int .u8 ((d.b 11).toNat : Int), .int .u8 ((d.b 12).toNat : Int), .int .u8 ((d.b 13).toNat : Int), .int .u8 ((d.b 14).toNat : Int), .int .u8 ((d.b 15).toNat : Int), .bool d.six]
 have E := (Ext.refl w).alloc (Obj.cells #[.int .u8 (d.kind.toNat : Int), .int .u8 (d.conn.toNat : Int), .int .u8 (d.peer.toNat : Int), .int .u16 (d.ticks : Int), .int .u32 (d.draw.toNat : Int), .string ⟨d.bytes.toArray⟩, .int .u8 ((d.b 0).toNat : Int), .int .u8 ((d.b 1).toNat : Int), .int .u8 ((d.b 2).toNat : Int), .int .u8 ((d.b 3).toNat : Int), .int .u8 ((d.b 4).toNat : Int), .int .u8 ((d.b 5).toNat : Int), .int .u8 ((d.b 6).toNat : Int), .int .u8 ((d.b 7).toNat : Int), .int .u8 ((d.b 8).toNat : Int), .int .u8 ((d.b 9).toNat : Int), .int .u8 ((d.b 10).toNat : Int), .int .u8 ((d.b 11).toNat : Int), .int .u8 ((d.b 12).toNat : Int), .int .u8 ((d.b 13).toNat : Int), .int .u8 ((d.b 14).toNat : Int), .int .u8 ((d.b 15).toNat : Int), .bool d.six] 36)
 have hz : (w.alloc (Obj.cells #[.int .u8 (d.kind.toNat : Int), .int .u8 (d.conn.toNat : Int), .int .u8 (d.peer.toNat : Int), .int .u16 (d.ticks : Int), .int .u32 (d.draw.toNat : Int), .string ⟨d.bytes.toArray⟩, .int .u8 ((d.b 0).toNat : Int), .int .u8 ((d.b 1).toNat : Int), .int .u8 ((d.b 2).toNat : Int), .int .u8 ((d.b 3).toNat : Int), .int .u8 ((d.b 4).toNat : Int), .int .u8 ((d.b 5).toNat : Int), .int .u8 ((d.b 6).toNat : Int), .int .u8 ((d.b 7).toNat : Int), .int .u8 ((d.b 8).toNat : Int), .int .u8 ((d.b 9).toNat : Int), .int .u8 ((d.b 10).toNat : Int), .int .u8 ((d.b 11).toNat : Int), .int .u8 ((d.b 12).toNat : Int), .int .u8 ((d.b 13).toNat : Int), .int .u8 ((d.b 14).toNat : Int), .int .u8 ((d.b 15).toNat : Int), .bool d.six] 36)).heap.size = w.heap.size + 1 := by simp
 generalize hV1 : w.alloc (Obj.cells #[.int .u8 (d.kind.toNat : Int), .int .u8 (d.conn.toNat : Int), .int .u8 (d.peer.toNat : Int), .int .u16 (d.ticks : Int), .int .u32 (d.draw.toNat : Int), .string ⟨d.bytes.toArray⟩, .int .u8 ((d.b 0).toNat : Int), .int .u8 ((d.b 1).toNat : Int), .int .u8 ((d.b 2).toNat : Int), .int .u8 ((d.b 3).toNat : Int), .int .u8 ((d.b 4).toNat : Int), .int .u8 ((d.b 5).toNat : Int), .int .u8 ((d.b 6).toNat : Int), .int .u8 ((d.b 7).toNat : Int), .int .u8 ((d.b 8).toNat : Int), .int .u8 ((d.b 9).toNat : Int), .int .u8 ((d.b 10).toNat : Int), .int .u8 ((d.b 11).toNat : Int), .int .u8 ((d.b 12).toNat : Int), .int .u8 ((d.b 13).toNat : Int), .int .u8 ((d.b 14).toNat : Int), .int .u8 ((d.b 15).toNat : Int), .bool d.six] 36) = V1 at A E hz
 have R := Blk.new V1 31 #[.int .i64 0, .int .i64 0, .string ⟨#[]⟩, .string ⟨#[]⟩, .string ⟨#[]⟩, .int .i64 0, .int .u32 0]
 replace E := E.alloc (Obj.cells #[.int .i64 0, .int .i64 0, .string ⟨#[]⟩, .string ⟨#[]⟩, .string ⟨#[]⟩, .int .i64 0, .int .u32 0] 31)
 replace A := A.alloc (Obj.cells #[.int .i64 0, .int .i64 0, .string ⟨#[]⟩, .string ⟨#[]⟩, .string ⟨#[]⟩, .int .i64 0, .int .u32 0] 31)
 have hz2 : (V1.alloc (Obj.cells #[.int .i64 0, .int .i64 0, .string ⟨#[]⟩, .string ⟨#[]⟩, .string ⟨#[]⟩, .int .i64 0, .int .u32 0] 31)).heap.size = w.heap.size + 2 := by simp [hz]
 rw [hz] at R
 generalize hV2 : V1.alloc (Obj.cells #[.int .i64 0, .int .i64 0, .string ⟨#[]⟩, .string ⟨#[]⟩, .string ⟨#[]⟩, .int .i64 0, .int .u32 0] 31) = V2 at A E R hz2
 have a0' := A.cell 0
 have B := Blk.new V2 31 #[.int .i64 8, .int .i64 0, .string ⟨#[]⟩, .string ⟨#[]⟩, .string ⟨#[]⟩, .int .i64 0, .int .u32 0]
 replace E := E.alloc (Obj.cells #[.int .i64 8, .int .i64 0, .string ⟨#[]⟩, .string ⟨#[]⟩, .string ⟨#[]⟩, .int .i64 0, .int .u32 0] 31)
 replace A := A.alloc (Obj.cells #[.int .i64 8, .int .i64 0, .string ⟨#[]⟩, .string ⟨#[]⟩, .string ⟨#[]⟩, .int .i64 0, .int .u32 0] 31)
 replace R := R.alloc (Obj.cells #[.int .i64 8, .int .i64 0, .string ⟨#[]⟩, .string ⟨#[]⟩, .string ⟨#[]⟩, .int .i64 0, .int .u32 0] 31)
 rw [hz2] at B
 generalize hV3 : V2.alloc (Obj.cells #[.int .i64 8, .int .i64 0, .string ⟨#[]⟩, .string ⟨#[]⟩, .string ⟨#[]⟩, .int .i64 0, .int .u32 0] 31) = V3 at A E R B
 obtain ⟨p, hp⟩ : ∃ p, w.heap.size = p := ⟨_, rfl⟩
 rw [hp] at A R B hz hz2 a0'
 replace a0' : V2.cell? ⟨p, 0, none⟩ = some (.int .u8 (d.kind.toNat : Int)) := a0'
 have hwp : w.heap.size ≤ p := by omega
 clear hc3 hx3 hx hk
 replace hV1 := hide hV1
 replace hV2 := hide hV2
 replace hV3 := hide hV3
 replace hp := hide hp
 replace A := hide A
 replace E := hide E
 replace R := hide R
 replace B := hide B
 replace hz := hide hz
 replace hz2 := hide hz2
 replace hwp := hide hwp
 replace hof := hide hof
 replace hper := hide hper
 replace hc2 := hide hc2
 go_enter Tryz.func12, Tryz.ntmps12
 go_upto_region 1 with fail
 try rw [hV1.out]
 try rw [hV2.out]
 try simp only [hp.out]
 try simp only [hz.out]
 clear hV1 hV2 hp
 go_upto_region 2 with fail
 try rw [hV3.out]
 try simp only [hz2.out]
 clear hV3 hz hz2 a0'
 have a1 : V3.cell? ⟨p, 1, none⟩ = some (.int .u8 (d.conn.toNat : Int)) := A.out.cell 1
 have a2 : V3.cell? ⟨p, 2, none⟩ = some (.int .u8 (d.peer.toNat : Int)) := A.out.cell 2
 have X := Blk.new V3 5 #[.int .u8 (x.toNat : Int)]
 have A4 := A.out.alloc (Obj.cells #[.int .u8 (x.toNat : Int)] 5)
 have R4 := R.out.alloc (Obj.cells #[.int .u8 (x.toNat : Int)] 5)
 have B4 := B.out.alloc (Obj.cells #[.int .u8 (x.toNat : Int)] 5)
 have E4 := E.out.alloc (Obj.cells #[.int .u8 (x.toNat : Int)] 5)
 have hcv : (convert 65 9 (.slice (some ⟨V3.heap.size, 0, none⟩) 1 1)).run Tryz.prog (V3.alloc (Obj.cells #[.int .u8 (x.toNat : Int)] 5)) = .ok (.string ⟨#[x]⟩) (V3.alloc (Obj.cells #[.int .u8 (x.toNat : Int)] 5)) :=
  run_convert_bytes_back _ 65 9 5 ⟨V3.heap.size, 0, none⟩ 1 [x] Tryz.underlying65 Tryz.underlying5 Tryz.underlying9 fun j hj => byte_new V3 x 5 j hj
 have happ : (ByteArray.mk #[112]) ++ ⟨#[x]⟩ = (⟨#[112, x]⟩ : ByteArray) := by apply ByteArray.ext; simp
 clear X
 replace A4 := hide A4
 replace R4 := hide R4
 replace B4 := hide B4
 replace E4 := hide E4
 go_upto_region 4 with fail
 clear a1 a2 hcv A R B E
 generalize V3.alloc (Obj.cells #[.int .u8 (x.toNat : Int)] 5) = V4 at A4 R4 B4 E4 ⊢
 clear tK tC tP hw1 hw2 happ
 have b0 : V4.cell? ⟨p + 2, 0, none⟩ = some (.int .i64 8) := B4.out.cell 0
 have b1 : V4.cell? ⟨p + 2, 1, none⟩ = some (.int .i64 0) := B4.out.cell 1
 have b2 : V4.cell? ⟨p + 2, 2, none⟩ = some (.string ⟨#[]⟩) := B4.out.cell 2
 have b3 : V4.cell? ⟨p + 2, 3, none⟩ = some (.string ⟨#[]⟩) := B4.out.cell 3
 have b4 : V4.cell? ⟨p + 2, 4, none⟩ = some (.string ⟨#[]⟩) := B4.out.cell 4
 have b5 : V4.cell? ⟨p + 2, 5, none⟩ = some (.int .i64 0) := B4.out.cell 5
 have b6 : V4.cell? ⟨p + 2, 6, none⟩ = some (.int .u32 0) := B4.out.cell 6
 have bf := fun i => B4.out.frozen i
 have a5 : V4.cell? ⟨p, 5, none⟩ = some (.string ⟨d.bytes.toArray⟩) := A4.out.cell 5
 obtain ⟨m, hm⟩ : ∃ m, min d.bytes.length 40 = m := ⟨_, rfl⟩
 have hmn : (min (d.bytes.length : Int) 40) = (m : Int) := by omega
 have hml : m ≤ d.bytes.length := by omega
 have hxt : (ByteArray.mk d.bytes.toArray).extract 0 m = ⟨(d.bytes.take 40).toArray⟩ := by rw [ba_extract]; simp only [List.drop_zero, Nat.sub_zero]; rw [← hm]; congr 2; rw [List.take_eq_take_iff]; omega
 generalize d.bytes.take 40 = bt at hxt hof
 clear hm
 have B5 : Blk (V4.setCell ⟨p + 2, 4, none⟩ (.string ⟨bt.toArray⟩)) (p + 2) 31 #[.int .i64 8, .int .i64 0, .string ⟨#[]⟩, .string ⟨#[]⟩, .string ⟨bt.toArray⟩, .int .i64 0, .int .u32 0] := (B4.out.set_ 4 (.string ⟨bt.toArray⟩))
 have R5 : Blk (V4.setCell ⟨p + 2, 4, none⟩ (.string ⟨bt.toArray⟩)) (p + 1) 31 #[.int .i64 0, .int .i64 0, .string ⟨#[]⟩, .string ⟨#[]⟩, .string ⟨#[]⟩, .int .i64 0, .int .u32 0] := (R4.out.far (p := ⟨p + 2, 4, none⟩) (show p + 1 ≠ p + 2 by omega) (.string ⟨bt.toArray⟩))
 have E5 : Ext w (V4.setCell ⟨p + 2, 4, none⟩ (.string ⟨bt.toArray⟩)) := (E4.out.setCell (p := ⟨p + 2, 4, none⟩) (show w.heap.size ≤ p + 2 by have := hwp.out; omega) (.string ⟨bt.toArray⟩))
 replace B5 := hide B5
 replace R5 := hide R5
 replace E5 := hide E5
 go_upto_region 27 with fail
 generalize (V4.setCell ⟨p + 2, 4, none⟩ (.string ⟨bt.toArray⟩)) = V5 at B5 R5 E5 ⊢
 clear b0 b1 b2 b3 b4 b5 b6 bf A4 R4 B4 E4
 have b0 : V5.cell? ⟨p + 2, 0, none⟩ = some (.int .i64 8) := B5.out.cell 0
 have b1 : V5.cell? ⟨p + 2, 1, none⟩ = some (.int .i64 0) := B5.out.cell 1
 have b2 : V5.cell? ⟨p + 2, 2, none⟩ = some (.string ⟨#[]⟩) := B5.out.cell 2
 have b3 : V5.cell? ⟨p + 2, 3, none⟩ = some (.string ⟨#[]⟩) := B5.out.cell 3
 have b4 : V5.cell? ⟨p + 2, 4, none⟩ = some (.string ⟨bt.toArray⟩) := B5.out.cell 4
 have b5 : V5.cell? ⟨p + 2, 5, none⟩ = some (.int .i64 0) := B5.out.cell 5
 have b6 : V5.cell? ⟨p + 2, 6, none⟩ = some (.int .u32 0) := B5.out.cell 6
 have r0 : V5.cell? ⟨p + 1, 0, none⟩ = some (.int .i64 0) := R5.out.cell 0
 have r1 : V5.cell? ⟨p + 1, 1, none⟩ = some (.int .i64 0) := R5.out.cell 1
 have r2 : V5.cell? ⟨p + 1, 2, none⟩ = some (.string ⟨#[]⟩) := R5.out.cell 2
 have r3 : V5.cell? ⟨p + 1, 3, none⟩ = some (.string ⟨#[]⟩) := R5.out.cell 3
 have r4 : V5.cell? ⟨p + 1, 4, none⟩ = some (.string ⟨#[]⟩) := R5.out.cell 4
 have r5 : V5.cell? ⟨p + 1, 5, none⟩ = some (.int .i64 0) := R5.out.cell 5
 have r6 : V5.cell? ⟨p + 1, 6, none⟩ = some (.int .u32 0) := R5.out.cell 6
 have rf := fun i => R5.out.frozen i
 have hE := E5.out.set7 (show w.heap.size ≤ p + 1 by have := hwp.out; omega) (.int .i64 8) (.int .i64 0) (.string ⟨#[]⟩) (.string ⟨#[]⟩) (.string ⟨bt.toArray⟩) (.int .i64 0) (.int .u32 0)
 have hRZ := R5.out.fill7 (.int .i64 8) (.int .i64 0) (.string ⟨#[]⟩) (.string ⟨#[]⟩) (.string ⟨bt.toArray⟩) (.int .i64 0) (.int .u32 0)
 have z0 := hRZ.cell 0
 have z1 := hRZ.cell 1
 have z2 := hRZ.cell 2
 have z3 := hRZ.cell 3
 have z4 := hRZ.cell 4
 have z5 := hRZ.cell 5
 have z6 := hRZ.cell 6
 simp at z0 z1 z2 z3 z4 z5 z6
 clear hRZ R5 B5 E5
 replace hE := hide hE
 go_wp2
 exact bodyPost_ret (v := .agg #[.int .i64 8, .int .i64 0, .string ⟨#[]⟩, .string ⟨#[]⟩, .string ⟨bt.toArray⟩, .int .i64 0, .int .u32 0]) (by simp [results, Tryz.results12, go_sem, z0, z1, z2, z3, z4, z5, z6]) rfl ⟨by rw [hof.out]; rfl, hE.out⟩
set_option maxRecDepth 20000 in
set_option maxHeartbeats 4000000 in
theorem Of35_8 (d : DoS) (hk : d.kind.toNat % 10 = 8) (w : World) : Calls Tryz.prog 12 #[.agg #[.int .u8 (d.kind.toNat : Int), .int .u8 (d.conn.toNat : Int), .int .u8 (d.peer.toNat : Int), .int .u16 (d.ticks : Int), .int .u32 (d.draw.toNat : Int), .string ⟨d.bytes.toArray⟩, .int .u8 ((d.b 0).toNat : Int), .int .u8 ((d.b 1).toNat : Int), .int .u8 ((d.b 2).toNat : Int), .int .u8 ((d.b 3).toNat : Int), .int .u8 ((d.b 4).toNat : Int), .int .u8 ((d.b 5).toNat : Int), .int .u8 ((d.b 6).toNat : Int), .int .u8 ((d.b 7).toNat : Int), .int .u8 ((d.b 8).toNat : Int), .int .u8 ((d.b 9).toNat : Int), .int .u8 ((d.b 10).toNat : Int), .int .u8 ((d.b 11).toNat : Int), .int .u8 ((d.b 12).toNat : Int), .int .u8 ((d.b 13).toNat : Int), .int .u8 ((d.b 14).toNat : Int), .int .u8 ((d.b 15).toNat : Int), .bool d.six]] w fun e w' => e = .returned (.agg (evCs (ofS d)).toArray) ∧ Ext w w' := by
 have tK : Int.tmod (d.kind.toNat : Int) 10 = 8 := by rw [Int.tmod_eq_emod_of_nonneg (by omega)]; omega
 have tC : Int.tmod (d.conn.toNat : Int) 64 = ((d.conn.toNat % 64 : Nat) : Int) := by rw [Int.tmod_eq_emod_of_nonneg (by omega)]; omega
 have tP : Int.tmod (d.peer.toNat : Int) 26 = ((d.peer.toNat % 26 : Nat) : Int) := by rw [Int.tmod_eq_emod_of_nonneg (by omega)]; omega
 have hof : ofS d = ⟨9, 0, [], [], [], 0, d.draw⟩ := by simp only [ofS, hk]
 have hcn : d.conn.toNat % 64 < 64 := Nat.mod_lt _ (by decide)
 have hpn : d.peer.toNat % 26 < 26 := Nat.mod_lt _ (by decide)
 obtain ⟨c2, hc2⟩ : ∃ c, conS d = c := ⟨_, rfl⟩
 have hc3 : (1 : Int) + ((d.conn.toNat % 64 : Nat) : Int) = (c2 : Int) := by rw [← hc2]; unfold conS; omega
 obtain ⟨x, hx⟩ : ∃ x : UInt8, UInt8.ofNat (97 + d.peer.toNat % 26) = x := ⟨_, rfl⟩
 have hx3 : (97 : Int) + ((d.peer.toNat % 26 : Nat) : Int) = (x.toNat : Int) := by
  rw [← hx, UInt8.toNat_ofNat']; omega
 have hper : perS d = [112, x] := by unfold perS; rw [hx]
 generalize d.conn.toNat % 64 = cn at *
 generalize d.peer.toNat % 26 = pn at *
 have hw1 : IntKind.i64.wrap ((1 : Int) + (cn : Int)) = (c2 : Int) := by rw [hc3, IntKind.wrap_i64]; omega
 have hw2 : IntKind.u8.wrap ((97 : Int) + (pn : Int)) = (x.toNat : Int) := by rw [hx3, IntKind.wrap_u8]; have := x.toNat_lt; omega
 have A := Blk.new w 36 #[.int .u8 (d.kind.toNat : Int), .int .u8 (d.conn.toNat : Int), .int .u8 (d.peer.toNat : Int), .int .u16 (d.ticks : Int), .int .u32 (d.draw.toNat : Int), .string ⟨d.bytes.toArray⟩, .int .u8 ((d.b 0).toNat : Int), .int .u8 ((d.b 1).toNat : Int), .int .u8 ((d.b 2).toNat : Int), .int .u8 ((d.b 3).toNat : Int), .int .u8 ((d.b 4).toNat : Int), .int .u8 ((d.b 5).toNat : Int), .int .u8 ((d.b 6).toNat : Int), .int .u8 ((d.b 7).toNat : Int), .int .u8 ((d.b 8).toNat : Int), .int .u8 ((d.b 9).toNat : Int), .int .u8 ((d.b 10).toNat : Int), .int .u8 ((d.b 11).toNat : Int), .int .u8 ((d.b 12).toNat : Int), .int .u8 ((d.b 13).toNat : Int), .int .u8 ((d.b 14).toNat : Int), .int .u8 ((d.b 15).toNat : Int), .bool d.six]
 have E := (Ext.refl w).alloc (Obj.cells #[.int .u8 (d.kind.toNat : Int), .int .u8 (d.conn.toNat : Int), .int .u8 (d.peer.toNat : Int), .int .u16 (d.ticks : Int), .int .u32 (d.draw.toNat : Int), .string ⟨d.bytes.toArray⟩, .int .u8 ((d.b 0).toNat : Int), .int .u8 ((d.b 1).toNat : Int), .int .u8 ((d.b 2).toNat : Int), .int .u8 ((d.b 3).toNat : Int), .int .u8 ((d.b 4).toNat : Int), .int .u8 ((d.b 5).toNat : Int), .int .u8 ((d.b 6).toNat : Int), .int .u8 ((d.b 7).toNat : Int), .int .u8 ((d.b 8).toNat : Int), .int .u8 ((d.b 9).toNat : Int), .int .u8 ((d.b 10).toNat : Int), .int .u8 ((d.b 11).toNat : Int), .int .u8 ((d.b 12).toNat : Int), .int .u8 ((d.b 13).toNat : Int), .int .u8 ((d.b 14).toNat : Int), .int .u8 ((d.b 15).toNat : Int), .bool d.six] 36)
 have hz : (w.alloc (Obj.cells #[.int .u8 (d.kind.toNat : Int), .int .u8 (d.conn.toNat : Int), .int .u8 (d.peer.toNat : Int), .int .u16 (d.ticks : Int), .int .u32 (d.draw.toNat : Int), .string ⟨d.bytes.toArray⟩, .int .u8 ((d.b 0).toNat : Int), .int .u8 ((d.b 1).toNat : Int), .int .u8 ((d.b 2).toNat : Int), .int .u8 ((d.b 3).toNat : Int), .int .u8 ((d.b 4).toNat : Int), .int .u8 ((d.b 5).toNat : Int), .int .u8 ((d.b 6).toNat : Int), .int .u8 ((d.b 7).toNat : Int), .int .u8 ((d.b 8).toNat : Int), .int .u8 ((d.b 9).toNat : Int), .int .u8 ((d.b 10).toNat : Int), .int .u8 ((d.b 11).toNat : Int), .int .u8 ((d.b 12).toNat : Int), .int .u8 ((d.b 13).toNat : Int), .int .u8 ((d.b 14).toNat : Int), .int .u8 ((d.b 15).toNat : Int), .bool d.six] 36)).heap.size = w.heap.size + 1 := by simp
 generalize hV1 : w.alloc (Obj.cells #[.int .u8 (d.kind.toNat : Int), .int .u8 (d.conn.toNat : Int), .int .u8 (d.peer.toNat : Int), .int .u16 (d.ticks : Int), .int .u32 (d.draw.toNat : Int), .string ⟨d.bytes.toArray⟩, .int .u8 ((d.b 0).toNat : Int), .int .u8 ((d.b 1).toNat : Int), .int .u8 ((d.b 2).toNat : Int), .int .u8 ((d.b 3).toNat : Int), .int .u8 ((d.b 4).toNat : Int), .int .u8 ((d.b 5).toNat : Int), .int .u8 ((d.b 6).toNat : Int), .int .u8 ((d.b 7).toNat : Int), .int .u8 ((d.b 8).toNat : Int), .int .u8 ((d.b 9).toNat : Int), .int .u8 ((d.b 10).toNat : Int), .int .u8 ((d.b 11).toNat : Int), .int .u8 ((d.b 12).toNat : Int), .int .u8 ((d.b 13).toNat : Int), .int .u8 ((d.b 14).toNat : Int), .int .u8 ((d.b 15).toNat : Int), .bool d.six] 36) = V1 at A E hz
 have R := Blk.new V1 31 #[.int .i64 0, .int .i64 0, .string ⟨#[]⟩, .string ⟨#[]⟩, .string ⟨#[]⟩, .int .i64 0, .int .u32 0]
 replace E := E.alloc (Obj.cells #[.int .i64 0, .int .i64 0, .string ⟨#[]⟩, .string ⟨#[]⟩, .string ⟨#[]⟩, .int .i64 0, .int .u32 0] 31)
 replace A := A.alloc (Obj.cells #[.int .i64 0, .int .i64 0, .string ⟨#[]⟩, .string ⟨#[]⟩, .string ⟨#[]⟩, .int .i64 0, .int .u32 0] 31)
 have hz2 : (V1.alloc (Obj.cells #[.int .i64 0, .int .i64 0, .string ⟨#[]⟩, .string ⟨#[]⟩, .string ⟨#[]⟩, .int .i64 0, .int .u32 0] 31)).heap.size = w.heap.size + 2 := by simp [hz]
 rw [hz] at R
 generalize hV2 : V1.alloc (Obj.cells #[.int .i64 0, .int .i64 0, .string ⟨#[]⟩, .string ⟨#[]⟩, .string ⟨#[]⟩, .int .i64 0, .int .u32 0] 31) = V2 at A E R hz2
 have a0' := A.cell 0
 have B := Blk.new V2 31 #[.int .i64 9, .int .i64 0, .string ⟨#[]⟩, .string ⟨#[]⟩, .string ⟨#[]⟩, .int .i64 0, .int .u32 0]
 replace E := E.alloc (Obj.cells #[.int .i64 9, .int .i64 0, .string ⟨#[]⟩, .string ⟨#[]⟩, .string ⟨#[]⟩, .int .i64 0, .int .u32 0] 31)
 replace A := A.alloc (Obj.cells #[.int .i64 9, .int .i64 0, .string ⟨#[]⟩, .string ⟨#[]⟩, .string ⟨#[]⟩, .int .i64 0, .int .u32 0] 31)
 replace R := R.alloc (Obj.cells #[.int .i64 9, .int .i64 0, .string ⟨#[]⟩, .string ⟨#[]⟩, .string ⟨#[]⟩, .int .i64 0, .int .u32 0] 31)
 rw [hz2] at B
 generalize hV3 : V2.alloc (Obj.cells #[.int .i64 9, .int .i64 0, .string ⟨#[]⟩, .string ⟨#[]⟩, .string ⟨#[]⟩, .int .i64 0, .int .u32 0] 31) = V3 at A E R B
 obtain ⟨p, hp⟩ : ∃ p, w.heap.size = p := ⟨_, rfl⟩
 rw [hp] at A R B hz hz2 a0'
 replace a0' : V2.cell? ⟨p, 0, none⟩ = some (.int .u8 (d.kind.toNat : Int)) := a0'
 have hwp : w.heap.size ≤ p := by omega
 clear hc3 hx3 hx hk
 replace hV1 := hide hV1
 replace hV2 := hide hV2
 replace hV3 := hide hV3
 replace hp := hide hp
 replace A := hide A
 replace E := hide E
 replace R := hide R
 replace B := hide B
 replace hz := hide hz
 replace hz2 := hide hz2
 replace hwp := hide hwp
 replace hof := hide hof
 replace hper := hide hper
 replace hc2 := hide hc2
 go_enter Tryz.func12, Tryz.ntmps12
 go_upto_region 1 with fail
 try rw [hV1.out]
 try rw [hV2.out]
 try simp only [hp.out]
 try simp only [hz.out]
 clear hV1 hV2 hp
 go_upto_region 2 with fail
 try rw [hV3.out]
 try simp only [hz2.out]
 clear hV3 hz hz2 a0'
 have a1 : V3.cell? ⟨p, 1, none⟩ = some (.int .u8 (d.conn.toNat : Int)) := A.out.cell 1
 have a2 : V3.cell? ⟨p, 2, none⟩ = some (.int .u8 (d.peer.toNat : Int)) := A.out.cell 2
 have X := Blk.new V3 5 #[.int .u8 (x.toNat : Int)]
 have A4 := A.out.alloc (Obj.cells #[.int .u8 (x.toNat : Int)] 5)
 have R4 := R.out.alloc (Obj.cells #[.int .u8 (x.toNat : Int)] 5)
 have B4 := B.out.alloc (Obj.cells #[.int .u8 (x.toNat : Int)] 5)
 have E4 := E.out.alloc (Obj.cells #[.int .u8 (x.toNat : Int)] 5)
 have hcv : (convert 65 9 (.slice (some ⟨V3.heap.size, 0, none⟩) 1 1)).run Tryz.prog (V3.alloc (Obj.cells #[.int .u8 (x.toNat : Int)] 5)) = .ok (.string ⟨#[x]⟩) (V3.alloc (Obj.cells #[.int .u8 (x.toNat : Int)] 5)) :=
  run_convert_bytes_back _ 65 9 5 ⟨V3.heap.size, 0, none⟩ 1 [x] Tryz.underlying65 Tryz.underlying5 Tryz.underlying9 fun j hj => byte_new V3 x 5 j hj
 have happ : (ByteArray.mk #[112]) ++ ⟨#[x]⟩ = (⟨#[112, x]⟩ : ByteArray) := by apply ByteArray.ext; simp
 clear X
 replace A4 := hide A4
 replace R4 := hide R4
 replace B4 := hide B4
 replace E4 := hide E4
 go_upto_region 4 with fail
 clear a1 a2 hcv A R B E
 generalize V3.alloc (Obj.cells #[.int .u8 (x.toNat : Int)] 5) = V4 at A4 R4 B4 E4 ⊢
 clear tK tC tP hw1 hw2 happ
 have b0 : V4.cell? ⟨p + 2, 0, none⟩ = some (.int .i64 9) := B4.out.cell 0
 have b1 : V4.cell? ⟨p + 2, 1, none⟩ = some (.int .i64 0) := B4.out.cell 1
 have b2 : V4.cell? ⟨p + 2, 2, none⟩ = some (.string ⟨#[]⟩) := B4.out.cell 2
 have b3 : V4.cell? ⟨p + 2, 3, none⟩ = some (.string ⟨#[]⟩) := B4.out.cell 3
 have b4 : V4.cell? ⟨p + 2, 4, none⟩ = some (.string ⟨#[]⟩) := B4.out.cell 4
 have b5 : V4.cell? ⟨p + 2, 5, none⟩ = some (.int .i64 0) := B4.out.cell 5
 have b6 : V4.cell? ⟨p + 2, 6, none⟩ = some (.int .u32 0) := B4.out.cell 6
 have bf := fun i => B4.out.frozen i
 have a4 : V4.cell? ⟨p, 4, none⟩ = some (.int .u32 (d.draw.toNat : Int)) := A4.out.cell 4
 have B5 : Blk (V4.setCell ⟨p + 2, 6, none⟩ (.int .u32 (d.draw.toNat : Int))) (p + 2) 31 #[.int .i64 9, .int .i64 0, .string ⟨#[]⟩, .string ⟨#[]⟩, .string ⟨#[]⟩, .int .i64 0, .int .u32 (d.draw.toNat : Int)] := (B4.out.set_ 6 (.int .u32 (d.draw.toNat : Int)))
 have R5 : Blk (V4.setCell ⟨p + 2, 6, none⟩ (.int .u32 (d.draw.toNat : Int))) (p + 1) 31 #[.int .i64 0, .int .i64 0, .string ⟨#[]⟩, .string ⟨#[]⟩, .string ⟨#[]⟩, .int .i64 0, .int .u32 0] := (R4.out.far (p := ⟨p + 2, 6, none⟩) (show p + 1 ≠ p + 2 by omega) (.int .u32 (d.draw.toNat : Int)))
 have E5 : Ext w (V4.setCell ⟨p + 2, 6, none⟩ (.int .u32 (d.draw.toNat : Int))) := (E4.out.setCell (p := ⟨p + 2, 6, none⟩) (show w.heap.size ≤ p + 2 by have := hwp.out; omega) (.int .u32 (d.draw.toNat : Int)))
 replace B5 := hide B5
 replace R5 := hide R5
 replace E5 := hide E5
 go_upto_region 27 with fail
 generalize (V4.setCell ⟨p + 2, 6, none⟩ (.int .u32 (d.draw.toNat : Int))) = V5 at B5 R5 E5 ⊢
 clear b0 b1 b2 b3 b4 b5 b6 bf A4 R4 B4 E4
 have b0 : V5.cell? ⟨p + 2, 0, none⟩ = some (.int .i64 9) := B5.out.cell 0
 have b1 : V5.cell? ⟨p + 2, 1, none⟩ = some (.int .i64 0) := B5.out.cell 1
 have b2 : V5.cell? ⟨p + 2, 2, none⟩ = some (.string ⟨#[]⟩) := B5.out.cell 2
 have b3 : V5.cell? ⟨p + 2, 3, none⟩ = some (.string ⟨#[]⟩) := B5.out.cell 3
 have b4 : V5.cell? ⟨p + 2, 4, none⟩ = some (.string ⟨#[]⟩) := B5.out.cell 4
 have b5 : V5.cell? ⟨p + 2, 5, none⟩ = some (.int .i64 0) := B5.out.cell 5
 have b6 : V5.cell? ⟨p + 2, 6, none⟩ = some (.int .u32 (d.draw.toNat : Int)) := B5.out.cell 6
 have r0 : V5.cell? ⟨p + 1, 0, none⟩ = some (.int .i64 0) := R5.out.cell 0
 have r1 : V5.cell? ⟨p + 1, 1, none⟩ = some (.int .i64 0) := R5.out.cell 1
 have r2 : V5.cell? ⟨p + 1, 2, none⟩ = some (.string ⟨#[]⟩) := R5.out.cell 2
 have r3 : V5.cell? ⟨p + 1, 3, none⟩ = some (.string ⟨#[]⟩) := R5.out.cell 3
 have r4 : V5.cell? ⟨p + 1, 4, none⟩ = some (.string ⟨#[]⟩) := R5.out.cell 4
 have r5 : V5.cell? ⟨p + 1, 5, none⟩ = some (.int .i64 0) := R5.out.cell 5
 have r6 : V5.cell? ⟨p + 1, 6, none⟩ = some (.int .u32 0) := R5.out.cell 6
 have rf := fun i => R5.out.frozen i
 have hE := E5.out.set7 (show w.heap.size ≤ p + 1 by have := hwp.out; omega) (.int .i64 9) (.int .i64 0) (.string ⟨#[]⟩) (.string ⟨#[]⟩) (.string ⟨#[]⟩) (.int .i64 0) (.int .u32 (d.draw.toNat : Int))
 have hRZ := R5.out.fill7 (.int .i64 9) (.int .i64 0) (.string ⟨#[]⟩) (.string ⟨#[]⟩) (.string ⟨#[]⟩) (.int .i64 0) (.int .u32 (d.draw.toNat : Int))
 have z0 := hRZ.cell 0
 have z1 := hRZ.cell 1
 have z2 := hRZ.cell 2
 have z3 := hRZ.cell 3
 have z4 := hRZ.cell 4
 have z5 := hRZ.cell 5
 have z6 := hRZ.cell 6
 simp at z0 z1 z2 z3 z4 z5 z6
 clear hRZ R5 B5 E5
 replace hE := hide hE
 go_wp2
 exact bodyPost_ret (v := .agg #[.int .i64 9, .int .i64 0, .string ⟨#[]⟩, .string ⟨#[]⟩, .string ⟨#[]⟩, .int .i64 0, .int .u32 (d.draw.toNat : Int)]) (by simp [results, Tryz.results12, go_sem, z0, z1, z2, z3, z4, z5, z6]) rfl ⟨by rw [hof.out]; rfl, hE.out⟩
set_option maxRecDepth 20000 in
set_option maxHeartbeats 4000000 in
theorem Of35_9 (d : DoS) (hk : d.kind.toNat % 10 = 9) (w : World) : Calls Tryz.prog 12 #[.agg #[.int .u8 (d.kind.toNat : Int), .int .u8 (d.conn.toNat : Int), .int .u8 (d.peer.toNat : Int), .int .u16 (d.ticks : Int), .int .u32 (d.draw.toNat : Int), .string ⟨d.bytes.toArray⟩, .int .u8 ((d.b 0).toNat : Int), .int .u8 ((d.b 1).toNat : Int), .int .u8 ((d.b 2).toNat : Int), .int .u8 ((d.b 3).toNat : Int), .int .u8 ((d.b 4).toNat : Int), .int .u8 ((d.b 5).toNat : Int), .int .u8 ((d.b 6).toNat : Int), .int .u8 ((d.b 7).toNat : Int), .int .u8 ((d.b 8).toNat : Int), .int .u8 ((d.b 9).toNat : Int), .int .u8 ((d.b 10).toNat : Int), .int .u8 ((d.b 11).toNat : Int), .int .u8 ((d.b 12).toNat : Int), .int .u8 ((d.b 13).toNat : Int), .int .u8 ((d.b 14).toNat : Int), .int .u8 ((d.b 15).toNat : Int), .bool d.six]] w fun e w' => e = .returned (.agg (evCs (ofS d)).toArray) ∧ Ext w w' := by
 have tK : Int.tmod (d.kind.toNat : Int) 10 = 9 := by rw [Int.tmod_eq_emod_of_nonneg (by omega)]; omega
 have tC : Int.tmod (d.conn.toNat : Int) 64 = ((d.conn.toNat % 64 : Nat) : Int) := by rw [Int.tmod_eq_emod_of_nonneg (by omega)]; omega
 have tP : Int.tmod (d.peer.toNat : Int) 26 = ((d.peer.toNat % 26 : Nat) : Int) := by rw [Int.tmod_eq_emod_of_nonneg (by omega)]; omega
 have hof : ofS d = ⟨10, 0, [], [], [], 0, 0⟩ := by simp only [ofS, hk]
 have hcn : d.conn.toNat % 64 < 64 := Nat.mod_lt _ (by decide)
 have hpn : d.peer.toNat % 26 < 26 := Nat.mod_lt _ (by decide)
 obtain ⟨c2, hc2⟩ : ∃ c, conS d = c := ⟨_, rfl⟩
 have hc3 : (1 : Int) + ((d.conn.toNat % 64 : Nat) : Int) = (c2 : Int) := by rw [← hc2]; unfold conS; omega
 obtain ⟨x, hx⟩ : ∃ x : UInt8, UInt8.ofNat (97 + d.peer.toNat % 26) = x := ⟨_, rfl⟩
 have hx3 : (97 : Int) + ((d.peer.toNat % 26 : Nat) : Int) = (x.toNat : Int) := by
  rw [← hx, UInt8.toNat_ofNat']; omega
 have hper : perS d = [112, x] := by unfold perS; rw [hx]
 generalize d.conn.toNat % 64 = cn at *
 generalize d.peer.toNat % 26 = pn at *
 have hw1 : IntKind.i64.wrap ((1 : Int) + (cn : Int)) = (c2 : Int) := by rw [hc3, IntKind.wrap_i64]; omega
 have hw2 : IntKind.u8.wrap ((97 : Int) + (pn : Int)) = (x.toNat : Int) := by rw [hx3, IntKind.wrap_u8]; have := x.toNat_lt; omega
 have A := Blk.new w 36 #[.int .u8 (d.kind.toNat : Int), .int .u8 (d.conn.toNat : Int), .int .u8 (d.peer.toNat : Int), .int .u16 (d.ticks : Int), .int .u32 (d.draw.toNat : Int), .string ⟨d.bytes.toArray⟩, .int .u8 ((d.b 0).toNat : Int), .int .u8 ((d.b 1).toNat : Int), .int .u8 ((d.b 2).toNat : Int), .int .u8 ((d.b 3).toNat : Int), .int .u8 ((d.b 4).toNat : Int), .int .u8 ((d.b 5).toNat : Int), .int .u8 ((d.b 6).toNat : Int), .int .u8 ((d.b 7).toNat : Int), .int .u8 ((d.b 8).toNat : Int), .int .u8 ((d.b 9).toNat : Int), .int .u8 ((d.b 10).toNat : Int), .int .u8 ((d.b 11).toNat : Int), .int .u8 ((d.b 12).toNat : Int), .int .u8 ((d.b 13).toNat : Int), .int .u8 ((d.b 14).toNat : Int), .int .u8 ((d.b 15).toNat : Int), .bool d.six]
 have E := (Ext.refl w).alloc (Obj.cells #[.int .u8 (d.kind.toNat : Int), .int .u8 (d.conn.toNat : Int), .int .u8 (d.peer.toNat : Int), .int .u16 (d.ticks : Int), .int .u32 (d.draw.toNat : Int), .string ⟨d.bytes.toArray⟩, .int .u8 ((d.b 0).toNat : Int), .int .u8 ((d.b 1).toNat : Int), .int .u8 ((d.b 2).toNat : Int), .int .u8 ((d.b 3).toNat : Int), .int .u8 ((d.b 4).toNat : Int), .int .u8 ((d.b 5).toNat : Int), .int .u8 ((d.b 6).toNat : Int), .int .u8 ((d.b 7).toNat : Int), .int .u8 ((d.b 8).toNat : Int), .int .u8 ((d.b 9).toNat : Int), .int .u8 ((d.b 10).toNat : Int), .int .u8 ((d.b 11).toNat : Int), .int .u8 ((d.b 12).toNat : Int), .int .u8 ((d.b 13).toNat : Int), .int .u8 ((d.b 14).toNat : Int), .int .u8 ((d.b 15).toNat : Int), .bool d.six] 36)
 have hz : (w.alloc (Obj.cells #[.int .u8 (d.kind.toNat : Int), .int .u8 (d.conn.toNat : Int), .int .u8 (d.peer.toNat : Int), .int .u16 (d.ticks : Int), .int .u32 (d.draw.toNat : Int), .string ⟨d.bytes.toArray⟩, .int .u8 ((d.b 0).toNat : Int), .int .u8 ((d.b 1).toNat : Int), .int .u8 ((d.b 2).toNat : Int), .int .u8 ((d.b 3).toNat : Int), .int .u8 ((d.b 4).toNat : Int), .int .u8 ((d.b 5).toNat : Int), .int .u8 ((d.b 6).toNat : Int), .int .u8 ((d.b 7).toNat : Int), .int .u8 ((d.b 8).toNat : Int), .int .u8 ((d.b 9).toNat : Int), .int .u8 ((d.b 10).toNat : Int), .int .u8 ((d.b 11).toNat : Int), .int .u8 ((d.b 12).toNat : Int), .int .u8 ((d.b 13).toNat : Int), .int .u8 ((d.b 14).toNat : Int), .int .u8 ((d.b 15).toNat : Int), .bool d.six] 36)).heap.size = w.heap.size + 1 := by simp
 generalize hV1 : w.alloc (Obj.cells #[.int .u8 (d.kind.toNat : Int), .int .u8 (d.conn.toNat : Int), .int .u8 (d.peer.toNat : Int), .int .u16 (d.ticks : Int), .int .u32 (d.draw.toNat : Int), .string ⟨d.bytes.toArray⟩, .int .u8 ((d.b 0).toNat : Int), .int .u8 ((d.b 1).toNat : Int), .int .u8 ((d.b 2).toNat : Int), .int .u8 ((d.b 3).toNat : Int), .int .u8 ((d.b 4).toNat : Int), .int .u8 ((d.b 5).toNat : Int), .int .u8 ((d.b 6).toNat : Int), .int .u8 ((d.b 7).toNat : Int), .int .u8 ((d.b 8).toNat : Int), .int .u8 ((d.b 9).toNat : Int), .int .u8 ((d.b 10).toNat : Int), .int .u8 ((d.b 11).toNat : Int), .int .u8 ((d.b 12).toNat : Int), .int .u8 ((d.b 13).toNat : Int), .int .u8 ((d.b 14).toNat : Int), .int .u8 ((d.b 15).toNat : Int), .bool d.six] 36) = V1 at A E hz
 have R := Blk.new V1 31 #[.int .i64 0, .int .i64 0, .string ⟨#[]⟩, .string ⟨#[]⟩, .string ⟨#[]⟩, .int .i64 0, .int .u32 0]
 replace E := E.alloc (Obj.cells #[.int .i64 0, .int .i64 0, .string ⟨#[]⟩, .string ⟨#[]⟩, .string ⟨#[]⟩, .int .i64 0, .int .u32 0] 31)
 replace A := A.alloc (Obj.cells #[.int .i64 0, .int .i64 0, .string ⟨#[]⟩, .string ⟨#[]⟩, .string ⟨#[]⟩, .int .i64 0, .int .u32 0] 31)
 have hz2 : (V1.alloc (Obj.cells #[.int .i64 0, .int .i64 0, .string ⟨#[]⟩, .string ⟨#[]⟩, .string ⟨#[]⟩, .int .i64 0, .int .u32 0] 31)).heap.size = w.heap.size + 2 := by simp [hz]
 rw [hz] at R
 generalize hV2 : V1.alloc (Obj.cells #[.int .i64 0, .int .i64 0, .string ⟨#[]⟩, .string ⟨#[]⟩, .string ⟨#[]⟩, .int .i64 0, .int .u32 0] 31) = V2 at A E R hz2
 have a0' := A.cell 0
 have B := Blk.new V2 31 #[.int .i64 10, .int .i64 0, .string ⟨#[]⟩, .string ⟨#[]⟩, .string ⟨#[]⟩, .int .i64 0, .int .u32 0]
 replace E := E.alloc (Obj.cells #[.int .i64 10, .int .i64 0, .string ⟨#[]⟩, .string ⟨#[]⟩, .string ⟨#[]⟩, .int .i64 0, .int .u32 0] 31)
 replace A := A.alloc (Obj.cells #[.int .i64 10, .int .i64 0, .string ⟨#[]⟩, .string ⟨#[]⟩, .string ⟨#[]⟩, .int .i64 0, .int .u32 0] 31)
 replace R := R.alloc (Obj.cells #[.int .i64 10, .int .i64 0, .string ⟨#[]⟩, .string ⟨#[]⟩, .string ⟨#[]⟩, .int .i64 0, .int .u32 0] 31)
 rw [hz2] at B
 generalize hV3 : V2.alloc (Obj.cells #[.int .i64 10, .int .i64 0, .string ⟨#[]⟩, .string ⟨#[]⟩, .string ⟨#[]⟩, .int .i64 0, .int .u32 0] 31) = V3 at A E R B
 obtain ⟨p, hp⟩ : ∃ p, w.heap.size = p := ⟨_, rfl⟩
 rw [hp] at A R B hz hz2 a0'
 replace a0' : V2.cell? ⟨p, 0, none⟩ = some (.int .u8 (d.kind.toNat : Int)) := a0'
 have hwp : w.heap.size ≤ p := by omega
 clear hc3 hx3 hx hk
 replace hV1 := hide hV1
 replace hV2 := hide hV2
 replace hV3 := hide hV3
 replace hp := hide hp
 replace A := hide A
 replace E := hide E
 replace R := hide R
 replace B := hide B
 replace hz := hide hz
 replace hz2 := hide hz2
 replace hwp := hide hwp
 replace hof := hide hof
 replace hper := hide hper
 replace hc2 := hide hc2
 go_enter Tryz.func12, Tryz.ntmps12
 go_upto_region 1 with fail
 try rw [hV1.out]
 try rw [hV2.out]
 try simp only [hp.out]
 try simp only [hz.out]
 clear hV1 hV2 hp
 go_upto_region 2 with fail
 try rw [hV3.out]
 try simp only [hz2.out]
 clear hV3 hz hz2 a0'
 have a1 : V3.cell? ⟨p, 1, none⟩ = some (.int .u8 (d.conn.toNat : Int)) := A.out.cell 1
 have a2 : V3.cell? ⟨p, 2, none⟩ = some (.int .u8 (d.peer.toNat : Int)) := A.out.cell 2
 have X := Blk.new V3 5 #[.int .u8 (x.toNat : Int)]
 have A4 := A.out.alloc (Obj.cells #[.int .u8 (x.toNat : Int)] 5)
 have R4 := R.out.alloc (Obj.cells #[.int .u8 (x.toNat : Int)] 5)
 have B4 := B.out.alloc (Obj.cells #[.int .u8 (x.toNat : Int)] 5)
 have E4 := E.out.alloc (Obj.cells #[.int .u8 (x.toNat : Int)] 5)
 have hcv : (convert 65 9 (.slice (some ⟨V3.heap.size, 0, none⟩) 1 1)).run Tryz.prog (V3.alloc (Obj.cells #[.int .u8 (x.toNat : Int)] 5)) = .ok (.string ⟨#[x]⟩) (V3.alloc (Obj.cells #[.int .u8 (x.toNat : Int)] 5)) :=
  run_convert_bytes_back _ 65 9 5 ⟨V3.heap.size, 0, none⟩ 1 [x] Tryz.underlying65 Tryz.underlying5 Tryz.underlying9 fun j hj => byte_new V3 x 5 j hj
 have happ : (ByteArray.mk #[112]) ++ ⟨#[x]⟩ = (⟨#[112, x]⟩ : ByteArray) := by apply ByteArray.ext; simp
 clear X
 replace A4 := hide A4
 replace R4 := hide R4
 replace B4 := hide B4
 replace E4 := hide E4
 go_upto_region 4 with fail
 clear a1 a2 hcv A R B E
 generalize V3.alloc (Obj.cells #[.int .u8 (x.toNat : Int)] 5) = V4 at A4 R4 B4 E4 ⊢
 clear tK tC tP hw1 hw2 happ
 have b0 : V4.cell? ⟨p + 2, 0, none⟩ = some (.int .i64 10) := B4.out.cell 0
 have b1 : V4.cell? ⟨p + 2, 1, none⟩ = some (.int .i64 0) := B4.out.cell 1
 have b2 : V4.cell? ⟨p + 2, 2, none⟩ = some (.string ⟨#[]⟩) := B4.out.cell 2
 have b3 : V4.cell? ⟨p + 2, 3, none⟩ = some (.string ⟨#[]⟩) := B4.out.cell 3
 have b4 : V4.cell? ⟨p + 2, 4, none⟩ = some (.string ⟨#[]⟩) := B4.out.cell 4
 have b5 : V4.cell? ⟨p + 2, 5, none⟩ = some (.int .i64 0) := B4.out.cell 5
 have b6 : V4.cell? ⟨p + 2, 6, none⟩ = some (.int .u32 0) := B4.out.cell 6
 have bf := fun i => B4.out.frozen i
 have B5 : Blk V4 (p + 2) 31 #[.int .i64 10, .int .i64 0, .string ⟨#[]⟩, .string ⟨#[]⟩, .string ⟨#[]⟩, .int .i64 0, .int .u32 0] := B4.out
 have R5 : Blk V4 (p + 1) 31 #[.int .i64 0, .int .i64 0, .string ⟨#[]⟩, .string ⟨#[]⟩, .string ⟨#[]⟩, .int .i64 0, .int .u32 0] := R4.out
 have E5 : Ext w V4 := E4.out
 replace B5 := hide B5
 replace R5 := hide R5
 replace E5 := hide E5
 go_upto_region 27 with fail
 generalize V4 = V5 at B5 R5 E5 ⊢
 clear b0 b1 b2 b3 b4 b5 b6 bf A4 R4 B4 E4
 have b0 : V5.cell? ⟨p + 2, 0, none⟩ = some (.int .i64 10) := B5.out.cell 0
 have b1 : V5.cell? ⟨p + 2, 1, none⟩ = some (.int .i64 0) := B5.out.cell 1
 have b2 : V5.cell? ⟨p + 2, 2, none⟩ = some (.string ⟨#[]⟩) := B5.out.cell 2
 have b3 : V5.cell? ⟨p + 2, 3, none⟩ = some (.string ⟨#[]⟩) := B5.out.cell 3
 have b4 : V5.cell? ⟨p + 2, 4, none⟩ = some (.string ⟨#[]⟩) := B5.out.cell 4
 have b5 : V5.cell? ⟨p + 2, 5, none⟩ = some (.int .i64 0) := B5.out.cell 5
 have b6 : V5.cell? ⟨p + 2, 6, none⟩ = some (.int .u32 0) := B5.out.cell 6
 have r0 : V5.cell? ⟨p + 1, 0, none⟩ = some (.int .i64 0) := R5.out.cell 0
 have r1 : V5.cell? ⟨p + 1, 1, none⟩ = some (.int .i64 0) := R5.out.cell 1
 have r2 : V5.cell? ⟨p + 1, 2, none⟩ = some (.string ⟨#[]⟩) := R5.out.cell 2
 have r3 : V5.cell? ⟨p + 1, 3, none⟩ = some (.string ⟨#[]⟩) := R5.out.cell 3
 have r4 : V5.cell? ⟨p + 1, 4, none⟩ = some (.string ⟨#[]⟩) := R5.out.cell 4
 have r5 : V5.cell? ⟨p + 1, 5, none⟩ = some (.int .i64 0) := R5.out.cell 5
 have r6 : V5.cell? ⟨p + 1, 6, none⟩ = some (.int .u32 0) := R5.out.cell 6
 have rf := fun i => R5.out.frozen i
 have hE := E5.out.set7 (show w.heap.size ≤ p + 1 by have := hwp.out; omega) (.int .i64 10) (.int .i64 0) (.string ⟨#[]⟩) (.string ⟨#[]⟩) (.string ⟨#[]⟩) (.int .i64 0) (.int .u32 0)
 have hRZ := R5.out.fill7 (.int .i64 10) (.int .i64 0) (.string ⟨#[]⟩) (.string ⟨#[]⟩) (.string ⟨#[]⟩) (.int .i64 0) (.int .u32 0)
 have z0 := hRZ.cell 0
 have z1 := hRZ.cell 1
 have z2 := hRZ.cell 2
 have z3 := hRZ.cell 3
 have z4 := hRZ.cell 4
 have z5 := hRZ.cell 5
 have z6 := hRZ.cell 6
 simp at z0 z1 z2 z3 z4 z5 z6
 clear hRZ R5 B5 E5
 replace hE := hide hE
 go_wp2
 exact bodyPost_ret (v := .agg #[.int .i64 10, .int .i64 0, .string ⟨#[]⟩, .string ⟨#[]⟩, .string ⟨#[]⟩, .int .i64 0, .int .u32 0]) (by simp [results, Tryz.results12, go_sem, z0, z1, z2, z3, z4, z5, z6]) rfl ⟨by rw [hof.out]; rfl, hE.out⟩
theorem Of35_any (d : DoS) (w : World) : Calls Tryz.prog 12 #[.agg (doCs d).toArray] w fun e w' => e = .returned (.agg (evCs (ofS d)).toArray) ∧ Ext w w' := by
 have h : d.kind.toNat % 10 < 10 := Nat.mod_lt _ (by decide)
 have hc : d.kind.toNat % 10 = 0 ∨ d.kind.toNat % 10 = 1 ∨ d.kind.toNat % 10 = 2 ∨ d.kind.toNat % 10 = 3 ∨ d.kind.toNat % 10 = 4 ∨ d.kind.toNat % 10 = 5 ∨ d.kind.toNat % 10 = 6 ∨ d.kind.toNat % 10 = 7 ∨ d.kind.toNat % 10 = 8 ∨ d.kind.toNat % 10 = 9 := by omega
 rcases hc with h | h | h | h | h | h | h | h | h | h
 ·exact Of35_0 d h w
 ·exact Of35_1 d h w
 ·exact Of35_2 d h w
 ·exact Of35_3 d h w
 ·exact Of35_4 d h w
 ·exact Of35_5 d h w
 ·exact Of35_6 d h w
 ·exact Of35_7 d h w
 ·exact Of35_8 d h w
 ·exact Of35_9 d h w
end
end Go.Proofs.YtkinghadgmbhbaaGreatDoor
