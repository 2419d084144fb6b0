/- A raw prefix, and the walk of heraldlaw01.of (printed by genp25.py). -/
import Derived.Test.YtbobpaailmbndaaDoorP13
import Derived.Test.YtbobpaailmbndaaDoorP15
import Derived.Test.YtbobpaailmbndaaDoorBytes
import Derived.Shelf.RegionOpenPlain
import Derived.Test.YtbobpaailmbndaaDoorP6
namespace Go.Proofs.YtbobpaailmbndaaDoor
open Go.RowKit Go.Sort
set_option linter.unusedVariables false

structure Rw where
  fam : UInt8
  rd : Nat
  b : Nat → UInt8
  len : UInt8
def Rw.bs (x : Rw) : List UInt8 := [x.b 0, x.b 1, x.b 2, x.b 3, x.b 4, x.b 5, x.b 6, x.b 7, x.b 8, x.b 9, x.b 10, x.b 11, x.b 12, x.b 13, x.b 14, x.b 15]
def valR (x : Rw) : Value := .agg #[.int .u8 (x.fam.toNat : Int), .int .u64 (x.rd : Int), .int .u8 ((x.b 0).toNat : Int), .int .u8 ((x.b 1).toNat : Int), .int .u8 ((x.b 2).toNat : Int), .int .u8 ((x.b 3).toNat : Int), .int .u8 ((x.b 4).toNat : Int), .int .u8 ((x.b 5).toNat : Int), .int .u8 ((x.b 6).toNat : Int), .int .u8 ((x.b 7).toNat : Int), .int .u8 ((x.b 8).toNat : Int), .int .u8 ((x.b 9).toNat : Int), .int .u8 ((x.b 10).toNat : Int), .int .u8 ((x.b 11).toNat : Int), .int .u8 ((x.b 12).toNat : Int), .int .u8 ((x.b 13).toNat : Int), .int .u8 ((x.b 14).toNat : Int), .int .u8 ((x.b 15).toNat : Int), .int .u8 (x.len.toNat : Int)]
def famR (x : Rw) : Nat := x.fam.toNat % 5 + 1
def sizeR (x : Rw) : Nat := if famR x = 2 ∨ famR x = 5 then 16 else 4
theorem sizeR_eq (x : Rw) : sizeS (famR x : Int) = (sizeR x : Int) := by
  unfold sizeR sizeS
  have : famR x = 1 ∨ famR x = 2 ∨ famR x = 3 ∨ famR x = 4 ∨ famR x = 5 := by unfold famR; omega
  rcases this with h | h | h | h | h <;> rw [h] <;> simp
theorem sizeR_le (x : Rw) : sizeR x ≤ 16 ∧ 4 ≤ sizeR x := by unfold sizeR; split <;> omega
def fullP (x : Rw) : Pfx := ⟨(famR x : Int), if famR x ≥ 4 then x.rd % 3 else 0, x.bs.take (sizeR x), 8 * (sizeR x : Int)⟩
def lenR (x : Rw) : Nat := x.len.toNat % (8 * sizeR x + 1)
def rawP (x : Rw) : Pfx := cutOf (fullP x) (lenR x)
theorem full_len (x : Rw) : (fullP x).addr.length = sizeR x := by
  show (x.bs.take (sizeR x)).length = _
  have := sizeR_le x
  simp [Rw.bs]; omega
theorem full_may (x : Rw) : MayP (fullP x) := by
  have hl := full_len x
  have hs := sizeR_eq x
  have hz := sizeR_le x
  refine ⟨⟨?_, ?_, ?_, ?_, ?_⟩, ?_⟩
  · show sizeS (famR x : Int) ≠ 0; omega
  · show _ = sizeS (famR x : Int); omega
  · show (0 : Int) ≤ 8 * (sizeR x : Int); omega
  · show 8 * (sizeR x : Int) ≤ 8 * sizeS (famR x : Int); omega
  · by_cases h : famR x ≥ 4
    · right
      show apartS (famR x : Int) = true
      have h5 : famR x ≤ 5 := by unfold famR; omega
      unfold apartS
      exact decide_eq_true (by omega)
    · left
      show (if famR x ≥ 4 then x.rd % 3 else 0) = 0
      rw [if_neg h]
  · show maskS (fullP x).addr (8 * (sizeR x : Int)) = _
    exact mask_all _ _ (by omega)
theorem raw_ok (x : Rw) : cutOk (fullP x) (lenR x) := by
  refine ⟨full_may x, by omega, ?_⟩
  show (lenR x : Int) ≤ 8 * (sizeR x : Int)
  have : lenR x < 8 * sizeR x + 1 := Nat.mod_lt _ (by omega)
  omega
theorem raw_may (x : Rw) : MayP (rawP x) := cut_may (raw_ok x)
theorem raw_cut (x : Rw) : cutS (fullP x) (lenR x) = (rawP x, 0) := if_pos (raw_ok x)
theorem raw_addr (x : Rw) : (rawP x).addr.length = sizeR x := by
  show (maskS (fullP x).addr _).length = _
  rw [maskS_len, full_len]
theorem raw_len (x : Rw) : (rawP x).addr.length ≤ 1048576 := by have := raw_addr x; have := sizeR_le x; omega
end Go.Proofs.YtbobpaailmbndaaDoor
