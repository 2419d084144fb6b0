/- Chapter 2: a number in bytes, the highest one first. -/
import Derived.Test.YtiappobhljiknaaDoorBytes
import Derived.Lib.ItoaNum
namespace Go.Proofs.YtiappobhljiknaaDoor
open Go.RowKit

/-- Byte number i of v, from the lowest. -/
def byt (v i : Nat) : UInt8 := UInt8.ofNat (v / 2 ^ (8 * i))
theorem byt_cast (v i : Nat) : (v : Int) / 2 ^ (8 * i) % 256 = ((byt v i).toNat : Int) := by
  unfold byt
  rw [UInt8.toNat_ofNat']
  have : (v : Int) / 2 ^ (8 * i) = ((v / 2 ^ (8 * i) : Nat) : Int) := by simp
  rw [this]
  omega
def be (n v : Nat) : List UInt8 := (List.range n).map fun j => byt v (n - 1 - j)
@[simp] theorem be_length (n v : Nat) : (be n v).length = n := by simp [be]
theorem be_snoc (n v k : Nat) (hk : k < n) : (be n v).take (k + 1) = (be n v).take k ++ [byt v (n - 1 - k)] := by
  rw [List.take_succ_eq_append_getElem (by simpa using hk)]
  simp [be]
theorem be_all (n v : Nat) : (be n v).take n = be n v := List.take_of_length_le (by simp)
theorem bitLen_le (n v : Nat) (h : v < 2 ^ (8 * n)) (h64 : v < 2 ^ 64) : (Lib.bitLen v : Int) ≤ 8 * n := by
  rcases Nat.eq_zero_or_pos v with h0 | h0
  · subst h0
    have : Lib.bitLen 0 = 0 := by unfold Lib.bitLen; exact Lib.bitLenAux_zero _
    omega
  · have hb := Lib.bitLenAux_bounds 64 v h64 (by omega)
    have e : Lib.bitLen v = Lib.bitLenAux 64 v := rfl
    rw [e]
    have h2 : 2 ^ (Lib.bitLenAux 64 v - 1) < 2 ^ (8 * n) := by omega
    have := (Nat.pow_lt_pow_iff_right (a := 2) (by omega)).1 h2
    omega
end Go.Proofs.YtiappobhljiknaaDoor
