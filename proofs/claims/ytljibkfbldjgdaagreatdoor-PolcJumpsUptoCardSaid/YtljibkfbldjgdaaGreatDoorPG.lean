/- Helpers of walks: strings put together; contracts as a region of reads and calls takes them. Helpers of walks: rows of texts, sizes of texts, strings.Join. -/
import Derived.Test.YtljibkfbldjgdaaGreatDoorP4
import Derived.Test.YtljibkfbldjgdaaGreatDoorLib
import Derived.Test.YtljibkfbldjgdaaGreatDoorA4
namespace Go.Proofs.YtljibkfbldjgdaaGreatDoor
open Go.RowKit Go.Sort
set_option linter.unusedVariables false

theorem ba_app (a b : List UInt8) : (⟨a.toArray⟩ : ByteArray) ++ ⟨b.toArray⟩ = ⟨(a ++ b).toArray⟩ := by
  apply ByteArray.ext
  rw [ByteArray.data_append]
  simp
theorem ba_app1 (a : List UInt8) (x : UInt8) : (⟨a.toArray⟩ : ByteArray) ++ ⟨#[x]⟩ = ⟨(a ++ [x]).toArray⟩ := ba_app a [x]
theorem ba_size (a : List UInt8) : (ByteArray.mk a.toArray).size = a.length := by simp [ByteArray.size]
theorem Calls.regr {P : Program} {f : FuncId} {args : Array Value} {v : Value} (h : ∀ W, Calls P f args W fun e w' => e = .returned v ∧ Ext W w') (w : World) (d : Nat) (os : Array Obj) :
    Calls P f args (grow (redrawn w d) os) fun e w'' => e = .returned v ∧ ∃ p : Regrown, w'' = grow (redrawn w p.d) p.os := Calls.regrown_of (h _)
theorem Calls.regrS {P : Program} {f : FuncId} {args : Array Value} {v : Value} (h : ∀ W, Calls P f args W fun e w' => e = .returned v ∧ W = w') (w : World) (d : Nat) (os : Array Obj) :
    Calls P f args (grow (redrawn w d) os) fun e w'' => e = .returned v ∧ ∃ p : Regrown, w'' = grow (redrawn w p.d) p.os := regrown_same (h _)
/-- The same for a contract that holds of worlds grown out of a first one. -/
theorem Calls.regrE {P : Program} {f : FuncId} {args : Array Value} {v : Value} {w0 : World} (h : ∀ W, Ext w0 W → Calls P f args W fun e w' => e = .returned v ∧ Ext W w') {w : World} (he : Ext w0 w) (d : Nat) (os : Array Obj) :
    Calls P f args (grow (redrawn w d) os) fun e w'' => e = .returned v ∧ ∃ p : Regrown, w'' = grow (redrawn w p.d) p.os := Calls.regrown_of (h _ (he.trans (below_regrown _ d os)))
open Go.RowKit Go.Sort

theorem okStr : ElemOk Tryz.prog 79 9 EStr.sz 16 := elemOk (z := .string ⟨#[]⟩) Tryz.underlying79 (by kernel_rfl) rfl
theorem str_new' (w : World) (s : ByteArray) (T : TypeId) : ∀ j u, [Value.string s][j]? = some u → (w.alloc (.cells #[.string s] T)).cell? ((⟨w.heap.size, 0, none⟩ : Addr).add j) = some u := cell_one_new _ _ _
theorem Join_any (a : Option Addr) (c : Nat) (xs : List ByteArray) (sep : UInt8) (w : World) (S : Nat → Prop) (hS : ∀ b, S b → b < w.heap.size) (hs : Sl EStr w S a xs) (hne : xs ≠ []) (hc : xs.length ≤ c) (hl : xs.length ≤ 16777216) (hlen : (Lib.join (xs.map (·.data.toList)) [sep]).length ≤ 140737488355328) :
    Calls Tryz.prog 36 #[.slice a xs.length c, .string ⟨#[sep]⟩] w fun e w' => e = .returned (.string ⟨(Lib.join (xs.map (·.data.toList)) [sep]).toArray⟩) ∧ Ext w w' := by
  rcases hs with hs | ⟨b, off, rfl, hb, hs⟩
  · exact absurd hs hne
  · refine Tryz.strings_Join b off c xs ⟨#[sep]⟩ w (fun j x hx => ?_) (hS b hb) (by omega) hc hlen
    obtain ⟨cs, ⟨rfl, _⟩, hcell⟩ := hs j x hx
    have := hcell 0 _ rfl
    simpa [EStr, Enc.flat] using this
theorem ba_le (l : List UInt8) (n : Nat) (h : l.length ≤ n) : (⟨l.toArray⟩ : ByteArray).size ≤ n := by rw [ba_size]; exact h
theorem ba_sz_app (a b : ByteArray) : (a ++ b).size = a.size + b.size := ByteArray.size_append
end Go.Proofs.YtljibkfbldjgdaaGreatDoor
