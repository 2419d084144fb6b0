/- Arguments opened: what the form's reading of a type gives, as the words of Base say it; the bound on what is read is used throughout. The arguments of chapter 4's laws, opened. Chapter 15, plain: patterns of atoms, which lists they match; patterns as texts. Chapter 15, plain: names; sets, which may be, what they hold. Data of a fixed number of cells that lead nowhere: rows of the call's own, a whole slice appended. How numbers of 64 bits, bytes as texts, Bools, prefixes, items, atoms and sets lie in memory. Arguments of chapter 15, opened: prefixes, items, atoms, sets. Chapter 35, plain: bytes as hexadecimal digits; events, their lines, lines read. Chapter 35, plain: scripts read and told. Walks: may a prefix be: prim.Check, any. Walks: may a prefix be: the document's, any. Walks: a prefix cut: prim.Cut. Walks: an address of four bytes as a text; a prefix's text, at one prefix. Walks: an -/
import Derived.WalkKit
import Derived.Below
import Derived.Outline
import Derived.LoopTactic
import Derived.Laws.OwnMore
import Derived.Deep.AppendLies
import Derived.Deep.Draws
import Derived.Lib.Hide
import Derived.BigQuiet
import Derived.Deep.QuietTactic
import Derived.WalkSpells
import Derived.WalkLawsBesides
import Derived.Deep.RegionHeld3
import Derived.Deep.DrawnRows
import Derived.Deep.RegionLaw
import Derived.Test.YtkinghadgmbhbaaGreatDoorProg
import Derived.Test.YtkinghadgmbhbaaGreatDoorShelf
import Derived.Lib.ConvBytes
import Derived.Lib.Bytealg
import Derived.Lib.Small
import Derived.Lib.SplitLaws
import Derived.Lib.ParseIntB
import Derived.Lib.ParseIntBCases
import Derived.Lib.ItoaNum
import Derived.Lib.Join
import Derived.Test.YtkinghadgmbhbaaGreatDoorShelf2
import Derived.Lib.UnsafeStr
import Derived.Shelf.RegionOpenPlain
import Derived.Laws.StructEq
import Derived.Lib.QuietBelow
import Derived.Test.YtkinghadgmbhbaaGreatDoorRows
import Derived.ProofKit
import Derived.Deep.Slices
import Derived.Shelf.GgClosure.StringsRunes
import Derived.Lib.ItoaMem
import Derived.Lib.ItoaLen
import Derived.Shelf.Strings.Builder1
import Derived.Orders
import Derived.StillTail
import Derived.Test.YtkinghadgmbhbaaGreatDoorPC01
namespace Go.Proofs.YtkinghadgmbhbaaGreatDoor
section
open Go.RowKit Go.ChangeShapes Go.WideShapes Go.Deep
set_option linter.unusedVariables false
theorem bulk_one {H : Type} (d : DataW H) : 1 ≤ Rows.uptoBulk d := by
 cases d with
 | lit l => cases l <;> simp [Rows.uptoBulk]
 | nil => simp [Rows.uptoBulk]
 | ptr d => simp [Rows.uptoBulk]
 | slice elems spare => simp [Rows.uptoBulk]
 | agg parts => simp [Rows.uptoBulk]
 | iface t d => simp [Rows.uptoBulk]
 | map entries => simp [Rows.uptoBulk]
 | held h => simp [Rows.uptoBulk]
theorem bulk_part {H : Type} {d : DataW H} {l : List (DataW H)} (h : d ∈ l) : Rows.uptoBulk d ≤ Rows.uptoBulkAll l := by
  induction l with
  | nil => cases h
  | cons x r ih =>
    simp only [Rows.uptoBulkAll]
    rcases List.mem_cons.1 h with e | e
    · subst e; omega
    · have := ih e; omega
theorem bulk_len {H : Type} (l : List (DataW H)) : l.length ≤ Rows.uptoBulkAll l := by
 induction l with
 | nil => simp [Rows.uptoBulkAll]
 | cons x r ih => have := bulk_one x; simp only [Rows.uptoBulkAll, List.length_cons]; omega
/-- What is read as type T reads as E says. -/
def Opens {α : Type} (P : Program) (T : TypeId) (E : Enc α) : Prop :=
 P.cellsOf T = E.sz ∧ ∀ {H : Type} (enc : TypeId × Value → H) (W : World) (fuel : Nat) (cs : List Value) (x : DataW H × List MemPlace), DataW.trod enc P W 0 (fun _ => true) true fuel T cs = some x → Rows.uptoBulk x.1 ≤ 1048576 →
  ∃ y, E.R W (fun b => b < W.heap.size) y cs
theorem list_of {α : Type} : ∀ (n : Nat) (Q : Nat → α → Prop), (∀ i, i < n → ∃ x, Q i x) → ∃ l : List α, l.length = n ∧ ∀ i x, l[i]? = some x → Q i x
  | 0, Q, _ => ⟨[], rfl, fun i x h => by simp at h⟩
  | n + 1, Q, h => by
    obtain ⟨l, hl, hq⟩ := list_of n Q fun i hi => h i (by omega)
    obtain ⟨x, hx⟩ := h n (by omega)
    refine ⟨l ++ [x], by simp [hl], fun i y hy => ?_⟩
    rcases Nat.lt_or_ge i n with hi | hi
    · rw [List.getElem?_append_left (by omega)] at hy
      exact hq i y hy
    · rw [List.getElem?_append_right (by omega)] at hy
      have : i - l.length = 0 := by
        rcases Nat.eq_zero_or_pos (i - l.length) with h | h
        · exact h
        · rw [List.getElem?_eq_none (by simp; omega)] at hy; cases hy
      rw [this] at hy
      simp at hy
      subst hy
      obtain rfl : i = n := by omega
      exact hx
section
variable {P : Program} {T : TypeId}
theorem opens_u32 (h : P.underlying T = some (.int .u32)) (hc : P.cellsOf T = 1) : Opens P T EU32 := by
 refine ⟨hc, fun enc W fuel cs x hx _ => ?_⟩
 obtain ⟨n, rfl, _, hw⟩ := DataW.trod_int h hx
 have : 0 ≤ n ∧ n ≤ 4294967295 := by simpa [Lit.wf, IntKind.min, IntKind.max, IntKind.signed, IntKind.bits] using hw
 refine ⟨UInt32.ofNat n.toNat, ?_, trivial⟩
 have : ((UInt32.ofNat n.toNat).toNat : Int) = n := by rw [UInt32.toNat_ofNat']; omega
 show [Value.int .u32 n] = [Value.int .u32 _]
 rw [this]
theorem opens_u8 (h : P.underlying T = some (.int .u8)) (hc : P.cellsOf T = 1) : Opens P T EU8 := by
 refine ⟨hc, fun enc W fuel cs x hx _ => ?_⟩
 obtain ⟨n, rfl, _, hw⟩ := DataW.trod_int h hx
 have : 0 ≤ n ∧ n ≤ 255 := by simpa [Lit.wf, IntKind.min, IntKind.max, IntKind.signed, IntKind.bits] using hw
 refine ⟨UInt8.ofNat n.toNat, ?_, trivial⟩
 have : ((UInt8.ofNat n.toNat).toNat : Int) = n := by rw [UInt8.toNat_ofNat']; omega
 show [Value.int .u8 n] = [Value.int .u8 _]
 rw [this]
theorem slice_opens {α : Type} {E : Enc α} {e : TypeId} (h : P.underlying T = some (.slice e)) (hE : Opens P e E) (hsz : 0 < E.sz) {H : Type} {enc : TypeId × Value → H} {W : World} {fuel : Nat} {cs : List Value} {x : DataW H × List MemPlace}
  (hx : DataW.trod enc P W 0 (fun _ => true) true fuel T cs = some x) (hb : Rows.uptoBulk x.1 ≤ 1048576) : ∃ (l : List α) (a : Option Addr) (c : Nat), cs = [.slice a l.length c] ∧ l.length ≤ c ∧ l.length ≤ 1048576 ∧ Sl E W (fun b => b < W.heap.size) a l := by
 rcases open_slice h hx with ⟨rfl, _⟩ | ⟨a, len, cap, m, n, D, Pl, rfl, _, hl, _, hm, rfl, hi⟩
 ·exact ⟨[], none, 0, rfl, Nat.zero_le _, Nat.zero_le _, Sl.nil⟩
 ·simp only [if_true] at hm
  subst hm
  rw [hE.1] at hi
  have hbulk : Rows.uptoBulkAll ((List.range len).map D) ≤ 1048575 := by
   simp only [Rows.uptoBulk] at hb
   omega
  have hlen : len ≤ 1048575 := by have := bulk_len ((List.range len).map D); simp at this; omega
  have each : ∀ i, i < len → ∃ y : α, ∃ cs', E.R W (fun b => b < W.heap.size) y cs' ∧ ∀ j u, cs'[j]? = some u → W.cell? (a.add (i * E.sz + j)) = some u := by
   intro i hil
   obtain ⟨cs', hc, ht⟩ := hi i (by omega)
   have hpart : Rows.uptoBulk (D i) ≤ 1048575 := Nat.le_trans (bulk_part (List.mem_map.2 ⟨i, by simpa using hil, rfl⟩)) hbulk
   obtain ⟨y, hy⟩ := hE.2 enc W n cs' _ ht (by simp only; omega)
   obtain ⟨_, hcl, hat⟩ := World.cells?_some hc
   refine ⟨y, cs', hy, fun j u hu => ?_⟩
   have hj : j < E.sz := by
    rcases Nat.lt_or_ge j E.sz with h | h
    ·exact h
    ·rw [List.getElem?_eq_none (by omega)] at hu; cases hu
   have := hat j hj
   rw [add_add] at this
   rw [this, hu]
  obtain ⟨l, hll, hlq⟩ := list_of len _ each
  refine ⟨l, some a, m, by rw [hll], by omega, by omega, ?_⟩
  rcases Nat.eq_zero_or_pos len with h0 | h0
  ·exact .inl (List.eq_nil_of_length_eq_zero (by omega))
  ·obtain ⟨cs0, hr0, hc0⟩ := hlq 0 l[0] (by rw [List.getElem?_eq_getElem])
   have hs0 := E.size hr0
   have hcell0 := hc0 0 (cs0[0]'(by omega)) (by rw [List.getElem?_eq_getElem])
   obtain ⟨b, off, spot⟩ := a
   have hspot : spot = none := by simpa [Addr.add] using World.cell?_spot hcell0
   subst hspot
   refine .inr ⟨b, off, rfl, ?_, fun k y hy => ?_⟩
   ·have := World.block_lt_of_cell? W _ hcell0
    rw [add_lit] at this
    exact this
   ·obtain ⟨cs', hr, hc⟩ := hlq k y hy
    refine ⟨cs', hr, fun j u hu => ?_⟩
    have := hc j u hu
    rw [add_lit] at this
    rw [Nat.add_assoc]
    exact this
/-- A struct's fields from number i on, which lies at cell off. -/
def OpensF {α : Type} (P : Program) (fs : Array Field) (tot i off : Nat) (E : Enc α) : Prop :=
  ∀ (H : Type) (enc : TypeId × Value → H) (W : World) (n : Nat) (cs : List Value) (xs : List (DataW H × List MemPlace)), cs.length = tot → Rows.uptoBulkAll (xs.map (·.1)) ≤ 1048576 → xs.length = fs.size →
    (∀ (j : Nat) (f : Field), fs[j]? = some f → DataW.trod enc P W 0 (fun _ => true) true n f.type ((cs.drop f.offset).take (P.cellsOf f.type)) = xs[j]?) → ∃ y, E.R W (fun b => b < W.heap.size) y (cs.drop off)
theorem field_opens {α : Type} {E : Enc α} {fs : Array Field} {i : Nat} {f : Field} (hf : fs[i]? = some f) (hE : Opens P f.type E) {H : Type} {enc : TypeId × Value → H} {W : World} {n : Nat} {cs : List Value} {xs : List (DataW H × List MemPlace)}
  (hb : Rows.uptoBulkAll (xs.map (·.1)) ≤ 1048576) (hx : xs.length = fs.size)
  (h : ∀ (j : Nat) (f : Field), fs[j]? = some f → DataW.trod enc P W 0 (fun _ => true) true n f.type ((cs.drop f.offset).take (P.cellsOf f.type)) = xs[j]?) : ∃ y, E.R W (fun b => b < W.heap.size) y ((cs.drop f.offset).take (P.cellsOf f.type)) := by
 have hi : i < xs.length := by rw [hx]; exact (Array.getElem?_eq_some_iff.1 hf).1
 have h1 := h i f hf
 rw [List.getElem?_eq_getElem hi] at h1
 exact hE.2 enc W n _ _ h1 (Nat.le_trans (bulk_part (List.mem_map.2 ⟨xs[i], List.getElem_mem hi, rfl⟩)) hb)
theorem opensF_last {α : Type} {E : Enc α} {fs : Array Field} {tot i off : Nat} {f : Field} (hf : fs[i]? = some f) (ho : f.offset = off) (hE : Opens P f.type E) (ht : off + E.sz = tot) : OpensF P fs tot i off E := by
 intro H enc W n cs xs hcl hb hx h
 obtain ⟨y, hy⟩ := field_opens hf hE hb hx h
 refine ⟨y, ?_⟩
 rw [ho, hE.1, List.take_of_length_le (by simp; omega)] at hy
 exact hy
theorem opensF_cons {α β : Type} {E : Enc α} {F : Enc β} {fs : Array Field} {tot i off : Nat} {f : Field} (hf : fs[i]? = some f) (ho : f.offset = off) (hE : Opens P f.type E) (hF : OpensF P fs tot (i + 1) (off + E.sz) F) : OpensF P fs tot i off (E.pair F) := by
 intro H enc W n cs xs hcl hb hx h
 obtain ⟨y, hy⟩ := field_opens hf hE hb hx h
 obtain ⟨z, hz⟩ := hF _ enc W n cs xs hcl hb hx h
 refine ⟨(y, z), (cs.drop off).take E.sz, cs.drop (off + E.sz), ?_, ?_, hz⟩
 ·rw [← List.drop_drop, List.take_append_drop]
 ·rw [ho, hE.1] at hy; exact hy
theorem opens_struct {α : Type} {E : Enc α} {fs : Array Field} (h : P.underlying T = some (.struct fs)) (hc : P.cellsOf T = E.sz) (hF : OpensF P fs E.sz 0 0 E) : Opens P T E := by
 refine ⟨hc, fun enc W fuel cs x hx hb => ?_⟩
 obtain ⟨xs, n, _, rfl, hcl, hxl, hall⟩ := DataW.trod_struct h hx
 have := hF _ enc W n cs xs (by rw [hcl, hc]) (by simp only [Rows.uptoBulk] at hb; omega) hxl hall
 simpa using this
end
open Go.RowKit
theorem opens_u32_ : Opens Tryz.prog 29 EU32 := opens_u32 Tryz.underlying29 (by kernel_rfl)
end
section
set_option linter.unusedVariables false
/-- An atom: its kind, its AS. -/
abbrev Atm := Int × UInt32
/-! ### what SetsStars asks -/
/-! ### patterns as texts -/
def runeOk (x : Nat) : Bool := (decide (97 ≤ x) && decide (x ≤ 122)) || ((decide (48 ≤ x) && decide (x ≤ 57)) || decide (x = 45))
def nameCh (c : UInt8) : Bool := runeOk c.toNat
/-- May it be a name? -/
def nameOk (s : List UInt8) : Bool := decide (1 ≤ s.length) && (decide (s.length ≤ 16) && (decide (97 ≤ (s.headD 0).toNat) && s.all nameCh))
/-- An item of a set of prefixes. -/
structure Itm where
  p : Pfx
  low : Int
  high : Int
def itmOk (x : Itm) : Prop := MayP x.p ∧ x.p.len ≤ x.low ∧ x.low ≤ x.high ∧ x.high ≤ 8 * sizeS x.p.fam
noncomputable instance (x : Itm) : Decidable (itmOk x) := Classical.propDecidable _
/-- A set. -/
structure StS where
  name : List UInt8
  kind : Int
  items : List Itm
  comms : List UInt32
  paths : List (List Atm)
open Go.RowKit
def Enc.cells {α : Type} (f : α → List Value) (P : α → Prop) (n : Nat) (hn : ∀ x, (f x).length = n) (h1 : ∀ x, ∀ u ∈ f x, u.oneCell' = true) : Enc α where
 R _ _ x cs := cs = f x ∧ P x
 sz := n
 size h := by rw [h.1]; exact hn _
 one := by rintro w S x cs ⟨rfl, _⟩ u hu; exact h1 x u hu
 frame _ h := h
 mono _ h := h
section
variable {α : Type} {f : α → List Value} {P : α → Prop} {n : Nat} {hn : ∀ x, (f x).length = n} {h1 : ∀ x, ∀ u ∈ f x, u.oneCell' = true} {w w' : World} {B : Nat} {v : Value} {l : List α} {e : TypeId} {S : Nat → Prop} {a : Option Addr}
end
def EU64 : Enc Nat := Enc.flat (fun n => .int .u64 (n : Int)) (fun n => n ≤ 18446744073709551615) (fun _ => rfl)
def EByt : Enc (List UInt8) := Enc.flat (fun l => .string ⟨l.toArray⟩) (fun l => l.length ≤ 1048576) (fun _ => rfl)
def pfxCs (p : Pfx) : List Value := [.int .i64 p.fam, .int .u64 (p.rd : Int), .string ⟨p.addr.toArray⟩, .int .i64 p.len]
def itmCs (x : Itm) : List Value := [.int .i64 x.p.fam, .int .u64 (x.p.rd : Int), .string ⟨x.p.addr.toArray⟩, .int .i64 x.p.len, .int .i64 x.low, .int .i64 x.high]
def atmCs (a : Atm) : List Value := [.int .i64 a.1, .int .u32 (a.2.toNat : Int)]
def i64 (x : Int) : Prop := -9223372036854775808 ≤ x ∧ x ≤ 9223372036854775807
structure PfxIn (p : Pfx) : Prop where
  fam : i64 p.fam
  rd : p.rd ≤ 18446744073709551615
  addr : p.addr.length ≤ 1048576
  len : i64 p.len
structure ItmIn (x : Itm) : Prop where
  p : PfxIn x.p
  low : i64 x.low
  high : i64 x.high
def EPfx : Enc Pfx := Enc.cells pfxCs PfxIn 4 (fun _ => rfl) (fun x u hu => by simp only [pfxCs, List.mem_cons, List.not_mem_nil, or_false] at hu; rcases hu with rfl | rfl | rfl | rfl <;> rfl)
def EItm : Enc Itm := Enc.cells itmCs ItmIn 6 (fun _ => rfl) (fun x u hu => by simp only [itmCs, List.mem_cons, List.not_mem_nil, or_false] at hu; rcases hu with rfl | rfl | rfl | rfl | rfl | rfl <;> rfl)
def EAtm : Enc Atm := Enc.cells atmCs (fun a => i64 a.1) 2 (fun _ => rfl) (fun x u hu => by simp only [atmCs, List.mem_cons, List.not_mem_nil, or_false] at hu; rcases hu with rfl | rfl <;> rfl)
theorem EPfx.of {w : World} {S : Nat → Prop} {p : Pfx} {cs : List Value} (h : ((EI64.pair (EU64.pair (EByt.pair EI64))).map fun p : Pfx => (p.fam, p.rd, p.addr, p.len)).R w S p cs) : EPfx.R w S p cs := by
 obtain ⟨c, d, rfl, ⟨rfl, h1⟩, c, d, rfl, ⟨rfl, h2⟩, c, d, rfl, ⟨rfl, h3⟩, ⟨rfl, h4⟩⟩ := h
 exact ⟨rfl, h1, h2, h3, h4⟩
theorem EItm.of {w : World} {S : Nat → Prop} {x : Itm} {cs : List Value} (h : ((EPfx.pair (EI64.pair EI64)).map fun x : Itm => (x.p, x.low, x.high)).R w S x cs) : EItm.R w S x cs := by
 obtain ⟨c, d, rfl, ⟨rfl, h1⟩, c, d, rfl, ⟨rfl, h2⟩, ⟨rfl, h3⟩⟩ := h
 exact ⟨rfl, h1, h2, h3⟩
theorem EAtm.of {w : World} {S : Nat → Prop} {x : Atm} {cs : List Value} (h : (EI64.pair EU32).R w S x cs) : EAtm.R w S x cs := by
 obtain ⟨c, d, rfl, ⟨rfl, h1⟩, ⟨rfl, h2⟩⟩ := h
 exact ⟨rfl, h1⟩
theorem EItm.at {w : World} {S : Nat → Prop} {a : Option Addr} {l : List Itm} (h : Sl EItm w S a l) (k : Nat) (hk : k < l.length) :
  ∃ b off, a = some ⟨b, off, none⟩ ∧ S b ∧ ItmIn l[k] ∧ ∀ j u, (itmCs l[k])[j]? = some u → w.cell? ⟨b, off + k * 6 + j, none⟩ = some u := by
 obtain ⟨b, off, cs, rfl, hb, ⟨rfl, hi⟩, hc⟩ := h.at k hk
 exact ⟨b, off, rfl, hb, hi, hc⟩
theorem EAtm.at {w : World} {S : Nat → Prop} {a : Option Addr} {l : List Atm} (h : Sl EAtm w S a l) (k : Nat) (hk : k < l.length) :
  ∃ b off, a = some ⟨b, off, none⟩ ∧ S b ∧ i64 l[k].1 ∧ w.cell? ⟨b, off + k * 2, none⟩ = some (.int .i64 l[k].1) ∧ w.cell? ⟨b, off + k * 2 + 1, none⟩ = some (.int .u32 (l[k].2.toNat : Int)) := by
 obtain ⟨b, off, cs, rfl, hb, ⟨rfl, h1⟩, hc⟩ := h.at k hk
 exact ⟨b, off, rfl, hb, h1, hc 0 _ rfl, hc 1 _ rfl⟩
theorem EPat.at {w : World} {S : Nat → Prop} {a : Option Addr} {l : List (List Atm)} (h : Sl EAtm.slice w S a l) (k : Nat) (hk : k < l.length) :
  ∃ b off ak ck, a = some ⟨b, off, none⟩ ∧ S b ∧ w.cell? ⟨b, off + k, none⟩ = some (.slice ak l[k].length ck) ∧ l[k].length ≤ 16777216 ∧ Sl EAtm w S ak l[k] := by
 obtain ⟨b, off, cs, rfl, hb, ⟨ak, ck, rfl, hm, hs⟩, hc⟩ := h.at k hk
 have h0 := hc 0 _ rfl
 simp only [Enc.slice, Nat.mul_one, Nat.add_zero] at h0
 exact ⟨b, off, ak, ck, rfl, hb, h0, hm, hs⟩
structure SetIn (w : World) (S : Nat → Prop) (s : StS) (a1 a2 a3 : Option Addr) : Prop where
  name : s.name.length ≤ 1048576
  kind : i64 s.kind
  nItems : s.items.length ≤ 16777216
  items : Sl EItm w S a1 s.items
  nComms : s.comms.length ≤ 16777216
  comms : Sl EU32 w S a2 s.comms
  nPaths : s.paths.length ≤ 16777216
  paths : Sl EAtm.slice w S a3 s.paths
theorem SetIn.frame {w w' : World} {S : Nat → Prop} {s : StS} {a1 a2 a3 : Option Addr} (h : SetIn w S s a1 a2 a3) (hw : ∀ b, S b → w'.heap[b]? = w.heap[b]?) : SetIn w' S s a1 a2 a3 :=
 ⟨h.name, h.kind, h.nItems, h.items.frame hw, h.nComms, h.comms.frame hw, h.nPaths, h.paths.frame hw⟩
theorem SetIn.mono {w : World} {S S' : Nat → Prop} {s : StS} {a1 a2 a3 : Option Addr} (h : SetIn w S s a1 a2 a3) (hS : ∀ b, S b → S' b) : SetIn w S' s a1 a2 a3 :=
 ⟨h.name, h.kind, h.nItems, h.items.mono hS, h.nComms, h.comms.mono hS, h.nPaths, h.paths.mono hS⟩
theorem SetIn.ext {w w' : World} {s : StS} {a1 a2 a3 : Option Addr} (h : SetIn w (· < w.heap.size) s a1 a2 a3) (hb : Ext w w') : SetIn w' (· < w'.heap.size) s a1 a2 a3 :=
 (h.frame hb.block).mono fun _ hh => Nat.lt_of_lt_of_le hh hb.size
open Go.RowKit Go.ChangeShapes Go.WideShapes Go.Deep
section
variable {P : Program} {T : TypeId}
theorem opens_bytes (h : P.underlying T = some .string) (hc : P.cellsOf T = 1) : Opens P T EByt := by
 refine ⟨hc, fun enc W fuel cs x hx hb => ?_⟩
 obtain ⟨s, rfl, hd, hs⟩ := DataW.trod_string h hx
 refine ⟨s.data.toList, by simp, ?_⟩
 rw [hd] at hb
 simp only [Rows.uptoBulk] at hb
 show s.data.toList.length ≤ 1048576
 omega
theorem opens_of {α β : Type} {E : Enc α} {F : Enc β} (h : Opens P T E) (hsz : E.sz = F.sz) (g : α → β) (hg : ∀ {w : World} {S : Nat → Prop} {x : α} {cs : List Value}, E.R w S x cs → F.R w S (g x) cs) : Opens P T F := by
 refine ⟨h.1.trans hsz, fun enc W fuel cs x hx hb => ?_⟩
 obtain ⟨y, hy⟩ := h.2 enc W fuel cs x hx hb
 exact ⟨g y, hg hy⟩
end
theorem opens_EU8 : Opens Tryz.prog 5 EU8 := opens_u8 Tryz.underlying5 (by kernel_rfl)
theorem opens_text : Opens Tryz.prog 9 EByt := opens_bytes Tryz.underlying9 (by kernel_rfl)
end
section
open Go.RowKit
set_option linter.unusedVariables false
set_option linter.unusedSimpArgs false
/-- Bytes as digits. -/
def hexS (b : List UInt8) : List UInt8 := b.flatMap fun x => [dgt (x.toNat / 16), dgt (x.toNat % 16)]
/-- A digit's worth; 16: it is none. -/
def hval (c : UInt8) : Nat := if 48 ≤ c.toNat ∧ c.toNat ≤ 57 then c.toNat - 48 else if 97 ≤ c.toNat ∧ c.toNat ≤ 102 then c.toNat - 87 else 16
def unhexS : List UInt8 → Option (List UInt8)
 | [] => some []
 | [_] => none
 | a :: b :: r => if hval a < 16 ∧ hval b < 16 then (unhexS r).map fun l => UInt8.ofNat (16 * hval a + hval b) :: l else none
theorem hval_dgt {d : Nat} (h : d < 16) : hval (dgt d) = d := by
 unfold hval
 rw [dgt_toNat h]
 split <;> split <;> (try split) <;> omega
theorem dgt_hval {c : UInt8} (h : hval c < 16) : dgt (hval c) = c := by
 apply UInt8.toNat_inj.1
 rw [dgt_toNat h]
 unfold hval at h ⊢
 split at h
 ·rename_i h1; rw [if_pos h1]; split <;> omega
 ·rename_i h1
  rw [if_neg h1]
  split at h
  ·rename_i h2; rw [if_pos h2]; split <;> omega
  ·omega
theorem unhex_hex : ∀ (b : List UInt8), unhexS (hexS b) = some b
  | [] => rfl
  | x :: r => by
    have hx := x.toNat_lt
    have h1 : hval (dgt (x.toNat / 16)) = x.toNat / 16 := hval_dgt (by omega)
    have h2 : hval (dgt (x.toNat % 16)) = x.toNat % 16 := hval_dgt (by omega)
    show unhexS (dgt (x.toNat / 16) :: dgt (x.toNat % 16) :: hexS r) = _
    rw [unhexS, h1, h2, if_pos ⟨by omega, by omega⟩, unhex_hex r]
    show some (_ :: r) = _
    congr 2
    apply UInt8.toNat_inj.1
    rw [UInt8.toNat_ofNat']
    omega
theorem hex_unhex : ∀ (s b : List UInt8), unhexS s = some b → hexS b = s
  | [], b, h => by injection h with h; subst h; rfl
  | [_], b, h => by cases h
  | x :: y :: r, b, h => by
    rw [unhexS] at h
    split at h
    · rename_i hd
      cases hr : unhexS r with
      | none => rw [hr] at h; cases h
      | some l =>
        rw [hr] at h
        injection h with h
        subst h
        have ih := hex_unhex r l hr
        show dgt ((UInt8.ofNat (16 * hval x + hval y)).toNat / 16) :: dgt ((UInt8.ofNat (16 * hval x + hval y)).toNat % 16) :: hexS l = _
        have hv : (UInt8.ofNat (16 * hval x + hval y)).toNat = 16 * hval x + hval y := by rw [UInt8.toNat_ofNat']; omega
        rw [hv, show (16 * hval x + hval y) / 16 = hval x by omega, show (16 * hval x + hval y) % 16 = hval y by omega, dgt_hval hd.1, dgt_hval hd.2, ih]
    · cases h
theorem hexS_len (b : List UInt8) : (hexS b).length = 2 * b.length := by
  induction b with
  | nil => rfl
  | cons x r ih =>
    show (dgt _ :: dgt _ :: hexS r).length = _
    simp only [List.length_cons, ih]
    omega
theorem hexS_mem {b : List UInt8} {c : UInt8} (h : c ∈ hexS b) : ∃ d, d < 16 ∧ c = dgt d := by
 obtain ⟨x, _, h2⟩ := List.mem_flatMap.1 h
 have hx := x.toNat_lt
 simp only [List.mem_cons, List.not_mem_nil, or_false] at h2
 rcases h2 with rfl | rfl
 ·exact ⟨_, by omega, rfl⟩
 ·exact ⟨_, by omega, rfl⟩
theorem hexS_no {b : List UInt8} (c : UInt8) (hc : c.toNat < 48 ∨ (57 < c.toNat ∧ c.toNat < 97) ∨ 102 < c.toNat) : c ∉ hexS b := fun h => by
 obtain ⟨d, hd, rfl⟩ := hexS_mem h
 rw [dgt_toNat hd] at hc
 split at hc <;> omega
/-- A word of bytes. -/
def wordB (b : List UInt8) : List UInt8 := if b = [] then [45] else hexS b
def readB (most : Nat) (s : List UInt8) : Option (List UInt8) :=
 if s = [45] then some [] else match unhexS s with
  | some b => if b ≠ [] ∧ b.length ≤ most then some b else none
  | none => none
theorem readB_word {most : Nat} {b : List UInt8} (h : b.length ≤ most) : readB most (wordB b) = some b := by
 unfold readB wordB
 by_cases hb : b = []
 ·subst hb; rw [if_pos rfl, if_pos rfl]
 ·rw [if_neg hb, if_neg, unhex_hex]
  ·show (if _ then _ else _) = _
   rw [if_pos ⟨hb, h⟩]
  ·intro e
   have := hexS_len b
   rw [e] at this
   simp at this
   omega
theorem word_readB {most : Nat} {s b : List UInt8} (h : readB most s = some b) : wordB b = s ∧ b.length ≤ most := by
  unfold readB at h
  split at h
  · rename_i h1; injection h with h; subst h; exact ⟨h1.symm, Nat.zero_le _⟩
  · cases hu : unhexS s with
    | none => rw [hu] at h; cases h
    | some c =>
      rw [hu] at h
      have h : (if c ≠ [] ∧ c.length ≤ most then some c else none) = some b := h
      split at h
      · rename_i h2
        injection h with h
        subst h
        exact ⟨by unfold wordB; rw [if_neg h2.1]; exact hex_unhex s c hu, h2.2⟩
      · cases h
theorem wordB_no {b : List UInt8} (c : UInt8) (hc : c.toNat < 45 ∨ (45 < c.toNat ∧ c.toNat < 48) ∨ (57 < c.toNat ∧ c.toNat < 97) ∨ 102 < c.toNat) : c ∉ wordB b := by
 unfold wordB
 split
 ·simp only [List.mem_cons, List.not_mem_nil, or_false]
  rintro rfl
  simp at hc
 ·exact hexS_no c (by omega)
/-- An event. -/
structure EvS where
  kind : Int
  conn : Int
  addr : List UInt8
  peer : List UInt8
  bytes : List UInt8
  ticks : Int
  draw : UInt32
deriving instance DecidableEq for EvS
def zeroEv : EvS := ⟨0, 0, [], [], [], 0, 0⟩
def connOk (n : Int) : Bool := decide (1 ≤ n ∧ n ≤ 64)
/-- May it be? -/
def evOk (e : EvS) : Bool :=
 if e.kind = 1 then decide (e = ⟨1, e.conn, e.addr, [], [], 0, 0⟩) && (connOk e.conn && decide (e.addr.length = 4 ∨ e.addr.length = 16))
 else if e.kind = 2 then decide (e = ⟨2, e.conn, [], e.peer, [], 0, 0⟩) && (connOk e.conn && nameOk e.peer)
 else if e.kind = 3 then decide (e = ⟨3, 0, [], e.peer, [], 0, 0⟩) && nameOk e.peer
 else if e.kind = 4 then decide (e = ⟨4, e.conn, [], [], e.bytes, 0, 0⟩) && (connOk e.conn && decide (e.bytes.length ≤ 16384))
 else if e.kind = 5 then decide (e = ⟨5, e.conn, [], [], [], 0, 0⟩) && connOk e.conn
 else if e.kind = 6 then decide (e = ⟨6, 0, [], [], [], e.ticks, 0⟩) && decide (1 ≤ e.ticks ∧ e.ticks ≤ 4096)
 else if e.kind = 7 then decide (e = ⟨7, 0, [], [], e.bytes, 0, 0⟩) && decide (e.bytes.length ≤ 65536)
 else if e.kind = 8 then decide (e = ⟨8, 0, [], [], e.bytes, 0, 0⟩) && decide (e.bytes.length ≤ 16384)
 else if e.kind = 9 then decide (e = ⟨9, 0, [], [], [], 0, e.draw⟩)
 else if e.kind = 10 then decide (e = ⟨10, 0, [], [], [], 0, 0⟩)
 else false
/-- Its words. -/
def evWs (e : EvS) : List (List UInt8) :=
 if e.kind = 1 then [[105, 110], digS 10 e.conn.toNat, (addrT e.addr).1]
 else if e.kind = 2 then [[117, 112], digS 10 e.conn.toNat, e.peer]
 else if e.kind = 3 then [[114, 101, 102, 117, 115, 101], e.peer]
 else if e.kind = 4 then [[100, 97, 116, 97], digS 10 e.conn.toNat, wordB e.bytes]
 else if e.kind = 5 then [[99, 108, 111, 115, 101], digS 10 e.conn.toNat]
 else if e.kind = 6 then [[116, 105, 99, 107], digS 10 e.ticks.toNat]
 else if e.kind = 7 then [[108, 111, 97, 100], wordB e.bytes]
 else if e.kind = 8 then [[97, 115, 107], wordB e.bytes]
 else if e.kind = 9 then [[100, 114, 97, 119], digS 10 e.draw.toNat]
 else [[100, 114, 97, 105, 110]]
def evW (e : EvS) : List UInt8 := Lib.join (evWs e) [32]
def evT (e : EvS) : List UInt8 × Int := if evOk e = true then (evW e, 0) else ([], 2)
def rdC (s : List UInt8) (least most : Nat) : Option Nat := match rdN 10 most s with | some n => if least ≤ n then some n else none | none => none
/-- The event of words. -/
def readE : List (List UInt8) → Option EvS
  | [k, n, x] =>
    if k = [105, 110] then (match rdC n 1 64 with | some c => if (addrC x).2 = 0 then some ⟨1, (c : Int), (addrC x).1, [], [], 0, 0⟩ else none | none => none)
    else if k = [117, 112] then (match rdC n 1 64 with | some c => if nameOk x = true then some ⟨2, (c : Int), [], x, [], 0, 0⟩ else none | none => none)
    else if k = [100, 97, 116, 97] then (match rdC n 1 64 with | some c => (readB 16384 x).map fun b => ⟨4, (c : Int), [], [], b, 0, 0⟩ | none => none)
    else none
  | [k, x] =>
    if k = [114, 101, 102, 117, 115, 101] then (if nameOk x = true then some ⟨3, 0, [], x, [], 0, 0⟩ else none)
    else if k = [99, 108, 111, 115, 101] then (rdC x 1 64).map fun c => ⟨5, (c : Int), [], [], [], 0, 0⟩
    else if k = [116, 105, 99, 107] then (rdC x 1 4096).map fun c => ⟨6, 0, [], [], [], (c : Int), 0⟩
    else if k = [108, 111, 97, 100] then (readB 65536 x).map fun b => ⟨7, 0, [], [], b, 0, 0⟩
    else if k = [97, 115, 107] then (readB 16384 x).map fun b => ⟨8, 0, [], [], b, 0, 0⟩
    else if k = [100, 114, 97, 119] then (rdC x 0 4294967295).map fun c => ⟨9, 0, [], [], [], 0, UInt32.ofNat c⟩
    else none
  | [k] => if k = [100, 114, 97, 105, 110] then some ⟨10, 0, [], [], [], 0, 0⟩ else none
  | _ => none
def evO (s : List UInt8) : Option EvS := readE (spl 32 s)
theorem rdC_some {s : List UInt8} {a m n : Nat} (h : rdC s a m = some n) : a ≤ n ∧ n ≤ m ∧ digS 10 n = s := by
  unfold rdC at h
  cases hr : rdN 10 m s with
  | none => rw [hr] at h; cases h
  | some k =>
    rw [hr] at h
    have h : (if a ≤ k then some k else none) = some n := h
    split at h
    · injection h with h
      subst h
      obtain ⟨h1, h2⟩ := (rdN_iff (by decide) (by decide)).1 hr
      exact ⟨by assumption, h1, h2⟩
    · cases h
theorem rdC_dig {a m n : Nat} (h1 : a ≤ n) (h2 : n ≤ m) : rdC (digS 10 n) a m = some n := by
 unfold rdC
 rw [rdN_dig (by decide) (by decide) h2]
 exact if_pos h1
theorem rdC_int {a m : Nat} {n : Int} (h1 : (a : Int) ≤ n) (h2 : n ≤ (m : Int)) : rdC (digS 10 n.toNat) a m = some n.toNat := rdC_dig (by omega) (by omega)
theorem nameOk_mem {s : List UInt8} (h : nameOk s = true) {c : UInt8} (hc : c ∈ s) : nameCh c = true := by
 unfold nameOk at h
 simp only [Bool.and_eq_true] at h
 exact List.all_eq_true.1 h.2.2.2 c hc
theorem readE_words {e : EvS} (h : evOk e = true) : readE (evWs e) = some e := by
 obtain ⟨k, c, a, p, b, t, d⟩ := e
 unfold evOk at h
 dsimp only at h
 unfold evWs
 dsimp only
 split at h
 ·rename_i hk
  rw [if_pos hk]
  simp only [Bool.and_eq_true, decide_eq_true_eq, connOk, EvS.mk.injEq] at h
  obtain ⟨⟨rfl, _, _, rfl, rfl, rfl, rfl⟩, hc, ha⟩ := h
  have hx := text_addr ha
  unfold readE
  dsimp only
  rw [if_pos rfl, rdC_int (by omega) (by omega), hx]
  show (if (0 : Int) = 0 then _ else _) = _
  rw [if_pos rfl, Int.toNat_of_nonneg (by omega)]
 rename_i hk
 rw [if_neg hk]
 split at h
 ·rename_i hk
  rw [if_pos hk]
  simp only [Bool.and_eq_true, decide_eq_true_eq, connOk, EvS.mk.injEq] at h
  obtain ⟨⟨rfl, _, rfl, _, rfl, rfl, rfl⟩, hc, hn⟩ := h
  unfold readE
  dsimp only
  rw [if_neg (by decide), if_pos rfl, rdC_int (by omega) (by omega)]
  show (if nameOk p = true then _ else _) = _
  rw [if_pos hn, Int.toNat_of_nonneg (by omega)]
 rename_i hk
 rw [if_neg hk]
 split at h
 ·rename_i hk
  rw [if_pos hk]
  simp only [Bool.and_eq_true, decide_eq_true_eq, connOk, EvS.mk.injEq] at h
  obtain ⟨⟨rfl, rfl, rfl, _, rfl, rfl, rfl⟩, hn⟩ := h
  unfold readE
  dsimp only
  rw [if_pos rfl, if_pos hn]
 rename_i hk
 rw [if_neg hk]
 split at h
 ·rename_i hk
  rw [if_pos hk]
  simp only [Bool.and_eq_true, decide_eq_true_eq, connOk, EvS.mk.injEq] at h
  obtain ⟨⟨rfl, _, rfl, rfl, _, rfl, rfl⟩, hc, hb⟩ := h
  unfold readE
  dsimp only
  rw [if_neg (by decide), if_neg (by decide), if_pos rfl, rdC_int (by omega) (by omega)]
  show (readB 16384 (wordB b)).map _ = _
  rw [readB_word hb]
  show some _ = _
  rw [Int.toNat_of_nonneg (by omega)]
 rename_i hk
 rw [if_neg hk]
 split at h
 ·rename_i hk
  rw [if_pos hk]
  simp only [Bool.and_eq_true, decide_eq_true_eq, connOk, EvS.mk.injEq] at h
  obtain ⟨⟨rfl, _, rfl, rfl, rfl, rfl, rfl⟩, hc⟩ := h
  unfold readE
  dsimp only
  rw [if_neg (by decide), if_pos rfl, rdC_int (by omega) (by omega)]
  show some _ = _
  rw [Int.toNat_of_nonneg (by omega)]
 rename_i hk
 rw [if_neg hk]
 split at h
 ·rename_i hk
  rw [if_pos hk]
  simp only [Bool.and_eq_true, decide_eq_true_eq, connOk, EvS.mk.injEq] at h
  obtain ⟨⟨rfl, rfl, rfl, rfl, rfl, _, rfl⟩, hc⟩ := h
  unfold readE
  dsimp only
  rw [if_neg (by decide), if_neg (by decide), if_pos rfl, rdC_int (by omega) (by omega)]
  show some _ = _
  rw [Int.toNat_of_nonneg (by omega)]
 rename_i hk
 rw [if_neg hk]
 split at h
 ·rename_i hk
  rw [if_pos hk]
  simp only [Bool.and_eq_true, decide_eq_true_eq, connOk, EvS.mk.injEq] at h
  obtain ⟨⟨rfl, rfl, rfl, rfl, _, rfl, rfl⟩, hb⟩ := h
  unfold readE
  dsimp only
  rw [if_neg (by decide), if_neg (by decide), if_neg (by decide), if_pos rfl, readB_word hb]
  rfl
 rename_i hk
 rw [if_neg hk]
 split at h
 ·rename_i hk
  rw [if_pos hk]
  simp only [Bool.and_eq_true, decide_eq_true_eq, connOk, EvS.mk.injEq] at h
  obtain ⟨⟨rfl, rfl, rfl, rfl, _, rfl, rfl⟩, hb⟩ := h
  unfold readE
  dsimp only
  rw [if_neg (by decide), if_neg (by decide), if_neg (by decide), if_neg (by decide), if_pos rfl, readB_word hb]
  rfl
 rename_i hk
 rw [if_neg hk]
 split at h
 ·rename_i hk
  rw [if_pos hk]
  simp only [Bool.and_eq_true, decide_eq_true_eq, connOk, EvS.mk.injEq] at h
  obtain ⟨rfl, rfl, rfl, rfl, rfl, rfl, _⟩ := h
  have hd := d.toNat_lt
  unfold readE
  dsimp only
  rw [if_neg (by decide), if_neg (by decide), if_neg (by decide), if_neg (by decide), if_neg (by decide), if_pos rfl, rdC_dig (Nat.zero_le _) (by omega)]
  show some (⟨9, 0, [], [], [], 0, UInt32.ofNat d.toNat⟩ : EvS) = _
  rw [UInt32.ofNat_toNat]
 rename_i hk
 rw [if_neg hk]
 split at h
 ·rename_i hk
  simp only [Bool.and_eq_true, decide_eq_true_eq, connOk, EvS.mk.injEq] at h
  obtain ⟨rfl, rfl, rfl, rfl, rfl, rfl, rfl⟩ := h
  unfold readE
  dsimp only
  rw [if_pos rfl]
 rename_i hk
 cases h
/-- A space, a line's end: none stands in a word of an event that may be. -/
theorem evWs_no {e : EvS} (h : evOk e = true) {c : UInt8} (hc : c = 32 ∨ c = 10) : ∀ w ∈ evWs e, c ∉ w := by
 have hd : c.toNat < 45 := by rcases hc with rfl | rfl <;> decide
 have dig : ∀ n, c ∉ digS 10 n := fun n => digS_no (by decide) (by decide) n c (.inl (by omega))
 have wrd : ∀ b, c ∉ wordB b := fun b => wordB_no c (.inl hd)
 have adr : ∀ x : List UInt8, c ∉ (addrT x).1 := fun x => addrT_no c (.inl (by omega))
 have nam : ∀ x, nameOk x = true → c ∉ x := fun x hx hm => by
  have := nameOk_mem hx hm
  rcases hc with rfl | rfl <;> exact absurd this (by decide)
 have lit : ∀ l : List UInt8, (∀ x ∈ l, 97 ≤ x.toNat) → c ∉ l := fun l hl hm => by have := hl c hm; omega
 obtain ⟨k, cn, a, p, b, t, d⟩ := e
 unfold evOk at h
 unfold evWs
 dsimp only at h ⊢
 intro w hw
 split at h
 ·rename_i hk
  rw [if_pos hk] at hw
  simp only [List.mem_cons, List.not_mem_nil, or_false] at hw
  rcases hw with rfl | rfl | rfl
  ·exact lit _ (by decide)
  ·exact dig _
  ·exact adr _
 rename_i hk
 rw [if_neg hk] at hw
 split at h
 ·rename_i hk
  rw [if_pos hk] at hw
  simp only [Bool.and_eq_true] at h
  have hn := h.2.2
  simp only [List.mem_cons, List.not_mem_nil, or_false] at hw
  rcases hw with rfl | rfl | rfl
  ·exact lit _ (by decide)
  ·exact dig _
  ·exact nam _ hn
 rename_i hk
 rw [if_neg hk] at hw
 split at h
 ·rename_i hk
  rw [if_pos hk] at hw
  simp only [Bool.and_eq_true] at h
  have hn := h.2
  simp only [List.mem_cons, List.not_mem_nil, or_false] at hw
  rcases hw with rfl | rfl
  ·exact lit _ (by decide)
  ·exact nam _ hn
 rename_i hk
 rw [if_neg hk] at hw
 split at h
 ·rename_i hk
  rw [if_pos hk] at hw
  simp only [List.mem_cons, List.not_mem_nil, or_false] at hw
  rcases hw with rfl | rfl | rfl
  ·exact lit _ (by decide)
  ·exact dig _
  ·exact wrd _
 rename_i hk
 rw [if_neg hk] at hw
 split at h
 ·rename_i hk
  rw [if_pos hk] at hw
  simp only [List.mem_cons, List.not_mem_nil, or_false] at hw
  rcases hw with rfl | rfl
  ·exact lit _ (by decide)
  ·exact dig _
 rename_i hk
 rw [if_neg hk] at hw
 split at h
 ·rename_i hk
  rw [if_pos hk] at hw
  simp only [List.mem_cons, List.not_mem_nil, or_false] at hw
  rcases hw with rfl | rfl
  ·exact lit _ (by decide)
  ·exact dig _
 rename_i hk
 rw [if_neg hk] at hw
 split at h
 ·rename_i hk
  rw [if_pos hk] at hw
  simp only [List.mem_cons, List.not_mem_nil, or_false] at hw
  rcases hw with rfl | rfl
  ·exact lit _ (by decide)
  ·exact wrd _
 rename_i hk
 rw [if_neg hk] at hw
 split at h
 ·rename_i hk
  rw [if_pos hk] at hw
  simp only [List.mem_cons, List.not_mem_nil, or_false] at hw
  rcases hw with rfl | rfl
  ·exact lit _ (by decide)
  ·exact wrd _
 rename_i hk
 rw [if_neg hk] at hw
 split at h
 ·rename_i hk
  rw [if_pos hk] at hw
  simp only [List.mem_cons, List.not_mem_nil, or_false] at hw
  rcases hw with rfl | rfl
  ·exact lit _ (by decide)
  ·exact dig _
 rename_i hk
 rw [if_neg hk] at hw
 split at h
 ·rename_i hk
  simp only [List.mem_cons, List.not_mem_nil, or_false] at hw
  subst hw
  exact lit _ (by decide)
 rename_i hk
 cases h
theorem evWs_ne (e : EvS) : evWs e ≠ [] := by
 unfold evWs
 repeat' split
 all_goals simp
theorem spl_ev {e : EvS} (h : evOk e = true) : spl 32 (evW e) = evWs e := by
 have hn := evWs_no h (c := 32) (.inl rfl)
 have hne := evWs_ne e
 unfold evW
 generalize evWs e = l at *
 match l, hne with
 | x :: r, _ => exact join_spl 32 x r hn
theorem evO_ev {e : EvS} (h : evOk e = true) : evO (evW e) = some e := by unfold evO; rw [spl_ev h, readE_words h]
theorem addrC_len4 {x : List UInt8} (h : (addrC x).2 = 0) : (addrT (addrC x).1).1 = x ∧ ((addrC x).1.length = 4 ∨ (addrC x).1.length = 16) := by
 obtain ⟨h1, h2⟩ := addr_text h
 exact ⟨by rw [h1], h2.1⟩
theorem words_readE {w : List (List UInt8)} {e : EvS} (h : readE w = some e) : evOk e = true ∧ evWs e = w := by
  match w, h with
  | [], h => cases h
  | [k], h =>
    unfold readE at h
    dsimp only at h
    split at h
    · rename_i hk
      injection h with h
      subst h hk
      exact ⟨by decide, by decide⟩
    · cases h
  | [k, x], h =>
    unfold readE at h
    dsimp only at h
    split at h
    · rename_i hk
      split at h
      · rename_i hn
        injection h with h
        subst h hk
        exact ⟨by simp [evOk, hn], rfl⟩
      · cases h
    split at h
    · rename_i hk
      subst hk
      cases hc : rdC x 1 64 with
      | none => rw [hc] at h; cases h
      | some c =>
        rw [hc] at h
        injection h with h
        subst h
        obtain ⟨h1, h2, h3⟩ := rdC_some hc
        exact ⟨by simp [evOk, connOk]; omega, by rw [← h3]; rfl⟩
    split at h
    · rename_i hk
      subst hk
      cases hc : rdC x 1 4096 with
      | none => rw [hc] at h; cases h
      | some c =>
        rw [hc] at h
        injection h with h
        subst h
        obtain ⟨h1, h2, h3⟩ := rdC_some hc
        exact ⟨by simp [evOk]; omega, by rw [← h3]; rfl⟩
    split at h
    · rename_i hk
      subst hk
      cases hc : readB 65536 x with
      | none => rw [hc] at h; cases h
      | some b =>
        rw [hc] at h
        injection h with h
        subst h
        obtain ⟨h1, h2⟩ := word_readB hc
        exact ⟨by simp [evOk, h2], by rw [← h1]; rfl⟩
    split at h
    · rename_i hk
      subst hk
      cases hc : readB 16384 x with
      | none => rw [hc] at h; cases h
      | some b =>
        rw [hc] at h
        injection h with h
        subst h
        obtain ⟨h1, h2⟩ := word_readB hc
        exact ⟨by simp [evOk, h2], by rw [← h1]; rfl⟩
    split at h
    · rename_i hk
      subst hk
      cases hc : rdC x 0 4294967295 with
      | none => rw [hc] at h; cases h
      | some c =>
        rw [hc] at h
        injection h with h
        subst h
        obtain ⟨h1, h2, h3⟩ := rdC_some hc
        have hv : (UInt32.ofNat c).toNat = c := by rw [UInt32.toNat_ofNat']; omega
        exact ⟨by simp [evOk], by rw [← h3]; show [_, digS 10 (UInt32.ofNat c).toNat] = _; rw [hv]⟩
    · cases h
  | [k, n, x], h =>
    unfold readE at h
    dsimp only at h
    split at h
    · rename_i hk
      subst hk
      cases hc : rdC n 1 64 with
      | none => rw [hc] at h; cases h
      | some c =>
        rw [hc] at h
        have h : (if (addrC x).2 = 0 then some (⟨1, (c : Int), (addrC x).1, [], [], 0, 0⟩ : EvS) else none) = some e := h
        split at h
        · rename_i ha
          injection h with h
          subst h
          obtain ⟨h1, h2, h3⟩ := rdC_some hc
          obtain ⟨h4, h5⟩ := addrC_len4 ha
          exact ⟨by simp [evOk, connOk, h5]; omega, by rw [← h3]; show [_, _, (addrT (addrC x).1).1] = _; rw [h4]; rfl⟩
        · cases h
    split at h
    · rename_i hk
      subst hk
      cases hc : rdC n 1 64 with
      | none => rw [hc] at h; cases h
      | some c =>
        rw [hc] at h
        have h : (if nameOk x = true then some (⟨2, (c : Int), [], x, [], 0, 0⟩ : EvS) else none) = some e := h
        split at h
        · rename_i ha
          injection h with h
          subst h
          obtain ⟨h1, h2, h3⟩ := rdC_some hc
          exact ⟨by simp [evOk, connOk, ha]; omega, by rw [← h3]; rfl⟩
        · cases h
    split at h
    · rename_i hk
      subst hk
      cases hc : rdC n 1 64 with
      | none => rw [hc] at h; cases h
      | some c =>
        rw [hc] at h
        have h : (readB 16384 x).map (fun b => (⟨4, (c : Int), [], [], b, 0, 0⟩ : EvS)) = some e := h
        cases hb : readB 16384 x with
        | none => rw [hb] at h; cases h
        | some b =>
          rw [hb] at h
          injection h with h
          subst h
          obtain ⟨h1, h2, h3⟩ := rdC_some hc
          obtain ⟨h4, h5⟩ := word_readB hb
          exact ⟨by simp [evOk, connOk, h5]; omega, by rw [← h3, ← h4]; rfl⟩
    · cases h
  | _ :: _ :: _ :: _ :: _, h => cases h
theorem evO_some {s : List UInt8} {e : EvS} (h : evO s = some e) : evOk e = true ∧ evW e = s := by
 obtain ⟨h1, h2⟩ := words_readE h
 exact ⟨h1, by unfold evW; rw [h2]; exact spl_join 32 s⟩
theorem evW_no {e : EvS} (h : evOk e = true) : (10 : UInt8) ∉ evW e := by
 unfold evW
 exact join_no (by decide) (evWs_no h (.inr rfl))
end
section
open Go.RowKit
set_option linter.unusedVariables false
def runW : List UInt8 := [114, 117, 110]
/-- The lines of a configuration, up to 'run': where it stands, how many bytes stand ahead, the lines behind; none: there is none. -/
def scanC : Nat → Nat → List (List UInt8) → Option (Nat × Nat × List (List UInt8))
 | at_, cf, x :: y :: r => if x = runW then some (at_, cf, y :: r) else scanC (at_ + 1) (cf + x.length + 1) (y :: r)
 | _, _, _ => none
/-- The lines of events: events, a code, a place. -/
def scanE : Nat → List EvS → List (List UInt8) → List EvS × Int × Nat
  | at_, out, x :: y :: r => match evO x with
    | none => ([], 9, at_)
    | some e => if out.length = 512 then ([], 3, at_) else scanE (at_ + 1) (out ++ [e]) (y :: r)
  | at_, out, [x] => if x = [] then (out, 0, 0) else ([], 9, at_)
  | at_, out, [] => (out, 0, 0)
/-- What reading a script answers: the configuration, the events, a code (0: all is right), a place. -/
def parseS (s : List UInt8) : List UInt8 × List EvS × Int × Nat :=
  if 1048576 < s.length then ([], [], 3, 0)
  else match scanC 0 0 (spl 10 s) with
    | none => ([], [], 9, (spl 10 s).length - 1)
    | some (at_, cf, r) => match scanE (at_ + 1) [] r with
      | (out, c, p) => if c = 0 then (s.take cf, out, 0, 0) else ([], [], c, p)
/-- A configuration that may stand ahead of a script. -/
def cfgOk (c : List UInt8) : Bool := (decide (c = []) || decide (c.getLast? = some 10)) && !(spl 10 c).contains runW
def tellL (l : List EvS) : List UInt8 := l.flatMap fun e => evW e ++ [10]
def textScr (c : List UInt8) (l : List EvS) : List UInt8 := c ++ (runW ++ (10 :: tellL l))
def printS (c : List UInt8) (l : List EvS) : List UInt8 × Int :=
 if cfgOk c = false then ([], 2)
 else if 512 < l.length then ([], 3)
 else if l.all evOk = false then ([], 2)
 else if 1048576 < (textScr c l).length then ([], 3)
 else (textScr c l, 0)
theorem spl_tell : ∀ (l : List EvS), l.all evOk = true → spl 10 (tellL l) = l.map evW ++ [[]]
  | [], _ => spl_no (by simp [tellL])
  | e :: r, h => by
    simp only [List.all_cons, Bool.and_eq_true] at h
    have h1 : tellL (e :: r) = evW e ++ 10 :: tellL r := by simp [tellL]
    rw [h1, spl_at (evW_no h.1), spl_tell r h.2]
    rfl
theorem scanE_tell : ∀ (l : List EvS) (at_ : Nat) (out : List EvS), l.all evOk = true → out.length + l.length ≤ 512 → scanE at_ out (l.map evW ++ [[]]) = (out ++ l, 0, 0)
  | [], at_, out, _, _ => by simp [scanE]
  | e :: r, at_, out, h, hl => by
    simp only [List.all_cons, Bool.and_eq_true] at h
    simp only [List.length_cons] at hl
    have ih := scanE_tell r (at_ + 1) (out ++ [e]) h.2 (by simp; omega)
    have hne : ∃ y q, r.map evW ++ [[]] = y :: q := by cases r <;> exact ⟨_, _, rfl⟩
    obtain ⟨y, q, hq⟩ := hne
    show scanE at_ out (evW e :: (r.map evW ++ [[]])) = _
    rw [hq] at ih ⊢
    rw [scanE, evO_ev h.1]
    show (if out.length = 512 then _ else _) = _
    rw [if_neg (by omega), ih]
    simp
/-- The lines of a configuration that ends in a line's end: all but the last one, which is empty. -/
theorem spl_end (c t : List UInt8) : spl 10 (c ++ 10 :: t) = spl 10 c ++ spl 10 t := by
 refine spl_ind (P := fun c => spl 10 (c ++ 10 :: t) = spl 10 c ++ spl 10 t) 10 (fun s hs => ?_) (fun a b ha ih => ?_) c.length c (Nat.le_refl _)
 ·rw [spl_at hs, spl_no hs]; rfl
 ·rw [List.append_assoc, List.cons_append, spl_at ha, spl_at ha, ih]; rfl
theorem scanC_lines : ∀ (L : List (List UInt8)) (at_ cf : Nat) (y : List UInt8) (r : List (List UInt8)), runW ∉ L → scanC at_ cf (L ++ runW :: y :: r) = some (at_ + L.length, cf + (L.map fun x => x.length + 1).sum, y :: r)
  | [], at_, cf, y, r, _ => by rw [List.nil_append, scanC, if_pos rfl]; rfl
  | x :: q, at_, cf, y, r, h => by
    have hx : x ≠ runW := fun e => h (by simp [e])
    have hne : ∃ z s, q ++ runW :: y :: r = z :: s := by cases q <;> exact ⟨_, _, rfl⟩
    obtain ⟨z, s, hz⟩ := hne
    have ih := scanC_lines q (at_ + 1) (cf + x.length + 1) y r (fun hm => h (List.mem_cons_of_mem _ hm))
    rw [List.cons_append, hz, scanC, if_neg hx, ← hz, ih]
    simp only [List.length_cons, List.map_cons, List.sum_cons]
    congr 2
    · omega
    · congr 1; omega
theorem spl_size (c : List UInt8) : ((spl 10 c).map fun x => x.length + 1).sum = c.length + 1 := by
 refine spl_ind (P := fun c => ((spl 10 c).map fun x => x.length + 1).sum = c.length + 1) 10 (fun s hs => ?_) (fun a b ha ih => ?_) c.length c (Nat.le_refl _)
 ·rw [spl_no hs]; simp
 ·rw [spl_at ha, List.map_cons, List.sum_cons, ih]
  simp only [List.length_append, List.length_cons]
  omega
theorem textScr_lines {c : List UInt8} (h : cfgOk c = true) : ∃ L, runW ∉ L ∧ (L.map fun x => x.length + 1).sum = c.length ∧ ∀ t, spl 10 (c ++ t) = L ++ spl 10 t := by
 unfold cfgOk at h
 simp only [Bool.and_eq_true, Bool.or_eq_true, decide_eq_true_eq, Bool.not_eq_true'] at h
 obtain ⟨h1, h2⟩ := h
 have h2' : runW ∉ spl 10 c := fun hm => by rw [List.contains_iff_mem.2 hm] at h2; cases h2
 rcases h1 with rfl | h1
 ·exact ⟨[], by simp, rfl, fun t => rfl⟩
 ·have hc : c ≠ [] := by rintro rfl; cases h1
  obtain ⟨d, rfl⟩ : ∃ d, c = d ++ [10] := List.getLast?_eq_some_iff.1 h1
  have hs := spl_end d []
  rw [show spl 10 ([] : List UInt8) = [[]] from spl_no (by simp)] at hs
  have hd : runW ∉ spl 10 d := fun hm => h2' (by rw [hs]; exact List.mem_append_left _ hm)
  refine ⟨spl 10 d, hd, ?_, fun t => ?_⟩
  ·rw [spl_size]; simp
  ·rw [List.append_assoc]; exact spl_end d t
theorem parse_print {c : List UInt8} {l : List EvS} (h : cfgOk c = true) (hl : l.length ≤ 512) (ho : l.all evOk = true) (hs : (textScr c l).length ≤ 1048576) : parseS (textScr c l) = (c, l, 0, 0) := by
 obtain ⟨L, hL, hsum, hsp⟩ := textScr_lines h
 have h1 : spl 10 (textScr c l) = L ++ runW :: (l.map evW ++ [[]]) := by
  unfold textScr
  rw [hsp, spl_at (by decide), spl_tell l ho]
 have hne : ∃ y q, l.map evW ++ [[]] = y :: q := by cases l <;> exact ⟨_, _, rfl⟩
 obtain ⟨y, q, hq⟩ := hne
 have h2 := scanC_lines L 0 0 y q hL
 rw [← hq, Nat.zero_add, Nat.zero_add, hsum] at h2
 have h3 := scanE_tell l (L.length + 1) [] ho (by simpa using hl)
 unfold parseS
 rw [if_neg (by omega), h1, h2]
 dsimp only
 rw [h3]
 dsimp only
 rw [if_pos rfl, List.nil_append]
 congr 1
 unfold textScr
 rw [List.take_left]
end
section
open Go.RowKit Go.Sort
set_option linter.unusedVariables false
/-- A prefix as a value. -/
def valP (p : Pfx) : Value := .agg #[.int .i64 p.fam, .int .u64 (p.rd : Int), .string ⟨p.addr.toArray⟩, .int .i64 p.len]
open Go.RowKit Go.Sort
open Go.RowKit Go.Sort
/-- What a cut answers. -/
noncomputable instance (p : Pfx) (n : Int) : Decidable (cutOk p n) := Classical.propDecidable _
end
section
open Go.RowKit Go.Sort
set_option linter.unusedVariables false
theorem Itoa_any (u : Nat) (hu : u < 9223372036854775808) (w : World) (hT : Tab w) : Calls Tryz.prog 50 #[.int .i64 (u : Int)] w fun e w' => e = .returned (.string (dec u)) ∧ Ext w w' := by
 refine (Tryz.strconv_Itoa (u : Int) (by omega) (by omega) w hT).mono ?_
 rintro e w' ⟨rfl, k, os, rfl⟩
 refine ⟨by rw [Lib.itoa_nonneg]; rfl, ?_⟩
 refine ⟨rfl, rfl, rfl, by simp [grow, World.drewN], fun j hj => ?_⟩
 simp only [grow, World.drewN]
 rw [Array.getElem?_append_left hj]
def decB8 (u : UInt8) : ByteArray := dec u.toNat
theorem decB8_size (u : UInt8) : (decB8 u).size ≤ 21 := by
 have := Lib.itoa_length_le (u.toNat : Int) (by have := u.toNat_lt; omega) (by have := u.toNat_lt; omega)
 rw [Lib.itoa_nonneg] at this
 unfold decB8 dec
 simpa [ByteArray.size] using this
theorem Own.one {w : World} {B g : Nat} {T : TypeId} {x : ByteArray} (h : Blk w g T #[.string x]) (hB : B ≤ g) (hx : x.size ≤ maxLen) : Own EStr T w B (.slice (some ⟨g, 0, none⟩) 1 1) [x] := by
  refine ⟨[.string x], ⟨rfl, .inr ⟨g, 1, #[.string x], rfl, hB, h, Nat.le_refl _, by unfold maxLen; omega, rfl, rfl⟩⟩, fun k y hy => ?_⟩
  cases k with
  | zero =>
    obtain rfl : x = y := by simpa using hy
    refine ⟨[.string x], ⟨rfl, hx⟩, fun j u hu => ?_⟩
    match j, hu with
    | 0, hu => simpa using hu
  | succ k => simp at hy
set_option maxRecDepth 20000 in
set_option maxHeartbeats 2000000 in
theorem AAddrText4_any (bs : List UInt8) (h4 : bs.length = 4) (w : World) (hT : Tab w) (hlen : (Lib.join ((bs.map decB8).map (·.data.toList)) [46]).length ≤ 1048576) :
    Calls Tryz.prog 61 #[.string ⟨bs.toArray⟩] w fun e w' => e = .returned (.tuple #[.string ⟨(Lib.join ((bs.map decB8).map (·.data.toList)) [46]).toArray⟩, .int .i64 0]) ∧ Ext w w' := by
  have hz : (ByteArray.mk bs.toArray).size = 4 := by simp [ByteArray.size, h4]
  replace hT := hide hT
  go_enter Tryz.func61, Tryz.ntmps61
  go_wp2_with fail
  go_loopw [4, 13] (fun v q wr => ∃ k : Nat, k ≤ 4 ∧ q = .int .i64 k ∧ Own EStr 9 wr w.heap.size v ((bs.take k).map decB8) ∧ Ext w wr) (fun _ q _ => 4 - (intOf q).toNat)
  case atStart => exact ⟨0, by omega, rfl, by rw [List.take_zero]; exact Own.nil, Ext.refl _⟩
  case round =>
    obtain ⟨k, hk, rfl, hown, hE⟩ := hrel
    rename World => W0
    have hz0 := hE.size
    obtain ⟨vo, dd, rfl⟩ := hown.form
    have hlk : ((bs.take k).map decB8).length = k := by simp; omega
    rw [hlk] at hown ⊢
    replace hlk := hide hlk
    replace hE := hide hE
    replace hown := hide hown
    by_cases hlt : k < 4
    · have e1 : (ByteArray.mk bs.toArray)[k]'(by omega) = bs[k]'(by omega) := rfl
      have hnx : (bs.take k).map decB8 ++ [decB8 (bs[k]'(by omega))] = (bs.take (k + 1)).map decB8 := by rw [List.take_succ_eq_append_getElem (by omega), List.map_append]; rfl
      generalize bs[k]'(by omega) = u at e1 hnx
      have hu8 := u.toNat_lt
      have hsz := decB8_size u
      have hI := Itoa_any u.toNat (by omega) W0 (hT.out.ext hE.out)
      have w8 : IntKind.i64.wrap (u.toNat : Int) = (u.toNat : Int) := by rw [IntKind.wrap_i64]; omega
      replace hI := hide hI
      replace hnx := hide hnx
      replace hsz := hide hsz
      go_wp2_with fail
      refine hI.out.mono ?_
      rintro e w3 ⟨rfl, he3⟩
      have hown3 := hide (hown.out.ext he3)
      have hE3 := hide (hE.out.trans he3)
      have hz3 := he3.size
      clear he3
      go_wp2_with (at_builtin
                   have hox := hown3.out.alloc (Obj.cells #[.string (dec u.toNat)] 9)
                   refine wpList_push (E := EStr) rfl _ _ _ rfl okStr (by decide) (by decide) rfl hox (by rw [hlk.out]; omega) (by simp; omega) rfl (y := decB8 u) (cs := [.string (dec u.toNat)]) ⟨rfl, by have := hsz.out; unfold maxLen; omega⟩ (str_new' _ _ _) ?_
                   intro v' w5 hown1 hg hat)
      go_roundw
      case rel => exact ⟨k + 1, by omega, by go_num, by rw [← hnx.out]; exact hown1, (hE3.out.alloc _).push (fun j hj => (hown3.out.lt j hj).1) hg⟩
      case measure => simp [intOf]; omega
    · obtain rfl : k = 4 := by omega
      have hall : bs.take 4 = bs := List.take_of_length_le (by omega)
      rw [hall] at hown hlk
      obtain ⟨a9, c9, hv9, hc9, hs9⟩ := hown.out.slc
      injection hv9 with e1 e2 e3
      subst e1 e3
      clear e2
      have hJ := Join_any vo dd (bs.map decB8) 46 W0 _ (fun b hb => hb.2) hs9 (by intro h; have := hlk.out; rw [h] at this; exact absurd this (by simp)) hc9 (by rw [hlk.out]; omega) (by omega)
      rw [hlk.out] at hJ
      replace hJ := hide hJ
      go_wp2_with fail
      refine hJ.out.mono ?_
      rintro e w6 ⟨rfl, he6⟩
      replace he6 := hide he6
      go_wp2
      go_ret2
      exact ⟨by rw [List.map_map]; rfl, hE.out.trans he6.out⟩
end
section
open Go.RowKit Go.Sort
set_option linter.unusedVariables false
def hexB (n : Nat) : ByteArray := ⟨(digS 16 n).toArray⟩
theorem txt4_dec (bs : List UInt8) : Lib.join ((bs.map decB8).map (·.data.toList)) [46] = txt4 bs := by
 unfold txt4
 congr 1
 rw [List.map_map]
 apply List.map_congr_left
 intro u _
 show (Lib.decDigits u.toNat) = _
 rw [digS_dec]
theorem txt16_hex (bs : List UInt8) : Lib.join (((pairs bs).map hexB).map (·.data.toList)) [58] = txt16 bs := by
 unfold txt16
 congr 1
 rw [List.map_map]
 rfl
theorem addrT_len {a : List UInt8} : (addrT a).1.length ≤ 39 := by
 by_cases h : a.length = 4 ∨ a.length = 16
 ·have := text_addr h
  exact (addr_text (s := (addrT a).1) (by rw [this])).2.2
 ·unfold addrT
  rw [if_neg (by omega), if_neg (by omega)]
  simp
theorem hexB_size (n : Nat) (h : n ≤ 65535) : (hexB n).size ≤ 4 := by
 have := digS_len (b := 16) (by decide) 4 n (by omega) (by decide)
 simpa [hexB, ByteArray.size] using this
theorem or_byte16 (v : Nat) (b : UInt8) (hv : v < 72057594037927936) : bits BinOp.or IntKind.u64 ((v : Int) * 256) (b.toNat : Int) = ((v * 256 + b.toNat : Nat) : Int) := by
 have hb := b.toNat_lt
 rw [show (v : Int) * 256 = ((v * 256 : Nat) : Int) by omega, u64_or_nat _ _ (by omega) (by omega)]
 have h := Nat.shiftLeft_add_eq_or_of_lt (show b.toNat < 2 ^ 8 from hb) v
 rw [Nat.shiftLeft_eq] at h
 rw [← h]
set_option maxRecDepth 20000 in
set_option maxHeartbeats 2000000 in
theorem AAddrText16_any (bs : List UInt8) (h16 : bs.length = 16) (w : World) (hD : Deb w) :
    Calls Tryz.prog 61 #[.string ⟨bs.toArray⟩] w fun e w' => e = .returned (.tuple #[.string ⟨(txt16 bs).toArray⟩, .int .i64 0]) ∧ Ext w w' := by
  have mixed : Tryz.prog.follows Departure.mixedOrders = true := by kernel_rfl
  have hz : (ByteArray.mk bs.toArray).size = 16 := by simp [ByteArray.size, h16]
  have hpl : (pairs bs).length = 8 := by rw [pairs_length, h16]
  have htl : (txt16 bs).length ≤ 39 := by
    have := addrT_len (a := bs)
    unfold addrT at this
    rw [if_neg (by omega), if_pos h16] at this
    exact this
  replace hD := hide hD
  replace htl := hide htl
  go_enter Tryz.func61, Tryz.ntmps61
  go_wp2_with fail
  go_loopw [4, 6] (fun v q wr => ∃ k j : Nat, k ≤ 8 ∧ j = 2 * k ∧ q = .int .i64 (j : Int) ∧ Own EStr 9 wr w.heap.size v (((pairs bs).take k).map hexB) ∧ Ext w wr) (fun _ q _ => 16 - (intOf q).toNat)
  case atStart => exact ⟨0, 0, by omega, rfl, rfl, by rw [List.take_zero]; exact Own.nil, Ext.refl _⟩
  case round =>
    obtain ⟨k, j, hk, hj, rfl, hown, hE⟩ := hrel
    rename World => W0
    have hz0 := hE.size
    obtain ⟨vo, dd, rfl⟩ := hown.form
    have hlk : (((pairs bs).take k).map hexB).length = k := by simp; omega
    rw [hlk] at hown ⊢
    replace hlk := hide hlk
    replace hE := hide hE
    replace hown := hide hown
    by_cases hlt : k < 8
    · have hj1 : j + 1 < 16 := by omega
      have hjb : j + 1 < bs.length := by omega
      have hjz : j + 1 < (ByteArray.mk bs.toArray).size := by omega
      replace hj := hide hj
      have hp : (pairs bs)[k]? = some (256 * (bs[j]'(Nat.lt_of_succ_lt hjb)).toNat + (bs[j + 1]'hjb).toNat) := by
        have hj2 := hj.out
        subst hj2
        exact pairs_at bs k hjb
      have e1 : (ByteArray.mk bs.toArray)[j]'(Nat.lt_of_succ_lt hjz) = bs[j]'(Nat.lt_of_succ_lt hjb) := rfl
      have e2 : (ByteArray.mk bs.toArray)[j + 1]'hjz = bs[j + 1]'hjb := rfl
      generalize bs[j]'(Nat.lt_of_succ_lt hjb) = u1 at e1 hp
      generalize bs[j + 1]'hjb = u2 at e2 hp
      have l1 := u1.toNat_lt
      have l2 := u2.toNat_lt
      have hpk : (pairs bs)[k]'(by omega) = 256 * u1.toNat + u2.toNat := by
        have := List.getElem?_eq_getElem (show k < (pairs bs).length by omega)
        rw [this] at hp
        exact Option.some.inj hp
      have hnx : ((pairs bs).take k).map hexB ++ [hexB (256 * u1.toNat + u2.toNat)] = ((pairs bs).take (k + 1)).map hexB := by rw [List.take_succ_eq_append_getElem (by omega), List.map_append, hpk]; rfl
      have hsz := hexB_size (256 * u1.toNat + u2.toNat) (by omega)
      have hF := fun W h => Format16 (256 * u1.toNat + u2.toNat) (by omega) W h
      have w1 : IntKind.u64.wrap (u1.toNat : Int) = (u1.toNat : Int) := by rw [IntKind.wrap_u64]; omega
      have w2 : IntKind.u64.wrap (u2.toNat : Int) = (u2.toNat : Int) := by rw [IntKind.wrap_u64]; omega
      have w3 : IntKind.i64.wrap ((j : Int) + 1) = (j : Int) + 1 := by rw [IntKind.wrap_i64]; omega
      have w6 : IntKind.i64.wrap ((j : Int) + 2) = (j : Int) + 2 := by rw [IntKind.wrap_i64]; omega
      have w4 : ((j : Int) + 1).toNat = j + 1 := by omega
      have w5 : IntKind.u64.wrap ((u1.toNat : Int) * 256) = (u1.toNat : Int) * 256 := by rw [IntKind.wrap_u64]; omega
      have hor := or_byte16 u1.toNat u2 (by omega)
      rw [Nat.mul_comm u1.toNat 256] at hor
      generalize 256 * u1.toNat + u2.toNat = n at hnx hsz hF hor
      have hnm : (Tryz.f62.name == "runtime.NumGoroutine") = false := by kernel_rfl
      have hbd : Tryz.f62.body.isNone = false := by kernel_rfl
      replace hnm := hide hnm
      replace hbd := hide hbd
      have hb0 : (0 : Int) ≤ (j : Int) + 1 := by omega
      have hb1 : (j : Int) < 16 := by omega
      have hb2 : (j : Int) + 1 < 16 := by omega
      replace hF := hide hF
      replace hnx := hide hnx
      replace hsz := hide hsz
      clear hp hpk
      go_wp2_with fail
      go_region_law_o (first
        | (refine step_callN (fn := Tryz.f62) (by rfl) _ _ _ rfl Tryz.func62 hnm.out hbd.out #[.int .u64 (n : Int), .int .i64 16] (by simp [Act.eval, Act.put]) (hF.out _ (hD.out.ext hE.out.drew)) ?_
           rintro e w3 ⟨rfl, he3⟩
           refine ⟨_, rfl, ?_⟩
           have hown3 := hide (hown.out.drew.ext he3)
           have hE3 := hide (hE.out.drew.trans he3)
           have hz3 : W0.heap.size ≤ w3.heap.size := he3.size
           clear he3)
        | (refine step_push (E := EStr) (B := w.heap.size) (v := .slice vo k dd) (l := ((pairs bs).take k).map hexB) (y := hexB n) (cs := [.string (hexB n)]) rfl _ _ _ (by rfl) okStr (by decide) (by decide) (by rfl) (hown3.out.alloc _) (by rw [hlk.out]; omega) (by simp; omega) (by rfl) ⟨rfl, by have := hsz.out; unfold maxLen; omega⟩ (str_new' _ _ _) ?_
           intro v' w5 hown1 hg hat))
      all_goals
        go_wp2
        exact ⟨⟨k + 1, j + 2, by omega, by have := hj.out; omega, by go_num, by rw [← hnx.out]; exact hown1, (hE3.out.alloc _).push (fun j hj => (hown3.out.lt j hj).1) hg⟩, by simp [intOf]; omega⟩
    · obtain rfl : k = 8 := by omega
      subst hj
      have hall : (pairs bs).take 8 = pairs bs := List.take_of_length_le (by omega)
      rw [hall] at hown hlk
      obtain ⟨a9, c9, hv9, hc9, hs9⟩ := hown.out.slc
      injection hv9 with e1 e2 e3
      subst e1 e3
      clear e2
      have hJ := Join_any vo dd ((pairs bs).map hexB) 58 W0 _ (fun b hb => hb.2) hs9 (by intro h; have := hlk.out; rw [h] at this; exact absurd this (by simp)) hc9 (by rw [hlk.out]; omega) (by rw [txt16_hex]; have := htl.out; omega)
      rw [hlk.out, txt16_hex] at hJ
      replace hJ := hide hJ
      go_wp2_with fail
      refine hJ.out.mono ?_
      rintro e w6 ⟨rfl, he6⟩
      replace he6 := hide he6
      go_wp2
      go_ret2
      exact ⟨rfl, hE.out.trans he6.out⟩
set_option maxRecDepth 20000 in
theorem AAddrText_any (a : List UInt8) (ha : a.length ≤ 1048576) (w : World) (hT : Tab w) (hD : Deb w) :
  Calls Tryz.prog 61 #[.string ⟨a.toArray⟩] w fun e w' => e = .returned (.tuple #[.string ⟨(addrT a).1.toArray⟩, .int .i64 (addrT a).2]) ∧ Ext w w' := by
 by_cases h4 : a.length = 4
 ·have hl := addrT_len (a := a)
  have h := AAddrText4_any a h4 w hT (by rw [txt4_dec]; unfold addrT at hl; rw [if_pos h4] at hl; have hl2 : (txt4 a).length ≤ 39 := hl; omega)
  rw [txt4_dec] at h
  unfold addrT
  rw [if_pos h4]
  exact h
 ·by_cases h16 : a.length = 16
  ·unfold addrT
   rw [if_neg h4, if_pos h16]
   exact AAddrText16_any a h16 w hD
  ·unfold addrT
   rw [if_neg h4, if_neg h16]
   have hz : (ByteArray.mk a.toArray).size = a.length := by simp [ByteArray.size]
   have b1 : ((a.length : Int) == 4) = false := by rw [beq_eq_false_iff_ne]; omega
   have b2 : ((a.length : Int) == 16) = false := by rw [beq_eq_false_iff_ne]; omega
   clear hT hD
   go_enter Tryz.func61, Tryz.ntmps61
   go_wp2
   go_ret2
   exact ⟨rfl, Ext.refl _⟩
end
section
open Go.RowKit
set_option linter.unusedVariables false
set_option linter.unusedSimpArgs false
theorem wordB_len (b : List UInt8) : (wordB b).length ≤ 2 * b.length + 1 := by
 unfold wordB
 split
 ·simp
 ·rw [hexS_len]; omega
theorem dig10 {n : Nat} (h : n ≤ 4294967295) : (digS 10 n).length ≤ 10 := digS_len (by decide) 10 _ (by omega) (by decide)
theorem evW_len {e : EvS} (h : evOk e = true) : (evW e).length ≤ 131112 := by
 have hx := addrT_len (a := e.addr)
 have hw := wordB_len e.bytes
 have hdw := dig10 (n := e.draw.toNat) (by have := e.draw.toNat_lt; omega)
 have nam : ∀ x : List UInt8, nameOk x = true → x.length ≤ 16 := fun x hx => by
  unfold nameOk at hx
  simp only [Bool.and_eq_true, decide_eq_true_eq] at hx
  exact hx.2.1
 have l3 : ∀ a b c : List UInt8, (Lib.join [a, b, c] [32]).length = a.length + b.length + c.length + 2 := fun a b c => by simp [Lib.join]; omega
 have l2 : ∀ a b : List UInt8, (Lib.join [a, b] [32]).length = a.length + b.length + 1 := fun a b => by simp [Lib.join]; omega
 have hcn : 1 ≤ e.conn ∧ e.conn ≤ 64 → (digS 10 e.conn.toNat).length ≤ 10 := fun hc => dig10 (by omega)
 have hct : 1 ≤ e.ticks ∧ e.ticks ≤ 4096 → (digS 10 e.ticks.toNat).length ≤ 10 := fun hc => dig10 (by omega)
 have hnp := nam e.peer
 obtain ⟨k, c, a, p, b, t, d⟩ := e
 unfold evOk at h
 unfold evW evWs
 dsimp only at h hx hw hdw hcn hct hnp ⊢
 split at h
 ·rename_i hk; simp only [Bool.and_eq_true, decide_eq_true_eq, connOk] at h; rw [if_pos hk, l3]
  have := hcn h.2.1
  simp only [List.length_cons, List.length_nil]; omega
 rename_i hk
 rw [if_neg hk]
 split at h
 ·rename_i hk; simp only [Bool.and_eq_true, decide_eq_true_eq, connOk] at h; rw [if_pos hk, l3]
  have := hcn h.2.1
  have := hnp h.2.2
  simp only [List.length_cons, List.length_nil]; omega
 rename_i hk
 rw [if_neg hk]
 split at h
 ·rename_i hk; simp only [Bool.and_eq_true, decide_eq_true_eq, connOk] at h; rw [if_pos hk, l2]
  have := hnp h.2
  simp only [List.length_cons, List.length_nil]; omega
 rename_i hk
 rw [if_neg hk]
 split at h
 ·rename_i hk; simp only [Bool.and_eq_true, decide_eq_true_eq, connOk] at h; rw [if_pos hk, l3]
  have := hcn h.2.1
  simp only [List.length_cons, List.length_nil]; omega
 rename_i hk
 rw [if_neg hk]
 split at h
 ·rename_i hk; simp only [Bool.and_eq_true, decide_eq_true_eq, connOk] at h; rw [if_pos hk, l2]
  have := hcn h.2
  simp only [List.length_cons, List.length_nil]; omega
 rename_i hk
 rw [if_neg hk]
 split at h
 ·rename_i hk; simp only [Bool.and_eq_true, decide_eq_true_eq, connOk] at h; rw [if_pos hk, l2]
  have := hct h.2
  simp only [List.length_cons, List.length_nil]; omega
 rename_i hk
 rw [if_neg hk]
 split at h
 ·rename_i hk; simp only [Bool.and_eq_true, decide_eq_true_eq, connOk] at h; rw [if_pos hk, l2]
  have := h.2
  simp only [List.length_cons, List.length_nil]; omega
 rename_i hk
 rw [if_neg hk]
 split at h
 ·rename_i hk; simp only [Bool.and_eq_true, decide_eq_true_eq, connOk] at h; rw [if_pos hk, l2]
  have := h.2
  simp only [List.length_cons, List.length_nil]; omega
 rename_i hk
 rw [if_neg hk]
 split at h
 ·rename_i hk; simp only [Bool.and_eq_true, decide_eq_true_eq, connOk] at h; rw [if_pos hk, l2]
  simp only [List.length_cons, List.length_nil]; omega
 rename_i hk
 rw [if_neg hk]
 simp [Lib.join]
end
section
open Go.RowKit
set_option linter.unusedVariables false
set_option linter.unusedSimpArgs false
/-- An event's words, as far as its kind has fields. -/
def tellS (e : EvS) : List UInt8 :=
 if e.kind = 1 then Lib.join [[105, 110], Lib.itoa e.conn, (addrT e.addr).1] [32]
 else if e.kind = 2 then Lib.join [[117, 112], Lib.itoa e.conn, e.peer] [32]
 else if e.kind = 3 then Lib.join [[114, 101, 102, 117, 115, 101], e.peer] [32]
 else if e.kind = 4 then Lib.join [[100, 97, 116, 97], Lib.itoa e.conn, wordB e.bytes] [32]
 else if e.kind = 5 then Lib.join [[99, 108, 111, 115, 101], Lib.itoa e.conn] [32]
 else if e.kind = 6 then Lib.join [[116, 105, 99, 107], Lib.itoa e.ticks] [32]
 else if e.kind = 7 then Lib.join [[108, 111, 97, 100], wordB e.bytes] [32]
 else if e.kind = 8 then Lib.join [[97, 115, 107], wordB e.bytes] [32]
 else if e.kind = 9 then Lib.join [[100, 114, 97, 119], digS 10 e.draw.toNat] [32]
 else if e.kind = 10 then [100, 114, 97, 105, 110]
 else []
theorem itoa_nn {n : Int} (h : 0 ≤ n) : Lib.itoa n = digS 10 n.toNat := by
 rw [digS_dec]
 exact if_neg (by omega)
theorem tell_ok {e : EvS} (h : evOk e = true) : tellS e = evW e := by
 have hcn : connOk e.conn = true → Lib.itoa e.conn = digS 10 e.conn.toNat := fun hc => itoa_nn (by simp only [connOk, decide_eq_true_eq] at hc; omega)
 unfold evOk at h
 unfold tellS evW evWs
 split at h
 ·rename_i hk; (try simp only [Bool.and_eq_true] at h); rw [if_pos hk, if_pos hk, hcn h.2.1]
 rename_i hk; rw [if_neg hk, if_neg hk]
 split at h
 ·rename_i hk; (try simp only [Bool.and_eq_true] at h); rw [if_pos hk, if_pos hk, hcn h.2.1]
 rename_i hk; rw [if_neg hk, if_neg hk]
 split at h
 ·rename_i hk; (try simp only [Bool.and_eq_true] at h); rw [if_pos hk, if_pos hk]
 rename_i hk; rw [if_neg hk, if_neg hk]
 split at h
 ·rename_i hk; (try simp only [Bool.and_eq_true] at h); rw [if_pos hk, if_pos hk, hcn h.2.1]
 rename_i hk; rw [if_neg hk, if_neg hk]
 split at h
 ·rename_i hk; (try simp only [Bool.and_eq_true] at h); rw [if_pos hk, if_pos hk, hcn h.2]
 rename_i hk; rw [if_neg hk, if_neg hk]
 split at h
 ·rename_i hk; (try simp only [Bool.and_eq_true] at h); rw [if_pos hk, if_pos hk, itoa_nn (by have := of_decide_eq_true h.2; omega)]
 rename_i hk; rw [if_neg hk, if_neg hk]
 split at h
 ·rename_i hk; (try simp only [Bool.and_eq_true] at h); rw [if_pos hk, if_pos hk]
 rename_i hk; rw [if_neg hk, if_neg hk]
 split at h
 ·rename_i hk; (try simp only [Bool.and_eq_true] at h); rw [if_pos hk, if_pos hk]
 rename_i hk; rw [if_neg hk, if_neg hk]
 split at h
 ·rename_i hk; (try simp only [Bool.and_eq_true] at h); rw [if_pos hk, if_pos hk]
 rename_i hk; rw [if_neg hk, if_neg hk]
 split at h
 ·rename_i hk; rw [if_pos hk]; rfl
 cases h
/-- The line that is told is one that is read back. -/
theorem evT_back (e : EvS) : evT e = if evO (tellS e) = some e then (tellS e, 0) else ([], 2) := by
 unfold evT
 by_cases h : evOk e = true
 ·rw [if_pos h, tell_ok h, if_pos (evO_ev h)]
 ·rw [if_neg h, if_neg]
  intro hb
  exact h (evO_some hb).1
/-- An output. -/
structure OutS where
  kind : Int
  conn : Int
  peer : List UInt8
  bytes : List UInt8
  err : Int
deriving instance DecidableEq for OutS
/-- The rest of a script's reading, from a line on: the configuration's lines; the events' lines. -/
def restE (s : List UInt8) (cf at_ : Nat) (out : List EvS) (r : List (List UInt8)) : List UInt8 × List EvS × Int × Nat :=
 match scanE at_ out r with
 | (o, c, p) => if c = 0 then (s.take cf, o, 0, 0) else ([], [], c, p)
def restC (s : List UInt8) (at_ cf : Nat) (L : List (List UInt8)) : List UInt8 × List EvS × Int × Nat :=
 match scanC at_ cf L with
 | none => ([], [], 9, at_ + L.length - 1)
 | some (a, k, r) => restE s k (a + 1) [] r
theorem parse_rest {s : List UInt8} (h : s.length ≤ 1048576) : parseS s = restC s 0 0 (spl 10 s) := by
 unfold parseS restC restE
 rw [if_neg (by omega)]
 cases scanC 0 0 (spl 10 s) with
 | none => simp
 | some x => rfl
theorem restC_run (s : List UInt8) (at_ cf : Nat) {x y : List UInt8} {r : List (List UInt8)} (h : x = runW) : restC s at_ cf (x :: y :: r) = restE s cf (at_ + 1) [] (y :: r) := by
 unfold restC
 rw [scanC, if_pos h]
theorem restC_on (s : List UInt8) (at_ cf : Nat) {x y : List UInt8} {r : List (List UInt8)} (h : x ≠ runW) : restC s at_ cf (x :: y :: r) = restC s (at_ + 1) (cf + x.length + 1) (y :: r) := by
 unfold restC
 rw [scanC, if_neg h]
 cases scanC (at_ + 1) (cf + x.length + 1) (y :: r) with
 | none => simp only [List.length_cons, Prod.mk.injEq, true_and]; omega
 | some x => rfl
theorem restC_end (s : List UInt8) (at_ cf : Nat) (x : List UInt8) : restC s at_ cf [x] = ([], [], 9, at_) := by
 unfold restC
 rw [scanC]
 ·simp
 ·intro a b c h; cases h
theorem restE_bad (s : List UInt8) (cf at_ : Nat) (out : List EvS) {x y : List UInt8} {r : List (List UInt8)} (h : evO x = none) : restE s cf at_ out (x :: y :: r) = ([], [], 9, at_) := by
 unfold restE
 rw [scanE, h]
 rfl
theorem restE_long (s : List UInt8) (cf at_ : Nat) {out : List EvS} {x y : List UInt8} {r : List (List UInt8)} {e : EvS} (h : evO x = some e) (hl : out.length = 512) : restE s cf at_ out (x :: y :: r) = ([], [], 3, at_) := by
 unfold restE
 rw [scanE, h]
 dsimp only
 rw [if_pos hl]
 rfl
theorem restE_on (s : List UInt8) (cf at_ : Nat) {out : List EvS} {x y : List UInt8} {r : List (List UInt8)} {e : EvS} (h : evO x = some e) (hl : out.length ≠ 512) : restE s cf at_ out (x :: y :: r) = restE s cf (at_ + 1) (out ++ [e]) (y :: r) := by
 unfold restE
 rw [scanE, h]
 dsimp only
 rw [if_neg hl]
theorem restE_end (s : List UInt8) (cf at_ : Nat) (out : List EvS) (x : List UInt8) : restE s cf at_ out [x] = if x = [] then (s.take cf, out, 0, 0) else ([], [], 9, at_) := by
 unfold restE
 rw [scanE]
 by_cases h : x = []
 ·rw [if_pos h, if_pos h]; rfl
 ·rw [if_neg h, if_neg h]; rfl
/-- 'run' stands in a line: or a text holds it between two lines' ends. -/
def nlRun : List UInt8 := 10 :: (runW ++ [10])
theorem nlRun_step {a t : List UInt8} (h : (10 : UInt8) ∉ a) : nlRun <:+: 10 :: (a ++ 10 :: t) ↔ a = runW ∨ nlRun <:+: 10 :: t := by
  constructor
  · rintro ⟨x, y, he⟩
    cases x with
    | nil =>
      left
      unfold nlRun at he
      simp only [List.nil_append, List.cons_append, List.append_assoc, List.cons.injEq, true_and] at he
      exact (append_at he.symm h (by decide)).1
    | cons c x =>
      right
      unfold nlRun at he
      simp only [List.cons_append, List.append_assoc, List.cons.injEq] at he
      obtain ⟨rfl, he⟩ := he
      rcases List.append_eq_append_iff.1 he with ⟨z, hz, he⟩ | ⟨z, hz, he⟩
      · cases z with
        | nil =>
          rw [List.nil_append] at he
          exact ⟨[], y, by unfold nlRun; simp only [List.nil_append, List.cons_append, List.append_assoc]; exact he⟩
        | cons d z =>
          exfalso
          rw [List.cons_append] at he
          injection he with h1 h2
          subst h1
          exact h (by rw [hz]; simp)
      · exact ⟨z, y, by unfold nlRun; simp only [List.cons_append, List.append_assoc]; exact he.symm⟩
  · rintro (rfl | ⟨x, y, he⟩)
    · exact ⟨[], t, by simp [nlRun]⟩
    · exact ⟨10 :: (a ++ x), y, by simp only [List.cons_append, List.append_assoc] at he ⊢; rw [he]⟩
end
section
open Go.RowKit
set_option linter.unusedVariables false
theorem digs_get (d : Nat) (h : d < 16) (h2 : d < (ByteArray.mk #[48, 49, 50, 51, 52, 53, 54, 55, 56, 57, 97, 98, 99, 100, 101, 102]).size) : (ByteArray.mk #[48, 49, 50, 51, 52, 53, 54, 55, 56, 57, 97, 98, 99, 100, 101, 102])[d]'h2 = dgt d := by
 have : ∀ d : Fin 16, (ByteArray.mk #[48, 49, 50, 51, 52, 53, 54, 55, 56, 57, 97, 98, 99, 100, 101, 102])[d.val]'(d.isLt) = dgt d.val := by decide +kernel
 exact this ⟨d, h⟩
/-- What digits answer. -/
def UnP (s : List UInt8) (w : World) (e : Ending) (w' : World) : Prop :=
 (∃ c : Int, e = .returned (.tuple #[.string ⟨((unhexS s).getD []).toArray⟩, .int .i64 c]) ∧ (c = 0 ↔ (unhexS s).isSome)) ∧ Ext w w'
theorem unhex_odd : ∀ (s : List UInt8), s.length % 2 = 1 → unhexS s = none
  | [], h => by cases h
  | [_], _ => rfl
  | a :: b :: r, h => by
    have ih := unhex_odd r (by simp only [List.length_cons] at h; omega)
    rw [unhexS, ih]
    split <;> rfl
theorem unhex_pair : ∀ (s t : List UInt8) (a b : UInt8), s.length % 2 = 0 → unhexS (s ++ a :: b :: t) = match unhexS s with
    | some l => (if hval a < 16 ∧ hval b < 16 then (unhexS t).map fun q => l ++ UInt8.ofNat (16 * hval a + hval b) :: q else none)
    | none => none
  | [], t, a, b, _ => by
    rw [List.nil_append, unhexS]
    rfl
  | [_], t, a, b, h => by cases h
  | x :: y :: r, t, a, b, h => by
    have ih := unhex_pair r t a b (by simp only [List.length_cons] at h; omega)
    rw [List.cons_append, List.cons_append, unhexS, ih, unhexS]
    by_cases hd : hval x < 16 ∧ hval y < 16
    · rw [if_pos hd, if_pos hd]
      cases unhexS r with
      | none => rfl
      | some l =>
        dsimp only [Option.map_some]
        by_cases hd2 : hval a < 16 ∧ hval b < 16
        · rw [if_pos hd2, if_pos hd2]
          cases unhexS t <;> rfl
        · rw [if_neg hd2, if_neg hd2]; rfl
    · rw [if_neg hd, if_neg hd]
end
section
open Go.RowKit
set_option linter.unusedVariables false
/-- A builder in the block b, its memory from B on. -/
def BdAt (B b : Nat) (p : Value) (l : List UInt8) (w : World) : Prop := Lib.BuilderAt 69 5 B b p (Lib.byteCells l) w
def Bd (B b : Nat) (l : List UInt8) (w : World) : Prop := Lib.IsBuilder 69 5 B b (Lib.byteCells l) w
theorem bd_info : ∃ j, Tryz.prog.info? 69 = some j ∧ j.size = 2 := by
 have h : (Tryz.prog.info? 69).map (fun i => i.size) = some 2 := by kernel_rfl
 exact Option.map_eq_some_iff.1 h
theorem bd_lies : liesAt Tryz.prog Tryz.prog.depth 69 (2 / Tryz.prog.cellsOf 69) 0 69 1 = true := by kernel_rfl
set_option maxRecDepth 100000 in
set_option maxHeartbeats 1000000 in
theorem BCopy_used (b : Nat) (w : World) (h0 : w.cell? ⟨b, 0, none⟩ = some (.pointer (some ⟨b, 0, none⟩))) :
  Calls Tryz.prog 60 #[.pointer (some ⟨b, 0, none⟩)] w fun e w' => e = .returned (.tuple #[]) ∧ w' = w := by
 obtain ⟨j, hj, hjs⟩ := bd_info
 go_enter Tryz.func60, Tryz.ntmps60
 go_wp2
 rw [Lib.run_neq_ptr_same w _ Tryz.underlying67 hj]
 go_wp2
 go_end0
 exact ⟨rfl, rfl⟩
set_option maxRecDepth 100000 in
set_option maxHeartbeats 1000000 in
theorem BCopy_fresh (b : Nat) (w : World) (h0 : w.cell? ⟨b, 0, none⟩ = some (.pointer none)) (hsh : w.shape? b = some (69, 2)) (hfz : w.frozen? ⟨b, 0, none⟩ = false) :
  Calls Tryz.prog 60 #[.pointer (some ⟨b, 0, none⟩)] w fun e w' => e = .returned (.tuple #[]) ∧ w' = w.setCell ⟨b, 0, none⟩ (.pointer (some ⟨b, 0, none⟩)) := by
 obtain ⟨j, hj, hjs⟩ := bd_info
 go_enter Tryz.func60, Tryz.ntmps60
 go_wp2
 rw [Lib.run_to_unsafe w ⟨b, 0, none⟩ Tryz.underlying67 Tryz.underlying80 hj (by rw [hjs]; decide) hsh (Nat.zero_lt_succ 1)]
 simp only [Result.andThen]
 rw [Oper.upon_value]
 go_wp2
 rw [run_callFunc_extern Tryz.func83 (by kernel_rfl) (by kernel_rfl) (by kernel_rfl) (e := Extern.AbiNoEscape.same) (by kernel_rfl)]
 rw [Lib.run_noEscape]
 simp only [Result.andThen]
 rw [Oper.upon_value]
 go_wp2
 rw [Lib.run_from_unsafe w ⟨b, 0, none⟩ Tryz.underlying80 Tryz.underlying67 hj hsh bd_lies]
 simp only [Result.andThen]
 rw [Oper.upon_value]
 go_wp2
 go_end0
 exact ⟨rfl, rfl⟩
theorem BCopy_any (B b : Nat) (l : List UInt8) (w : World) (h : Bd B b l w) :
  Calls Tryz.prog 60 #[.pointer (some ⟨b, 0, none⟩)] w fun e w' => e = .returned (.tuple #[]) ∧ BdAt B b (.pointer (some ⟨b, 0, none⟩)) l w' ∧ Below B w w' := by
 rcases h with h | h
 ·refine (BCopy_fresh b w h.cell0 h.shape h.frozen0).mono ?_
  rintro e w' ⟨rfl, rfl⟩
  exact ⟨rfl, h.used _, (Below.refl B w).setCell (p := ⟨b, 0, none⟩) h.1 _⟩
 ·refine (BCopy_used b w h.cell0).mono ?_
  rintro e w' ⟨rfl, rfl⟩
  exact ⟨rfl, h, Below.refl B _⟩
theorem byteCells_app (l m : List UInt8) : Lib.byteCells (l ++ m) = Lib.byteCells l ++ Lib.byteCells m := by simp [Lib.byteCells]
theorem byteCells_len (l : List UInt8) : (Lib.byteCells l).length = l.length := by simp [Lib.byteCells]
theorem bd_byte : ∃ i, Tryz.prog.info? 5 = some i ∧ i.size = 1 ∧ i.bytes = 1 ∧ i.zero = some (.int .u8 0) := by
 have h : (Tryz.prog.info? 5).map (fun i => (i.size, i.bytes, i.zero)) = some (1, 1, some (.int .u8 0)) := by kernel_rfl
 obtain ⟨i, hi, hp⟩ := Option.map_eq_some_iff.1 h
 obtain ⟨h1, hp⟩ := Prod.mk.inj hp
 obtain ⟨h2, h3⟩ := Prod.mk.inj hp
 exact ⟨i, hi, h1, h2, h3⟩
set_option maxRecDepth 100000 in
set_option maxHeartbeats 1000000 in
theorem BWriteByte_any (B b : Nat) (l : List UInt8) (c : UInt8) (w : World) (h : Bd B b l w) (hlen : l.length ≤ 4194304) (hBw : B ≤ w.heap.size) :
  Calls Tryz.prog 96 #[.pointer (some ⟨b, 0, none⟩), .int .u8 (c.toNat : Int)] w fun e w' => e = .returned .nilIface ∧ Bd B b (l ++ [c]) w' ∧ Below B w w' := by
 obtain ⟨i0, hi, hz0, hz1, hz2⟩ := bd_byte
 go_enter Tryz.func96, Tryz.ntmps96
 go_wp2_with (go_at_call 60; refine (BCopy_any B b l _ h).mono ?_)
 rintro e w1 ⟨rfl, h1, hb1⟩
 obtain ⟨hB, v, hbk, hown, hne⟩ := h1
 rw [byteCells_len] at hown
 have c0 : w1.cell? ⟨b, 0, none⟩ = some (.pointer (some ⟨b, 0, none⟩)) := by rw [Lib.cell_of_heap hbk]; rfl
 have c1 : w1.cell? ⟨b, 1, none⟩ = some v := by rw [Lib.cell_of_heap hbk]; rfl
 have hlt : b < w1.heap.size := by
  rcases Nat.lt_or_ge b w1.heap.size with h' | h'
  ·exact h'
  ·rw [Array.getElem?_eq_none h'] at hbk; cases hbk
 have hb2 : ∀ w2 : World, (w1.alloc (.cells #[.int .u8 (c.toNat : Int)] 5)).grownBy w2 v.ownBlock → w2.heap[b]? = some (.cells #[.pointer (some ⟨b, 0, none⟩), v] 69 (0, 0)) := fun w2 hg => by
  rw [hg.block b (by simp; omega) (fun e => hne e.symm), Lib.alloc_old w1 _ b hlt]
  exact hbk
 go_wp2_with (at_builtin; refine wpList_append_own _ rfl _ _ 65 rfl B 5 i0 (.int .u8 0) 1 1 Tryz.underlying65 hi hz2 hz0 hz1 rfl (by decide) _ _ _ rfl (hown.alloc _) ⟨w1.heap.size, 0, none⟩ 1 1 [.int .u8 (c.toNat : Int)] rfl rfl ?c1 ?c2 ?c3 ?c4 ?c5 ?_)
 case c1 =>
  intro j u hj
  match j, hj with
  | 0, hj => simp at hj; subst hj; simp [Addr.add]
 case c2 => intro u hu; simp at hu; subst hu; rfl
 case c3 => unfold maxLen; simp; omega
 case c4 => simp; omega
 case c5 => have := hb1.size; simp; omega
 intro v' w2 hown' hgrow _
 have hb2 := hb2 w2 hgrow
 have d0 : w2.cell? ⟨b, 0, none⟩ = some (.pointer (some ⟨b, 0, none⟩)) := by rw [Lib.cell_of_heap hb2]; rfl
 have d1 : w2.cell? ⟨b, 1, none⟩ = some v := by rw [Lib.cell_of_heap hb2]; rfl
 have f1 : w2.frozen? ⟨b, 1, none⟩ = false := Lib.frozen_of_heap hb2 1
 obtain ⟨ao, n', cap, rfl⟩ : ∃ ao n' cap, v' = .slice ao n' cap := by
  rcases hown'.2 with ⟨hv, _⟩ | ⟨g, cap, cur, hv, _⟩
  ·exact ⟨_, _, _, hv⟩
  ·exact ⟨_, _, _, hv⟩
 go_wp2
 go_ret
 refine ⟨rfl, ?_, ?_⟩
 ·exact .inr (Lib.BuilderAt.put (T := 69) (e := 5) hB hb2 (bs' := Lib.byteCells (l ++ [c])) (by rw [byteCells_len, byteCells_app, List.length_append]; exact hown') (by decide))
 ·exact ((hb1.alloc (by have := hb1.size; omega) _).grown hgrow (by have := hb1.size; simp; omega) (fun k hk => (hown.lt k hk).1)).setCell (p := ⟨b, 1, none⟩) hB _
set_option maxRecDepth 100000 in
set_option maxHeartbeats 1000000 in
theorem BWriteString_any (B b : Nat) (l s : List UInt8) (w : World) (h : Bd B b l w) (hlen : l.length + s.length ≤ 268435456) (hBw : B ≤ w.heap.size) :
  Calls Tryz.prog 27 #[.pointer (some ⟨b, 0, none⟩), .string ⟨s.toArray⟩] w fun e w' => e = .returned (.tuple #[.int .i64 (s.length : Int), .nilIface]) ∧ Bd B b (l ++ s) w' ∧ Below B w w' := by
 obtain ⟨i0, hi, hz0, hz1, hz2⟩ := bd_byte
 go_enter Tryz.func27, Tryz.ntmps27
 go_wp2_with (go_at_call 60; refine (BCopy_any B b l _ h).mono ?_)
 rintro e w1 ⟨rfl, h1, hb1⟩
 obtain ⟨hB, v, hbk, hown, hne⟩ := h1
 rw [byteCells_len] at hown
 have c0 : w1.cell? ⟨b, 0, none⟩ = some (.pointer (some ⟨b, 0, none⟩)) := by rw [Lib.cell_of_heap hbk]; rfl
 have c1 : w1.cell? ⟨b, 1, none⟩ = some v := by rw [Lib.cell_of_heap hbk]; rfl
 have hlt : b < w1.heap.size := by
  rcases Nat.lt_or_ge b w1.heap.size with h' | h'
  ·exact h'
  ·rw [Array.getElem?_eq_none h'] at hbk; cases hbk
 have hb2 : ∀ w2 : World, w1.grownBy w2 v.ownBlock → w2.heap[b]? = some (.cells #[.pointer (some ⟨b, 0, none⟩), v] 69 (0, 0)) := fun w2 hg => by
  rw [hg.block b hlt (fun e => hne e.symm)]
  exact hbk
 go_wp2_with (at_builtin; refine Lib.wpList_append_own_string _ rfl _ _ 65 9 rfl B 5 i0 Tryz.underlying65 Tryz.underlying9 hi hz2 hz0 hz1 _ _ _ rfl hown ⟨s.toArray⟩ rfl ?c3 ?c4 ?c5 ?_)
 case c3 => unfold maxLen; simp [ByteArray.size]; omega
 case c4 => simp [ByteArray.size]; omega
 case c5 => have := hb1.size; simp; omega
 intro v' w2 hown' hgrow _
 have hb2 := hb2 w2 hgrow
 have d0 : w2.cell? ⟨b, 0, none⟩ = some (.pointer (some ⟨b, 0, none⟩)) := by rw [Lib.cell_of_heap hb2]; rfl
 have d1 : w2.cell? ⟨b, 1, none⟩ = some v := by rw [Lib.cell_of_heap hb2]; rfl
 have f1 : w2.frozen? ⟨b, 1, none⟩ = false := Lib.frozen_of_heap hb2 1
 obtain ⟨ao, n', cap, rfl⟩ : ∃ ao n' cap, v' = .slice ao n' cap := by
  rcases hown'.2 with ⟨hv, _⟩ | ⟨g, cap, cur, hv, _⟩
  ·exact ⟨_, _, _, hv⟩
  ·exact ⟨_, _, _, hv⟩
 go_wp2
 go_ret2
 refine ⟨rfl, ?_, ?_⟩
 ·exact .inr (Lib.BuilderAt.put (T := 69) (e := 5) hB hb2 (bs' := Lib.byteCells (l ++ s)) (by rw [byteCells_len, byteCells_app, List.length_append]; exact hown') (by decide))
 ·exact (hb1.grown hgrow (by have := hb1.size; simp; omega) (fun k hk => (hown.lt k hk).1)).setCell (p := ⟨b, 1, none⟩) hB _
end
section
open Go.RowKit
set_option linter.unusedVariables false
set_option maxRecDepth 100000 in
set_option maxHeartbeats 1000000 in
theorem WHex_any (s : List UInt8) (hs : s.length ≤ 1048576) (w : World) :
    Calls Tryz.prog 79 #[.string ⟨s.toArray⟩] w fun e w' => e = .returned (.string ⟨(hexS s).toArray⟩) ∧ Ext w w' := by
  go_enter Tryz.func79, Tryz.ntmps79
  go_wp2
  go_loopw [7] (fun q wr => ∃ k : Nat, k ≤ s.length ∧ q = .int .i64 k ∧ Bd w.heap.size w.heap.size (hexS (s.take k)) wr ∧ Ext w wr) (fun q _ => s.length - (intOf q).toNat)
  case atStart => exact ⟨0, Nat.zero_le _, rfl, .inl ⟨Nat.le_refl _, _, Array.getElem?_push_size, World.ownsRow_nil _ _ _ _, by simp [Value.ownBlock]⟩, (Ext.refl _).alloc _⟩
  case round =>
    obtain ⟨k, hk, rfl, hbd, hE⟩ := hrel
    have hsz := hE.size
    have hle : (hexS (s.take k)).length ≤ 2097152 := by rw [hexS_len, List.length_take]; omega
    replace hE := hide hE
    replace hbd := hide hbd
    by_cases hlt : k < s.length
    · have e1 : (ByteArray.mk s.toArray)[k]'(by rw [ba_size]; exact hlt) = s[k] := rfl
      have hnx : hexS (s.take (k + 1)) = (hexS (s.take k) ++ [dgt (s[k].toNat / 16)]) ++ [dgt (s[k].toNat % 16)] := by
        rw [List.take_succ_eq_append_getElem hlt, hexS, List.flatMap_append]
        simp [hexS]
      generalize s[k] = c at e1 hnx
      generalize hexS (s.take k) = X at *
      have hc := c.toNat_lt
      have g1 : c.toNat / 16 < 16 := by omega
      have g2 : c.toNat % 16 < 16 := by omega
      have t1 : (c.toNat : Int) / 16 = ((c.toNat / 16 : Nat) : Int) := by omega
      have d1 := digs_get _ g1
      have d2 := digs_get _ g2
      generalize c.toNat / 16 = n1 at *
      go_wp2_with first
        | (go_at_call 96
           refine (BWriteByte_any w.heap.size w.heap.size X (dgt n1) _ hbd.out (by omega) hsz).mono ?_
           rintro e W1 ⟨rfl, hbd1, hB1⟩
           have hE1 : Ext w W1 := Below.trans hE.out hB1
           have hsz1 := hE1.size
           replace hE1 := hide hE1
           replace hbd1 := hide hbd1
           clear hbd)
        | (go_at_call 96
           refine (BWriteByte_any w.heap.size w.heap.size (X ++ [dgt n1]) (dgt (c.toNat % 16)) _ hbd1.out (by simp; omega) hsz1).mono ?_
           rintro e W2 ⟨rfl, hbd2, hB2⟩
           have hE2 : Ext w W2 := Below.trans hE1.out hB2
           replace hE2 := hide hE2
           replace hbd2 := hide hbd2
           clear hbd1)
      go_roundw
      case rel => exact ⟨k + 1, by omega, by simp, by rw [hnx]; exact hbd2.out, hE2.out⟩
      case measure => simp [intOf]; omega
    · obtain rfl : k = s.length := by omega
      have hbd1 := hbd.out
      rw [List.take_length] at hbd1
      have q := Tryz.Builder_String_any w.heap.size w.heap.size (hexS s) wr hbd1 hsz
      replace q := hide q
      replace hbd1 := hide hbd1
      go_wp2_with (go_at_call 29
                   refine q.out.mono ?_
                   rintro e W1 ⟨rfl, hB1⟩
                   have hE1 : Ext w W1 := Below.trans hE.out hB1
                   replace hE1 := hide hE1)
      go_ret
      exact ⟨rfl, hE1.out⟩
def digs : ByteArray := ⟨#[48, 49, 50, 51, 52, 53, 54, 55, 56, 57, 97, 98, 99, 100, 101, 102]⟩
/-- Where a digit stands. -/
def hx (c : UInt8) : Int := if hval c < 16 then (hval c : Int) else -1
theorem hx_fin : ∀ n : Fin 256, Lib.indexByte digs.data.toList (UInt8.ofNat n.val) = hx (UInt8.ofNat n.val) := by decide +kernel
theorem hx_is (c : UInt8) : Lib.indexByte digs.data.toList c = hx c := by
 have := hx_fin ⟨c.toNat, c.toNat_lt⟩
 simpa using this
theorem WIdx_any (c : UInt8) (w : World) : Calls Tryz.prog 108 #[.string ⟨#[48, 49, 50, 51, 52, 53, 54, 55, 56, 57, 97, 98, 99, 100, 101, 102]⟩, .int .u8 (c.toNat : Int)] w fun e w' => e = .returned (.int .i64 (hx c)) ∧ w' = w := by
 refine (Tryz.strings_IndexByte digs (c.toNat : Int) w).mono ?_
 rintro e w' ⟨rfl, rfl⟩
 refine ⟨?_, rfl⟩
 rw [← hx_is]
 simp
theorem mkB0 (n : Nat) (hn : n ≤ 4194304) (W : World) : (Instr.makeSlice 65 (.int .i64 0) (.int .i64 (n : Int))).run Tryz.prog W = .ok (.slice (some ⟨W.heap.size, 0, none⟩) 0 n) (W.alloc (.cells (Array.replicate n (.int .u8 0)) 5)) := by
 obtain ⟨i, hi, h1, h2, hz⟩ := bd_byte
 have := run_make W 65 5 i (.int .u8 0) Tryz.underlying65 hi hz .i64 .i64 0 n (by omega) (by omega) (by rw [h2]; omega) (by omega)
 have hm : madeCells (Value.cells (.int .u8 0)) n = Array.replicate n (.int .u8 0) := by
  apply Array.ext
  ·simp [madeCells]
  ·intro i h1 h2
   simp [madeCells, Value.cells, Nat.mod_one]
 simp only [h1, Int.toNat_natCast, Nat.mul_one] at this
 rw [hm] at this
 simpa using this
theorem OwnB.room {e : TypeId} (w : World) (n : Nat) (hn : n ≤ maxLen) : OwnB e (w.alloc (.cells (Array.replicate n (.int .u8 0)) e)) w.heap.size (.slice (some ⟨w.heap.size, 0, none⟩) 0 n) [] :=
 .inr ⟨w.heap.size, n, _, (0, 0), rfl, Nat.le_refl _, heap_alloc_new w _, .inr rfl, Nat.zero_le _, hn, by simp, rfl⟩
theorem or_fin : ∀ a b : Fin 16, bits BinOp.or IntKind.i64 (wrap64 ((a.val : Int) * 16)) (b.val : Int) % 256 = ((UInt8.ofNat (16 * a.val + b.val)).toNat : Int) := by decide +kernel
open Go.RowKit Go.Sort
theorem quiet_WIdx (c : UInt8) (w : World) (m : Nat) : Calls Tryz.prog 108 #[.string ⟨#[48, 49, 50, 51, 52, 53, 54, 55, 56, 57, 97, 98, 99, 100, 101, 102]⟩, .int .u8 (c.toNat : Int)] (w.drewN m) fun e w'' => e = .returned (.int .i64 (hx c)) ∧ ∃ m, w'' = w.drewN m :=
 Calls.quiet_of_same ((WIdx_any c _).mono fun e w' h => ⟨h.1, h.2⟩)
set_option maxRecDepth 20000 in
set_option maxHeartbeats 1000000 in
theorem WUnhex_any (s : List UInt8) (hs : s.length ≤ 4194304) (w : World) :
    Calls Tryz.prog 87 #[.string ⟨s.toArray⟩] w (UnP s w) := by
  have t0 : Int.tmod (s.length : Int) 2 = ((s.length % 2 : Nat) : Int) := by rw [Int.tmod_eq_emod_of_nonneg (by omega)]; rfl
  have t3 : Int.tdiv (s.length : Int) 2 = ((s.length / 2 : Nat) : Int) := by rw [Int.tdiv_eq_ediv_of_nonneg (by omega)]; rfl
  have hm2 : s.length % 2 < 2 := Nat.mod_lt _ (by decide)
  by_cases hodd : s.length % 2 = 1
  · have hn := unhex_odd s hodd
    have hP : ∀ w', Ext w w' → UnP s w (.returned (.tuple #[.string ⟨#[]⟩, .int .i64 4])) w' := fun w' he => ⟨⟨4, by rw [hn]; rfl, by rw [hn]; simp⟩, he⟩
    rw [hodd] at t0
    replace hP := hide hP
    replace hn := hide hn
    go_enter Tryz.func87, Tryz.ntmps87
    go_wp2
    go_ret2
    exact hP.out _ (Ext.refl _)
  have heven : s.length % 2 = 0 := by omega
  rw [heven] at t0
  have hcap : s.length / 2 ≤ 4194304 := by omega
  generalize s.length / 2 = cp at t3 hcap
  have hmake := mkB0 cp hcap w
  go_enter Tryz.func87, Tryz.ntmps87
  go_wp2
  have hO := OwnB.room (e := 5) w cp (by unfold maxLen; omega)
  have hE0 : Ext w (w.alloc (.cells (Array.replicate cp (.int .u8 0)) 5)) := (Ext.refl _).alloc _
  generalize hW1 : w.alloc (.cells (Array.replicate cp (.int .u8 0)) 5) = W1 at hO hE0 ⊢
  clear hW1 hmake
  go_loopw [4, 5] (fun v q wr => ∃ (p : Nat) (l : List UInt8), p ≤ s.length ∧ p % 2 = 0 ∧ q = .int .i64 (p : Int) ∧ unhexS (s.take p) = some l ∧ l.length ≤ p ∧ OwnB 5 wr w.heap.size v l ∧ Ext w wr) (fun _ q _ => s.length - (intOf q).toNat)
  case atStart => exact ⟨0, [], Nat.zero_le _, rfl, rfl, rfl, Nat.zero_le _, hO, hE0⟩
  case round =>
    obtain ⟨p, l, hm, hp2, rfl, hl, hlen, hown, hE⟩ := hrel
    have hsz := hE.size
    replace hE := hide hE
    replace hown := hide hown
    by_cases hlt : p < s.length
    · have hlt2 : p + 1 < s.length := by omega
      have e1 : (ByteArray.mk s.toArray)[p]'(by rw [ba_size]; exact hlt) = s[p] := rfl
      have e2 : (ByteArray.mk s.toArray)[p + 1]'(by rw [ba_size]; exact hlt2) = s[p + 1] := rfl
      have hev : (s.take p).length % 2 = 0 := by rw [List.length_take]; omega
      have hnx : unhexS (s.take (p + 2)) = unhexS (s.take p ++ s[p] :: s[p + 1] :: []) := by
        rw [show p + 2 = p + 1 + 1 by omega, List.take_succ_eq_append_getElem hlt2, List.take_succ_eq_append_getElem hlt, List.append_assoc]
        rfl
      have hall : unhexS s = unhexS (s.take p ++ s[p] :: s[p + 1] :: s.drop (p + 1 + 1)) := by
        rw [← List.drop_eq_getElem_cons hlt2, ← List.drop_eq_getElem_cons hlt, List.take_append_drop]
      rw [unhex_pair _ _ _ _ hev, hl] at hnx hall
      dsimp only at hnx hall
      have hle : l.length ≤ 4194304 := by omega
      replace hlen := hide hlen
      replace hl := hide hl
      generalize s[p] = c at e1 hnx hall
      generalize s[p + 1] = d at e2 hnx hall
      have hout := hown.out
      obtain ⟨a0, c0, rfl⟩ := hout.form
      clear hout
      have qc := fun m => quiet_WIdx c wr m
      have qd := fun m => quiet_WIdx d wr m
      have hvc : hval c ≤ 16 := by unfold hval; split <;> (try split) <;> omega
      have hvd : hval d ≤ 16 := by unfold hval; split <;> (try split) <;> omega
      by_cases hgood : hval c < 16 ∧ hval d < 16
      · have xc : hx c = (hval c : Int) := if_pos hgood.1
        have xd : hx d = (hval d : Int) := if_pos hgood.2
        have hor := or_fin ⟨hval c, hgood.1⟩ ⟨hval d, hgood.2⟩
        dsimp only at hor
        rw [← xc, ← xd] at hor
        have b1 : decide (hx c < 0) = false := decide_eq_false (by omega)
        have b2 : decide (hx d < 0) = false := decide_eq_false (by omega)
        rw [if_pos hgood] at hnx
        have hnx : unhexS (s.take (p + 2)) = some (l ++ [UInt8.ofNat (16 * hval c + hval d)]) := hnx
        generalize UInt8.ofNat (16 * hval c + hval d) = z at hor hnx
        clear xc xd hall hgood hvc hvd
        replace hnx := hide hnx
        replace qc := hide qc
        replace qd := hide qd
        go_upto_region 7 with fail
        go_quiet ((go_at_call 108; first | (with_reducible exact qc.out _) | (with_reducible exact qd.out _)))
        have hownd := hown.out.drewN nq
        have hEd := hE.out.drewN nq
        replace hownd := hide hownd
        replace hEd := hide hEd
        have hszd : w.heap.size ≤ (wr.drewN nq).heap.size := hsz
        generalize hWd : wr.drewN nq = Wd at hownd hEd hszd ⊢
        clear hWd
        go_wp2_with (at_builtin
                     have hox := hownd.out.alloc (Obj.cells #[.int .u8 (z.toNat : Int)] 5)
                     refine wpList_appendB rfl _ _ _ rfl okB8 okB8z rfl hox (by simp; omega) [z] rfl (by simp; omega) (byte_new _ _ _) ?_
                     intro v1 W2 hown1 hg1 hat1
                     replace hown1 := hide hown1)
        go_roundw
        case rel => exact ⟨p + 2, l ++ [z], by omega, by omega, by simp, hnx.out, by have := hlen.out; simp; omega, hown1.out, (hEd.out.alloc _).push (fun j hj => (hownd.out.lt j hj).1) hg1⟩
        case measure => simp [intOf]; omega
      · rw [if_neg hgood] at hall
        have hP : ∀ w', Ext w w' → UnP s w (.returned (.tuple #[.string ⟨#[]⟩, .int .i64 4])) w' := fun w' he => ⟨⟨4, by rw [hall]; rfl, by rw [hall]; simp⟩, he⟩
        replace hP := hide hP
        clear hall hnx
        have hb : (decide (hx c < 0) || decide (hx d < 0)) = true := by
          by_cases h1 : hval c < 16
          · have xd : hx d = -1 := if_neg (fun h => hgood ⟨h1, h⟩)
            rw [xd, Bool.or_eq_true]; right; decide
          · have xc : hx c = -1 := if_neg h1
            rw [xc, Bool.or_eq_true]; left; decide
        clear hgood hvc hvd
        replace qc := hide qc
        replace qd := hide qd
        go_upto_region 7 with fail
        go_quiet ((go_at_call 108; first | (with_reducible exact qc.out _) | (with_reducible exact qd.out _)))
        have hEd := hE.out.drewN nq
        replace hEd := hide hEd
        generalize hWd : wr.drewN nq = Wd at hEd ⊢
        clear hWd
        rw [Bool.or_eq_true] at hb
        cases hb1 : decide (hx c < 0) with
        | true =>
          go_wp2
          go_ret2
          exact hP.out _ hEd.out
        | false =>
          rw [hb1] at hb
          have hb2 : decide (hx d < 0) = true := by simpa using hb
          clear hb
          go_wp2
          go_ret2
          exact hP.out _ hEd.out
    · have hm2' : p = s.length := by omega
      subst hm2'
      rw [List.take_length] at hl
      have hown1 := hown.out
      have kd := run_stringB (P := Tryz.prog) (src := 65) (dst := 9) Tryz.underlying65 Tryz.underlying5 Tryz.underlying9 hown1
      replace hown1 := hide hown1
      have hP : ∀ w', Ext w w' → UnP s w (.returned (.tuple #[.string ⟨l.toArray⟩, .int .i64 0])) w' := fun w' he => ⟨⟨0, by rw [hl]; rfl, by rw [hl]; simp⟩, he⟩
      replace hP := hide hP
      replace hlen := hide hlen
      replace hl := hide hl
      go_wp2
      go_ret2
      exact hP.out _ hE.out
end
section
open Go.RowKit Go.Sort
set_option linter.unusedVariables false
theorem ba_extract (s : List UInt8) (i j : Nat) : (ByteArray.mk s.toArray).extract i j = ⟨((s.drop i).take (j - i)).toArray⟩ := by
 apply ByteArray.ext
 rw [ByteArray.data_extract]
 simp
def lb (l : List UInt8) : ByteArray := ⟨l.toArray⟩
end
section
open Go.RowKit
set_option linter.unusedVariables false
def nameCs : List UInt8 := [97, 98, 99, 100, 101, 102, 103, 104, 105, 106, 107, 108, 109, 110, 111, 112, 113, 114, 115, 116, 117, 118, 119, 120, 121, 122, 48, 49, 50, 51, 52, 53, 54, 55, 56, 57, 45]
theorem cells_is : Lib.setCells nameCs = (Array.range 256).map fun n => Value.bool (nameCh (UInt8.ofNat n)) := by kernel_rfl
theorem cells_at (n : Nat) (h : n < 256) : (Lib.setCells nameCs)[n]? = some (.bool (nameCh (UInt8.ofNat n))) := by
 rw [cells_is]
 simp [h]
def strLen : Value → Nat
 | .string b => b.size
 | _ => 0
theorem strLen_of (l : List UInt8) : strLen (.string ⟨l.toArray⟩) = l.length := by simp [strLen, ByteArray.size]
set_option maxRecDepth 20000 in
set_option maxHeartbeats 1000000 in
theorem TrimA_any (s : List UInt8) (hs : s.length ≤ 4194304) (b : Nat) (w : World) (hc : ∀ x : UInt8, w.cell? ⟨b, x.toNat, none⟩ = some (.bool (nameCh x))) :
    Calls Tryz.prog 93 #[.string ⟨s.toArray⟩, .pointer (some ⟨b, 0, none⟩)] w fun e w' => e = .returned (.string ⟨(s.dropWhile nameCh).toArray⟩) ∧ w' = w := by
  go_enter Tryz.func93, Tryz.ntmps93
  go_wp2
  go_loop [0] (fun v => ∃ t : List UInt8, v = .string ⟨t.toArray⟩ ∧ t.length ≤ s.length ∧ t.dropWhile nameCh = s.dropWhile nameCh) (fun v => strLen v)
  case atStart => exact ⟨s, rfl, Nat.le_refl _, rfl⟩
  case round =>
    obtain ⟨t, rfl, ht, hd⟩ := hrel
    match t, ht, hd with
    | [], ht, hd =>
      have hd : [] = s.dropWhile nameCh := hd
      replace hd := hide hd
      go_wp2
      go_ret
      exact ⟨by rw [← hd.out]; rfl, rfl⟩
    | x :: r, ht, hd =>
      simp only [List.length_cons] at ht
      have b0 : decide ((0 : Int) < ((x :: r).length : Int)) = true := decide_eq_true (by simp only [List.length_cons]; omega)
      have e1 : ∀ h, (ByteArray.mk (x :: r).toArray)[0]'h = x := fun _ => rfl
      have q := fun W (h : W.cell? ⟨b, x.toNat, none⟩ = some (.bool (nameCh x))) => Tryz.asciiSet_contains b x (nameCh x) W h
      have q := q w (hc x)
      replace q := hide q
      cases hx : nameCh x
      · rw [hx] at q
        rw [List.dropWhile_cons, hx] at hd
        have hd : x :: r = s.dropWhile nameCh := hd
        replace hd := hide hd
        replace q := hide q.out
        go_wp2_with (go_at_call 113; refine q.out.mono ?_; rintro e w' ⟨rfl, rfl⟩)
        go_ret
        exact ⟨by rw [← hd.out]; rfl, rfl⟩
      · rw [hx] at q
        rw [List.dropWhile_cons, hx] at hd
        have hd2 : r.dropWhile nameCh = s.dropWhile nameCh := hd
        clear hd
        have he : ∀ j : Nat, j = r.length + 1 → (ByteArray.mk (x :: r).toArray).extract 1 j = ⟨r.toArray⟩ := fun j hj => by
          subst hj
          rw [ba_extract]
          simp
        have he := he _ rfl
        replace hd2 := hide hd2
        replace q := hide q.out
        go_wp2_with (go_at_call 113; refine q.out.mono ?_; rintro e w' ⟨rfl, rfl⟩)
        go_round
        case rel => exact ⟨r, rfl, by omega, hd2.out⟩
        case measure => simp [strLen_of]
theorem zero_set : ∀ w, (zeroValue 142).run Tryz.prog w = .ok (.agg (Array.replicate 256 (.bool false))) w := by
 intro w
 kernel_rfl
theorem nameCs_low : ∀ (j : Nat) b, nameCs[j]? = some b → b.toNat < 128 := fun j b h => by
 have : ∀ x ∈ nameCs, x.toNat < 128 := by decide
 exact this b (List.mem_of_getElem? h)
theorem MakeSet_any (w : World) : Calls Tryz.prog 92 #[.string ⟨#[97, 98, 99, 100, 101, 102, 103, 104, 105, 106, 107, 108, 109, 110, 111, 112, 113, 114, 115, 116, 117, 118, 119, 120, 121, 122, 48, 49, 50, 51, 52, 53, 54, 55, 56, 57, 45]⟩] w fun e w' => e = .returned (.tuple #[.agg (Lib.setCells nameCs), .bool true]) ∧ w' = w.alloc (.cells (Lib.setCells nameCs) 142) :=
 Tryz.strings_makeASCIISet zero_set ⟨nameCs.toArray⟩ w (by decide) nameCs_low
end
section
open Go.RowKit
set_option linter.unusedVariables false
theorem setZ_size : Tryz.zeroCells142.size = 256 := by kernel_rfl
theorem setK_size : (Lib.setCells nameCs).size = 256 := by kernel_rfl
theorem there_set (W : World) : (W.alloc (.cells Tryz.zeroCells142 142)).there W.heap.size 0 (Lib.setCells nameCs).size := fun i hi => by
 have hB := Blk.new W 142 Tryz.zeroCells142
 refine ⟨?_, hB.frozen _⟩
 rw [setK_size] at hi
 rw [hB.cell, Nat.zero_add, Array.getElem?_eq_getElem (by rw [setZ_size]; exact hi)]
 rfl
theorem alloc_size35 (w : World) (o : Obj) : (w.alloc o).heap.size = w.heap.size + 1 := Array.size_push _
theorem Ext.setCs35 {a : World} {g : Nat} (hg : a.heap.size ≤ g) : ∀ (vs : List Value) (o : Nat) (b : World), Ext a b → Ext a (b.setCells g o vs)
  | [], _, _, h => h
  | v :: r, o, b, h => by
    rw [World.setCells]
    exact Ext.setCs35 hg r (o + 1) _ (h.setCell (p := ⟨g, o, none⟩) hg v)
theorem set_cell (W : World) (x : UInt8) : ((W.alloc (.cells Tryz.zeroCells142 142)).setCells W.heap.size 0 (Lib.setCells nameCs).toList).cell? ⟨W.heap.size, x.toNat, none⟩ = some (.bool (nameCh x)) := by
 have hx := x.toNat_lt
 have h1 := World.rangeAt_setCells_same _ _ _ _ (there_set W) x.toNat (.bool (nameCh x)) (by
  rw [Array.getElem?_toList, cells_at _ hx]
  simp)
 rw [Nat.zero_add] at h1
 exact h1
set_option maxRecDepth 20000 in
set_option maxHeartbeats 1000000 in
theorem TrimL_any (s : List UInt8) (hs : s.length ≤ 4194304) (w : World) :
    Calls Tryz.prog 77 #[.string ⟨s.toArray⟩, .string ⟨#[97, 98, 99, 100, 101, 102, 103, 104, 105, 106, 107, 108, 109, 110, 111, 112, 113, 114, 115, 116, 117, 118, 119, 120, 121, 122, 48, 49, 50, 51, 52, 53, 54, 55, 56, 57, 45]⟩] w fun e w' => e = .returned (.string ⟨(s.dropWhile nameCh).toArray⟩) ∧ Ext w w' := by
  cases hs0 : s with
  | nil =>
    go_enter Tryz.func77, Tryz.ntmps77
    go_wp2
    go_ret
    exact ⟨rfl, Ext.refl _⟩
  | cons x r =>
    subst hs0
    go_enter Tryz.func77, Tryz.ntmps77
    have hi2 : (Tryz.prog.info? 142).map (fun i => i.size) = some (Lib.setCells nameCs).size := by kernel_rfl
    have h12 : (Lib.setCells nameCs).all (·.oneCell') = true := by
      kernel_rfl
    replace hi2 := hide hi2
    replace h12 := hide h12
    have hth := there_set (w.alloc (.cells (Lib.setCells nameCs) 142))
    have hcell := fun y => set_cell (w.alloc (.cells (Lib.setCells nameCs) 142)) y
    have hE : Ext w (((w.alloc (.cells (Lib.setCells nameCs) 142)).alloc (.cells Tryz.zeroCells142 142)).setCells (w.heap.size + 1) 0 (Lib.setCells nameCs).toList) :=
      Ext.setCs35 (Nat.le_succ _) _ _ _ (((Ext.refl w).alloc _).alloc _)
    rw [alloc_size35] at hth
    have hcell : ∀ y : UInt8, (((w.alloc (.cells (Lib.setCells nameCs) 142)).alloc (.cells Tryz.zeroCells142 142)).setCells (w.heap.size + 1) 0 (Lib.setCells nameCs).toList).cell? ⟨w.heap.size + 1, y.toNat, none⟩ = some (.bool (nameCh y)) := fun y => by
      have h := hcell y
      rw [alloc_size35] at h
      exact h
    have q := TrimA_any (x :: r) hs (w.heap.size + 1) _ hcell
    replace q := hide q
    replace hs := hide hs
    replace hth := hide hth
    replace hcell := hide hcell
    replace hE := hide hE
    go_wp2_with first
      | (go_at_call 92; refine (MakeSet_any _).mono ?_; rintro e w' ⟨rfl, rfl⟩)
      | (refine wpList_store_mid rfl 142 (.tmp 5) (.tmp 29) rfl (w.heap.size + 1) 0 (Lib.setCells nameCs) rfl rfl ?_ hi2.out h12.out ?_; with_reducible exact hth.out)
      | (go_at_call 93; refine q.out.mono ?_; rintro e w' ⟨rfl, rfl⟩)
    all_goals
      go_ret
      exact ⟨rfl, hE.out⟩
end
section
open Go.RowKit
set_option linter.unusedVariables false
theorem drop_nil {s : List UInt8} : (s.dropWhile nameCh = []) ↔ s.all nameCh = true := by
  induction s with
  | nil => simp
  | cons x r ih =>
    rw [List.dropWhile_cons]
    cases h : nameCh x <;> simp [h, ih]
set_option maxRecDepth 20000 in
set_option maxHeartbeats 1000000 in
theorem Named_any (s : List UInt8) (hs : s.length ≤ 4194304) (w : World) :
    Calls Tryz.prog 49 #[.string ⟨s.toArray⟩] w fun e w' => e = .returned (.bool (nameOk s)) ∧ Ext w w' := by
  cases hs0 : s with
  | nil =>
    go_enter Tryz.func49, Tryz.ntmps49
    go_wp2
    go_ret
    exact ⟨rfl, Ext.refl _⟩
  | cons x r =>
    subst hs0
    have q := TrimL_any (x :: r) hs w
    have e1 : ∀ h, (ByteArray.mk (x :: r).toArray)[0]'h = x := fun _ => rfl
    have hN : nameOk (x :: r) = (decide ((x :: r).length ≤ 16) && (decide (97 ≤ x.toNat) && decide ((x :: r).dropWhile nameCh = []))) := by
      unfold nameOk
      have h1 : decide (1 ≤ (x :: r).length) = true := decide_eq_true (by simp)
      have h2 : (x :: r).all nameCh = decide ((x :: r).dropWhile nameCh = []) := by
        rw [Bool.eq_iff_iff, decide_eq_true_eq]; exact drop_nil.symm
      rw [h1, h2, Bool.true_and]
      rfl
    have hR : ∀ b : Bool, (decide ((x :: r).length ≤ 16) && (decide (97 ≤ x.toNat) && decide ((x :: r).dropWhile nameCh = []))) = b → ∀ w', Ext w w' → (Ending.returned (.bool b) = Ending.returned (.bool (nameOk (x :: r))) ∧ Ext w w') := fun b hb w' he => ⟨by rw [hN, hb], he⟩
    clear hN
    generalize (x :: r).dropWhile nameCh = d at q hR
    replace hR := hide hR
    replace q := hide q
    replace hs := hide hs
    by_cases h1 : (x :: r).length ≤ 16
    · have hl1 := h1
      have b1 : decide ((r.length : Int) + 1 ≤ 16) = true := decide_eq_true (by simp only [List.length_cons] at h1; omega)
      replace h1 := hide h1
      replace hl1 := hide hl1
      by_cases h2 : 97 ≤ x.toNat
      · have b2 : decide ((97 : Int) ≤ (x.toNat : Int)) = true := decide_eq_true (by omega)
        cases hd : d with
        | nil =>
          subst hd
          go_enter Tryz.func49, Tryz.ntmps49
          go_wp2_with (go_at_call 77; refine q.out.mono ?_; rintro e w1 ⟨rfl, he⟩)
          go_ret
          exact hR.out true (by rw [decide_eq_true hl1.out, decide_eq_true h2]; rfl) _ he
        | cons y t =>
          subst hd
          go_enter Tryz.func49, Tryz.ntmps49
          go_wp2_with (go_at_call 77; refine q.out.mono ?_; rintro e w1 ⟨rfl, he⟩)
          go_ret
          exact hR.out false (by rw [decide_eq_false (show ¬ (y :: t = []) by simp), Bool.and_false, Bool.and_false]) _ he
      · have b2 : decide ((97 : Int) ≤ (x.toNat : Int)) = false := decide_eq_false (by omega)
        go_enter Tryz.func49, Tryz.ntmps49
        go_wp2
        go_ret
        exact hR.out false (by rw [decide_eq_false h2, Bool.false_and, Bool.and_false]) _ (Ext.refl _)
    · have h3 := hR.out false (by rw [decide_eq_false h1, Bool.false_and]) _ (Ext.refl _)
      have b1 : decide ((r.length : Int) + 1 ≤ 16) = false := decide_eq_false (by simp only [List.length_cons] at h1; omega)
      clear h1
      replace h3 := hide h3
      go_enter Tryz.func49, Tryz.ntmps49
      go_wp2
      go_ret
      exact h3.out
end
section
open Go.RowKit Go.Sort
set_option linter.unusedVariables false
theorem Split_big (s : List UInt8) (c : UInt8) (w : World) (hV : Vars w) (hs : s.length ≤ 4194304) :
  Calls Tryz.prog 35 #[.string ⟨s.toArray⟩, .string ⟨#[c]⟩] w fun e w' => ∃ d, (spl c s).length ≤ d ∧ e = .returned (.slice (some ⟨w.heap.size, 0, none⟩) (spl c s).length d) ∧ Ext w w' ∧ ∀ k, (h : k < (spl c s).length) → w'.cell? ⟨w.heap.size, k, none⟩ = some (.string ⟨(spl c s)[k].toArray⟩) := by
 obtain ⟨m, hm⟩ := hV.max
 have hm2 : (Lib.splitB ⟨#[c]⟩ 0 (Lib.countB ⟨s.toArray⟩ ⟨#[c]⟩) ⟨s.toArray⟩).map (·.data.toList) = spl c s := Lib.splitB_data _ _ _ _
 have hlen : Lib.countB ⟨s.toArray⟩ ⟨#[c]⟩ + 1 = (spl c s).length := by
  rw [← hm2, List.length_map]
  exact (Lib.splitB_all ⟨#[c]⟩ (Nat.le_refl 1) _ _ _ rfl).symm
 refine (Tryz.strings_Split ⟨s.toArray⟩ ⟨#[c]⟩ m w (by simp [ByteArray.size]; omega) hm (Nat.le_refl 1)).mono ?_
 rintro e w' ⟨rfl, rfl⟩
 refine ⟨_, Nat.le_of_eq hlen.symm, by rw [hlen], (Ext.refl _).alloc _, fun k h => ?_⟩
 rw [(Blk.new w 9 _).cell k]
 have hk : k < (Lib.splitB ⟨#[c]⟩ 0 (Lib.countB ⟨s.toArray⟩ ⟨#[c]⟩) ⟨s.toArray⟩).length := by
  have := congrArg List.length hm2
  rw [List.length_map] at this
  omega
 have he := congrArg (fun l => l[k]?) hm2
 simp only [List.getElem?_map, List.getElem?_eq_getElem hk, List.getElem?_eq_getElem h, Option.map_some, Option.some.injEq] at he
 rw [List.getElem?_toArray, List.getElem?_map, List.getElem?_eq_getElem hk, ← he]
 rw [ba_list]
 rfl
theorem PU64_okb (s : List UInt8) (u : Nat) (w : World) (hs : s.length ≤ 4194304) (hp : Lib.parseUintB 64 s = .ok u) :
  Calls Tryz.prog 85 #[.string ⟨s.toArray⟩, .int .i64 10, .int .i64 64] w fun e w' => e = .returned (.tuple #[.int .u64 u, .nilIface]) ∧ Ext w w' := by
 refine (Any.strconv_ParseUint_10_at64_ok Tryz.laysPu14 ⟨s.toArray⟩ (by simp [ByteArray.size]; omega) u hp w).mono ?_
 rintro e w' ⟨rfl, hw⟩
 refine ⟨rfl, ?_⟩
 rcases hw with rfl | rfl
 ·exact Ext.refl _
 ·exact ext_bytes _ _ _
theorem PU64_big (s : List UInt8) (w : World) (hV : Vars w) (hs : s.length ≤ 4194304) :
  Calls Tryz.prog 85 #[.string ⟨s.toArray⟩, .int .i64 10, .int .i64 64] w (PuP 10 18446744073709551615 s w) := by
 obtain ⟨t1, p1, h1⟩ := hV.es
 obtain ⟨t2, p2, h2⟩ := hV.er
 have hz : (ByteArray.mk s.toArray).size = s.length := ba_size s
 have hrd := fun n => rd_dec (B := 64) (s := s) (n := n) (by decide)
 rcases hp : Lib.parseUintB 64 s with u | _ | _
 ·rw [hp] at hrd
  refine (PU64_okb s u w hs hp).mono ?_
  rintro e w' ⟨rfl, hw⟩
  exact ⟨hw, .inl ⟨u, Lib.parseUintB_le hp, rfl, fun n hn => by have := hrd n hn; injection this with this; exact this.symm⟩⟩
 ·rw [hp] at hrd
  refine (Any.strconv_ParseUint_10_at64_syntax Tryz.laysPu14 ⟨s.toArray⟩ (by omega) hp _ w h1 (.inr ⟨_, _, rfl⟩)).mono ?_
  rintro e w' ⟨N, rfl, _, _, hb⟩
  refine ⟨hb, .inr ⟨?_, _, _, _, rfl⟩⟩
  cases hr : rdN 10 18446744073709551615 s with
  | none => rfl
  | some n => cases hrd n hr
 ·rw [hp] at hrd
  refine (Any.strconv_ParseUint_10_at64_range Tryz.laysPu14 ⟨s.toArray⟩ (by omega) hp _ w h2 (.inr ⟨_, _, rfl⟩)).mono ?_
  rintro e w' ⟨N, rfl, _, _, hb⟩
  refine ⟨hb, .inr ⟨?_, _, _, _, rfl⟩⟩
  cases hr : rdN 10 18446744073709551615 s with
  | none => rfl
  | some n => cases hrd n hr
end
section
open Go.RowKit
set_option linter.unusedVariables false
/-- What is given up with. -/
def wrongP (c : Int) : List PanicEntry := [{ v := .iface 107 (.agg #[.int .i64 c]), recovered := false }]
theorem give_any (c : Int) (w : World) : Calls Tryz.prog 37 #[.int .i64 c] w fun e w' => e = .panicked (wrongP c) ∧ w = w' := by
 go_enter Tryz.func37, Tryz.ntmps37
 go_wp2
 exact ⟨rfl, rfl, rfl⟩
/-- A number of a word, or given up. -/
def NumS (s : List UInt8) (a b : Nat) (w : World) (e : Ending) (w' : World) : Prop := (e = match rdC s a b with | some n => .returned (.int .u64 (n : Int)) | none => .panicked (wrongP 9)) ∧ Ext w w'
theorem rdC_iff {s : List UInt8} {a b n : Nat} : rdC s a b = some n ↔ a ≤ n ∧ n ≤ b ∧ digS 10 n = s := by
 constructor
 ·exact rdC_some
 ·rintro ⟨h1, h2, rfl⟩; exact rdC_dig h1 h2
theorem rdC_no {s : List UInt8} {a b u : Nat} (hu : ∀ n, rdN 10 18446744073709551615 s = some n → n = u) (hb : b ≤ 4294967295) (h : u < a ∨ b < u ∨ digS 10 u ≠ s) : rdC s a b = none := by
  cases hr : rdC s a b with
  | none => rfl
  | some n =>
    obtain ⟨h1, h2, h3⟩ := rdC_some hr
    have := hu n ((rdN_iff (by decide) (by decide)).2 ⟨by omega, h3⟩)
    subst this
    rcases h with h | h | h
    · omega
    · omega
    · exact absurd h3 h
theorem rdC_none {s : List UInt8} {a b : Nat} (hu : rdN 10 18446744073709551615 s = none) (hb : b ≤ 4294967295) : rdC s a b = none := by
  cases hr : rdC s a b with
  | none => rfl
  | some n =>
    obtain ⟨h1, h2, h3⟩ := rdC_some hr
    have := (rdN_iff (b := 10) (most := 18446744073709551615) (by decide) (by decide)).2 ⟨by omega, h3⟩
    rw [hu] at this
    cases this
set_option maxRecDepth 20000 in
theorem SNum_any (s : List UInt8) (a b : Nat) (hab : a ≤ 4294967295) (hb : b ≤ 4294967295) (w : World) (hT : Tab w) (hV : Vars w) (hs : s.length ≤ 4194304) :
  Calls Tryz.prog 66 #[.string ⟨s.toArray⟩, .int .u64 (a : Int), .int .u64 (b : Int)] w (NumS s a b w) := by
 have hpu := PU64_big s w hV hs
 have hf := fun (u : Nat) (hu : u ≤ 18446744073709551615) W (h : Ext w W) => (FormatUint_any u (by omega) W (hT.ext h)).mono (R' := fun e w' => e = .returned (.string ⟨(digS 10 u).toArray⟩) ∧ Ext W w') fun e w' q => ⟨by rw [q.1]; unfold dec; rw [digS_dec], q.2⟩
 have hok : ∀ (u : Nat) (W : World), a ≤ u → u ≤ b → digS 10 u = s → Ext w W → NumS s a b w (.returned (.int .u64 (u : Int))) W := by
  intro u W h1 h2 h3 hE
  refine ⟨?_, hE⟩
  rw [rdC_iff.2 ⟨h1, h2, h3⟩]
 have hbad : ∀ (W : World), rdC s a b = none → Ext w W → NumS s a b w (.panicked (wrongP 9)) W := by
  intro W h hE
  refine ⟨?_, hE⟩
  rw [h]
 have hno1 : ∀ u : Nat, (∀ n, rdN 10 18446744073709551615 s = some n → n = u) → u < a ∨ b < u ∨ digS 10 u ≠ s → rdC s a b = none := fun u h1 h2 => rdC_no h1 hb h2
 have hno2 : rdN 10 18446744073709551615 s = none → rdC s a b = none := fun h => rdC_none h hb
 generalize NumS s a b w = Post at *
 replace hok := hide hok
 replace hbad := hide hbad
 replace hno1 := hide hno1
 replace hno2 := hide hno2
 replace hpu := hide hpu
 replace hf := hide hf
 clear hT hV hs hab hb
 go_enter Tryz.func66, Tryz.ntmps66
 go_wp2_with fail
 refine hpu.out.mono ?_
 rintro e w1 ⟨he, ⟨u, hu, rfl, hn⟩ | ⟨hn, z, T, p, rfl⟩⟩
 ·have hq := fun W h => hf.out u hu W h
  have hr := fun W h1 h2 h3 h => hok.out u W h1 h2 h3 h
  have hx := fun W h1 h => hbad.out W (hno1.out u hn h1) h
  replace hx := hide hx
  replace hr := hide hr
  replace hq := hide hq
  replace hn := hide hn
  replace hu := hide hu
  replace he := hide he
  by_cases h1 : u < a
  ·have b1 : decide (u < a) = true := decide_eq_true h1
   have h1' := hide h1
   clear h1
   go_wp2_with fail
   refine (give_any _ _).mono ?_
   rintro e w3 ⟨rfl, rfl⟩
   go_wp2
   exact ⟨rfl, hx.out _ (.inl h1'.out) he.out⟩
  have b1 : decide (u < a) = false := decide_eq_false h1
  have h1' := hide h1
  clear h1
  by_cases h2 : b < u
  ·have b2 : decide (b < u) = true := decide_eq_true h2
   have h2' := hide h2
   clear h2
   go_wp2_with fail
   refine (give_any _ _).mono ?_
   rintro e w3 ⟨rfl, rfl⟩
   go_wp2
   exact ⟨rfl, hx.out _ (.inr (.inl h2'.out)) he.out⟩
  have b2 : decide (b < u) = false := decide_eq_false h2
  have h2' := hide h2
  clear h2
  go_wp2_with fail
  refine (hq.out _ he.out).mono ?_
  rintro e w2 ⟨rfl, he2⟩
  replace he2 := hide (he.out.trans he2)
  generalize digS 10 u = d at *
  by_cases hds : d = s
  ·subst hds
   go_wp2
   try go_ret
   exact hr.out _ (by have := h1'.out; omega) (by have := h2'.out; omega) (by trivial) he2.out
  ·have hdd : ((d == s) = false) := by simpa using hds
   have hdd2 : ((s == d) = false) := by simpa using fun h => hds h.symm
   have hdd3 : ((d != s) = true) := by simpa using hds
   replace hds := hide hds
   go_wp2_with fail
   refine (give_any _ _).mono ?_
   rintro e w3 ⟨rfl, rfl⟩
   go_wp2
   exact ⟨rfl, hx.out _ (.inr (.inr hds.out)) he2.out⟩
 ·replace hn := hide hn
  replace he := hide he
  go_wp2_with fail
  refine (give_any _ _).mono ?_
  rintro e w3 ⟨rfl, rfl⟩
  go_wp2
  exact ⟨rfl, hbad.out _ (hno2.out hn.out) he.out⟩
/-- A name of a word, or given up. -/
def NamS (s : List UInt8) (w : World) (e : Ending) (w' : World) : Prop := (e = if nameOk s = true then .returned (.string ⟨s.toArray⟩) else .panicked (wrongP 9)) ∧ Ext w w'
theorem SName_any (s : List UInt8) (hs : s.length ≤ 4194304) (w : World) :
  Calls Tryz.prog 68 #[.string ⟨s.toArray⟩] w (NamS s w) := by
 have q := Named_any s hs w
 have h1 : ∀ W, nameOk s = true → Ext w W → NamS s w (.returned (.string ⟨s.toArray⟩)) W := fun W h he => ⟨by rw [if_pos h], he⟩
 have h2 : ∀ W, nameOk s = false → Ext w W → NamS s w (.panicked (wrongP 9)) W := fun W h he => ⟨by rw [h]; rfl, he⟩
 generalize NamS s w = Post at *
 generalize nameOk s = b at *
 replace q := hide q
 replace h1 := hide h1
 replace h2 := hide h2
 go_enter Tryz.func68, Tryz.ntmps68
 cases b
 ·go_wp2_with (go_at_call 49; refine q.out.mono ?_; rintro e w1 ⟨rfl, he⟩; replace he := hide he)
  refine (give_any _ _).mono ?_
  rintro e w3 ⟨rfl, rfl⟩
  go_wp2
  exact ⟨rfl, h2.out _ (by trivial) he.out⟩
 ·go_wp2_with (go_at_call 49; refine q.out.mono ?_; rintro e w1 ⟨rfl, he⟩; replace he := hide he)
  try go_ret
  exact h1.out _ (by trivial) he.out
/-- Bytes of a word, or given up. -/
def BytS (s : List UInt8) (m : Nat) (w : World) (e : Ending) (w' : World) : Prop := (e = match readB m s with | some b => .returned (.string ⟨b.toArray⟩) | none => .panicked (wrongP 9)) ∧ Ext w w'
theorem unhex_len2 {s b : List UInt8} (h : unhexS s = some b) : b.length ≤ s.length := by
 have := hexS_len b
 rw [hex_unhex s b h] at this
 omega
set_option maxRecDepth 20000 in
theorem SBytes_any (s : List UInt8) (m : Nat) (hm : m ≤ 1048576) (hs : s.length ≤ 4194304) (w : World) :
    Calls Tryz.prog 69 #[.string ⟨s.toArray⟩, .int .i64 (m : Int)] w (BytS s m w) := by
  by_cases h0 : s = [45]
  · subst h0
    go_enter Tryz.func69, Tryz.ntmps69
    go_wp2
    go_ret
    exact ⟨rfl, Ext.refl _⟩
  have q := WUnhex_any s hs w
  have e1 : (s == [45]) = false := beq_eq_false_iff_ne.2 h0
  have e2 : (s != [45]) = true := by simpa using h0
  have hN : readB m s = match unhexS s with | some b => if b ≠ [] ∧ b.length ≤ m then some b else none | none => none := by unfold readB; rw [if_neg h0]; first | done | (cases unhexS s <;> rfl)
  have hbad : ∀ W, readB m s = none → Ext w W → BytS s m w (.panicked (wrongP 9)) W := fun W h he => ⟨by rw [h], he⟩
  have hok : ∀ W b, readB m s = some b → Ext w W → BytS s m w (.returned (.string ⟨b.toArray⟩)) W := fun W b h he => ⟨by rw [h], he⟩
  generalize BytS s m w = Post at *
  rw [hN] at hbad hok
  unfold UnP at q
  clear hN
  have hul := fun b => unhex_len2 (s := s) (b := b)
  generalize unhexS s = un at *
  replace h0 := hide h0
  replace hs := hide hs
  replace hm := hide hm
  cases hun : un with
  | none =>
    subst hun
    replace q := hide q
    replace hbad := hide hbad
    replace hok := hide hok
    replace hul := hide hul
    go_enter Tryz.func69, Tryz.ntmps69
    go_wp2_with fail
    refine q.out.mono ?_
    rintro e w1 ⟨⟨c, rfl, hc⟩, he⟩
    have hc1 : ¬ c = 0 := fun h => by have := hc.1 h; cases this
    clear hc
    have b1 : (c == 0) = false := beq_eq_false_iff_ne.2 hc1
    have b2 : (c != 0) = true := by simpa using hc1
    have b3 : decide (c = 0) = false := decide_eq_false hc1
    replace he := hide he
    go_wp2_with fail
    refine (give_any _ _).mono ?_
    rintro e w3 ⟨rfl, rfl⟩
    go_wp2
    exact ⟨rfl, hbad.out _ (by trivial) he.out⟩
  | some b =>
    subst hun
    have hbl := hul b rfl
    clear hul
    by_cases hb0 : b = []
    · subst hb0
      replace q := hide q
      replace hbad := hide hbad
      replace hok := hide hok
      go_enter Tryz.func69, Tryz.ntmps69
      go_wp2_with fail
      refine q.out.mono ?_
      rintro e w1 ⟨⟨c, rfl, hc⟩, he⟩
      obtain rfl : c = 0 := hc.2 rfl
      clear hc
      simp only [Option.getD_some]
      replace he := hide he
      go_wp2_with fail
      refine (give_any _ _).mono ?_
      rintro e w3 ⟨rfl, rfl⟩
      go_wp2
      exact ⟨rfl, hbad.out _ (if_neg fun h => h.1 rfl) he.out⟩
    have f1 : (b == []) = false := beq_eq_false_iff_ne.2 hb0
    have f2 : (b != []) = true := by simpa using hb0
    by_cases hl : b.length ≤ m
    · have d1 : decide (m < b.length) = false := decide_eq_false (by have := hm.out; omega)
      have hl' := hide hl
      have hb0' := hide hb0
      clear hl
      replace q := hide q
      replace hbad := hide hbad
      replace hok := hide hok
      replace hbl := hide hbl
      go_enter Tryz.func69, Tryz.ntmps69
      go_wp2_with fail
      refine q.out.mono ?_
      rintro e w1 ⟨⟨c, rfl, hc⟩, he⟩
      obtain rfl : c = 0 := hc.2 rfl
      clear hc
      simp only [Option.getD_some]
      replace he := hide he
      go_wp2
      try go_ret
      exact hok.out _ b (if_pos ⟨hb0'.out, hl'.out⟩) he.out
    · have d1 : decide (m < b.length) = true := decide_eq_true (by have := hm.out; omega)
      have hl' := hide hl
      have hb0' := hide hb0
      clear hl
      replace q := hide q
      replace hbad := hide hbad
      replace hok := hide hok
      replace hbl := hide hbl
      go_enter Tryz.func69, Tryz.ntmps69
      go_wp2_with fail
      refine q.out.mono ?_
      rintro e w1 ⟨⟨c, rfl, hc⟩, he⟩
      obtain rfl : c = 0 := hc.2 rfl
      clear hc
      simp only [Option.getD_some]
      replace he := hide he
      go_wp2_with fail
      refine (give_any _ _).mono ?_
      rintro e w3 ⟨rfl, rfl⟩
      go_wp2
      exact ⟨rfl, hbad.out _ (if_neg fun h => hl'.out h.2) he.out⟩
theorem SWord_any (b : List UInt8) (hb : b.length ≤ 1048576) (w : World) :
    Calls Tryz.prog 51 #[.string ⟨b.toArray⟩] w fun e w' => e = .returned (.string ⟨(wordB b).toArray⟩) ∧ Ext w w' := by
  have q := WHex_any b hb w
  cases b with
  | nil =>
    clear q
    go_enter Tryz.func51, Tryz.ntmps51
    go_wp2
    go_ret
    exact ⟨rfl, Ext.refl _⟩
  | cons x r =>
    have hR : ∀ h W, hexS (x :: r) = h → Ext w W → (Ending.returned (.string ⟨h.toArray⟩) = Ending.returned (.string ⟨(wordB (x :: r)).toArray⟩) ∧ Ext w W) := fun h W hh he => ⟨by unfold wordB; rw [if_neg (by simp), hh], he⟩
    generalize hexS (x :: r) = hx at *
    replace q := hide q
    replace hR := hide hR
    go_enter Tryz.func51, Tryz.ntmps51
    go_wp2_with fail
    refine q.out.mono ?_
    rintro e w1 ⟨rfl, he⟩
    go_wp2
    go_ret
    exact hR.out _ _ rfl he
end
section
set_option linter.unusedVariables false
def putD (done : Nat → Bool) (val : Nat → Value) : List Oper → Nat → Act → Act
 | [], _, a => a
 | o :: l, k, a => putD done val l (k + 1) (if done k = true then a.put o.dst (val k) else a)
def distB : List Oper → Bool
 | [] => true
 | o :: l => (match o.dst with | none => true | some d => l.all fun p => p.dst != some d) && distB l
theorem putD_put {done : Nat → Bool} {val : Nat → Value} (d : Option Tmp) (v : Value) : ∀ (l : List Oper) (k : Nat) (a : Act), (∀ o ∈ l, ∀ x, d = some x → o.dst ≠ some x) → putD done val l k (a.put d v) = (putD done val l k a).put d v
  | [], _, _, _ => rfl
  | o :: l, k, a, h => by
    simp only [putD]
    rw [← putD_put d v l (k + 1) _ fun p hp => h p (by simp [hp])]
    congr 1
    split
    · exact Act.put_comm a v _ fun x hx => h o (by simp) x hx
    · rfl
theorem dist_tail {o : Oper} {l : List Oper} (h : distB (o :: l) = true) : distB l = true ∧ ∀ p ∈ l, ∀ x, o.dst = some x → p.dst ≠ some x := by
 simp only [distB, Bool.and_eq_true] at h
 refine ⟨h.2, fun p hp x hx => ?_⟩
 rw [hx] at h
 have := List.all_eq_true.1 h.1 p hp
 simpa using this
theorem putD_size {done : Nat → Bool} {val : Nat → Value} : ∀ (l : List Oper) (k : Nat) (a : Act), (putD done val l k a).tmps.size = a.tmps.size
  | [], _, _ => rfl
  | o :: l, k, a => by
    simp only [putD]
    rw [putD_size l]
    split
    · cases o.dst <;> simp [Act.put]
    · rfl
theorem eval_put_same {a : Act} {d : Tmp} {v : Value} (h : d < a.tmps.size) : (a.put (some d) v).eval (.tmp d) = v := by
 simp [Act.put, Act.eval, h]
theorem eval_putD {done : Nat → Bool} {val : Nat → Value} : ∀ (l : List Oper) (k i : Nat) (a : Act) (o : Oper) (d : Tmp), distB l = true → l[i]? = some o → o.dst = some d → done (k + i) = true → d < a.tmps.size → (putD done val l k a).eval (.tmp d) = val (k + i)
  | [], _, _, _, _, _, _, h, _, _, _ => by simp at h
  | p :: l, k, 0, a, o, d, hB, ho, hd, hk, hs => by
    obtain rfl : p = o := by simpa using ho
    simp only [Nat.add_zero] at hk ⊢
    simp only [putD]
    rw [hk, if_pos rfl, hd, putD_put (some d) _ l _ _ fun q hq x hx => (dist_tail hB).2 q hq x (by rw [hd]; exact hx)]
    exact eval_put_same (by rw [putD_size]; exact hs)
  | p :: l, k, i + 1, a, o, d, hB, ho, hd, hk, hs => by
    simp only [putD]
    have := eval_putD (done := done) (val := val) l (k + 1) i (if done k = true then a.put p.dst (val k) else a) o d (dist_tail hB).1 (by simpa using ho) hd (by rw [show k + 1 + i = k + (i + 1) by omega]; exact hk) (by split <;> (try cases p.dst) <;> simpa [Act.put] using hs)
    rw [show k + 1 + i = k + (i + 1) by omega] at this
    exact this
open Go.RowKit
/-- What an operation yields: a value; a block of its own; a block that is filled later; nothing: it fills what number b made. -/
inductive Spec where
  | val (v : Value)
  | mk (f : Nat → Value) (t : TypeId) (cs : Array Value)
  | box (st : Nat) (t : TypeId) (z cs : Array Value)
  | fill (b : Nat)
def Spec.mem : Spec → Bool
 | .mk _ _ _ => true
 | .box _ _ _ _ => true
 | _ => false
def Spec.Ok (done : Nat → Bool) (v : Value) (w : World) (g : Nat) : Spec → Prop
 | .val u => v = u
 | .mk f t cs => v = f g ∧ Blk w g t cs
 | .box st t z cs => v = .pointer (some ⟨g, 0, none⟩) ∧ Blk w g t (if done st = true then cs else z)
 | .fill _ => True
/-- Nothing but block g has turned. -/
structure OnlyAt (g : Nat) (w w' : World) : Prop where
  os : w'.os = w.os
  tape : w'.tape = w.tape
  output : w'.output = w.output
  size : w'.heap.size = w.heap.size
  block : ∀ b, b ≠ g → w'.heap[b]? = w.heap[b]?
theorem OnlyAt.refl (g : Nat) (w : World) : OnlyAt g w w := ⟨rfl, rfl, rfl, rfl, fun _ _ => rfl⟩
theorem OnlyAt.setCell {g : Nat} {a w : World} (h : OnlyAt g a w) (o : Nat) (u : Value) : OnlyAt g a (w.setCell ⟨g, o, none⟩ u) :=
 ⟨h.os, h.tape, h.output, by simpa [World.setCell] using h.size, fun b hb => (Below.heap_setCell _ _ _ _ (show b ≠ g from hb)).trans (h.block b hb)⟩
theorem OnlyAt.ext {g : Nat} {W w w' : World} (h : OnlyAt g w w') (hE : Ext W w) (hg : W.heap.size ≤ g) : Ext W w' :=
 ⟨h.os.trans hE.os, h.tape.trans hE.tape, h.output.trans hE.output, by rw [h.size]; exact hE.size, fun b hb => (h.block b (by omega)).trans (hE.block b hb)⟩
theorem wanted_none' {o : Oper} {a : Nat → Option Bool} (h : o.guard = none) : Region.wanted o a = true := by
 unfold Region.wanted; rw [h]
theorem Spec.Ok.mono {sp : Spec} {done done' : Nat → Bool} {v : Value} {w w' : World} {g : Nat} (h : sp.Ok done v w g) (hd : ∀ st t z cs, sp = .box st t z cs → done' st = done st) (hw : sp.mem = true → w'.heap[g]? = w.heap[g]?) : sp.Ok done' v w' g := by
  cases sp with
  | val u => exact h
  | mk f t cs => exact ⟨h.1, (hw rfl).trans h.2⟩
  | box st t z cs =>
    refine ⟨h.1, ?_⟩
    rw [hd st t z cs rfl]
    exact (hw rfl).trans h.2
  | fill b => trivial
theorem Spec.Ok.lt {sp : Spec} {done : Nat → Bool} {v : Value} {w : World} {g : Nat} (h : sp.Ok done v w g) (hm : sp.mem = true) : g < w.heap.size := by
 cases sp with
 | val u => cases hm
 | mk f t cs => exact h.2.lt
 | box st t z cs => exact h.2.lt
 | fill b => cases hm
/-- What an operation yields: a value; a block of its own; a block that is filled later; nothing: it fills what number b made; something of which R holds, in blocks of its own from lo up to hi. -/
inductive Wd where
  | val (v : Value)
  | mk (f : Nat → Value) (t : TypeId) (cs : Array Value)
  | box (st : Nat) (t : TypeId) (z : Array Value) (cs : (Nat → Value) → Array Value)
  | fill (b : Nat)
  | any (R : Nat → Nat → Value → World → Prop)
def Wd.mem : Wd → Bool
 | .mk _ _ _ => true
 | .box _ _ _ _ => true
 | .any _ => true
 | _ => false
def Wd.Ok (done : Nat → Bool) (val : Nat → Value) (v : Value) (w : World) (g h : Nat) : Wd → Prop
 | .val u => v = u
 | .mk f t cs => (v = f g ∧ Blk w g t cs) ∧ h = g + 1
 | .box st t z cs => (v = .pointer (some ⟨g, 0, none⟩) ∧ Blk w g t (if done st = true then cs val else z)) ∧ h = g + 1
 | .fill _ => True
 | .any R => R g h v w
/-- What stays while nothing but other blocks turns. -/
def Stays (W : World) (R : Nat → Nat → Value → World → Prop) : Prop :=
 ∀ lo hi v w w', R lo hi v w → (∀ b, b < W.heap.size ∨ (lo ≤ b ∧ b < hi) → w'.heap[b]? = w.heap[b]?) → w.heap.size ≤ w'.heap.size → R lo hi v w'
theorem Wd.Ok.mono {W : World} {sp : Wd} (hR : ∀ R, sp = .any R → Stays W R) {done done' : Nat → Bool} {val val' : Nat → Value} {v : Value} {w w' : World} {g h : Nat} (hk : sp.Ok done val v w g h) (hd : ∀ st t z cs, sp = .box st t z cs → done' st = done st ∧ (done st = true → cs val' = cs val))
    (hw : sp.mem = true → ∀ b, b < W.heap.size ∨ (g ≤ b ∧ b < h) → w'.heap[b]? = w.heap[b]?) (hs : w.heap.size ≤ w'.heap.size) : sp.Ok done' val' v w' g h := by
  cases sp with
  | val u => exact hk
  | mk f t cs => exact ⟨⟨hk.1.1, (hw rfl g (.inr ⟨Nat.le_refl _, by have := hk.2; omega⟩)).trans hk.1.2⟩, hk.2⟩
  | box st t z cs =>
    refine ⟨⟨hk.1.1, ?_⟩, hk.2⟩
    obtain ⟨h1, h2⟩ := hd st t z cs rfl
    rw [h1]
    have := hk.1.2
    have hb : Blk w' g t (if done st = true then cs val else z) := (hw rfl g (.inr ⟨Nat.le_refl _, by have := hk.2; omega⟩)).trans this
    by_cases e : done st = true
    · rw [if_pos e] at hb ⊢
      rw [h2 e]
      exact hb
    · rw [if_neg e] at hb ⊢
      exact hb
  | fill b => trivial
  | any R => exact hR R rfl g h v w w' hk (hw rfl) hs
/-- An operation that is not skipped: it bears no guard, or its guard's word is what it wants. -/
def GuardOk (ops : Array Oper) (sp : Nat → Wd) (n m : Nat) (o : Oper) : Prop :=
 o.guard = none ∨ ∃ j want oj d, o.guard = some (j, want) ∧ ops[j]? = some oj ∧ oj.dst = some d ∧ d < m ∧ j < n ∧ sp j = .val (.bool want) ∧ o.after.any (fun e => Region.binds .any e && e.on == j) = true
theorem GuardOk.wanted {ops : Array Oper} {sp : Nat → Wd} {n : Nat} {a0 : Act} {o : Oper} {done : Nat → Bool} {val : Nat → Value} {w : World} {G H : Nat → Nat} (hB : distB ops.toList = true) (h : GuardOk ops sp n a0.tmps.size o)
  (hdep : ∀ e ∈ o.after, Region.binds .any e = true → done e.on = true) (hok : ∀ j, j < n → done j = true → (sp j).Ok done val (val j) w (G j) (H j)) :
  Region.wanted o (yielded ops (putD done val ops.toList 0 a0).tmps) = true := by
 rcases h with h | ⟨j, want, oj, d, h1, h2, h3, h4, h5, h6, h7⟩
 ·exact wanted_none' h
 ·obtain ⟨e, he, heb⟩ := Array.any_eq_true'.1 h7
  obtain ⟨hb1, hb2⟩ := (Bool.and_eq_true _ _).mp heb
  have hj : done j = true := by
   have := hdep e he hb1
   rwa [show e.on = j by simpa using hb2] at this
  have hv := hok j h5 hj
  rw [h6] at hv
  replace hv : val j = .bool want := hv
  have hev := eval_putD (done := done) (val := val) ops.toList 0 j a0 oj d hB (by simpa using h2) h3 (by rw [Nat.zero_add]; exact hj) h4
  rw [Nat.zero_add, hv] at hev
  have hsz : d < (putD done val ops.toList 0 a0).tmps.size := by rw [putD_size]; exact h4
  have hy : yielded ops (putD done val ops.toList 0 a0).tmps j = some want := by
   generalize putD done val ops.toList 0 a0 = a at hev hsz ⊢
   have hg : a.tmps[d]? = some (.bool want) := by
    simp [Act.eval, hsz] at hev
    rw [Array.getElem?_eq_getElem hsz, hev]
   simp [yielded, h2, h3, hg]
  simp [Region.wanted, h1, hy]
end
section
open Go.RowKit
set_option linter.unusedVariables false
/-- The world but one block. -/
structure But (g : Nat) (w w' : World) : Prop where
  os : w'.os = w.os
  tape : w'.tape = w.tape
  output : w'.output = w.output
  size : w.heap.size ≤ w'.heap.size
  block : ∀ b, b < w.heap.size → b ≠ g → w'.heap[b]? = w.heap[b]?
theorem But.of {g : Nat} {w w' : World} (h : Ext w w') : But g w w' := ⟨h.os, h.tape, h.output, h.size, fun b hb _ => h.block b hb⟩
theorem But.refl (g : Nat) (w : World) : But g w w := .of (Ext.refl w)
theorem But.trans {g : Nat} {a b c : World} (h : But g a b) (k : But g b c) : But g a c :=
 ⟨k.os.trans h.os, k.tape.trans h.tape, k.output.trans h.output, Nat.le_trans h.size k.size, fun x hx hg => (k.block x (Nat.lt_of_lt_of_le hx h.size) hg).trans (h.block x hx hg)⟩
theorem But.blk {g h : Nat} {w w' : World} {t : TypeId} {cs : Array Value} (b : But g w w') (k : Blk w h t cs) (hg : h ≠ g) : Blk w' h t cs := (b.block h k.lt hg).trans k
theorem But.ext {g : Nat} {w0 w w' : World} (h : Ext w0 w) (b : But g w w') (hg : w0.heap.size ≤ g) : Ext w0 w' :=
 ⟨b.os.trans h.os, b.tape.trans h.tape, b.output.trans h.output, Nat.le_trans h.size b.size, fun x hx => (b.block x (Nat.lt_of_lt_of_le hx h.size) (by omega)).trans (h.block x hx)⟩
theorem But.set {g : Nat} {a w : World} (h : But g a w) (o : Nat) (u : Value) : But g a (w.setCell ⟨g, o, none⟩ u) :=
 ⟨h.os, h.tape, h.output, by simpa [World.setCell] using h.size, fun b hb hg => (Below.heap_setCell _ _ _ _ (show b ≠ g from hg)).trans (h.block b hb hg)⟩
theorem Blk.but {g h : Nat} {w w' : World} {t : TypeId} {cs : Array Value} (k : Blk w h t cs) (b : But g w w') (hg : h ≠ g) : Blk w' h t cs := b.blk k hg
theorem But.alloc {g : Nat} {a w : World} (h : But g a w) (o : Obj) : But g a (w.alloc o) := h.trans (But.of ((Ext.refl w).alloc o))
theorem But.far {g k : Nat} {a w : World} (h : But g a w) (hk : a.heap.size ≤ k) (o : Nat) (u : Value) : But g a (w.setCell ⟨k, o, none⟩ u) :=
 ⟨h.os, h.tape, h.output, by simpa [World.setCell] using h.size, fun b hb hg => (Below.heap_setCell _ _ _ _ (show b ≠ k by omega)).trans (h.block b hb hg)⟩
end
end Go.Proofs.YtkinghadgmbhbaaGreatDoor
