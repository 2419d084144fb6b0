/- Chapter 21, plain: neighbours; which one has an address; what comes of one that a range tells. How neighbours lie in memory; arguments of chapter 21, opened. -/
import Derived.Test.YtmhmcdpadmimlaaGreatDoorVA
import Derived.Test.YtmhmcdpadmimlaaGreatDoorPX
import Derived.Test.YtmhmcdpadmimlaaGreatDoorP15
namespace Go.Proofs.YtmhmcdpadmimlaaGreatDoor
open Go.RowKit
set_option linter.unusedVariables false

/-- A neighbour. -/
structure Nbr where
  name : List UInt8
  addr : List UInt8
  range : Pfx
  asn : UInt32
  hold : Int
  retry : Int
  pass : Bool
  client : Bool
  confed : Bool
  fams : List Int
  send : Int
  take : Bool
  most : Int
  gr : Bool
  time : Int
  mrai : Int
  pin : List UInt8
  pout : List UInt8
  vrf : List UInt8
  selfN : Bool
def zeroN : Nbr := ⟨[], [], zeroP, 0, 0, 0, false, false, false, [], 0, false, 0, false, 0, 0, [], [], [], false⟩
/-- Its cells. -/
def nbrCs (x : Nbr) (a : Option Addr) (c : Nat) : List Value :=
  [.string ⟨x.name.toArray⟩, .string ⟨x.addr.toArray⟩, .int .i64 x.range.fam, .int .u64 (x.range.rd : Int), .string ⟨x.range.addr.toArray⟩, .int .i64 x.range.len, .int .u32 (x.asn.toNat : Int), .int .i64 x.hold, .int .i64 x.retry, .bool x.pass, .bool x.client, .bool x.confed,
   .slice a x.fams.length c, .int .i64 x.send, .bool x.take, .int .i64 x.most, .bool x.gr, .int .i64 x.time, .int .i64 x.mrai, .string ⟨x.pin.toArray⟩, .string ⟨x.pout.toArray⟩, .string ⟨x.vrf.toArray⟩, .bool x.selfN]
structure NbrIn (w : World) (S : Nat → Prop) (x : Nbr) (a : Option Addr) : Prop where
  name : x.name.length ≤ 1048576
  addr : x.addr.length ≤ 1048576
  range : PfxIn x.range
  hold : i64 x.hold
  retry : i64 x.retry
  nFams : x.fams.length ≤ 16777216
  fams : Sl EI64 w S a x.fams
  send : i64 x.send
  most : i64 x.most
  time : i64 x.time
  mrai : i64 x.mrai
  pin : x.pin.length ≤ 1048576
  pout : x.pout.length ≤ 1048576
  vrf : x.vrf.length ≤ 1048576
def ENbr : Enc Nbr := (EByt.pair (EByt.pair (EPfx.pair (EU32.pair (EI64.pair (EI64.pair (EBool.pair (EBool.pair (EBool.pair (EI64.slice.pair (EI64.pair (EBool.pair (EI64.pair (EBool.pair (EI64.pair (EI64.pair (EByt.pair (EByt.pair (EByt.pair EBool))))))))))))))))))).map
  fun x => (x.name, x.addr, x.range, x.asn, x.hold, x.retry, x.pass, x.client, x.confed, x.fams, x.send, x.take, x.most, x.gr, x.time, x.mrai, x.pin, x.pout, x.vrf, x.selfN)
theorem ENbr.iff {w : World} {S : Nat → Prop} {x : Nbr} {cs : List Value} : ENbr.R w S x cs ↔ ∃ a c, cs = nbrCs x a c ∧ NbrIn w S x a := by
  constructor
  · rintro ⟨c, d, rfl, ⟨rfl, h1⟩, c, d, rfl, ⟨rfl, h2⟩, c, d, rfl, ⟨rfl, h3⟩, c, d, rfl, ⟨rfl, _⟩, c, d, rfl, ⟨rfl, h4⟩, c, d, rfl, ⟨rfl, h5⟩, c, d, rfl, ⟨rfl, _⟩, c, d, rfl, ⟨rfl, _⟩, c, d, rfl, ⟨rfl, _⟩, c, d, rfl, ⟨a, k, rfl, n1, s1⟩,
      c, d, rfl, ⟨rfl, h6⟩, c, d, rfl, ⟨rfl, _⟩, c, d, rfl, ⟨rfl, h7⟩, c, d, rfl, ⟨rfl, _⟩, c, d, rfl, ⟨rfl, h8⟩, c, d, rfl, ⟨rfl, h9⟩, c, d, rfl, ⟨rfl, h10⟩, c, d, rfl, ⟨rfl, h11⟩, c, d, rfl, ⟨rfl, h12⟩, ⟨rfl, _⟩⟩
    exact ⟨a, k, rfl, h1, h2, h3, h4, h5, n1, s1, h6, h7, h8, h9, h10, h11, h12⟩
  · rintro ⟨a, k, rfl, h1, h2, h3, h4, h5, n1, s1, h6, h7, h8, h9, h10, h11, h12⟩
    exact ⟨[_], _, rfl, ⟨rfl, h1⟩, [_], _, rfl, ⟨rfl, h2⟩, pfxCs _, _, rfl, ⟨rfl, h3⟩, [_], _, rfl, ⟨rfl, trivial⟩, [_], _, rfl, ⟨rfl, h4⟩, [_], _, rfl, ⟨rfl, h5⟩, [_], _, rfl, ⟨rfl, trivial⟩, [_], _, rfl, ⟨rfl, trivial⟩, [_], _, rfl, ⟨rfl, trivial⟩, [_], _, rfl, ⟨a, k, rfl, n1, s1⟩,
      [_], _, rfl, ⟨rfl, h6⟩, [_], _, rfl, ⟨rfl, trivial⟩, [_], _, rfl, ⟨rfl, h7⟩, [_], _, rfl, ⟨rfl, trivial⟩, [_], _, rfl, ⟨rfl, h8⟩, [_], _, rfl, ⟨rfl, h9⟩, [_], _, rfl, ⟨rfl, h10⟩, [_], _, rfl, ⟨rfl, h11⟩, [_], _, rfl, ⟨rfl, h12⟩, ⟨rfl, trivial⟩⟩
theorem ENbr.at {w : World} {S : Nat → Prop} {a : Option Addr} {l : List Nbr} (h : Sl ENbr w S a l) (k : Nat) (hk : k < l.length) :
    ∃ b off f c, a = some ⟨b, off, none⟩ ∧ S b ∧ NbrIn w S l[k] f ∧ ∀ j u, (nbrCs l[k] f c)[j]? = some u → w.cell? ⟨b, off + k * 23 + j, none⟩ = some u := by
  obtain ⟨b, off, cs, rfl, hb, hr, hc⟩ := h.at k hk
  obtain ⟨f, c, rfl, hi⟩ := ENbr.iff.1 hr
  exact ⟨b, off, f, c, rfl, hb, hi, hc⟩
theorem NbrIn.frame {w w' : World} {S : Nat → Prop} {x : Nbr} {a : Option Addr} (h : NbrIn w S x a) (hw : ∀ b, S b → w'.heap[b]? = w.heap[b]?) : NbrIn w' S x a :=
  ⟨h.name, h.addr, h.range, h.hold, h.retry, h.nFams, h.fams.frame hw, h.send, h.most, h.time, h.mrai, h.pin, h.pout, h.vrf⟩
theorem NbrIn.mono {w : World} {S S' : Nat → Prop} {x : Nbr} {a : Option Addr} (h : NbrIn w S x a) (hS : ∀ b, S b → S' b) : NbrIn w S' x a :=
  ⟨h.name, h.addr, h.range, h.hold, h.retry, h.nFams, h.fams.mono hS, h.send, h.most, h.time, h.mrai, h.pin, h.pout, h.vrf⟩
theorem NbrIn.ext {w w' : World} {x : Nbr} {a : Option Addr} (h : NbrIn w (· < w.heap.size) x a) (hb : Ext w w') : NbrIn w' (· < w'.heap.size) x a :=
  (h.frame hb.block).mono fun _ hh => Nat.lt_of_lt_of_le hh hb.size

/-- Is it an address? -/
def rightA (a : List UInt8) : Bool := decide (a.length = 4) || decide (a.length = 16)
def hostS (a : List UInt8) : Pfx := if a.length = 4 then ⟨1, 0, a, 32⟩ else ⟨2, 0, a, 128⟩
/-- Is a neighbour that a range tells of the address? -/
noncomputable def ofS (x : Nbr) (a : List UInt8) : Bool := rightA a && (decide (x.addr = []) && covB x.range (hostS a))
def lenN (l : List Nbr) (i : Int) : Int := (l.getD i.toNat zeroN).range.len
/-- The best of the first k, by its range: -1 is none. -/
noncomputable def bestS (l : List Nbr) (a : List UInt8) : Nat → Int
  | 0 => -1
  | k + 1 => if ofS (l.getD k zeroN) a && (decide (bestS l a k < 0) || decide (lenN l (bestS l a k) < lenN l k)) then (k : Int) else bestS l a k
theorem bestS_bd (l : List Nbr) (a : List UInt8) : ∀ k, -1 ≤ bestS l a k ∧ bestS l a k < k
  | 0 => by show (-1 : Int) ≤ -1 ∧ (-1 : Int) < 0; omega
  | k + 1 => by
    have := bestS_bd l a k
    unfold bestS
    split <;> omega
/-- The neighbour of an address: which one, is there one. -/
noncomputable def findN (l : List Nbr) (a : List UInt8) : Int × Bool :=
  if rightA a = true then (match l.findIdx? (fun x => x.addr == a) with | some i => ((i : Int), true) | none => (if bestS l a l.length < 0 then 0 else bestS l a l.length, decide (0 ≤ bestS l a l.length))) else (0, false)
def dashB (c : UInt8) : UInt8 := if c = 46 ∨ c = 58 then 45 else c
/-- The name of what comes. -/
def dynName (x : Nbr) (a : List UInt8) : List UInt8 := x.name ++ ([45] ++ (addrT a).1.map dashB)
/-- What comes. -/
noncomputable def dynS (x : Nbr) (a : List UInt8) : Nbr × Int :=
  if ofS x a = true then (if (dynName x a).length ≤ 16 then ({ x with name := dynName x a, addr := a, range := zeroP }, 0) else (zeroN, 3)) else (zeroN, 2)
theorem opens_bool {P : Program} {T : TypeId} (h : P.underlying T = some .bool) (hc : P.cellsOf T = 1) : Opens P T EBool := by
  refine ⟨hc, fun enc W fuel cs x hx _ => ?_⟩
  obtain ⟨b, rfl, _⟩ := DataW.trod_bool h hx
  exact ⟨b, rfl, trivial⟩
theorem opens_EBool : Opens Tryz.prog 4 EBool := opens_bool Tryz.underlying4 (by kernel_rfl)
theorem opens_ints : Opens Tryz.prog 29 EI64.slice := opens_slice Tryz.underlying29 (by kernel_rfl) opens_int (by decide)
set_option maxRecDepth 100000 in
theorem opens_ENbr : Opens Tryz.prog 31 ENbr :=
  opens_map (opens_struct Tryz.underlying31 (by kernel_rfl) (opensF_cons rfl rfl opens_text (opensF_cons rfl rfl opens_text (opensF_cons rfl rfl opens_EPfx (opensF_cons rfl rfl opens_u32_ (opensF_cons rfl rfl opens_int (opensF_cons rfl rfl opens_int (opensF_cons rfl rfl opens_EBool (opensF_cons rfl rfl opens_EBool (opensF_cons rfl rfl opens_EBool (opensF_cons rfl rfl opens_ints (opensF_cons rfl rfl opens_int (opensF_cons rfl rfl opens_EBool (opensF_cons rfl rfl opens_int (opensF_cons rfl rfl opens_EBool (opensF_cons rfl rfl opens_int (opensF_cons rfl rfl opens_int (opensF_cons rfl rfl opens_text (opensF_cons rfl rfl opens_text (opensF_cons rfl rfl opens_text (opensF_last rfl rfl opens_EBool rfl)))))))))))))))))))))
    (fun x : Nbr => (x.name, x.addr, x.range, x.asn, x.hold, x.retry, x.pass, x.client, x.confed, x.fams, x.send, x.take, x.most, x.gr, x.time, x.mrai, x.pin, x.pout, x.vrf, x.selfN))
    (fun p => ⟨p.1, p.2.1, p.2.2.1, p.2.2.2.1, p.2.2.2.2.1, p.2.2.2.2.2.1, p.2.2.2.2.2.2.1, p.2.2.2.2.2.2.2.1, p.2.2.2.2.2.2.2.2.1, p.2.2.2.2.2.2.2.2.2.1, p.2.2.2.2.2.2.2.2.2.2.1, p.2.2.2.2.2.2.2.2.2.2.2.1, p.2.2.2.2.2.2.2.2.2.2.2.2.1, p.2.2.2.2.2.2.2.2.2.2.2.2.2.1, p.2.2.2.2.2.2.2.2.2.2.2.2.2.2.1, p.2.2.2.2.2.2.2.2.2.2.2.2.2.2.2.1, p.2.2.2.2.2.2.2.2.2.2.2.2.2.2.2.2.1, p.2.2.2.2.2.2.2.2.2.2.2.2.2.2.2.2.2.1, p.2.2.2.2.2.2.2.2.2.2.2.2.2.2.2.2.2.2.1, p.2.2.2.2.2.2.2.2.2.2.2.2.2.2.2.2.2.2.2⟩) (fun _ => rfl)
end Go.Proofs.YtmhmcdpadmimlaaGreatDoor
