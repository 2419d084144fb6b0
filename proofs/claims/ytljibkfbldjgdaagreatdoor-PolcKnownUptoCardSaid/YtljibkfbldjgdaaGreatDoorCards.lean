/-
  DERIVED. GIVEN WITH THE SEED: THE CARDS: each row of YtljibkfbldjgdaaGreatDoorRows.lean that lists a variable, with what it lists TIED to the program's text (the seventh form; the later family's looks); each row that meets fmt, with fmt's text TOLD by the authors' own Lean function (tested against real Go, not proved from fmt's source: count such statements apart). THE CARD IS WHAT COUNTS. Prove the row's statement (the work); the ties are given (YtljibkfbldjgdaaGreatDoorTie.lean); close each card by the builder's one call (the guide's Derived/Test/ToyasCard.lean, 'card_holds'). Laid BY PROGRAM, IN A SANDBOX (cutbox-door.mjs). By AI agents, Wed Nov 11 2026. No macro, syntax, notation, axiom, sorry.
-/
import Derived.Test.YtljibkfbldjgdaaGreatDoorRows
import GoSem.ClaimSeven
namespace Go.Proofs.YtljibkfbldjgdaaGreatDoor
namespace Rows

/-- THE TIED CARD OF 'heraldlaw16.PolcTells'. -/
def polcTellsCard : Claim7 := { stood := { row := polcTellsRow, standIns := [], harness := (true, "03a2df652b75a8a897e85a87c86157a7a034f89ea9c007668e454ee9f7cfda67"), looks := true }, kinds := [], alts := [], laidByText := true, laidKinds := [.data, .data, .data, .data, .sentinel, .sentinel, .pinned], laidTests := true, laidLooks := .later }
def PolcTellsCardSaid : Prop := Claim7.holds Tryz.pinned (.plain (OpenSpec.ofChange polcTellsSpec)) polcTellsCard

/-- THE TIED CARD OF 'heraldlaw16.PolcSame'. -/
def polcSameCard : Claim7 := { stood := { row := polcSameRow, standIns := [], harness := (true, "03a2df652b75a8a897e85a87c86157a7a034f89ea9c007668e454ee9f7cfda67"), looks := true }, kinds := [], alts := [], laidByText := true, laidKinds := [.data, .data, .data, .data, .sentinel, .sentinel, .pinned], laidTests := true, laidLooks := .later }
def PolcSameCardSaid : Prop := Claim7.holds Tryz.pinned (.plain (OpenSpec.ofChange polcSameSpec)) polcSameCard

/-- THE TIED CARD OF 'heraldlaw16.PolcBack'. -/
def polcBackCard : Claim7 := { stood := { row := polcBackRow, standIns := [], harness := (true, "03a2df652b75a8a897e85a87c86157a7a034f89ea9c007668e454ee9f7cfda67"), looks := true }, kinds := [], alts := [], laidByText := true, laidKinds := [.data, .data, .data, .data, .sentinel, .sentinel, .pinned], laidTests := true, laidLooks := .later }
def PolcBackCardSaid : Prop := Claim7.holds Tryz.pinned (.plain (OpenSpec.ofChange polcBackSpec)) polcBackCard

/-- THE TIED CARD OF 'heraldlaw16.PolcAgain'. -/
def polcAgainCard : Claim7 := { stood := { row := polcAgainRow, standIns := [], harness := (true, "03a2df652b75a8a897e85a87c86157a7a034f89ea9c007668e454ee9f7cfda67"), looks := true }, kinds := [], alts := [], laidByText := true, laidKinds := [.data, .data, .data, .data, .sentinel, .sentinel, .pinned], laidTests := true, laidLooks := .later }
def PolcAgainCardSaid : Prop := Claim7.holds Tryz.pinned (.plain (OpenSpec.ofChange polcAgainSpec)) polcAgainCard

/-- THE TIED CARD OF 'heraldlaw16.PolcReads'. -/
def polcReadsCard : Claim7 := { stood := { row := polcReadsRow, standIns := [], harness := (true, "03a2df652b75a8a897e85a87c86157a7a034f89ea9c007668e454ee9f7cfda67"), looks := true }, kinds := [], alts := [], laidByText := true, laidKinds := [.data, .data, .data, .data, .handle, .sentinel, .sentinel, .pinned], laidTests := true, laidLooks := .later }
def PolcReadsCardSaid : Prop := Claim7.holds Tryz.pinned (.plain (OpenSpec.ofChange polcReadsSpec)) polcReadsCard

/-- THE TIED CARD OF 'heraldlaw16.PolcCompiles'. -/
def polcCompilesCard : Claim7 := { stood := { row := polcCompilesRow, standIns := [], harness := (true, "03a2df652b75a8a897e85a87c86157a7a034f89ea9c007668e454ee9f7cfda67"), looks := true }, kinds := [], alts := [], laidByText := true, laidKinds := [.data, .data, .data, .data, .sentinel, .sentinel, .pinned], laidTests := true, laidLooks := .later }
def PolcCompilesCardSaid : Prop := Claim7.holds Tryz.pinned (.plain (OpenSpec.ofChange polcCompilesSpec)) polcCompilesCard

/-- THE TIED CARD OF 'heraldlaw16.PolcJumps'. -/
def polcJumpsCard : Claim7 := { stood := { row := polcJumpsRow, standIns := [], harness := (true, "03a2df652b75a8a897e85a87c86157a7a034f89ea9c007668e454ee9f7cfda67"), looks := true }, kinds := [], alts := [], laidByText := true, laidKinds := [.data, .data, .data, .data, .sentinel, .sentinel, .pinned], laidTests := true, laidLooks := .later }
def PolcJumpsCardSaid : Prop := Claim7.holds Tryz.pinned (.plain (OpenSpec.ofChange polcJumpsSpec)) polcJumpsCard

/-- THE TIED CARD OF 'heraldlaw16.PolcKnown'. -/
def polcKnownCard : Claim7 := { stood := { row := polcKnownRow, standIns := [], harness := (true, "03a2df652b75a8a897e85a87c86157a7a034f89ea9c007668e454ee9f7cfda67"), looks := true }, kinds := [], alts := [], laidByText := true, laidKinds := [.data, .data, .data, .data, .handle, .sentinel, .sentinel, .pinned], laidTests := true, laidLooks := .later }
def PolcKnownCardSaid : Prop := Claim7.holds Tryz.pinned (.plain (OpenSpec.ofChange polcKnownSpec)) polcKnownCard

/-- THE SECOND FORM's CARD OF 'heraldlaw16.PolcTells'. -/
def polcTellsUptoCard : Claim7 := { stood := { row := polcTellsUptoRow, standIns := [], harness := (true, "03a2df652b75a8a897e85a87c86157a7a034f89ea9c007668e454ee9f7cfda67"), looks := true }, kinds := [], alts := [], laidByText := true, laidKinds := [.data, .data, .data, .data, .sentinel, .sentinel, .pinned], laidTests := true, laidLooks := .later }
def PolcTellsUptoCardSaid : Prop := Claim7.holds Tryz.pinned (.plain (OpenSpec.upto polcTellsSpec)) polcTellsUptoCard

/-- THE SECOND FORM's CARD OF 'heraldlaw16.PolcSame'. -/
def polcSameUptoCard : Claim7 := { stood := { row := polcSameUptoRow, standIns := [], harness := (true, "03a2df652b75a8a897e85a87c86157a7a034f89ea9c007668e454ee9f7cfda67"), looks := true }, kinds := [], alts := [], laidByText := true, laidKinds := [.data, .data, .data, .data, .sentinel, .sentinel, .pinned], laidTests := true, laidLooks := .later }
def PolcSameUptoCardSaid : Prop := Claim7.holds Tryz.pinned (.plain (OpenSpec.upto polcSameSpec)) polcSameUptoCard

/-- THE SECOND FORM's CARD OF 'heraldlaw16.PolcBack'. -/
def polcBackUptoCard : Claim7 := { stood := { row := polcBackUptoRow, standIns := [], harness := (true, "03a2df652b75a8a897e85a87c86157a7a034f89ea9c007668e454ee9f7cfda67"), looks := true }, kinds := [], alts := [], laidByText := true, laidKinds := [.data, .data, .data, .data, .sentinel, .sentinel, .pinned], laidTests := true, laidLooks := .later }
def PolcBackUptoCardSaid : Prop := Claim7.holds Tryz.pinned (.plain (OpenSpec.upto polcBackSpec)) polcBackUptoCard

/-- THE SECOND FORM's CARD OF 'heraldlaw16.PolcAgain'. -/
def polcAgainUptoCard : Claim7 := { stood := { row := polcAgainUptoRow, standIns := [], harness := (true, "03a2df652b75a8a897e85a87c86157a7a034f89ea9c007668e454ee9f7cfda67"), looks := true }, kinds := [], alts := [], laidByText := true, laidKinds := [.data, .data, .data, .data, .sentinel, .sentinel, .pinned], laidTests := true, laidLooks := .later }
def PolcAgainUptoCardSaid : Prop := Claim7.holds Tryz.pinned (.plain (OpenSpec.upto polcAgainSpec)) polcAgainUptoCard

/-- THE SECOND FORM's CARD OF 'heraldlaw16.PolcReads'. -/
def polcReadsUptoCard : Claim7 := { stood := { row := polcReadsUptoRow, standIns := [], harness := (true, "03a2df652b75a8a897e85a87c86157a7a034f89ea9c007668e454ee9f7cfda67"), looks := true }, kinds := [], alts := [], laidByText := true, laidKinds := [.data, .data, .data, .data, .handle, .sentinel, .sentinel, .pinned], laidTests := true, laidLooks := .later }
def PolcReadsUptoCardSaid : Prop := Claim7.holds Tryz.pinned (.plain (OpenSpec.upto polcReadsSpec)) polcReadsUptoCard

/-- THE SECOND FORM's CARD OF 'heraldlaw16.PolcCompiles'. -/
def polcCompilesUptoCard : Claim7 := { stood := { row := polcCompilesUptoRow, standIns := [], harness := (true, "03a2df652b75a8a897e85a87c86157a7a034f89ea9c007668e454ee9f7cfda67"), looks := true }, kinds := [], alts := [], laidByText := true, laidKinds := [.data, .data, .data, .data, .sentinel, .sentinel, .pinned], laidTests := true, laidLooks := .later }
def PolcCompilesUptoCardSaid : Prop := Claim7.holds Tryz.pinned (.plain (OpenSpec.upto polcCompilesSpec)) polcCompilesUptoCard

/-- THE SECOND FORM's CARD OF 'heraldlaw16.PolcJumps'. -/
def polcJumpsUptoCard : Claim7 := { stood := { row := polcJumpsUptoRow, standIns := [], harness := (true, "03a2df652b75a8a897e85a87c86157a7a034f89ea9c007668e454ee9f7cfda67"), looks := true }, kinds := [], alts := [], laidByText := true, laidKinds := [.data, .data, .data, .data, .sentinel, .sentinel, .pinned], laidTests := true, laidLooks := .later }
def PolcJumpsUptoCardSaid : Prop := Claim7.holds Tryz.pinned (.plain (OpenSpec.upto polcJumpsSpec)) polcJumpsUptoCard

/-- THE SECOND FORM's CARD OF 'heraldlaw16.PolcKnown'. -/
def polcKnownUptoCard : Claim7 := { stood := { row := polcKnownUptoRow, standIns := [], harness := (true, "03a2df652b75a8a897e85a87c86157a7a034f89ea9c007668e454ee9f7cfda67"), looks := true }, kinds := [], alts := [], laidByText := true, laidKinds := [.data, .data, .data, .data, .handle, .sentinel, .sentinel, .pinned], laidTests := true, laidLooks := .later }
def PolcKnownUptoCardSaid : Prop := Claim7.holds Tryz.pinned (.plain (OpenSpec.upto polcKnownSpec)) polcKnownUptoCard
end Rows
end Go.Proofs.YtljibkfbldjgdaaGreatDoor
