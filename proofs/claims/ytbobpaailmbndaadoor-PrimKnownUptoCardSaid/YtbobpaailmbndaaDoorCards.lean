/-
  DERIVED. GIVEN WITH THE SEED: THE CARDS: each row of YtbobpaailmbndaaDoorRows.lean that lists a variable, with what it lists TIED to the program's text (the seventh form; the later family's looks); each row that meets fmt, with fmt's text TOLD by the authors' own Lean function (tested against real Go, not proved from fmt's source: count such statements apart). THE CARD IS WHAT COUNTS. Prove the row's statement (the work); the ties are given (YtbobpaailmbndaaDoorTie.lean); close each card by the builder's one call (the guide's Derived/Test/ToyasCard.lean, 'card_holds'). Laid BY PROGRAM, IN A SANDBOX (cutbox-door.mjs). By AI agents, Wed Nov 11 2026. No macro, syntax, notation, axiom, sorry.
-/
import Derived.Test.YtbobpaailmbndaaDoorRows
import GoSem.ClaimSeven
namespace Go.Proofs.YtbobpaailmbndaaDoor
namespace Rows

/-- THE TIED CARD OF 'heraldlaw01.PrimCuts'. -/
def primCutsCard : Claim7 := { stood := { row := primCutsRow, standIns := [], harness := (true, "8530cd417ae17b21ca4da231c56999a65ef6e5d81d3954c44b7b025f73975748"), looks := true }, kinds := [], alts := [], laidByText := true, laidKinds := [.data, .data, .data, .data, .sentinel, .sentinel, .pinned], laidTests := true, laidLooks := .later }
def PrimCutsCardSaid : Prop := Claim7.holds Tryd.pinned (.plain (OpenSpec.ofChange primCutsSpec)) primCutsCard

/-- THE TIED CARD OF 'heraldlaw01.PrimReads'. -/
def primReadsCard : Claim7 := { stood := { row := primReadsRow, standIns := [], harness := (true, "8530cd417ae17b21ca4da231c56999a65ef6e5d81d3954c44b7b025f73975748"), looks := true }, kinds := [], alts := [], laidByText := true, laidKinds := [.data, .data, .data, .data, .sentinel, .sentinel, .pinned], laidTests := true, laidLooks := .later }
def PrimReadsCardSaid : Prop := Claim7.holds Tryd.pinned (.plain (OpenSpec.ofChange primReadsSpec)) primReadsCard

/-- THE TIED CARD OF 'heraldlaw01.PrimOrder'. -/
def primOrderCard : Claim7 := { stood := { row := primOrderRow, standIns := [], harness := (true, "8530cd417ae17b21ca4da231c56999a65ef6e5d81d3954c44b7b025f73975748"), looks := true }, kinds := [], alts := [], laidByText := true, laidKinds := [.data, .data, .data, .data, .sentinel, .sentinel, .pinned], laidTests := true, laidLooks := .later }
def PrimOrderCardSaid : Prop := Claim7.holds Tryd.pinned (.plain (OpenSpec.ofChange primOrderSpec)) primOrderCard

/-- THE TIED CARD OF 'heraldlaw01.PrimBack'. -/
def primBackCard : Claim7 := { stood := { row := primBackRow, standIns := [], harness := (true, "8530cd417ae17b21ca4da231c56999a65ef6e5d81d3954c44b7b025f73975748"), looks := true }, kinds := [], alts := [], laidByText := true, laidKinds := [.data, .data, .data, .data, .sentinel, .sentinel, .pinned], laidTests := true, laidLooks := .later }
def PrimBackCardSaid : Prop := Claim7.holds Tryd.pinned (.plain (OpenSpec.ofChange primBackSpec)) primBackCard

/-- THE TIED CARD OF 'heraldlaw01.PrimTells'. -/
def primTellsCard : Claim7 := { stood := { row := primTellsRow, standIns := [], harness := (true, "8530cd417ae17b21ca4da231c56999a65ef6e5d81d3954c44b7b025f73975748"), looks := true }, kinds := [], alts := [], laidByText := true, laidKinds := [.data, .data, .data, .data, .sentinel, .sentinel, .pinned], laidTests := true, laidLooks := .later }
def PrimTellsCardSaid : Prop := Claim7.holds Tryd.pinned (.plain (OpenSpec.ofChange primTellsSpec)) primTellsCard

/-- THE TIED CARD OF 'heraldlaw01.PrimCovers'. -/
def primCoversCard : Claim7 := { stood := { row := primCoversRow, standIns := [], harness := (true, "8530cd417ae17b21ca4da231c56999a65ef6e5d81d3954c44b7b025f73975748"), looks := true }, kinds := [], alts := [], laidByText := true, laidKinds := [.data, .data, .data, .data, .sentinel, .sentinel, .pinned], laidTests := true, laidLooks := .later }
def PrimCoversCardSaid : Prop := Claim7.holds Tryd.pinned (.plain (OpenSpec.ofChange primCoversSpec)) primCoversCard

/-- THE TIED CARD OF 'heraldlaw01.PrimKnown'. -/
def primKnownCard : Claim7 := { stood := { row := primKnownRow, standIns := [], harness := (true, "8530cd417ae17b21ca4da231c56999a65ef6e5d81d3954c44b7b025f73975748"), looks := true }, kinds := [], alts := [], laidByText := true, laidKinds := [.data, .data, .data, .data, .sentinel, .sentinel, .pinned], laidTests := true, laidLooks := .later }
def PrimKnownCardSaid : Prop := Claim7.holds Tryd.pinned (.plain (OpenSpec.ofChange primKnownSpec)) primKnownCard

/-- THE SECOND FORM's CARD OF 'heraldlaw01.PrimCuts'. -/
def primCutsUptoCard : Claim7 := { stood := { row := primCutsUptoRow, standIns := [], harness := (true, "8530cd417ae17b21ca4da231c56999a65ef6e5d81d3954c44b7b025f73975748"), looks := true }, kinds := [], alts := [], laidByText := true, laidKinds := [.data, .data, .data, .data, .sentinel, .sentinel, .pinned], laidTests := true, laidLooks := .later }
def PrimCutsUptoCardSaid : Prop := Claim7.holds Tryd.pinned (.plain (OpenSpec.upto primCutsSpec)) primCutsUptoCard

/-- THE SECOND FORM's CARD OF 'heraldlaw01.PrimReads'. -/
def primReadsUptoCard : Claim7 := { stood := { row := primReadsUptoRow, standIns := [], harness := (true, "8530cd417ae17b21ca4da231c56999a65ef6e5d81d3954c44b7b025f73975748"), looks := true }, kinds := [], alts := [], laidByText := true, laidKinds := [.data, .data, .data, .data, .sentinel, .sentinel, .pinned], laidTests := true, laidLooks := .later }
def PrimReadsUptoCardSaid : Prop := Claim7.holds Tryd.pinned (.plain (OpenSpec.upto primReadsSpec)) primReadsUptoCard

/-- THE SECOND FORM's CARD OF 'heraldlaw01.PrimOrder'. -/
def primOrderUptoCard : Claim7 := { stood := { row := primOrderUptoRow, standIns := [], harness := (true, "8530cd417ae17b21ca4da231c56999a65ef6e5d81d3954c44b7b025f73975748"), looks := true }, kinds := [], alts := [], laidByText := true, laidKinds := [.data, .data, .data, .data, .sentinel, .sentinel, .pinned], laidTests := true, laidLooks := .later }
def PrimOrderUptoCardSaid : Prop := Claim7.holds Tryd.pinned (.plain (OpenSpec.upto primOrderSpec)) primOrderUptoCard

/-- THE SECOND FORM's CARD OF 'heraldlaw01.PrimBack'. -/
def primBackUptoCard : Claim7 := { stood := { row := primBackUptoRow, standIns := [], harness := (true, "8530cd417ae17b21ca4da231c56999a65ef6e5d81d3954c44b7b025f73975748"), looks := true }, kinds := [], alts := [], laidByText := true, laidKinds := [.data, .data, .data, .data, .sentinel, .sentinel, .pinned], laidTests := true, laidLooks := .later }
def PrimBackUptoCardSaid : Prop := Claim7.holds Tryd.pinned (.plain (OpenSpec.upto primBackSpec)) primBackUptoCard

/-- THE SECOND FORM's CARD OF 'heraldlaw01.PrimTells'. -/
def primTellsUptoCard : Claim7 := { stood := { row := primTellsUptoRow, standIns := [], harness := (true, "8530cd417ae17b21ca4da231c56999a65ef6e5d81d3954c44b7b025f73975748"), looks := true }, kinds := [], alts := [], laidByText := true, laidKinds := [.data, .data, .data, .data, .sentinel, .sentinel, .pinned], laidTests := true, laidLooks := .later }
def PrimTellsUptoCardSaid : Prop := Claim7.holds Tryd.pinned (.plain (OpenSpec.upto primTellsSpec)) primTellsUptoCard

/-- THE SECOND FORM's CARD OF 'heraldlaw01.PrimCovers'. -/
def primCoversUptoCard : Claim7 := { stood := { row := primCoversUptoRow, standIns := [], harness := (true, "8530cd417ae17b21ca4da231c56999a65ef6e5d81d3954c44b7b025f73975748"), looks := true }, kinds := [], alts := [], laidByText := true, laidKinds := [.data, .data, .data, .data, .sentinel, .sentinel, .pinned], laidTests := true, laidLooks := .later }
def PrimCoversUptoCardSaid : Prop := Claim7.holds Tryd.pinned (.plain (OpenSpec.upto primCoversSpec)) primCoversUptoCard

/-- THE SECOND FORM's CARD OF 'heraldlaw01.PrimKnown'. -/
def primKnownUptoCard : Claim7 := { stood := { row := primKnownUptoRow, standIns := [], harness := (true, "8530cd417ae17b21ca4da231c56999a65ef6e5d81d3954c44b7b025f73975748"), looks := true }, kinds := [], alts := [], laidByText := true, laidKinds := [.data, .data, .data, .data, .sentinel, .sentinel, .pinned], laidTests := true, laidLooks := .later }
def PrimKnownUptoCardSaid : Prop := Claim7.holds Tryd.pinned (.plain (OpenSpec.upto primKnownSpec)) primKnownUptoCard
end Rows
end Go.Proofs.YtbobpaailmbndaaDoor
