/-
  DERIVED. GIVEN WITH THE SEED: THE CARDS: each row of YtmhmcdpadmimlaaGreatDoorRows.lean that lists a variable, with what it lists TIED to the program's text (the seventh form; the later family's looks); each row that meets fmt, with fmt's text TOLD by the authors' own Lean function (tested against real Go, not proved from fmt's source: count such statements apart). THE CARD IS WHAT COUNTS. Prove the row's statement (the work); the ties are given (YtmhmcdpadmimlaaGreatDoorTie.lean); close each card by the builder's one call (the guide's Derived/Test/ToyasCard.lean, 'card_holds'). Laid BY PROGRAM, IN A SANDBOX (cutbox-door.mjs). By AI agents, Wed Nov 11 2026. No macro, syntax, notation, axiom, sorry.
-/
import Derived.Test.YtmhmcdpadmimlaaGreatDoorRows
import GoSem.ClaimSeven
namespace Go.Proofs.YtmhmcdpadmimlaaGreatDoor
namespace Rows

/-- THE TIED CARD OF 'heraldlaw21.AdmitFinds'. -/
def admitFindsCard : Claim7 := { stood := { row := admitFindsRow, standIns := [], harness := (true, "68b4a3ff276ee530af66d38989b9962dd9b18fb73c4e75ddd2865889447943e1"), looks := true }, kinds := [], alts := [], laidByText := true, laidKinds := [.data, .data, .data, .data, .sentinel, .sentinel, .pinned], laidTests := true, laidLooks := .later }
def AdmitFindsCardSaid : Prop := Claim7.holds Tryz.pinned (.plain (OpenSpec.ofChange admitFindsSpec)) admitFindsCard

/-- THE TIED CARD OF 'heraldlaw21.AdmitNearest'. -/
def admitNearestCard : Claim7 := { stood := { row := admitNearestRow, standIns := [], harness := (true, "68b4a3ff276ee530af66d38989b9962dd9b18fb73c4e75ddd2865889447943e1"), looks := true }, kinds := [], alts := [], laidByText := true, laidKinds := [.data, .data, .data, .data, .sentinel, .sentinel, .pinned], laidTests := true, laidLooks := .later }
def AdmitNearestCardSaid : Prop := Claim7.holds Tryz.pinned (.plain (OpenSpec.ofChange admitNearestSpec)) admitNearestCard

/-- THE TIED CARD OF 'heraldlaw21.AdmitBoth'. -/
def admitBothCard : Claim7 := { stood := { row := admitBothRow, standIns := [], harness := (true, "68b4a3ff276ee530af66d38989b9962dd9b18fb73c4e75ddd2865889447943e1"), looks := true }, kinds := [], alts := [], laidByText := true, laidKinds := [.data, .data, .data, .data, .sentinel, .sentinel, .pinned], laidTests := true, laidLooks := .later }
def AdmitBothCardSaid : Prop := Claim7.holds Tryz.pinned (.plain (OpenSpec.ofChange admitBothSpec)) admitBothCard

/-- THE TIED CARD OF 'heraldlaw21.AdmitKnown'. -/
def admitKnownCard : Claim7 := { stood := { row := admitKnownRow, standIns := [], harness := (true, "68b4a3ff276ee530af66d38989b9962dd9b18fb73c4e75ddd2865889447943e1"), looks := true }, kinds := [], alts := [], laidByText := true, laidKinds := [.data, .data, .data, .data, .sentinel, .sentinel, .pinned], laidTests := true, laidLooks := .later }
def AdmitKnownCardSaid : Prop := Claim7.holds Tryz.pinned (.plain (OpenSpec.ofChange admitKnownSpec)) admitKnownCard

/-- THE TIED CARD OF 'heraldlaw21.AdmitKeeps'. -/
def admitKeepsCard : Claim7 := { stood := { row := admitKeepsRow, standIns := [], harness := (true, "68b4a3ff276ee530af66d38989b9962dd9b18fb73c4e75ddd2865889447943e1"), looks := true }, kinds := [], alts := [], laidByText := true, laidKinds := [.data, .data, .data, .data, .sentinel, .sentinel, .pinned], laidTests := true, laidLooks := .later }
def AdmitKeepsCardSaid : Prop := Claim7.holds Tryz.pinned (.plain (OpenSpec.ofChange admitKeepsSpec)) admitKeepsCard

/-- THE SECOND FORM's CARD OF 'heraldlaw21.AdmitFinds'. -/
def admitFindsUptoCard : Claim7 := { stood := { row := admitFindsUptoRow, standIns := [], harness := (true, "68b4a3ff276ee530af66d38989b9962dd9b18fb73c4e75ddd2865889447943e1"), looks := true }, kinds := [], alts := [], laidByText := true, laidKinds := [.data, .data, .data, .data, .sentinel, .sentinel, .pinned], laidTests := true, laidLooks := .later }
def AdmitFindsUptoCardSaid : Prop := Claim7.holds Tryz.pinned (.plain (OpenSpec.upto admitFindsSpec)) admitFindsUptoCard

/-- THE SECOND FORM's CARD OF 'heraldlaw21.AdmitNearest'. -/
def admitNearestUptoCard : Claim7 := { stood := { row := admitNearestUptoRow, standIns := [], harness := (true, "68b4a3ff276ee530af66d38989b9962dd9b18fb73c4e75ddd2865889447943e1"), looks := true }, kinds := [], alts := [], laidByText := true, laidKinds := [.data, .data, .data, .data, .sentinel, .sentinel, .pinned], laidTests := true, laidLooks := .later }
def AdmitNearestUptoCardSaid : Prop := Claim7.holds Tryz.pinned (.plain (OpenSpec.upto admitNearestSpec)) admitNearestUptoCard

/-- THE SECOND FORM's CARD OF 'heraldlaw21.AdmitBoth'. -/
def admitBothUptoCard : Claim7 := { stood := { row := admitBothUptoRow, standIns := [], harness := (true, "68b4a3ff276ee530af66d38989b9962dd9b18fb73c4e75ddd2865889447943e1"), looks := true }, kinds := [], alts := [], laidByText := true, laidKinds := [.data, .data, .data, .data, .sentinel, .sentinel, .pinned], laidTests := true, laidLooks := .later }
def AdmitBothUptoCardSaid : Prop := Claim7.holds Tryz.pinned (.plain (OpenSpec.upto admitBothSpec)) admitBothUptoCard

/-- THE SECOND FORM's CARD OF 'heraldlaw21.AdmitKnown'. -/
def admitKnownUptoCard : Claim7 := { stood := { row := admitKnownUptoRow, standIns := [], harness := (true, "68b4a3ff276ee530af66d38989b9962dd9b18fb73c4e75ddd2865889447943e1"), looks := true }, kinds := [], alts := [], laidByText := true, laidKinds := [.data, .data, .data, .data, .sentinel, .sentinel, .pinned], laidTests := true, laidLooks := .later }
def AdmitKnownUptoCardSaid : Prop := Claim7.holds Tryz.pinned (.plain (OpenSpec.upto admitKnownSpec)) admitKnownUptoCard

/-- THE SECOND FORM's CARD OF 'heraldlaw21.AdmitKeeps'. -/
def admitKeepsUptoCard : Claim7 := { stood := { row := admitKeepsUptoRow, standIns := [], harness := (true, "68b4a3ff276ee530af66d38989b9962dd9b18fb73c4e75ddd2865889447943e1"), looks := true }, kinds := [], alts := [], laidByText := true, laidKinds := [.data, .data, .data, .data, .sentinel, .sentinel, .pinned], laidTests := true, laidLooks := .later }
def AdmitKeepsUptoCardSaid : Prop := Claim7.holds Tryz.pinned (.plain (OpenSpec.upto admitKeepsSpec)) admitKeepsUptoCard
end Rows
end Go.Proofs.YtmhmcdpadmimlaaGreatDoor
