/-
  DERIVED. GIVEN WITH THE SEED: THE CARDS: each row of YtoghdmoldcjedaaGreatDoorRows.lean that lists a variable, with what it lists TIED to the program's text (the seventh form; the later family's looks); each row that meets fmt, with fmt's text TOLD by the authors' own Lean function (tested against real Go, not proved from fmt's source: count such statements apart). THE CARD IS WHAT COUNTS. Prove the row's statement (the work); the ties are given (YtoghdmoldcjedaaGreatDoorTie.lean); close each card by the builder's one call (the guide's Derived/Test/ToyasCard.lean, 'card_holds'). Laid BY PROGRAM, IN A SANDBOX (cutbox-door.mjs). By AI agents, Wed Nov 11 2026. No macro, syntax, notation, axiom, sorry.
-/
import Derived.Test.YtoghdmoldcjedaaGreatDoorRows
import GoSem.ClaimSeven
namespace Go.Proofs.YtoghdmoldcjedaaGreatDoor
namespace Rows

/-- THE TIED CARD OF 'heraldlaw15.SetsFind'. -/
def setsFindCard : Claim7 := { stood := { row := setsFindRow, standIns := [], harness := (true, "1865a16166bef18e93fa35e10e0c39076ba0415da225a8f198963069a58f6aa3"), looks := true }, kinds := [], alts := [], laidByText := true, laidKinds := [.data, .data, .data, .data, .sentinel, .sentinel, .pinned], laidTests := true, laidLooks := .later }
def SetsFindCardSaid : Prop := Claim7.holds Tryz.pinned (.plain (OpenSpec.ofChange setsFindSpec)) setsFindCard

/-- THE TIED CARD OF 'heraldlaw15.SetsHold'. -/
def setsHoldCard : Claim7 := { stood := { row := setsHoldRow, standIns := [], harness := (true, "1865a16166bef18e93fa35e10e0c39076ba0415da225a8f198963069a58f6aa3"), looks := true }, kinds := [], alts := [], laidByText := true, laidKinds := [.data, .data, .data, .data, .sentinel, .sentinel, .pinned], laidTests := true, laidLooks := .later }
def SetsHoldCardSaid : Prop := Claim7.holds Tryz.pinned (.plain (OpenSpec.ofChange setsHoldSpec)) setsHoldCard

/-- THE TIED CARD OF 'heraldlaw15.SetsMatch'. -/
def setsMatchCard : Claim7 := { stood := { row := setsMatchRow, standIns := [], harness := (true, "1865a16166bef18e93fa35e10e0c39076ba0415da225a8f198963069a58f6aa3"), looks := true }, kinds := [], alts := [], laidByText := true, laidKinds := [.data, .data, .data, .data, .sentinel, .sentinel, .pinned], laidTests := true, laidLooks := .later }
def SetsMatchCardSaid : Prop := Claim7.holds Tryz.pinned (.plain (OpenSpec.ofChange setsMatchSpec)) setsMatchCard

/-- THE TIED CARD OF 'heraldlaw15.SetsStars'. -/
def setsStarsCard : Claim7 := { stood := { row := setsStarsRow, standIns := [], harness := (true, "1865a16166bef18e93fa35e10e0c39076ba0415da225a8f198963069a58f6aa3"), looks := true }, kinds := [], alts := [], laidByText := true, laidKinds := [.data, .data, .data, .data, .sentinel, .sentinel, .pinned], laidTests := true, laidLooks := .later }
def SetsStarsCardSaid : Prop := Claim7.holds Tryz.pinned (.plain (OpenSpec.ofChange setsStarsSpec)) setsStarsCard

/-- THE TIED CARD OF 'heraldlaw15.SetsKnown'. -/
def setsKnownCard : Claim7 := { stood := { row := setsKnownRow, standIns := [], harness := (true, "1865a16166bef18e93fa35e10e0c39076ba0415da225a8f198963069a58f6aa3"), looks := true }, kinds := [], alts := [], laidByText := true, laidKinds := [.data, .data, .data, .data, .sentinel, .sentinel, .pinned], laidTests := true, laidLooks := .later }
def SetsKnownCardSaid : Prop := Claim7.holds Tryz.pinned (.plain (OpenSpec.ofChange setsKnownSpec)) setsKnownCard

/-- THE SECOND FORM's CARD OF 'heraldlaw15.SetsFind'. -/
def setsFindUptoCard : Claim7 := { stood := { row := setsFindUptoRow, standIns := [], harness := (true, "1865a16166bef18e93fa35e10e0c39076ba0415da225a8f198963069a58f6aa3"), looks := true }, kinds := [], alts := [], laidByText := true, laidKinds := [.data, .data, .data, .data, .sentinel, .sentinel, .pinned], laidTests := true, laidLooks := .later }
def SetsFindUptoCardSaid : Prop := Claim7.holds Tryz.pinned (.plain (OpenSpec.upto setsFindSpec)) setsFindUptoCard

/-- THE SECOND FORM's CARD OF 'heraldlaw15.SetsHold'. -/
def setsHoldUptoCard : Claim7 := { stood := { row := setsHoldUptoRow, standIns := [], harness := (true, "1865a16166bef18e93fa35e10e0c39076ba0415da225a8f198963069a58f6aa3"), looks := true }, kinds := [], alts := [], laidByText := true, laidKinds := [.data, .data, .data, .data, .sentinel, .sentinel, .pinned], laidTests := true, laidLooks := .later }
def SetsHoldUptoCardSaid : Prop := Claim7.holds Tryz.pinned (.plain (OpenSpec.upto setsHoldSpec)) setsHoldUptoCard

/-- THE SECOND FORM's CARD OF 'heraldlaw15.SetsMatch'. -/
def setsMatchUptoCard : Claim7 := { stood := { row := setsMatchUptoRow, standIns := [], harness := (true, "1865a16166bef18e93fa35e10e0c39076ba0415da225a8f198963069a58f6aa3"), looks := true }, kinds := [], alts := [], laidByText := true, laidKinds := [.data, .data, .data, .data, .sentinel, .sentinel, .pinned], laidTests := true, laidLooks := .later }
def SetsMatchUptoCardSaid : Prop := Claim7.holds Tryz.pinned (.plain (OpenSpec.upto setsMatchSpec)) setsMatchUptoCard

/-- THE SECOND FORM's CARD OF 'heraldlaw15.SetsStars'. -/
def setsStarsUptoCard : Claim7 := { stood := { row := setsStarsUptoRow, standIns := [], harness := (true, "1865a16166bef18e93fa35e10e0c39076ba0415da225a8f198963069a58f6aa3"), looks := true }, kinds := [], alts := [], laidByText := true, laidKinds := [.data, .data, .data, .data, .sentinel, .sentinel, .pinned], laidTests := true, laidLooks := .later }
def SetsStarsUptoCardSaid : Prop := Claim7.holds Tryz.pinned (.plain (OpenSpec.upto setsStarsSpec)) setsStarsUptoCard

/-- THE SECOND FORM's CARD OF 'heraldlaw15.SetsKnown'. -/
def setsKnownUptoCard : Claim7 := { stood := { row := setsKnownUptoRow, standIns := [], harness := (true, "1865a16166bef18e93fa35e10e0c39076ba0415da225a8f198963069a58f6aa3"), looks := true }, kinds := [], alts := [], laidByText := true, laidKinds := [.data, .data, .data, .data, .sentinel, .sentinel, .pinned], laidTests := true, laidLooks := .later }
def SetsKnownUptoCardSaid : Prop := Claim7.holds Tryz.pinned (.plain (OpenSpec.upto setsKnownSpec)) setsKnownUptoCard
end Rows
end Go.Proofs.YtoghdmoldcjedaaGreatDoor
