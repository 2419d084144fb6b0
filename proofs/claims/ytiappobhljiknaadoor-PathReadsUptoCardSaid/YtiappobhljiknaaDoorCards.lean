/-
  DERIVED. GIVEN WITH THE SEED: THE CARDS: each row of YtiappobhljiknaaDoorRows.lean that lists a variable, with what it lists TIED to the program's text (the seventh form; the later family's looks); each row that meets fmt, with fmt's text TOLD by the authors' own Lean function (tested against real Go, not proved from fmt's source: count such statements apart). THE CARD IS WHAT COUNTS. Prove the row's statement (the work); the ties are given (YtiappobhljiknaaDoorTie.lean); close each card by the builder's one call (the guide's Derived/Test/ToyasCard.lean, 'card_holds'). Laid BY PROGRAM, IN A SANDBOX (cutbox-door.mjs). By AI agents, Wed Nov 11 2026. No macro, syntax, notation, axiom, sorry.
-/
import Derived.Test.YtiappobhljiknaaDoorRows
import GoSem.ClaimSeven
namespace Go.Proofs.YtiappobhljiknaaDoor
namespace Rows

/-- THE TIED CARD OF 'heraldlaw04.PathLays'. -/
def pathLaysCard : Claim7 := { stood := { row := pathLaysRow, standIns := [], harness := (true, "70ad50e713a147b263f678620a1c937c2e0cf0c228c2c329e109996ecef63037"), looks := true }, kinds := [], alts := [], laidByText := true, laidKinds := [.data, .data, .data], laidTests := true, laidLooks := .later }
def PathLaysCardSaid : Prop := Claim7.holds Tryd.pinned (.plain (OpenSpec.ofChange pathLaysSpec)) pathLaysCard

/-- THE TIED CARD OF 'heraldlaw04.PathSame'. -/
def pathSameCard : Claim7 := { stood := { row := pathSameRow, standIns := [], harness := (true, "70ad50e713a147b263f678620a1c937c2e0cf0c228c2c329e109996ecef63037"), looks := true }, kinds := [], alts := [], laidByText := true, laidKinds := [.data, .data, .data], laidTests := true, laidLooks := .later }
def PathSameCardSaid : Prop := Claim7.holds Tryd.pinned (.plain (OpenSpec.ofChange pathSameSpec)) pathSameCard

/-- THE TIED CARD OF 'heraldlaw04.PathTells'. -/
def pathTellsCard : Claim7 := { stood := { row := pathTellsRow, standIns := [], harness := (true, "70ad50e713a147b263f678620a1c937c2e0cf0c228c2c329e109996ecef63037"), looks := true }, kinds := [], alts := [], laidByText := true, laidKinds := [.data, .data, .data], laidTests := true, laidLooks := .later }
def PathTellsCardSaid : Prop := Claim7.holds Tryd.pinned (.plain (OpenSpec.ofChange pathTellsSpec)) pathTellsCard

/-- THE TIED CARD OF 'heraldlaw04.PathPrepends'. -/
def pathPrependsCard : Claim7 := { stood := { row := pathPrependsRow, standIns := [], harness := (true, "70ad50e713a147b263f678620a1c937c2e0cf0c228c2c329e109996ecef63037"), looks := true }, kinds := [], alts := [], laidByText := true, laidKinds := [.data, .data, .data], laidTests := true, laidLooks := .later }
def PathPrependsCardSaid : Prop := Claim7.holds Tryd.pinned (.plain (OpenSpec.ofChange pathPrependsSpec)) pathPrependsCard

/-- THE TIED CARD OF 'heraldlaw04.PathLonger'. -/
def pathLongerCard : Claim7 := { stood := { row := pathLongerRow, standIns := [], harness := (true, "70ad50e713a147b263f678620a1c937c2e0cf0c228c2c329e109996ecef63037"), looks := true }, kinds := [], alts := [], laidByText := true, laidKinds := [.data, .data, .data], laidTests := true, laidLooks := .later }
def PathLongerCardSaid : Prop := Claim7.holds Tryd.pinned (.plain (OpenSpec.ofChange pathLongerSpec)) pathLongerCard

/-- THE TIED CARD OF 'heraldlaw04.PathReads'. -/
def pathReadsCard : Claim7 := { stood := { row := pathReadsRow, standIns := [], harness := (true, "70ad50e713a147b263f678620a1c937c2e0cf0c228c2c329e109996ecef63037"), looks := true }, kinds := [], alts := [], laidByText := true, laidKinds := [.data, .data, .data, .data, .sentinel, .sentinel, .pinned], laidTests := true, laidLooks := .later }
def PathReadsCardSaid : Prop := Claim7.holds Tryd.pinned (.plain (OpenSpec.ofChange pathReadsSpec)) pathReadsCard

/-- THE TIED CARD OF 'heraldlaw04.PathAgain'. -/
def pathAgainCard : Claim7 := { stood := { row := pathAgainRow, standIns := [], harness := (true, "70ad50e713a147b263f678620a1c937c2e0cf0c228c2c329e109996ecef63037"), looks := true }, kinds := [], alts := [], laidByText := true, laidKinds := [.data, .data, .data, .data, .sentinel, .sentinel, .pinned], laidTests := true, laidLooks := .later }
def PathAgainCardSaid : Prop := Claim7.holds Tryd.pinned (.plain (OpenSpec.ofChange pathAgainSpec)) pathAgainCard

/-- THE TIED CARD OF 'heraldlaw04.PathBack'. -/
def pathBackCard : Claim7 := { stood := { row := pathBackRow, standIns := [], harness := (true, "70ad50e713a147b263f678620a1c937c2e0cf0c228c2c329e109996ecef63037"), looks := true }, kinds := [], alts := [], laidByText := true, laidKinds := [.data, .data, .data, .data, .sentinel, .sentinel, .pinned], laidTests := true, laidLooks := .later }
def PathBackCardSaid : Prop := Claim7.holds Tryd.pinned (.plain (OpenSpec.ofChange pathBackSpec)) pathBackCard

/-- THE SECOND FORM's CARD OF 'heraldlaw04.PathLays'. -/
def pathLaysUptoCard : Claim7 := { stood := { row := pathLaysUptoRow, standIns := [], harness := (true, "70ad50e713a147b263f678620a1c937c2e0cf0c228c2c329e109996ecef63037"), looks := true }, kinds := [], alts := [], laidByText := true, laidKinds := [.data, .data, .data], laidTests := true, laidLooks := .later }
def PathLaysUptoCardSaid : Prop := Claim7.holds Tryd.pinned (.plain (OpenSpec.upto pathLaysSpec)) pathLaysUptoCard

/-- THE SECOND FORM's CARD OF 'heraldlaw04.PathSame'. -/
def pathSameUptoCard : Claim7 := { stood := { row := pathSameUptoRow, standIns := [], harness := (true, "70ad50e713a147b263f678620a1c937c2e0cf0c228c2c329e109996ecef63037"), looks := true }, kinds := [], alts := [], laidByText := true, laidKinds := [.data, .data, .data], laidTests := true, laidLooks := .later }
def PathSameUptoCardSaid : Prop := Claim7.holds Tryd.pinned (.plain (OpenSpec.upto pathSameSpec)) pathSameUptoCard

/-- THE SECOND FORM's CARD OF 'heraldlaw04.PathTells'. -/
def pathTellsUptoCard : Claim7 := { stood := { row := pathTellsUptoRow, standIns := [], harness := (true, "70ad50e713a147b263f678620a1c937c2e0cf0c228c2c329e109996ecef63037"), looks := true }, kinds := [], alts := [], laidByText := true, laidKinds := [.data, .data, .data], laidTests := true, laidLooks := .later }
def PathTellsUptoCardSaid : Prop := Claim7.holds Tryd.pinned (.plain (OpenSpec.upto pathTellsSpec)) pathTellsUptoCard

/-- THE SECOND FORM's CARD OF 'heraldlaw04.PathPrepends'. -/
def pathPrependsUptoCard : Claim7 := { stood := { row := pathPrependsUptoRow, standIns := [], harness := (true, "70ad50e713a147b263f678620a1c937c2e0cf0c228c2c329e109996ecef63037"), looks := true }, kinds := [], alts := [], laidByText := true, laidKinds := [.data, .data, .data], laidTests := true, laidLooks := .later }
def PathPrependsUptoCardSaid : Prop := Claim7.holds Tryd.pinned (.plain (OpenSpec.upto pathPrependsSpec)) pathPrependsUptoCard

/-- THE SECOND FORM's CARD OF 'heraldlaw04.PathLonger'. -/
def pathLongerUptoCard : Claim7 := { stood := { row := pathLongerUptoRow, standIns := [], harness := (true, "70ad50e713a147b263f678620a1c937c2e0cf0c228c2c329e109996ecef63037"), looks := true }, kinds := [], alts := [], laidByText := true, laidKinds := [.data, .data, .data], laidTests := true, laidLooks := .later }
def PathLongerUptoCardSaid : Prop := Claim7.holds Tryd.pinned (.plain (OpenSpec.upto pathLongerSpec)) pathLongerUptoCard

/-- THE SECOND FORM's CARD OF 'heraldlaw04.PathReads'. -/
def pathReadsUptoCard : Claim7 := { stood := { row := pathReadsUptoRow, standIns := [], harness := (true, "70ad50e713a147b263f678620a1c937c2e0cf0c228c2c329e109996ecef63037"), looks := true }, kinds := [], alts := [], laidByText := true, laidKinds := [.data, .data, .data, .data, .sentinel, .sentinel, .pinned], laidTests := true, laidLooks := .later }
def PathReadsUptoCardSaid : Prop := Claim7.holds Tryd.pinned (.plain (OpenSpec.upto pathReadsSpec)) pathReadsUptoCard

/-- THE SECOND FORM's CARD OF 'heraldlaw04.PathAgain'. -/
def pathAgainUptoCard : Claim7 := { stood := { row := pathAgainUptoRow, standIns := [], harness := (true, "70ad50e713a147b263f678620a1c937c2e0cf0c228c2c329e109996ecef63037"), looks := true }, kinds := [], alts := [], laidByText := true, laidKinds := [.data, .data, .data, .data, .sentinel, .sentinel, .pinned], laidTests := true, laidLooks := .later }
def PathAgainUptoCardSaid : Prop := Claim7.holds Tryd.pinned (.plain (OpenSpec.upto pathAgainSpec)) pathAgainUptoCard

/-- THE SECOND FORM's CARD OF 'heraldlaw04.PathBack'. -/
def pathBackUptoCard : Claim7 := { stood := { row := pathBackUptoRow, standIns := [], harness := (true, "70ad50e713a147b263f678620a1c937c2e0cf0c228c2c329e109996ecef63037"), looks := true }, kinds := [], alts := [], laidByText := true, laidKinds := [.data, .data, .data, .data, .sentinel, .sentinel, .pinned], laidTests := true, laidLooks := .later }
def PathBackUptoCardSaid : Prop := Claim7.holds Tryd.pinned (.plain (OpenSpec.upto pathBackSpec)) pathBackUptoCard
end Rows
end Go.Proofs.YtiappobhljiknaaDoor
