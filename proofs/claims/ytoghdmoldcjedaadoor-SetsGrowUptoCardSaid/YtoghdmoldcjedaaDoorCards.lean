/-
  DERIVED. GIVEN WITH THE SEED: THE CARDS: each row of YtoghdmoldcjedaaDoorRows.lean that lists a variable, with what it lists TIED to the program's text (the seventh form; the later family's looks); each row that meets fmt, with fmt's text TOLD by the authors' own Lean function (tested against real Go, not proved from fmt's source: count such statements apart). THE CARD IS WHAT COUNTS. Prove the row's statement (the work); the ties are given (YtoghdmoldcjedaaDoorTie.lean); close each card by the builder's one call (the guide's Derived/Test/ToyasCard.lean, 'card_holds'). Laid BY PROGRAM, IN A SANDBOX (cutbox-door.mjs). By AI agents, Wed Nov 11 2026. No macro, syntax, notation, axiom, sorry.
-/
import Derived.Test.YtoghdmoldcjedaaDoorRows
import GoSem.ClaimSeven
namespace Go.Proofs.YtoghdmoldcjedaaDoor
namespace Rows

/-- THE TIED CARD OF 'heraldlaw15.SetsCut'. -/
def setsCutCard : Claim7 := { stood := { row := setsCutRow, standIns := [], harness := (true, "e448d51926181f80a7c9fe6cec8610c5af647c9433f9012617ccd8869ad87d10"), looks := true }, kinds := [], alts := [], laidByText := true, laidKinds := [.data, .data, .data, .data, .sentinel, .sentinel, .pinned], laidTests := true, laidLooks := .later }
def SetsCutCardSaid : Prop := Claim7.holds Tryd.pinned (.plain (OpenSpec.ofChange setsCutSpec)) setsCutCard

/-- THE TIED CARD OF 'heraldlaw15.SetsGrow'. -/
def setsGrowCard : Claim7 := { stood := { row := setsGrowRow, standIns := [], harness := (true, "e448d51926181f80a7c9fe6cec8610c5af647c9433f9012617ccd8869ad87d10"), looks := true }, kinds := [], alts := [], laidByText := true, laidKinds := [.data, .data, .data, .data, .sentinel, .sentinel, .pinned], laidTests := true, laidLooks := .later }
def SetsGrowCardSaid : Prop := Claim7.holds Tryd.pinned (.plain (OpenSpec.ofChange setsGrowSpec)) setsGrowCard

/-- THE SECOND FORM's CARD OF 'heraldlaw15.SetsCut'. -/
def setsCutUptoCard : Claim7 := { stood := { row := setsCutUptoRow, standIns := [], harness := (true, "e448d51926181f80a7c9fe6cec8610c5af647c9433f9012617ccd8869ad87d10"), looks := true }, kinds := [], alts := [], laidByText := true, laidKinds := [.data, .data, .data, .data, .sentinel, .sentinel, .pinned], laidTests := true, laidLooks := .later }
def SetsCutUptoCardSaid : Prop := Claim7.holds Tryd.pinned (.plain (OpenSpec.upto setsCutSpec)) setsCutUptoCard

/-- THE SECOND FORM's CARD OF 'heraldlaw15.SetsGrow'. -/
def setsGrowUptoCard : Claim7 := { stood := { row := setsGrowUptoRow, standIns := [], harness := (true, "e448d51926181f80a7c9fe6cec8610c5af647c9433f9012617ccd8869ad87d10"), looks := true }, kinds := [], alts := [], laidByText := true, laidKinds := [.data, .data, .data, .data, .sentinel, .sentinel, .pinned], laidTests := true, laidLooks := .later }
def SetsGrowUptoCardSaid : Prop := Claim7.holds Tryd.pinned (.plain (OpenSpec.upto setsGrowSpec)) setsGrowUptoCard
end Rows
end Go.Proofs.YtoghdmoldcjedaaDoor
