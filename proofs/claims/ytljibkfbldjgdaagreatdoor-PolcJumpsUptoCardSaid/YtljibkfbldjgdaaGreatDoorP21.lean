/- Walks: a prefix's text read, at one text. -/
import Derived.Test.YtljibkfbldjgdaaGreatDoorP20
import Derived.Test.YtljibkfbldjgdaaGreatDoorP9
import Derived.Test.YtljibkfbldjgdaaGreatDoorPX
namespace Go.Proofs.YtljibkfbldjgdaaGreatDoor
open Go.RowKit
set_option linter.unusedVariables false

def namesV : Value := .agg #[.string ⟨#[]⟩, .string ⟨#[118, 52]⟩, .string ⟨#[118, 54]⟩, .string ⟨#[108, 52]⟩, .string ⟨#[118, 112, 110, 52]⟩, .string ⟨#[118, 112, 110, 54]⟩]
def wtext : List UInt8 := [118, 112, 110, 52, 32, 55, 32, 49, 48, 46, 49, 46, 48, 46, 48, 47, 49, 54]
theorem wtext_spl : spl 32 wtext = [[118, 112, 110, 52], [55], [49, 48, 46, 49, 46, 48, 46, 48, 47, 49, 54]] := by decide +kernel
theorem wtext_cut : Lib.cut [49, 48, 46, 49, 46, 48, 46, 48, 47, 49, 54] [47] = ([49, 48, 46, 49, 46, 48, 46, 48], [49, 54], true) := by decide +kernel
theorem wtext_dot : spl 46 [49, 48, 46, 49, 46, 48, 46, 48] = ([10, 1, 0, 0] : List UInt8).map fun u => Lib.decDigits u.toNat := by decide +kernel
def wpfx : Pfx := ⟨4, 7, [10, 1, 0, 0], 16⟩
theorem wpfx_may : MayP wpfx := ⟨⟨by decide, by decide, by decide, by decide, .inr (by decide)⟩, by decide +kernel⟩

end Go.Proofs.YtljibkfbldjgdaaGreatDoor
