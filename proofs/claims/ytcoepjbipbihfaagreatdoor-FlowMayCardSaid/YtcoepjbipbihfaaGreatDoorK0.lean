/- The package-level variables of this seat. -/
import Derived.Test.YtcoepjbipbihfaaGreatDoorC0
namespace Go.Proofs.YtcoepjbipbihfaaGreatDoor
set_option linter.unusedSimpArgs false
set_option linter.unusedVariables false
open Go Go.Fw

/-- The words of the language. -/
def resWords : List ByteArray := [⟨#[103, 108, 111, 98, 97, 108]⟩, ⟨#[97, 114, 114, 97, 121]⟩, ⟨#[108, 111, 99, 107]⟩, ⟨#[102, 117, 110, 99]⟩, ⟨#[116, 104, 114, 101, 97, 100]⟩, ⟨#[118, 97, 114]⟩, ⟨#[105, 102]⟩, ⟨#[101, 108, 115, 101]⟩, ⟨#[119, 104, 105, 108, 101]⟩, ⟨#[119, 105, 116, 104]⟩, ⟨#[112, 114, 105, 110, 116]⟩, ⟨#[99, 97, 108, 108]⟩, ⟨#[114, 101, 116, 117, 114, 110]⟩, ⟨#[116, 114, 117, 101]⟩, ⟨#[102, 97, 108, 115, 101]⟩]
def resCells : List AV := resWords.map str
instance globals : Globals := ⟨fun g => if g = 1 then some opCells else if g = 0 then some resCells else none⟩
end Go.Proofs.YtcoepjbipbihfaaGreatDoor
