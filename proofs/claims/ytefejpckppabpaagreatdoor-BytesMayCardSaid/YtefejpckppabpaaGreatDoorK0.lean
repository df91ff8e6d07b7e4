/- The package-level variables of this seat. -/
import Derived.Test.YtefejpckppabpaaGreatDoorC0
namespace Go.Proofs.YtefejpckppabpaaGreatDoor
set_option linter.unusedSimpArgs false
set_option linter.unusedVariables false
open Go Go.Fw

/-- The words of the language. -/
def resWords : List ByteArray := [⟨#[103, 108, 111, 98, 97, 108]⟩, ⟨#[97, 114, 114, 97, 121]⟩, ⟨#[108, 111, 99, 107]⟩, ⟨#[102, 117, 110, 99]⟩, ⟨#[116, 104, 114, 101, 97, 100]⟩, ⟨#[118, 97, 114]⟩, ⟨#[105, 102]⟩, ⟨#[101, 108, 115, 101]⟩, ⟨#[119, 104, 105, 108, 101]⟩, ⟨#[119, 105, 116, 104]⟩, ⟨#[112, 114, 105, 110, 116]⟩, ⟨#[99, 97, 108, 108]⟩, ⟨#[114, 101, 116, 117, 114, 110]⟩, ⟨#[116, 114, 117, 101]⟩, ⟨#[102, 97, 108, 115, 101]⟩]
def resCells : List AV := resWords.map str
/-- What operations of the machine name, pop and push. -/
structure BRow where
  n : Int
  pops : Int
  pushes : Int
def BRow.cells (w : BRow) : List AV := [i64 w.n, i64 w.pops, i64 w.pushes]
def zBRow : BRow := ⟨0, 0, 0⟩
def bopRows : List BRow := [zBRow, ⟨1, 0, 1⟩, ⟨2, 0, 1⟩, ⟨2, 1, 0⟩, ⟨3, 1, 1⟩, ⟨4, 2, 1⟩, ⟨5, 1, 1⟩, ⟨5, 2, 0⟩, ⟨6, 0, 0⟩, ⟨6, 0, 0⟩, ⟨0, 1, 0⟩, ⟨7, 0, 1⟩, ⟨8, 0, 0⟩, ⟨8, 1, 0⟩, ⟨0, 1, 0⟩]
def bopCells : List AV := bopRows.flatMap BRow.cells
instance globals : Globals := ⟨fun g => if g = 2 then some opCells else if g = 1 then some resCells else if g = 0 then some bopCells else none⟩
end Go.Proofs.YtefejpckppabpaaGreatDoor
