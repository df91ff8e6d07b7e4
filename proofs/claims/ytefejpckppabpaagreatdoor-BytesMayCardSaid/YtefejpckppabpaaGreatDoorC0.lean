/- code: what operations name. -/
import Derived.Test.YtefejpckppabpaaGreatDoorProg
import Derived.Test.YtefejpckppabpaaGreatDoorM5
namespace Go.Proofs.YtefejpckppabpaaGreatDoor
set_option linter.unusedSimpArgs false
set_option linter.unusedVariables false
open Go Go.Fw

theorem mixed : Tryz.prog.follows .mixedOrders = true := by kernel_rfl

/-- What an operation names. -/
structure Row where
  r : Bool
  a : Bool
  b : Bool
  bare : Bool
  n : Int

def zRow : Row := ⟨false, false, false, false, 0⟩
def Row.cells (w : Row) : List AV := [bl w.r, bl w.a, bl w.b, bl w.bare, i64 w.n]
def opRows : List Row :=
  [zRow, ⟨true, false, false, false, 1⟩, ⟨true, true, false, false, 0⟩, ⟨true, true, false, false, 2⟩, ⟨true, true, true, false, 3⟩, ⟨true, true, false, true, 4⟩, ⟨false, true, true, true, 4⟩,
   ⟨false, false, false, false, 5⟩, ⟨false, false, false, false, 5⟩, ⟨false, true, false, false, 0⟩, ⟨true, false, false, false, 6⟩, ⟨false, false, false, false, 7⟩, ⟨false, true, false, false, 7⟩, ⟨false, true, false, false, 0⟩]
def opCells : List AV := opRows.flatMap Row.cells

def known (op : Int) : Bool := decide (1 ≤ op ∧ op < 14)
def ofR (op : Int) : Row := if known op = true then opRows.getD op.toNat zRow else zRow

end Go.Proofs.YtefejpckppabpaaGreatDoor
