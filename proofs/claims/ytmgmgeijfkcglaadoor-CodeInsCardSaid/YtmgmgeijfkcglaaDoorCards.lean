/-
  DERIVED. GIVEN WITH THE SEED: THE CARDS: each row of YtmgmgeijfkcglaaDoorRows.lean that lists a variable, with what it lists TIED to the program's text (the seventh form; the later family's looks); each row that meets fmt, with fmt's text TOLD by the authors' own Lean function (tested against real Go, not proved from fmt's source: count such statements apart). THE CARD IS WHAT COUNTS. Prove the row's statement (the work); the ties are given (YtmgmgeijfkcglaaDoorTie.lean); close each card by the builder's one call (the guide's Derived/Test/ToyasCard.lean, 'card_holds'). Laid BY PROGRAM, IN A SANDBOX (cutbox-door.mjs). By AI agents, Wed Nov 11 2026. No macro, syntax, notation, axiom, sorry.
-/
import Derived.Test.YtmgmgeijfkcglaaDoorRows
import GoSem.ClaimSeven
namespace Go.Proofs.YtmgmgeijfkcglaaDoor
namespace Rows

/-- THE TIED CARD OF 'bobbinlaw07.CodeIns'. -/
def codeInsCard : Claim7 := { stood := { row := codeInsRow, standIns := [], harness := (true, "0d5aa42e68c10f9ae38d2e445b5b0f11a2d9cd43b1105d94c38e5702657fcc2d"), looks := false }, kinds := [], alts := [], laidByText := true, laidKinds := [.data], laidTests := true, laidLooks := .later }
def CodeInsCardSaid : Prop := Claim7.holds Tryd.pinned (.plain (OpenSpec.ofChange codeInsSpec)) codeInsCard

/-- THE SECOND FORM's CARD OF 'bobbinlaw07.CodeIns'. -/
def codeInsUptoCard : Claim7 := { stood := { row := codeInsUptoRow, standIns := [], harness := (true, "0d5aa42e68c10f9ae38d2e445b5b0f11a2d9cd43b1105d94c38e5702657fcc2d"), looks := false }, kinds := [], alts := [], laidByText := true, laidKinds := [.data], laidTests := true, laidLooks := .later }
def CodeInsUptoCardSaid : Prop := Claim7.holds Tryd.pinned (.plain (OpenSpec.upto codeInsSpec)) codeInsUptoCard
end Rows
end Go.Proofs.YtmgmgeijfkcglaaDoor
