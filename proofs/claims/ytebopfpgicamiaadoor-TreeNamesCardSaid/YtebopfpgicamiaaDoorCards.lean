/-
  DERIVED. GIVEN WITH THE SEED: THE CARDS: each row of YtebopfpgicamiaaDoorRows.lean that lists a variable, with what it lists TIED to the program's text (the seventh form; the later family's looks); each row that meets fmt, with fmt's text TOLD by the authors' own Lean function (tested against real Go, not proved from fmt's source: count such statements apart). THE CARD IS WHAT COUNTS. Prove the row's statement (the work); the ties are given (YtebopfpgicamiaaDoorTie.lean); close each card by the builder's one call (the guide's Derived/Test/ToyasCard.lean, 'card_holds'). Laid BY PROGRAM, IN A SANDBOX (cutbox-door.mjs). By AI agents, Wed Nov 11 2026. No macro, syntax, notation, axiom, sorry.
-/
import Derived.Test.YtebopfpgicamiaaDoorRows
import GoSem.ClaimSeven
namespace Go.Proofs.YtebopfpgicamiaaDoor
namespace Rows

/-- THE TIED CARD OF 'bobbinlaw02.TreeAsks'. -/
def treeAsksCard : Claim7 := { stood := { row := treeAsksRow, standIns := [], harness := (true, "f90207f1b6051af95caf39c4862b683135643bff56d7539904ac1216f0f5fa05"), looks := false }, kinds := [], alts := [], laidByText := true, laidKinds := [.data, .widerDeep, .data, .data, .pinned], laidTests := true, laidLooks := .later }
def TreeAsksCardSaid : Prop := Claim7.holds Tryd.pinned (.plain (OpenSpec.ofChange treeAsksSpec)) treeAsksCard

/-- THE TIED CARD OF 'bobbinlaw02.TreeNames'. -/
def treeNamesCard : Claim7 := { stood := { row := treeNamesRow, standIns := [], harness := (true, "f90207f1b6051af95caf39c4862b683135643bff56d7539904ac1216f0f5fa05"), looks := false }, kinds := [], alts := [], laidByText := true, laidKinds := [.data, .widerDeep, .data, .data, .pinned], laidTests := true, laidLooks := .later }
def TreeNamesCardSaid : Prop := Claim7.holds Tryd.pinned (.plain (OpenSpec.ofChange treeNamesSpec)) treeNamesCard

/-- THE TIED CARD OF 'bobbinlaw02.TreeParts'. -/
def treePartsCard : Claim7 := { stood := { row := treePartsRow, standIns := [], harness := (true, "f90207f1b6051af95caf39c4862b683135643bff56d7539904ac1216f0f5fa05"), looks := false }, kinds := [], alts := [], laidByText := true, laidKinds := [.data, .widerDeep, .data, .data, .pinned], laidTests := true, laidLooks := .later }
def TreePartsCardSaid : Prop := Claim7.holds Tryd.pinned (.plain (OpenSpec.ofChange treePartsSpec)) treePartsCard

/-- THE TIED CARD OF 'bobbinlaw02.TreeSame'. -/
def treeSameCard : Claim7 := { stood := { row := treeSameRow, standIns := [], harness := (true, "f90207f1b6051af95caf39c4862b683135643bff56d7539904ac1216f0f5fa05"), looks := false }, kinds := [], alts := [], laidByText := true, laidKinds := [.data, .widerDeep, .data, .data, .pinned], laidTests := true, laidLooks := .later }
def TreeSameCardSaid : Prop := Claim7.holds Tryd.pinned (.plain (OpenSpec.ofChange treeSameSpec)) treeSameCard

/-- THE TIED CARD OF 'bobbinlaw02.TreeAlone'. -/
def treeAloneCard : Claim7 := { stood := { row := treeAloneRow, standIns := [], harness := (true, "f90207f1b6051af95caf39c4862b683135643bff56d7539904ac1216f0f5fa05"), looks := false }, kinds := [], alts := [], laidByText := true, laidKinds := [.data, .widerDeep, .data, .data, .pinned], laidTests := true, laidLooks := .later }
def TreeAloneCardSaid : Prop := Claim7.holds Tryd.pinned (.plain (OpenSpec.ofChange treeAloneSpec)) treeAloneCard

/-- THE SECOND FORM's CARD OF 'bobbinlaw02.TreeAsks'. -/
def treeAsksUptoCard : Claim7 := { stood := { row := treeAsksUptoRow, standIns := [], harness := (true, "f90207f1b6051af95caf39c4862b683135643bff56d7539904ac1216f0f5fa05"), looks := false }, kinds := [], alts := [], laidByText := true, laidKinds := [.data, .widerDeep, .data, .data, .pinned], laidTests := true, laidLooks := .later }
def TreeAsksUptoCardSaid : Prop := Claim7.holds Tryd.pinned (.plain (OpenSpec.upto treeAsksSpec)) treeAsksUptoCard

/-- THE SECOND FORM's CARD OF 'bobbinlaw02.TreeNames'. -/
def treeNamesUptoCard : Claim7 := { stood := { row := treeNamesUptoRow, standIns := [], harness := (true, "f90207f1b6051af95caf39c4862b683135643bff56d7539904ac1216f0f5fa05"), looks := false }, kinds := [], alts := [], laidByText := true, laidKinds := [.data, .widerDeep, .data, .data, .pinned], laidTests := true, laidLooks := .later }
def TreeNamesUptoCardSaid : Prop := Claim7.holds Tryd.pinned (.plain (OpenSpec.upto treeNamesSpec)) treeNamesUptoCard

/-- THE SECOND FORM's CARD OF 'bobbinlaw02.TreeParts'. -/
def treePartsUptoCard : Claim7 := { stood := { row := treePartsUptoRow, standIns := [], harness := (true, "f90207f1b6051af95caf39c4862b683135643bff56d7539904ac1216f0f5fa05"), looks := false }, kinds := [], alts := [], laidByText := true, laidKinds := [.data, .widerDeep, .data, .data, .pinned], laidTests := true, laidLooks := .later }
def TreePartsUptoCardSaid : Prop := Claim7.holds Tryd.pinned (.plain (OpenSpec.upto treePartsSpec)) treePartsUptoCard

/-- THE SECOND FORM's CARD OF 'bobbinlaw02.TreeSame'. -/
def treeSameUptoCard : Claim7 := { stood := { row := treeSameUptoRow, standIns := [], harness := (true, "f90207f1b6051af95caf39c4862b683135643bff56d7539904ac1216f0f5fa05"), looks := false }, kinds := [], alts := [], laidByText := true, laidKinds := [.data, .widerDeep, .data, .data, .pinned], laidTests := true, laidLooks := .later }
def TreeSameUptoCardSaid : Prop := Claim7.holds Tryd.pinned (.plain (OpenSpec.upto treeSameSpec)) treeSameUptoCard

/-- THE SECOND FORM's CARD OF 'bobbinlaw02.TreeAlone'. -/
def treeAloneUptoCard : Claim7 := { stood := { row := treeAloneUptoRow, standIns := [], harness := (true, "f90207f1b6051af95caf39c4862b683135643bff56d7539904ac1216f0f5fa05"), looks := false }, kinds := [], alts := [], laidByText := true, laidKinds := [.data, .widerDeep, .data, .data, .pinned], laidTests := true, laidLooks := .later }
def TreeAloneUptoCardSaid : Prop := Claim7.holds Tryd.pinned (.plain (OpenSpec.upto treeAloneSpec)) treeAloneUptoCard
end Rows
end Go.Proofs.YtebopfpgicamiaaDoor
