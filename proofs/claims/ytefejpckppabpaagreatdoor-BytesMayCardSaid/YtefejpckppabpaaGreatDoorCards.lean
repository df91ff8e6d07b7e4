/-
  DERIVED. GIVEN WITH THE SEED: THE CARDS: each row of YtefejpckppabpaaGreatDoorRows.lean that lists a variable, with what it lists TIED to the program's text (the seventh form; the later family's looks); each row that meets fmt, with fmt's text TOLD by the authors' own Lean function (tested against real Go, not proved from fmt's source: count such statements apart). THE CARD IS WHAT COUNTS. Prove the row's statement (the work); the ties are given (YtefejpckppabpaaGreatDoorTie.lean); close each card by the builder's one call (the guide's Derived/Test/ToyasCard.lean, 'card_holds'). Laid BY PROGRAM, IN A SANDBOX (cutbox-door.mjs). By AI agents, Wed Nov 11 2026. No macro, syntax, notation, axiom, sorry.
-/
import Derived.Test.YtefejpckppabpaaGreatDoorRows
import GoSem.ClaimSeven
namespace Go.Proofs.YtefejpckppabpaaGreatDoor
namespace Rows

/-- THE TIED CARD OF 'bobbinlaw29.BytesMay'. -/
def bytesMayCard : Claim7 := { stood := { row := bytesMayRow, standIns := [], harness := (true, "4632710f8cdacc6dc12ecaa9b2a93d48e45e9478503ccdbe494ee5457cfc9dde"), looks := false }, kinds := [], alts := [], laidByText := true, laidKinds := [.data, .widerDeep, .data, .data, .pinned], laidTests := true, laidLooks := .later }
def BytesMayCardSaid : Prop := Claim7.holds Tryz.pinned (.plain (OpenSpec.ofChange bytesMaySpec)) bytesMayCard

/-- THE TIED CARD OF 'bobbinlaw29.BytesEncode'. -/
def bytesEncodeCard : Claim7 := { stood := { row := bytesEncodeRow, standIns := [], harness := (true, "4632710f8cdacc6dc12ecaa9b2a93d48e45e9478503ccdbe494ee5457cfc9dde"), looks := false }, kinds := [], alts := [], laidByText := true, laidKinds := [.data, .widerDeep, .data, .data, .pinned], laidTests := true, laidLooks := .later }
def BytesEncodeCardSaid : Prop := Claim7.holds Tryz.pinned (.plain (OpenSpec.ofChange bytesEncodeSpec)) bytesEncodeCard

/-- THE TIED CARD OF 'bobbinlaw29.BytesHeights'. -/
def bytesHeightsCard : Claim7 := { stood := { row := bytesHeightsRow, standIns := [], harness := (true, "4632710f8cdacc6dc12ecaa9b2a93d48e45e9478503ccdbe494ee5457cfc9dde"), looks := false }, kinds := [], alts := [], laidByText := true, laidKinds := [.data, .widerDeep, .data, .data, .pinned], laidTests := true, laidLooks := .later }
def BytesHeightsCardSaid : Prop := Claim7.holds Tryz.pinned (.plain (OpenSpec.ofChange bytesHeightsSpec)) bytesHeightsCard

/-- THE SECOND FORM's CARD OF 'bobbinlaw29.BytesMay'. -/
def bytesMayUptoCard : Claim7 := { stood := { row := bytesMayUptoRow, standIns := [], harness := (true, "4632710f8cdacc6dc12ecaa9b2a93d48e45e9478503ccdbe494ee5457cfc9dde"), looks := false }, kinds := [], alts := [], laidByText := true, laidKinds := [.data, .widerDeep, .data, .data, .pinned], laidTests := true, laidLooks := .later }
def BytesMayUptoCardSaid : Prop := Claim7.holds Tryz.pinned (.plain (OpenSpec.upto bytesMaySpec)) bytesMayUptoCard

/-- THE SECOND FORM's CARD OF 'bobbinlaw29.BytesEncode'. -/
def bytesEncodeUptoCard : Claim7 := { stood := { row := bytesEncodeUptoRow, standIns := [], harness := (true, "4632710f8cdacc6dc12ecaa9b2a93d48e45e9478503ccdbe494ee5457cfc9dde"), looks := false }, kinds := [], alts := [], laidByText := true, laidKinds := [.data, .widerDeep, .data, .data, .pinned], laidTests := true, laidLooks := .later }
def BytesEncodeUptoCardSaid : Prop := Claim7.holds Tryz.pinned (.plain (OpenSpec.upto bytesEncodeSpec)) bytesEncodeUptoCard

/-- THE SECOND FORM's CARD OF 'bobbinlaw29.BytesHeights'. -/
def bytesHeightsUptoCard : Claim7 := { stood := { row := bytesHeightsUptoRow, standIns := [], harness := (true, "4632710f8cdacc6dc12ecaa9b2a93d48e45e9478503ccdbe494ee5457cfc9dde"), looks := false }, kinds := [], alts := [], laidByText := true, laidKinds := [.data, .widerDeep, .data, .data, .pinned], laidTests := true, laidLooks := .later }
def BytesHeightsUptoCardSaid : Prop := Claim7.holds Tryz.pinned (.plain (OpenSpec.upto bytesHeightsSpec)) bytesHeightsUptoCard
end Rows
end Go.Proofs.YtefejpckppabpaaGreatDoor
