/-
  DERIVED. GIVEN WITH THE SEED: THE CARDS: each row of YtcoepjbipbihfaaGreatDoorRows.lean that lists a variable, with what it lists TIED to the program's text (the seventh form; the later family's looks); each row that meets fmt, with fmt's text TOLD by the authors' own Lean function (tested against real Go, not proved from fmt's source: count such statements apart). THE CARD IS WHAT COUNTS. Prove the row's statement (the work); the ties are given (YtcoepjbipbihfaaGreatDoorTie.lean); close each card by the builder's one call (the guide's Derived/Test/ToyasCard.lean, 'card_holds'). Laid BY PROGRAM, IN A SANDBOX (cutbox-door.mjs). By AI agents, Wed Nov 11 2026. No macro, syntax, notation, axiom, sorry.
-/
import Derived.Test.YtcoepjbipbihfaaGreatDoorRows
import GoSem.ClaimSeven
namespace Go.Proofs.YtcoepjbipbihfaaGreatDoor
namespace Rows

/-- THE TIED CARD OF 'bobbinlaw11.FlowMay'. -/
def flowMayCard : Claim7 := { stood := { row := flowMayRow, standIns := [], harness := (true, "1ebf872916baaa265a21ebecd7750f4e3c3d53a9db75764e564b30c3f7775e43"), looks := false }, kinds := [], alts := [], laidByText := true, laidKinds := [.data, .widerDeep, .data, .pinned], laidTests := true, laidLooks := .later }
def FlowMayCardSaid : Prop := Claim7.holds Tryz.pinned (.plain (OpenSpec.ofChange flowMaySpec)) flowMayCard

/-- THE TIED CARD OF 'bobbinlaw11.FlowCuts'. -/
def flowCutsCard : Claim7 := { stood := { row := flowCutsRow, standIns := [], harness := (true, "1ebf872916baaa265a21ebecd7750f4e3c3d53a9db75764e564b30c3f7775e43"), looks := false }, kinds := [], alts := [], laidByText := true, laidKinds := [.data, .widerDeep, .data, .pinned], laidTests := true, laidLooks := .later }
def FlowCutsCardSaid : Prop := Claim7.holds Tryz.pinned (.plain (OpenSpec.ofChange flowCutsSpec)) flowCutsCard

/-- THE TIED CARD OF 'bobbinlaw11.FlowSame'. -/
def flowSameCard : Claim7 := { stood := { row := flowSameRow, standIns := [], harness := (true, "1ebf872916baaa265a21ebecd7750f4e3c3d53a9db75764e564b30c3f7775e43"), looks := false }, kinds := [], alts := [], laidByText := true, laidKinds := [.data, .widerDeep, .data, .pinned], laidTests := true, laidLooks := .later }
def FlowSameCardSaid : Prop := Claim7.holds Tryz.pinned (.plain (OpenSpec.ofChange flowSameSpec)) flowSameCard

/-- THE TIED CARD OF 'bobbinlaw11.FlowAll'. -/
def flowAllCard : Claim7 := { stood := { row := flowAllRow, standIns := [], harness := (true, "1ebf872916baaa265a21ebecd7750f4e3c3d53a9db75764e564b30c3f7775e43"), looks := false }, kinds := [], alts := [], laidByText := true, laidKinds := [.data, .widerDeep, .data, .pinned], laidTests := true, laidLooks := .later }
def FlowAllCardSaid : Prop := Claim7.holds Tryz.pinned (.plain (OpenSpec.ofChange flowAllSpec)) flowAllCard

/-- THE SECOND FORM's CARD OF 'bobbinlaw11.FlowMay'. -/
def flowMayUptoCard : Claim7 := { stood := { row := flowMayUptoRow, standIns := [], harness := (true, "1ebf872916baaa265a21ebecd7750f4e3c3d53a9db75764e564b30c3f7775e43"), looks := false }, kinds := [], alts := [], laidByText := true, laidKinds := [.data, .widerDeep, .data, .pinned], laidTests := true, laidLooks := .later }
def FlowMayUptoCardSaid : Prop := Claim7.holds Tryz.pinned (.plain (OpenSpec.upto flowMaySpec)) flowMayUptoCard

/-- THE SECOND FORM's CARD OF 'bobbinlaw11.FlowCuts'. -/
def flowCutsUptoCard : Claim7 := { stood := { row := flowCutsUptoRow, standIns := [], harness := (true, "1ebf872916baaa265a21ebecd7750f4e3c3d53a9db75764e564b30c3f7775e43"), looks := false }, kinds := [], alts := [], laidByText := true, laidKinds := [.data, .widerDeep, .data, .pinned], laidTests := true, laidLooks := .later }
def FlowCutsUptoCardSaid : Prop := Claim7.holds Tryz.pinned (.plain (OpenSpec.upto flowCutsSpec)) flowCutsUptoCard

/-- THE SECOND FORM's CARD OF 'bobbinlaw11.FlowSame'. -/
def flowSameUptoCard : Claim7 := { stood := { row := flowSameUptoRow, standIns := [], harness := (true, "1ebf872916baaa265a21ebecd7750f4e3c3d53a9db75764e564b30c3f7775e43"), looks := false }, kinds := [], alts := [], laidByText := true, laidKinds := [.data, .widerDeep, .data, .pinned], laidTests := true, laidLooks := .later }
def FlowSameUptoCardSaid : Prop := Claim7.holds Tryz.pinned (.plain (OpenSpec.upto flowSameSpec)) flowSameUptoCard

/-- THE SECOND FORM's CARD OF 'bobbinlaw11.FlowAll'. -/
def flowAllUptoCard : Claim7 := { stood := { row := flowAllUptoRow, standIns := [], harness := (true, "1ebf872916baaa265a21ebecd7750f4e3c3d53a9db75764e564b30c3f7775e43"), looks := false }, kinds := [], alts := [], laidByText := true, laidKinds := [.data, .widerDeep, .data, .pinned], laidTests := true, laidLooks := .later }
def FlowAllUptoCardSaid : Prop := Claim7.holds Tryz.pinned (.plain (OpenSpec.upto flowAllSpec)) flowAllUptoCard
end Rows
end Go.Proofs.YtcoepjbipbihfaaGreatDoor
