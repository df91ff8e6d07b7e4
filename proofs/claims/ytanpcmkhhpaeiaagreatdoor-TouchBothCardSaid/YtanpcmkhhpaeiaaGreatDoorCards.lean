/-
  DERIVED. GIVEN WITH THE SEED: THE CARDS: each row of YtanpcmkhhpaeiaaGreatDoorRows.lean that lists a variable, with what it lists TIED to the program's text (the seventh form; the later family's looks); each row that meets fmt, with fmt's text TOLD by the authors' own Lean function (tested against real Go, not proved from fmt's source: count such statements apart). THE CARD IS WHAT COUNTS. Prove the row's statement (the work); the ties are given (YtanpcmkhhpaeiaaGreatDoorTie.lean); close each card by the builder's one call (the guide's Derived/Test/ToyasCard.lean, 'card_holds'). Laid BY PROGRAM, IN A SANDBOX (cutbox-door.mjs). By AI agents, Wed Nov 11 2026. No macro, syntax, notation, axiom, sorry.
-/
import Derived.Test.YtanpcmkhhpaeiaaGreatDoorRows
import GoSem.ClaimSeven
namespace Go.Proofs.YtanpcmkhhpaeiaaGreatDoor
namespace Rows

/-- THE TIED CARD OF 'bobbinlaw18.TouchTells'. -/
def touchTellsCard : Claim7 := { stood := { row := touchTellsRow, standIns := [], harness := (true, "65f160460fd42e7665d69c92954a3f68067ecd5d061fc70f3f640bc24cd4ed27"), looks := true }, kinds := [], alts := [], laidByText := true, laidKinds := [.data, .widerDeep, .data, .pinned], laidTests := true, laidLooks := .later }
def TouchTellsCardSaid : Prop := Claim7.holds Tryz.pinned (.plain (OpenSpec.ofChange touchTellsSpec)) touchTellsCard

/-- THE TIED CARD OF 'bobbinlaw18.TouchBoth'. -/
def touchBothCard : Claim7 := { stood := { row := touchBothRow, standIns := [], harness := (true, "65f160460fd42e7665d69c92954a3f68067ecd5d061fc70f3f640bc24cd4ed27"), looks := true }, kinds := [], alts := [], laidByText := true, laidKinds := [.data, .widerDeep, .data, .pinned], laidTests := true, laidLooks := .later }
def TouchBothCardSaid : Prop := Claim7.holds Tryz.pinned (.plain (OpenSpec.ofChange touchBothSpec)) touchBothCard

/-- THE TIED CARD OF 'bobbinlaw18.TouchNames'. -/
def touchNamesCard : Claim7 := { stood := { row := touchNamesRow, standIns := [], harness := (true, "65f160460fd42e7665d69c92954a3f68067ecd5d061fc70f3f640bc24cd4ed27"), looks := true }, kinds := [], alts := [], laidByText := true, laidKinds := [.data, .widerDeep, .data, .pinned], laidTests := true, laidLooks := .later }
def TouchNamesCardSaid : Prop := Claim7.holds Tryz.pinned (.plain (OpenSpec.ofChange touchNamesSpec)) touchNamesCard

/-- THE TIED CARD OF 'bobbinlaw18.TouchAll'. -/
def touchAllCard : Claim7 := { stood := { row := touchAllRow, standIns := [], harness := (true, "65f160460fd42e7665d69c92954a3f68067ecd5d061fc70f3f640bc24cd4ed27"), looks := true }, kinds := [], alts := [], laidByText := true, laidKinds := [.data, .widerDeep, .data, .pinned], laidTests := true, laidLooks := .later }
def TouchAllCardSaid : Prop := Claim7.holds Tryz.pinned (.plain (OpenSpec.ofChange touchAllSpec)) touchAllCard

/-- THE TIED CARD OF 'bobbinlaw18.TouchJoin'. -/
def touchJoinCard : Claim7 := { stood := { row := touchJoinRow, standIns := [], harness := (true, "65f160460fd42e7665d69c92954a3f68067ecd5d061fc70f3f640bc24cd4ed27"), looks := true }, kinds := [], alts := [], laidByText := true, laidKinds := [.data, .widerDeep, .data, .pinned], laidTests := true, laidLooks := .later }
def TouchJoinCardSaid : Prop := Claim7.holds Tryz.pinned (.plain (OpenSpec.ofChange touchJoinSpec)) touchJoinCard

/-- THE TIED CARD OF 'bobbinlaw18.TouchOwn'. -/
def touchOwnCard : Claim7 := { stood := { row := touchOwnRow, standIns := [], harness := (true, "65f160460fd42e7665d69c92954a3f68067ecd5d061fc70f3f640bc24cd4ed27"), looks := true }, kinds := [], alts := [], laidByText := true, laidKinds := [.data, .widerDeep, .data, .pinned], laidTests := true, laidLooks := .later }
def TouchOwnCardSaid : Prop := Claim7.holds Tryz.pinned (.plain (OpenSpec.ofChange touchOwnSpec)) touchOwnCard

/-- THE TIED CARD OF 'bobbinlaw07.CodeMade'. -/
def codeMadeCard : Claim7 := { stood := { row := codeMadeRow, standIns := [], harness := (true, "65f160460fd42e7665d69c92954a3f68067ecd5d061fc70f3f640bc24cd4ed27"), looks := true }, kinds := [], alts := [], laidByText := true, laidKinds := [.data, .widerDeep, .data, .data, .data, .pinned], laidTests := true, laidLooks := .later }
def CodeMadeCardSaid : Prop := Claim7.holds Tryz.pinned (.plain (OpenSpec.ofChange codeMadeSpec)) codeMadeCard

/-- THE SECOND FORM's CARD OF 'bobbinlaw18.TouchTells'. -/
def touchTellsUptoCard : Claim7 := { stood := { row := touchTellsUptoRow, standIns := [], harness := (true, "65f160460fd42e7665d69c92954a3f68067ecd5d061fc70f3f640bc24cd4ed27"), looks := true }, kinds := [], alts := [], laidByText := true, laidKinds := [.data, .widerDeep, .data, .pinned], laidTests := true, laidLooks := .later }
def TouchTellsUptoCardSaid : Prop := Claim7.holds Tryz.pinned (.plain (OpenSpec.upto touchTellsSpec)) touchTellsUptoCard

/-- THE SECOND FORM's CARD OF 'bobbinlaw18.TouchBoth'. -/
def touchBothUptoCard : Claim7 := { stood := { row := touchBothUptoRow, standIns := [], harness := (true, "65f160460fd42e7665d69c92954a3f68067ecd5d061fc70f3f640bc24cd4ed27"), looks := true }, kinds := [], alts := [], laidByText := true, laidKinds := [.data, .widerDeep, .data, .pinned], laidTests := true, laidLooks := .later }
def TouchBothUptoCardSaid : Prop := Claim7.holds Tryz.pinned (.plain (OpenSpec.upto touchBothSpec)) touchBothUptoCard

/-- THE SECOND FORM's CARD OF 'bobbinlaw18.TouchNames'. -/
def touchNamesUptoCard : Claim7 := { stood := { row := touchNamesUptoRow, standIns := [], harness := (true, "65f160460fd42e7665d69c92954a3f68067ecd5d061fc70f3f640bc24cd4ed27"), looks := true }, kinds := [], alts := [], laidByText := true, laidKinds := [.data, .widerDeep, .data, .pinned], laidTests := true, laidLooks := .later }
def TouchNamesUptoCardSaid : Prop := Claim7.holds Tryz.pinned (.plain (OpenSpec.upto touchNamesSpec)) touchNamesUptoCard

/-- THE SECOND FORM's CARD OF 'bobbinlaw18.TouchAll'. -/
def touchAllUptoCard : Claim7 := { stood := { row := touchAllUptoRow, standIns := [], harness := (true, "65f160460fd42e7665d69c92954a3f68067ecd5d061fc70f3f640bc24cd4ed27"), looks := true }, kinds := [], alts := [], laidByText := true, laidKinds := [.data, .widerDeep, .data, .pinned], laidTests := true, laidLooks := .later }
def TouchAllUptoCardSaid : Prop := Claim7.holds Tryz.pinned (.plain (OpenSpec.upto touchAllSpec)) touchAllUptoCard

/-- THE SECOND FORM's CARD OF 'bobbinlaw18.TouchJoin'. -/
def touchJoinUptoCard : Claim7 := { stood := { row := touchJoinUptoRow, standIns := [], harness := (true, "65f160460fd42e7665d69c92954a3f68067ecd5d061fc70f3f640bc24cd4ed27"), looks := true }, kinds := [], alts := [], laidByText := true, laidKinds := [.data, .widerDeep, .data, .pinned], laidTests := true, laidLooks := .later }
def TouchJoinUptoCardSaid : Prop := Claim7.holds Tryz.pinned (.plain (OpenSpec.upto touchJoinSpec)) touchJoinUptoCard

/-- THE SECOND FORM's CARD OF 'bobbinlaw18.TouchOwn'. -/
def touchOwnUptoCard : Claim7 := { stood := { row := touchOwnUptoRow, standIns := [], harness := (true, "65f160460fd42e7665d69c92954a3f68067ecd5d061fc70f3f640bc24cd4ed27"), looks := true }, kinds := [], alts := [], laidByText := true, laidKinds := [.data, .widerDeep, .data, .pinned], laidTests := true, laidLooks := .later }
def TouchOwnUptoCardSaid : Prop := Claim7.holds Tryz.pinned (.plain (OpenSpec.upto touchOwnSpec)) touchOwnUptoCard

/-- THE SECOND FORM's CARD OF 'bobbinlaw07.CodeMade'. -/
def codeMadeUptoCard : Claim7 := { stood := { row := codeMadeUptoRow, standIns := [], harness := (true, "65f160460fd42e7665d69c92954a3f68067ecd5d061fc70f3f640bc24cd4ed27"), looks := true }, kinds := [], alts := [], laidByText := true, laidKinds := [.data, .widerDeep, .data, .data, .data, .pinned], laidTests := true, laidLooks := .later }
def CodeMadeUptoCardSaid : Prop := Claim7.holds Tryz.pinned (.plain (OpenSpec.upto codeMadeSpec)) codeMadeUptoCard
end Rows
end Go.Proofs.YtanpcmkhhpaeiaaGreatDoor
