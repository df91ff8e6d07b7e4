/-
  No cell of these rows narrows 'for every input' (looked for: loops, veiled, ifaces, maps, wideKeys, modest, calm, conditions, laid).
  DERIVED. THE GIVEN ROWS OF THIS SEAT. 11 by the template 'for every input the law returns true; each argument reads behind the call as it read before'; 0 by the template 'total and deterministic' (their statements: YtmbbklddjkmcmaaTotals.lean).
  GIVEN WITH THE SEED: the statements are not yours to turn. If you find one false, say at which input.
  Laid BY PROGRAM, IN A SANDBOX (cutbox-rows.mjs): the forced cells as the released guide's own fill.sh prints them over the translation ee6ddc857e3cc951… (all of the seat's roots in one cut). By AI agents, Wed Nov 11 2026. No macro, syntax, notation, axiom, sorry.
-/
import Derived.Test.YtmbbklddjkmcmaaChecked
import GoSem.Claim
import GoSem.ClaimJoined
import GoSem.ClaimMapViews
import Derived.JoinedTies
import Derived.KernelRfl
namespace Go.Proofs.Ytmbbklddjkmcmaa
/- THE CELL 'sum', in the pinned program and in every row, IS THE sha256 OF THE DUMP (.gsa) THAT YtmbbklddjkmcmaaProg.lean LOADS. Nothing in Lean hashes anything: it is a label: what it is worth is what the hold of that sum in a sandbox is worth. -/
noncomputable def Try.pinned : Pinned := { name := "ytmbbklddjkmcmaa", sum := "ee6ddc857e3cc95107585262c8975b4d5de9b31a87028164aa9fc70966a9d79a", checked := Try.checked }
namespace Rows
def none {H : Type} : Left H := { results := [], args := [] }

/-- 'bobbinlaw12.DomTells': WHATEVER THE INPUT: true; the input reads as it did. -/
def domTellsSpec : ChangeSpec := { name := "domTells", fn := fun _ => fun
  | [d] => { results := [.lit (.bool true)], args := [d] }
  | _ => none }
def domTellsRow : OpenClaim := { program := "ytmbbklddjkmcmaa", sum := "ee6ddc857e3cc95107585262c8975b4d5de9b31a87028164aa9fc70966a9d79a", func := "bobbin/bobbinlaw12.DomTells", spec := "domTells", unfollowed := true, recurses := true, apart := false }
def DomTellsSaid : Prop := domTellsRow.holds Try.pinned (OpenSpec.ofChange domTellsSpec)

/-- ITS FALSE NEIGHBOUR: 'it returns false'. Refute it at one input. -/
def domTellsWrong : ChangeSpec := { name := "domTells", fn := fun _ => fun
  | [d] => { results := [.lit (.bool false)], args := [d] }
  | _ => none }
def DomTellsWrongFalsely : Prop := domTellsRow.holds Try.pinned (OpenSpec.ofChange domTellsWrong)

/-- 'bobbinlaw12.DomNames': WHATEVER THE INPUT: true; the input reads as it did. -/
def domNamesSpec : ChangeSpec := { name := "domNames", fn := fun _ => fun
  | [] => { results := [.lit (.bool true)], args := [] }
  | _ => none }
def domNamesRow : OpenClaim := { program := "ytmbbklddjkmcmaa", sum := "ee6ddc857e3cc95107585262c8975b4d5de9b31a87028164aa9fc70966a9d79a", func := "bobbin/bobbinlaw12.DomNames", spec := "domNames", unfollowed := true, recurses := true, apart := false }
def DomNamesSaid : Prop := domNamesRow.holds Try.pinned (OpenSpec.ofChange domNamesSpec)

/-- ITS FALSE NEIGHBOUR: 'it returns false'. Refute it at one input. -/
def domNamesWrong : ChangeSpec := { name := "domNames", fn := fun _ => fun
  | [] => { results := [.lit (.bool false)], args := [] }
  | _ => none }
def DomNamesWrongFalsely : Prop := domNamesRow.holds Try.pinned (OpenSpec.ofChange domNamesWrong)

/-- 'bobbinlaw12.DomTree': WHATEVER THE INPUT: true; the input reads as it did. -/
def domTreeSpec : ChangeSpec := { name := "domTree", fn := fun _ => fun
  | [d1, d2] => { results := [.lit (.bool true)], args := [d1, d2] }
  | _ => none }
def domTreeRow : OpenClaim := { program := "ytmbbklddjkmcmaa", sum := "ee6ddc857e3cc95107585262c8975b4d5de9b31a87028164aa9fc70966a9d79a", func := "bobbin/bobbinlaw12.DomTree", spec := "domTree", unfollowed := true, recurses := true, apart := false }
def DomTreeSaid : Prop := domTreeRow.holds Try.pinned (OpenSpec.ofChange domTreeSpec)

/-- ITS FALSE NEIGHBOUR: 'it returns false'. Refute it at one input. -/
def domTreeWrong : ChangeSpec := { name := "domTree", fn := fun _ => fun
  | [d1, d2] => { results := [.lit (.bool false)], args := [d1, d2] }
  | _ => none }
def DomTreeWrongFalsely : Prop := domTreeRow.holds Try.pinned (OpenSpec.ofChange domTreeWrong)

/-- 'bobbinlaw12.DomFewer': WHATEVER THE INPUT: true; the input reads as it did. -/
def domFewerSpec : ChangeSpec := { name := "domFewer", fn := fun _ => fun
  | [d1, d2, d3] => { results := [.lit (.bool true)], args := [d1, d2, d3] }
  | _ => none }
def domFewerRow : OpenClaim := { program := "ytmbbklddjkmcmaa", sum := "ee6ddc857e3cc95107585262c8975b4d5de9b31a87028164aa9fc70966a9d79a", func := "bobbin/bobbinlaw12.DomFewer", spec := "domFewer", unfollowed := true, recurses := true, apart := false }
def DomFewerSaid : Prop := domFewerRow.holds Try.pinned (OpenSpec.ofChange domFewerSpec)

/-- ITS FALSE NEIGHBOUR: 'it returns false'. Refute it at one input. -/
def domFewerWrong : ChangeSpec := { name := "domFewer", fn := fun _ => fun
  | [d1, d2, d3] => { results := [.lit (.bool false)], args := [d1, d2, d3] }
  | _ => none }
def DomFewerWrongFalsely : Prop := domFewerRow.holds Try.pinned (OpenSpec.ofChange domFewerWrong)

/-- 'bobbinlaw12.DomKids': WHATEVER THE INPUT: true; the input reads as it did. -/
def domKidsSpec : ChangeSpec := { name := "domKids", fn := fun _ => fun
  | [d] => { results := [.lit (.bool true)], args := [d] }
  | _ => none }
def domKidsRow : OpenClaim := { program := "ytmbbklddjkmcmaa", sum := "ee6ddc857e3cc95107585262c8975b4d5de9b31a87028164aa9fc70966a9d79a", func := "bobbin/bobbinlaw12.DomKids", spec := "domKids", unfollowed := true, recurses := true, apart := false }
def DomKidsSaid : Prop := domKidsRow.holds Try.pinned (OpenSpec.ofChange domKidsSpec)

/-- ITS FALSE NEIGHBOUR: 'it returns false'. Refute it at one input. -/
def domKidsWrong : ChangeSpec := { name := "domKids", fn := fun _ => fun
  | [d] => { results := [.lit (.bool false)], args := [d] }
  | _ => none }
def DomKidsWrongFalsely : Prop := domKidsRow.holds Try.pinned (OpenSpec.ofChange domKidsWrong)

/-- 'bobbinlaw12.DomAbove': WHATEVER THE INPUT: true; the input reads as it did. -/
def domAboveSpec : ChangeSpec := { name := "domAbove", fn := fun _ => fun
  | [d1, d2, d3, d4] => { results := [.lit (.bool true)], args := [d1, d2, d3, d4] }
  | _ => none }
def domAboveRow : OpenClaim := { program := "ytmbbklddjkmcmaa", sum := "ee6ddc857e3cc95107585262c8975b4d5de9b31a87028164aa9fc70966a9d79a", func := "bobbin/bobbinlaw12.DomAbove", spec := "domAbove", unfollowed := true, recurses := true, apart := false }
def DomAboveSaid : Prop := domAboveRow.holds Try.pinned (OpenSpec.ofChange domAboveSpec)

/-- ITS FALSE NEIGHBOUR: 'it returns false'. Refute it at one input. -/
def domAboveWrong : ChangeSpec := { name := "domAbove", fn := fun _ => fun
  | [d1, d2, d3, d4] => { results := [.lit (.bool false)], args := [d1, d2, d3, d4] }
  | _ => none }
def DomAboveWrongFalsely : Prop := domAboveRow.holds Try.pinned (OpenSpec.ofChange domAboveWrong)

/-- 'bobbinlaw13.FrontNames': WHATEVER THE INPUT: true; the input reads as it did. -/
def frontNamesSpec : ChangeSpec := { name := "frontNames", fn := fun _ => fun
  | [] => { results := [.lit (.bool true)], args := [] }
  | _ => none }
def frontNamesRow : OpenClaim := { program := "ytmbbklddjkmcmaa", sum := "ee6ddc857e3cc95107585262c8975b4d5de9b31a87028164aa9fc70966a9d79a", func := "bobbin/bobbinlaw13.FrontNames", spec := "frontNames", unfollowed := true, recurses := true, apart := false }
def FrontNamesSaid : Prop := frontNamesRow.holds Try.pinned (OpenSpec.ofChange frontNamesSpec)

/-- ITS FALSE NEIGHBOUR: 'it returns false'. Refute it at one input. -/
def frontNamesWrong : ChangeSpec := { name := "frontNames", fn := fun _ => fun
  | [] => { results := [.lit (.bool false)], args := [] }
  | _ => none }
def FrontNamesWrongFalsely : Prop := frontNamesRow.holds Try.pinned (OpenSpec.ofChange frontNamesWrong)

/-- 'bobbinlaw13.FrontTells': WHATEVER THE INPUT: true; the input reads as it did. -/
def frontTellsSpec : ChangeSpec := { name := "frontTells", fn := fun _ => fun
  | [d1, d2] => { results := [.lit (.bool true)], args := [d1, d2] }
  | _ => none }
def frontTellsRow : OpenClaim := { program := "ytmbbklddjkmcmaa", sum := "ee6ddc857e3cc95107585262c8975b4d5de9b31a87028164aa9fc70966a9d79a", func := "bobbin/bobbinlaw13.FrontTells", spec := "frontTells", unfollowed := true, recurses := true, apart := false }
def FrontTellsSaid : Prop := frontTellsRow.holds Try.pinned (OpenSpec.ofChange frontTellsSpec)

/-- ITS FALSE NEIGHBOUR: 'it returns false'. Refute it at one input. -/
def frontTellsWrong : ChangeSpec := { name := "frontTells", fn := fun _ => fun
  | [d1, d2] => { results := [.lit (.bool false)], args := [d1, d2] }
  | _ => none }
def FrontTellsWrongFalsely : Prop := frontTellsRow.holds Try.pinned (OpenSpec.ofChange frontTellsWrong)

/-- 'bobbinlaw13.FrontSet': WHATEVER THE INPUT: true; the input reads as it did. -/
def frontSetSpec : ChangeSpec := { name := "frontSet", fn := fun _ => fun
  | [d1, d2, d3] => { results := [.lit (.bool true)], args := [d1, d2, d3] }
  | _ => none }
def frontSetRow : OpenClaim := { program := "ytmbbklddjkmcmaa", sum := "ee6ddc857e3cc95107585262c8975b4d5de9b31a87028164aa9fc70966a9d79a", func := "bobbin/bobbinlaw13.FrontSet", spec := "frontSet", unfollowed := true, recurses := true, apart := false }
def FrontSetSaid : Prop := frontSetRow.holds Try.pinned (OpenSpec.ofChange frontSetSpec)

/-- ITS FALSE NEIGHBOUR: 'it returns false'. Refute it at one input. -/
def frontSetWrong : ChangeSpec := { name := "frontSet", fn := fun _ => fun
  | [d1, d2, d3] => { results := [.lit (.bool false)], args := [d1, d2, d3] }
  | _ => none }
def FrontSetWrongFalsely : Prop := frontSetRow.holds Try.pinned (OpenSpec.ofChange frontSetWrong)

/-- 'bobbinlaw13.FrontBehind': WHATEVER THE INPUT: true; the input reads as it did. -/
def frontBehindSpec : ChangeSpec := { name := "frontBehind", fn := fun _ => fun
  | [d1, d2] => { results := [.lit (.bool true)], args := [d1, d2] }
  | _ => none }
def frontBehindRow : OpenClaim := { program := "ytmbbklddjkmcmaa", sum := "ee6ddc857e3cc95107585262c8975b4d5de9b31a87028164aa9fc70966a9d79a", func := "bobbin/bobbinlaw13.FrontBehind", spec := "frontBehind", unfollowed := true, recurses := true, apart := false }
def FrontBehindSaid : Prop := frontBehindRow.holds Try.pinned (OpenSpec.ofChange frontBehindSpec)

/-- ITS FALSE NEIGHBOUR: 'it returns false'. Refute it at one input. -/
def frontBehindWrong : ChangeSpec := { name := "frontBehind", fn := fun _ => fun
  | [d1, d2] => { results := [.lit (.bool false)], args := [d1, d2] }
  | _ => none }
def FrontBehindWrongFalsely : Prop := frontBehindRow.holds Try.pinned (OpenSpec.ofChange frontBehindWrong)

/-- 'bobbinlaw13.FrontOne': WHATEVER THE INPUT: true; the input reads as it did. -/
def frontOneSpec : ChangeSpec := { name := "frontOne", fn := fun _ => fun
  | [d1, d2, d3] => { results := [.lit (.bool true)], args := [d1, d2, d3] }
  | _ => none }
def frontOneRow : OpenClaim := { program := "ytmbbklddjkmcmaa", sum := "ee6ddc857e3cc95107585262c8975b4d5de9b31a87028164aa9fc70966a9d79a", func := "bobbin/bobbinlaw13.FrontOne", spec := "frontOne", unfollowed := true, recurses := true, apart := false }
def FrontOneSaid : Prop := frontOneRow.holds Try.pinned (OpenSpec.ofChange frontOneSpec)

/-- ITS FALSE NEIGHBOUR: 'it returns false'. Refute it at one input. -/
def frontOneWrong : ChangeSpec := { name := "frontOne", fn := fun _ => fun
  | [d1, d2, d3] => { results := [.lit (.bool false)], args := [d1, d2, d3] }
  | _ => none }
def FrontOneWrongFalsely : Prop := frontOneRow.holds Try.pinned (OpenSpec.ofChange frontOneWrong)

/- THE SECOND FORM. 'bulk': how many values and letters a reading holds, each counted each time it is reached (what is shared counts as often as it is met; a slice's spare places count too). A statement '..UptoSaid' is the law's where the arguments, and the package variables that the reading takes, are together of bulk at most 1048576: NARROWER than '..Said'. Prove '..Said' where nothing that the law and all that it calls make is longer than what came in: it says more and counts as full. Else prove '..UptoSaid'. A law counts once. -/
mutual
def uptoBulk {H : Type} : DataW H → Nat
  | .lit (.string bytes) => bytes.length + 1
  | .lit _ => 1
  | .nil => 1
  | .ptr d => uptoBulk d + 1
  | .slice elems spare => uptoBulkAll elems + uptoBulkAll spare + 1
  | .agg parts => uptoBulkAll parts + 1
  | .iface _ d => uptoBulk d + 1
  | .map entries => uptoBulkEntries entries + 1
  | .held _ => 1
def uptoBulkAll {H : Type} : List (DataW H) → Nat
  | [] => 0
  | d :: r => uptoBulk d + uptoBulkAll r
def uptoBulkEntries {H : Type} : List (Lit × DataW H) → Nat
  | [] => 0
  | x :: r => uptoBulkEntry x + uptoBulkEntries r
def uptoBulkEntry {H : Type} : Lit × DataW H → Nat
  | (.string bytes, d) => bytes.length + uptoBulk d + 1
  | (_, d) => uptoBulk d + 1
 end
def uptoSmall : (H : Type) → List (DataW H) → Bool := fun _ ds => decide (uptoBulkAll ds ≤ 1048576)
def OpenSpec.upto (s : _root_.Go.ChangeSpec) : _root_.Go.OpenSpec := { _root_.Go.OpenSpec.ofChange s with cond := some uptoSmall }

/-- 'bobbinlaw12.DomTells', WHERE WHAT IT READS IS OF BULK AT MOST 1048576: true; the input reads as it did. -/
def domTellsUptoRow : OpenClaim := { program := "ytmbbklddjkmcmaa", sum := "ee6ddc857e3cc95107585262c8975b4d5de9b31a87028164aa9fc70966a9d79a", func := "bobbin/bobbinlaw12.DomTells", spec := "domTells", unfollowed := true, recurses := true, apart := false, narrowed := true }
def DomTellsUptoSaid : Prop := domTellsUptoRow.holds Try.pinned (OpenSpec.upto domTellsSpec)

/-- 'bobbinlaw12.DomNames', WHERE WHAT IT READS IS OF BULK AT MOST 1048576: true; the input reads as it did. -/
def domNamesUptoRow : OpenClaim := { program := "ytmbbklddjkmcmaa", sum := "ee6ddc857e3cc95107585262c8975b4d5de9b31a87028164aa9fc70966a9d79a", func := "bobbin/bobbinlaw12.DomNames", spec := "domNames", unfollowed := true, recurses := true, apart := false, narrowed := true }
def DomNamesUptoSaid : Prop := domNamesUptoRow.holds Try.pinned (OpenSpec.upto domNamesSpec)

/-- 'bobbinlaw12.DomTree', WHERE WHAT IT READS IS OF BULK AT MOST 1048576: true; the input reads as it did. -/
def domTreeUptoRow : OpenClaim := { program := "ytmbbklddjkmcmaa", sum := "ee6ddc857e3cc95107585262c8975b4d5de9b31a87028164aa9fc70966a9d79a", func := "bobbin/bobbinlaw12.DomTree", spec := "domTree", unfollowed := true, recurses := true, apart := false, narrowed := true }
def DomTreeUptoSaid : Prop := domTreeUptoRow.holds Try.pinned (OpenSpec.upto domTreeSpec)

/-- 'bobbinlaw12.DomFewer', WHERE WHAT IT READS IS OF BULK AT MOST 1048576: true; the input reads as it did. -/
def domFewerUptoRow : OpenClaim := { program := "ytmbbklddjkmcmaa", sum := "ee6ddc857e3cc95107585262c8975b4d5de9b31a87028164aa9fc70966a9d79a", func := "bobbin/bobbinlaw12.DomFewer", spec := "domFewer", unfollowed := true, recurses := true, apart := false, narrowed := true }
def DomFewerUptoSaid : Prop := domFewerUptoRow.holds Try.pinned (OpenSpec.upto domFewerSpec)

/-- 'bobbinlaw12.DomKids', WHERE WHAT IT READS IS OF BULK AT MOST 1048576: true; the input reads as it did. -/
def domKidsUptoRow : OpenClaim := { program := "ytmbbklddjkmcmaa", sum := "ee6ddc857e3cc95107585262c8975b4d5de9b31a87028164aa9fc70966a9d79a", func := "bobbin/bobbinlaw12.DomKids", spec := "domKids", unfollowed := true, recurses := true, apart := false, narrowed := true }
def DomKidsUptoSaid : Prop := domKidsUptoRow.holds Try.pinned (OpenSpec.upto domKidsSpec)

/-- 'bobbinlaw12.DomAbove', WHERE WHAT IT READS IS OF BULK AT MOST 1048576: true; the input reads as it did. -/
def domAboveUptoRow : OpenClaim := { program := "ytmbbklddjkmcmaa", sum := "ee6ddc857e3cc95107585262c8975b4d5de9b31a87028164aa9fc70966a9d79a", func := "bobbin/bobbinlaw12.DomAbove", spec := "domAbove", unfollowed := true, recurses := true, apart := false, narrowed := true }
def DomAboveUptoSaid : Prop := domAboveUptoRow.holds Try.pinned (OpenSpec.upto domAboveSpec)

/-- 'bobbinlaw13.FrontNames', WHERE WHAT IT READS IS OF BULK AT MOST 1048576: true; the input reads as it did. -/
def frontNamesUptoRow : OpenClaim := { program := "ytmbbklddjkmcmaa", sum := "ee6ddc857e3cc95107585262c8975b4d5de9b31a87028164aa9fc70966a9d79a", func := "bobbin/bobbinlaw13.FrontNames", spec := "frontNames", unfollowed := true, recurses := true, apart := false, narrowed := true }
def FrontNamesUptoSaid : Prop := frontNamesUptoRow.holds Try.pinned (OpenSpec.upto frontNamesSpec)

/-- 'bobbinlaw13.FrontTells', WHERE WHAT IT READS IS OF BULK AT MOST 1048576: true; the input reads as it did. -/
def frontTellsUptoRow : OpenClaim := { program := "ytmbbklddjkmcmaa", sum := "ee6ddc857e3cc95107585262c8975b4d5de9b31a87028164aa9fc70966a9d79a", func := "bobbin/bobbinlaw13.FrontTells", spec := "frontTells", unfollowed := true, recurses := true, apart := false, narrowed := true }
def FrontTellsUptoSaid : Prop := frontTellsUptoRow.holds Try.pinned (OpenSpec.upto frontTellsSpec)

/-- 'bobbinlaw13.FrontSet', WHERE WHAT IT READS IS OF BULK AT MOST 1048576: true; the input reads as it did. -/
def frontSetUptoRow : OpenClaim := { program := "ytmbbklddjkmcmaa", sum := "ee6ddc857e3cc95107585262c8975b4d5de9b31a87028164aa9fc70966a9d79a", func := "bobbin/bobbinlaw13.FrontSet", spec := "frontSet", unfollowed := true, recurses := true, apart := false, narrowed := true }
def FrontSetUptoSaid : Prop := frontSetUptoRow.holds Try.pinned (OpenSpec.upto frontSetSpec)

/-- 'bobbinlaw13.FrontBehind', WHERE WHAT IT READS IS OF BULK AT MOST 1048576: true; the input reads as it did. -/
def frontBehindUptoRow : OpenClaim := { program := "ytmbbklddjkmcmaa", sum := "ee6ddc857e3cc95107585262c8975b4d5de9b31a87028164aa9fc70966a9d79a", func := "bobbin/bobbinlaw13.FrontBehind", spec := "frontBehind", unfollowed := true, recurses := true, apart := false, narrowed := true }
def FrontBehindUptoSaid : Prop := frontBehindUptoRow.holds Try.pinned (OpenSpec.upto frontBehindSpec)

/-- 'bobbinlaw13.FrontOne', WHERE WHAT IT READS IS OF BULK AT MOST 1048576: true; the input reads as it did. -/
def frontOneUptoRow : OpenClaim := { program := "ytmbbklddjkmcmaa", sum := "ee6ddc857e3cc95107585262c8975b4d5de9b31a87028164aa9fc70966a9d79a", func := "bobbin/bobbinlaw13.FrontOne", spec := "frontOne", unfollowed := true, recurses := true, apart := false, narrowed := true }
def FrontOneUptoSaid : Prop := frontOneUptoRow.holds Try.pinned (OpenSpec.upto frontOneSpec)

end Rows
end Go.Proofs.Ytmbbklddjkmcmaa
