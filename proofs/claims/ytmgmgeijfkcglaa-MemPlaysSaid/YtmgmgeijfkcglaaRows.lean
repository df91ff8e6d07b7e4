/-
  No cell of these rows narrows 'for every input' (looked for: loops, veiled, ifaces, maps, wideKeys, modest, calm, conditions, laid).
  DERIVED. THE GIVEN ROWS OF THIS SEAT. 8 by the template 'for every input the law returns true; each argument reads behind the call as it read before'; 0 by the template 'total and deterministic' (their statements: YtmgmgeijfkcglaaTotals.lean).
  GIVEN WITH THE SEED: the statements are not yours to turn. If you find one false, say at which input.
  Laid BY PROGRAM, IN A SANDBOX (cutbox-rows.mjs): the forced cells as the released guide's own fill.sh prints them over the translation 633c758c0e1d0c1e… (all of the seat's roots in one cut). By AI agents, Wed Nov 11 2026. No macro, syntax, notation, axiom, sorry.
-/
import Derived.Test.YtmgmgeijfkcglaaChecked
import GoSem.Claim
import GoSem.ClaimJoined
import GoSem.ClaimMapViews
import Derived.JoinedTies
import Derived.KernelRfl
namespace Go.Proofs.Ytmgmgeijfkcglaa
/- THE CELL 'sum', in the pinned program and in every row, IS THE sha256 OF THE DUMP (.gsa) THAT YtmgmgeijfkcglaaProg.lean LOADS. Nothing in Lean hashes anything: it is a label: what it is worth is what the hold of that sum in a sandbox is worth. -/
noncomputable def Try.pinned : Pinned := { name := "ytmgmgeijfkcglaa", sum := "633c758c0e1d0c1e1c2ba8f5de10c79a897b8bb7a30d4beeab9470d62103f8f4", checked := Try.checked }
namespace Rows
def none {H : Type} : Left H := { results := [], args := [] }

/-- 'bobbinlaw08.MemValues': WHATEVER THE INPUT: true; the input reads as it did. -/
def memValuesSpec : ChangeSpec := { name := "memValues", fn := fun _ => fun
  | [d1, d2, d3] => { results := [.lit (.bool true)], args := [d1, d2, d3] }
  | _ => none }
def memValuesRow : OpenClaim := { program := "ytmgmgeijfkcglaa", sum := "633c758c0e1d0c1e1c2ba8f5de10c79a897b8bb7a30d4beeab9470d62103f8f4", func := "bobbin/bobbinlaw08.MemValues", spec := "memValues", unfollowed := true, recurses := true, apart := false }
def MemValuesSaid : Prop := memValuesRow.holds Try.pinned (OpenSpec.ofChange memValuesSpec)

/-- ITS FALSE NEIGHBOUR: 'it returns false'. Refute it at one input. -/
def memValuesWrong : ChangeSpec := { name := "memValues", fn := fun _ => fun
  | [d1, d2, d3] => { results := [.lit (.bool false)], args := [d1, d2, d3] }
  | _ => none }
def MemValuesWrongFalsely : Prop := memValuesRow.holds Try.pinned (OpenSpec.ofChange memValuesWrong)

/-- 'bobbinlaw08.MemNumbers': WHATEVER THE INPUT: true; the input reads as it did. -/
def memNumbersSpec : ChangeSpec := { name := "memNumbers", fn := fun _ => fun
  | [d1, d2] => { results := [.lit (.bool true)], args := [d1, d2] }
  | _ => none }
def memNumbersRow : OpenClaim := { program := "ytmgmgeijfkcglaa", sum := "633c758c0e1d0c1e1c2ba8f5de10c79a897b8bb7a30d4beeab9470d62103f8f4", func := "bobbin/bobbinlaw08.MemNumbers", spec := "memNumbers", unfollowed := true, recurses := true, apart := false }
def MemNumbersSaid : Prop := memNumbersRow.holds Try.pinned (OpenSpec.ofChange memNumbersSpec)

/-- ITS FALSE NEIGHBOUR: 'it returns false'. Refute it at one input. -/
def memNumbersWrong : ChangeSpec := { name := "memNumbers", fn := fun _ => fun
  | [d1, d2] => { results := [.lit (.bool false)], args := [d1, d2] }
  | _ => none }
def MemNumbersWrongFalsely : Prop := memNumbersRow.holds Try.pinned (OpenSpec.ofChange memNumbersWrong)

/-- 'bobbinlaw08.MemRing': WHATEVER THE INPUT: true; the input reads as it did. -/
def memRingSpec : ChangeSpec := { name := "memRing", fn := fun _ => fun
  | [d1, d2, d3] => { results := [.lit (.bool true)], args := [d1, d2, d3] }
  | _ => none }
def memRingRow : OpenClaim := { program := "ytmgmgeijfkcglaa", sum := "633c758c0e1d0c1e1c2ba8f5de10c79a897b8bb7a30d4beeab9470d62103f8f4", func := "bobbin/bobbinlaw08.MemRing", spec := "memRing", unfollowed := true, recurses := true, apart := false }
def MemRingSaid : Prop := memRingRow.holds Try.pinned (OpenSpec.ofChange memRingSpec)

/-- ITS FALSE NEIGHBOUR: 'it returns false'. Refute it at one input. -/
def memRingWrong : ChangeSpec := { name := "memRing", fn := fun _ => fun
  | [d1, d2, d3] => { results := [.lit (.bool false)], args := [d1, d2, d3] }
  | _ => none }
def MemRingWrongFalsely : Prop := memRingRow.holds Try.pinned (OpenSpec.ofChange memRingWrong)

/-- 'bobbinlaw08.MemLess': WHATEVER THE INPUT: true; the input reads as it did. -/
def memLessSpec : ChangeSpec := { name := "memLess", fn := fun _ => fun
  | [d1, d2, d3] => { results := [.lit (.bool true)], args := [d1, d2, d3] }
  | _ => none }
def memLessRow : OpenClaim := { program := "ytmgmgeijfkcglaa", sum := "633c758c0e1d0c1e1c2ba8f5de10c79a897b8bb7a30d4beeab9470d62103f8f4", func := "bobbin/bobbinlaw08.MemLess", spec := "memLess", unfollowed := true, recurses := true, apart := false }
def MemLessSaid : Prop := memLessRow.holds Try.pinned (OpenSpec.ofChange memLessSpec)

/-- ITS FALSE NEIGHBOUR: 'it returns false'. Refute it at one input. -/
def memLessWrong : ChangeSpec := { name := "memLess", fn := fun _ => fun
  | [d1, d2, d3] => { results := [.lit (.bool false)], args := [d1, d2, d3] }
  | _ => none }
def MemLessWrongFalsely : Prop := memLessRow.holds Try.pinned (OpenSpec.ofChange memLessWrong)

/-- 'bobbinlaw08.MemCells': WHATEVER THE INPUT: true; the input reads as it did. -/
def memCellsSpec : ChangeSpec := { name := "memCells", fn := fun _ => fun
  | [d1, d2, d3, d4, d5] => { results := [.lit (.bool true)], args := [d1, d2, d3, d4, d5] }
  | _ => none }
def memCellsRow : OpenClaim := { program := "ytmgmgeijfkcglaa", sum := "633c758c0e1d0c1e1c2ba8f5de10c79a897b8bb7a30d4beeab9470d62103f8f4", func := "bobbin/bobbinlaw08.MemCells", spec := "memCells", unfollowed := true, recurses := true, apart := false }
def MemCellsSaid : Prop := memCellsRow.holds Try.pinned (OpenSpec.ofChange memCellsSpec)

/-- ITS FALSE NEIGHBOUR: 'it returns false'. Refute it at one input. -/
def memCellsWrong : ChangeSpec := { name := "memCells", fn := fun _ => fun
  | [d1, d2, d3, d4, d5] => { results := [.lit (.bool false)], args := [d1, d2, d3, d4, d5] }
  | _ => none }
def MemCellsWrongFalsely : Prop := memCellsRow.holds Try.pinned (OpenSpec.ofChange memCellsWrong)

/-- 'bobbinlaw08.MemFirst': WHATEVER THE INPUT: true; the input reads as it did. -/
def memFirstSpec : ChangeSpec := { name := "memFirst", fn := fun _ => fun
  | [d1, d2] => { results := [.lit (.bool true)], args := [d1, d2] }
  | _ => none }
def memFirstRow : OpenClaim := { program := "ytmgmgeijfkcglaa", sum := "633c758c0e1d0c1e1c2ba8f5de10c79a897b8bb7a30d4beeab9470d62103f8f4", func := "bobbin/bobbinlaw08.MemFirst", spec := "memFirst", inPlace := ["maps.clone"], unfollowed := true, recurses := true, apart := false }
def MemFirstSaid : Prop := memFirstRow.holds Try.pinned (OpenSpec.ofChange memFirstSpec)

/-- ITS FALSE NEIGHBOUR: 'it returns false'. Refute it at one input. -/
def memFirstWrong : ChangeSpec := { name := "memFirst", fn := fun _ => fun
  | [d1, d2] => { results := [.lit (.bool false)], args := [d1, d2] }
  | _ => none }
def MemFirstWrongFalsely : Prop := memFirstRow.holds Try.pinned (OpenSpec.ofChange memFirstWrong)

/-- 'bobbinlaw08.MemPlays': WHATEVER THE INPUT: true; the input reads as it did. -/
def memPlaysSpec : ChangeSpec := { name := "memPlays", fn := fun _ => fun
  | [d1, d2, d3] => { results := [.lit (.bool true)], args := [d1, d2, d3] }
  | _ => none }
def memPlaysRow : OpenClaim := { program := "ytmgmgeijfkcglaa", sum := "633c758c0e1d0c1e1c2ba8f5de10c79a897b8bb7a30d4beeab9470d62103f8f4", func := "bobbin/bobbinlaw08.MemPlays", spec := "memPlays", inPlace := ["maps.clone"], unfollowed := true, recurses := true, apart := false }
def MemPlaysSaid : Prop := memPlaysRow.holds Try.pinned (OpenSpec.ofChange memPlaysSpec)

/-- ITS FALSE NEIGHBOUR: 'it returns false'. Refute it at one input. -/
def memPlaysWrong : ChangeSpec := { name := "memPlays", fn := fun _ => fun
  | [d1, d2, d3] => { results := [.lit (.bool false)], args := [d1, d2, d3] }
  | _ => none }
def MemPlaysWrongFalsely : Prop := memPlaysRow.holds Try.pinned (OpenSpec.ofChange memPlaysWrong)

/-- 'bobbinlaw08.MemNames': WHATEVER THE INPUT: true; the input reads as it did. -/
def memNamesSpec : ChangeSpec := { name := "memNames", fn := fun _ => fun
  | [] => { results := [.lit (.bool true)], args := [] }
  | _ => none }
def memNamesRow : OpenClaim := { program := "ytmgmgeijfkcglaa", sum := "633c758c0e1d0c1e1c2ba8f5de10c79a897b8bb7a30d4beeab9470d62103f8f4", func := "bobbin/bobbinlaw08.MemNames", spec := "memNames", inPlace := ["maps.clone"], unfollowed := true, recurses := true, apart := false }
def MemNamesSaid : Prop := memNamesRow.holds Try.pinned (OpenSpec.ofChange memNamesSpec)

/-- ITS FALSE NEIGHBOUR: 'it returns false'. Refute it at one input. -/
def memNamesWrong : ChangeSpec := { name := "memNames", fn := fun _ => fun
  | [] => { results := [.lit (.bool false)], args := [] }
  | _ => none }
def MemNamesWrongFalsely : Prop := memNamesRow.holds Try.pinned (OpenSpec.ofChange memNamesWrong)

/- THE SECOND FORM. 'bulk': how many values and letters a reading holds, each counted each time it is reached (what is shared counts as often as it is met; a slice's spare places count too). A statement '..UptoSaid' is the law's where the arguments, and the package variables that the reading takes, are together of bulk at most 1048576: NARROWER than '..Said'. Prove '..Said' where nothing that the law and all that it calls make is longer than what came in: it says more and counts as full. Else prove '..UptoSaid'. A law counts once. -/
mutual
def uptoBulk {H : Type} : DataW H → Nat
  | .lit (.string bytes) => bytes.length + 1
  | .lit _ => 1
  | .nil => 1
  | .ptr d => uptoBulk d + 1
  | .slice elems spare => uptoBulkAll elems + uptoBulkAll spare + 1
  | .agg parts => uptoBulkAll parts + 1
  | .iface _ d => uptoBulk d + 1
  | .map entries => uptoBulkEntries entries + 1
  | .held _ => 1
def uptoBulkAll {H : Type} : List (DataW H) → Nat
  | [] => 0
  | d :: r => uptoBulk d + uptoBulkAll r
def uptoBulkEntries {H : Type} : List (Lit × DataW H) → Nat
  | [] => 0
  | x :: r => uptoBulkEntry x + uptoBulkEntries r
def uptoBulkEntry {H : Type} : Lit × DataW H → Nat
  | (.string bytes, d) => bytes.length + uptoBulk d + 1
  | (_, d) => uptoBulk d + 1
 end
def uptoSmall : (H : Type) → List (DataW H) → Bool := fun _ ds => decide (uptoBulkAll ds ≤ 1048576)
def OpenSpec.upto (s : _root_.Go.ChangeSpec) : _root_.Go.OpenSpec := { _root_.Go.OpenSpec.ofChange s with cond := some uptoSmall }

/-- 'bobbinlaw08.MemValues', WHERE WHAT IT READS IS OF BULK AT MOST 1048576: true; the input reads as it did. -/
def memValuesUptoRow : OpenClaim := { program := "ytmgmgeijfkcglaa", sum := "633c758c0e1d0c1e1c2ba8f5de10c79a897b8bb7a30d4beeab9470d62103f8f4", func := "bobbin/bobbinlaw08.MemValues", spec := "memValues", unfollowed := true, recurses := true, apart := false, narrowed := true }
def MemValuesUptoSaid : Prop := memValuesUptoRow.holds Try.pinned (OpenSpec.upto memValuesSpec)

/-- 'bobbinlaw08.MemNumbers', WHERE WHAT IT READS IS OF BULK AT MOST 1048576: true; the input reads as it did. -/
def memNumbersUptoRow : OpenClaim := { program := "ytmgmgeijfkcglaa", sum := "633c758c0e1d0c1e1c2ba8f5de10c79a897b8bb7a30d4beeab9470d62103f8f4", func := "bobbin/bobbinlaw08.MemNumbers", spec := "memNumbers", unfollowed := true, recurses := true, apart := false, narrowed := true }
def MemNumbersUptoSaid : Prop := memNumbersUptoRow.holds Try.pinned (OpenSpec.upto memNumbersSpec)

/-- 'bobbinlaw08.MemRing', WHERE WHAT IT READS IS OF BULK AT MOST 1048576: true; the input reads as it did. -/
def memRingUptoRow : OpenClaim := { program := "ytmgmgeijfkcglaa", sum := "633c758c0e1d0c1e1c2ba8f5de10c79a897b8bb7a30d4beeab9470d62103f8f4", func := "bobbin/bobbinlaw08.MemRing", spec := "memRing", unfollowed := true, recurses := true, apart := false, narrowed := true }
def MemRingUptoSaid : Prop := memRingUptoRow.holds Try.pinned (OpenSpec.upto memRingSpec)

/-- 'bobbinlaw08.MemLess', WHERE WHAT IT READS IS OF BULK AT MOST 1048576: true; the input reads as it did. -/
def memLessUptoRow : OpenClaim := { program := "ytmgmgeijfkcglaa", sum := "633c758c0e1d0c1e1c2ba8f5de10c79a897b8bb7a30d4beeab9470d62103f8f4", func := "bobbin/bobbinlaw08.MemLess", spec := "memLess", unfollowed := true, recurses := true, apart := false, narrowed := true }
def MemLessUptoSaid : Prop := memLessUptoRow.holds Try.pinned (OpenSpec.upto memLessSpec)

/-- 'bobbinlaw08.MemCells', WHERE WHAT IT READS IS OF BULK AT MOST 1048576: true; the input reads as it did. -/
def memCellsUptoRow : OpenClaim := { program := "ytmgmgeijfkcglaa", sum := "633c758c0e1d0c1e1c2ba8f5de10c79a897b8bb7a30d4beeab9470d62103f8f4", func := "bobbin/bobbinlaw08.MemCells", spec := "memCells", unfollowed := true, recurses := true, apart := false, narrowed := true }
def MemCellsUptoSaid : Prop := memCellsUptoRow.holds Try.pinned (OpenSpec.upto memCellsSpec)

/-- 'bobbinlaw08.MemFirst', WHERE WHAT IT READS IS OF BULK AT MOST 1048576: true; the input reads as it did. -/
def memFirstUptoRow : OpenClaim := { program := "ytmgmgeijfkcglaa", sum := "633c758c0e1d0c1e1c2ba8f5de10c79a897b8bb7a30d4beeab9470d62103f8f4", func := "bobbin/bobbinlaw08.MemFirst", spec := "memFirst", inPlace := ["maps.clone"], unfollowed := true, recurses := true, apart := false, narrowed := true }
def MemFirstUptoSaid : Prop := memFirstUptoRow.holds Try.pinned (OpenSpec.upto memFirstSpec)

/-- 'bobbinlaw08.MemPlays', WHERE WHAT IT READS IS OF BULK AT MOST 1048576: true; the input reads as it did. -/
def memPlaysUptoRow : OpenClaim := { program := "ytmgmgeijfkcglaa", sum := "633c758c0e1d0c1e1c2ba8f5de10c79a897b8bb7a30d4beeab9470d62103f8f4", func := "bobbin/bobbinlaw08.MemPlays", spec := "memPlays", inPlace := ["maps.clone"], unfollowed := true, recurses := true, apart := false, narrowed := true }
def MemPlaysUptoSaid : Prop := memPlaysUptoRow.holds Try.pinned (OpenSpec.upto memPlaysSpec)

/-- 'bobbinlaw08.MemNames', WHERE WHAT IT READS IS OF BULK AT MOST 1048576: true; the input reads as it did. -/
def memNamesUptoRow : OpenClaim := { program := "ytmgmgeijfkcglaa", sum := "633c758c0e1d0c1e1c2ba8f5de10c79a897b8bb7a30d4beeab9470d62103f8f4", func := "bobbin/bobbinlaw08.MemNames", spec := "memNames", inPlace := ["maps.clone"], unfollowed := true, recurses := true, apart := false, narrowed := true }
def MemNamesUptoSaid : Prop := memNamesUptoRow.holds Try.pinned (OpenSpec.upto memNamesSpec)

end Rows
end Go.Proofs.Ytmgmgeijfkcglaa
