/-
  NARROWER THAN 'FOR EVERY INPUT', by the rows' own cells (each row's printed sentence says how): TouchTells: laid · TouchBoth: laid · TouchNames: laid · TouchAll: laid · TouchJoin: laid · TouchOwn: laid · CodeMade: loops, laid.
  DERIVED. THE GIVEN ROWS OF THIS SEAT. 7 by the template 'for every input the law returns true; each argument reads behind the call as it read before'; 0 by the template 'total and deterministic' (their statements: YtanpcmkhhpaeiaaGreatDoorTotals.lean).
  GIVEN WITH THE SEED: the statements are not yours to turn. If you find one false, say at which input.
  Laid BY PROGRAM, IN A SANDBOX (cutbox-rows.mjs): the forced cells as the released guide's own fill.sh prints them over the translation 00a34b9a277a215b… (all of the seat's roots in one cut). By AI agents, Wed Nov 11 2026. No macro, syntax, notation, axiom, sorry.
-/
import Derived.Test.YtanpcmkhhpaeiaaGreatDoorChecked
import GoSem.PinnedTables
import GoSem.Claim
import GoSem.ClaimJoined
import GoSem.ClaimMapViews
import Derived.JoinedTies
import Derived.KernelRfl
namespace Go.Proofs.YtanpcmkhhpaeiaaGreatDoor
/- THE CELL 'sum', in the pinned program and in every row, IS THE sha256 OF THE DUMP (.gsa) THAT YtanpcmkhhpaeiaaGreatDoorProg.lean LOADS. Nothing in Lean hashes anything: it is a label: what it is worth is what the hold of that sum in a sandbox is worth. -/
noncomputable def Tryz.pinned : Pinned := { name := "ytanpcmkhhpaeiaagreatdoor", sum := "00a34b9a277a215bb1c3f73f11cff863e9d7f690636bbee148ae566c6cd8f7ed", checked := Tryz.checked }
namespace Rows
def none {H : Type} : Left H := { results := [], args := [] }

/- WHAT THE LISTED PACKAGE-LEVEL VARIABLES READ AS WHEN THE CALL BEGINS. Each datum BY PROGRAM (the guide's laid-datum.mjs) off the statement by which the dump's own 'gosem.cut.vars' lays the variable. In a bare row this is a premise. The card (YtanpcmkhhpaeiaaGreatDoorCards.lean) ties it to the program's text. -/
def laid_unicode_utf8_acceptRanges {H : Type} : DataW H := .agg [.agg [.lit (.int .u8 128), .lit (.int .u8 191)], .agg [.lit (.int .u8 160), .lit (.int .u8 191)], .agg [.lit (.int .u8 128), .lit (.int .u8 159)], .agg [.lit (.int .u8 144), .lit (.int .u8 191)], .agg [.lit (.int .u8 128), .lit (.int .u8 143)], .agg [.lit (.int .u8 0), .lit (.int .u8 0)], .agg [.lit (.int .u8 0), .lit (.int .u8 0)], .agg [.lit (.int .u8 0), .lit (.int .u8 0)], .agg [.lit (.int .u8 0), .lit (.int .u8 0)], .agg [.lit (.int .u8 0), .lit (.int .u8 0)], .agg [.lit (.int .u8 0), .lit (.int .u8 0)], .agg [.lit (.int .u8 0), .lit (.int .u8 0)], .agg [.lit (.int .u8 0), .lit (.int .u8 0)], .agg [.lit (.int .u8 0), .lit (.int .u8 0)], .agg [.lit (.int .u8 0), .lit (.int .u8 0)], .agg [.lit (.int .u8 0), .lit (.int .u8 0)]]
def laid_bobbin_tree_reserved {H : Type} : DataW H := .agg [.lit (.string [103, 108, 111, 98, 97, 108]), .lit (.string [97, 114, 114, 97, 121]), .lit (.string [108, 111, 99, 107]), .lit (.string [102, 117, 110, 99]), .lit (.string [116, 104, 114, 101, 97, 100]), .lit (.string [118, 97, 114]), .lit (.string [105, 102]), .lit (.string [101, 108, 115, 101]), .lit (.string [119, 104, 105, 108, 101]), .lit (.string [119, 105, 116, 104]), .lit (.string [112, 114, 105, 110, 116]), .lit (.string [99, 97, 108, 108]), .lit (.string [114, 101, 116, 117, 114, 110]), .lit (.string [116, 114, 117, 101]), .lit (.string [102, 97, 108, 115, 101])]
def laid_bobbin_code_ops {H : Type} : DataW H := .agg [.agg [.lit (.bool false), .lit (.bool false), .lit (.bool false), .lit (.bool false), .lit (.int .i64 0)], .agg [.lit (.bool true), .lit (.bool false), .lit (.bool false), .lit (.bool false), .lit (.int .i64 1)], .agg [.lit (.bool true), .lit (.bool true), .lit (.bool false), .lit (.bool false), .lit (.int .i64 0)], .agg [.lit (.bool true), .lit (.bool true), .lit (.bool false), .lit (.bool false), .lit (.int .i64 2)], .agg [.lit (.bool true), .lit (.bool true), .lit (.bool true), .lit (.bool false), .lit (.int .i64 3)], .agg [.lit (.bool true), .lit (.bool true), .lit (.bool false), .lit (.bool true), .lit (.int .i64 4)], .agg [.lit (.bool false), .lit (.bool true), .lit (.bool true), .lit (.bool true), .lit (.int .i64 4)], .agg [.lit (.bool false), .lit (.bool false), .lit (.bool false), .lit (.bool false), .lit (.int .i64 5)], .agg [.lit (.bool false), .lit (.bool false), .lit (.bool false), .lit (.bool false), .lit (.int .i64 5)], .agg [.lit (.bool false), .lit (.bool true), .lit (.bool false), .lit (.bool false), .lit (.int .i64 0)], .agg [.lit (.bool true), .lit (.bool false), .lit (.bool false), .lit (.bool false), .lit (.int .i64 6)], .agg [.lit (.bool false), .lit (.bool false), .lit (.bool false), .lit (.bool false), .lit (.int .i64 7)], .agg [.lit (.bool false), .lit (.bool true), .lit (.bool false), .lit (.bool false), .lit (.int .i64 7)], .agg [.lit (.bool false), .lit (.bool true), .lit (.bool false), .lit (.bool false), .lit (.int .i64 0)]]
/-- One of Go's own tables, pinned by name: the form's constant. -/
def laid_unicode_utf8_first : DataW Unit := Go.Pinned.utf8First
def laid_bobbin_tree_exprs {H : Type} : DataW H := .agg [.agg [.lit (.int .i64 0), .lit (.bool false), .lit (.int .i64 0)], .agg [.lit (.int .i64 0), .lit (.bool false), .lit (.int .i64 9223372036854775807)], .agg [.lit (.int .i64 0), .lit (.bool false), .lit (.int .i64 1)], .agg [.lit (.int .i64 0), .lit (.bool true), .lit (.int .i64 0)], .agg [.lit (.int .i64 1), .lit (.bool true), .lit (.int .i64 0)], .agg [.lit (.int .i64 1), .lit (.bool false), .lit (.int .i64 0)], .agg [.lit (.int .i64 1), .lit (.bool false), .lit (.int .i64 0)], .agg [.lit (.int .i64 2), .lit (.bool false), .lit (.int .i64 0)], .agg [.lit (.int .i64 2), .lit (.bool false), .lit (.int .i64 0)], .agg [.lit (.int .i64 2), .lit (.bool false), .lit (.int .i64 0)], .agg [.lit (.int .i64 2), .lit (.bool false), .lit (.int .i64 0)], .agg [.lit (.int .i64 2), .lit (.bool false), .lit (.int .i64 0)], .agg [.lit (.int .i64 2), .lit (.bool false), .lit (.int .i64 0)], .agg [.lit (.int .i64 2), .lit (.bool false), .lit (.int .i64 0)], .agg [.lit (.int .i64 2), .lit (.bool false), .lit (.int .i64 0)], .agg [.lit (.int .i64 2), .lit (.bool false), .lit (.int .i64 0)], .agg [.lit (.int .i64 2), .lit (.bool false), .lit (.int .i64 0)], .agg [.lit (.int .i64 2), .lit (.bool false), .lit (.int .i64 0)]]
def laid_bobbin_tree_stmts {H : Type} : DataW H := .agg [.agg [.lit (.bool false), .lit (.int .i64 0), .lit (.bool false), .lit (.bool false)], .agg [.lit (.bool true), .lit (.int .i64 1), .lit (.bool false), .lit (.bool false)], .agg [.lit (.bool true), .lit (.int .i64 1), .lit (.bool false), .lit (.bool false)], .agg [.lit (.bool true), .lit (.int .i64 2), .lit (.bool false), .lit (.bool false)], .agg [.lit (.bool false), .lit (.int .i64 1), .lit (.bool true), .lit (.bool true)], .agg [.lit (.bool false), .lit (.int .i64 1), .lit (.bool true), .lit (.bool false)], .agg [.lit (.bool true), .lit (.int .i64 0), .lit (.bool true), .lit (.bool false)], .agg [.lit (.bool false), .lit (.int .i64 1), .lit (.bool false), .lit (.bool false)], .agg [.lit (.bool true), .lit (.int .i64 (-1)), .lit (.bool false), .lit (.bool false)], .agg [.lit (.bool false), .lit (.int .i64 1), .lit (.bool false), .lit (.bool false)]]

/-- 'bobbinlaw18.TouchTells': WHATEVER THE INPUT: true; the input reads as it did. -/
def touchTellsSpec : ChangeSpec := { name := "touchTells", fn := fun _ => fun
  | [d] => { results := [.lit (.bool true)], args := [d] }
  | _ => none }
def touchTellsRow : OpenClaim := { program := "ytanpcmkhhpaeiaagreatdoor", sum := "00a34b9a277a215bb1c3f73f11cff863e9d7f690636bbee148ae566c6cd8f7ed", func := "bobbin/bobbinlaw18.TouchTells", spec := "touchTells", inPlace := ["internal/bytealg.IndexByteString", "internal/bytealg.IndexString"], unfollowed := true, recurses := true, named := ["bobbin/tree.reserved", "unicode/utf8.first", "unicode/utf8.acceptRanges", "bobbin/code.ops", "internal/bytealg.MaxLen"], apart := false, laid := [("unicode/utf8.acceptRanges", laid_unicode_utf8_acceptRanges), ("bobbin/tree.reserved", laid_bobbin_tree_reserved), ("bobbin/code.ops", laid_bobbin_code_ops), ("unicode/utf8.first", laid_unicode_utf8_first)] }
def TouchTellsSaid : Prop := touchTellsRow.holds Tryz.pinned (OpenSpec.ofChange touchTellsSpec)

/-- ITS FALSE NEIGHBOUR: 'it returns false'. Refute it at one input. -/
def touchTellsWrong : ChangeSpec := { name := "touchTells", fn := fun _ => fun
  | [d] => { results := [.lit (.bool false)], args := [d] }
  | _ => none }
def TouchTellsWrongFalsely : Prop := touchTellsRow.holds Tryz.pinned (OpenSpec.ofChange touchTellsWrong)

/-- 'bobbinlaw18.TouchBoth': WHATEVER THE INPUT: true; the input reads as it did. -/
def touchBothSpec : ChangeSpec := { name := "touchBoth", fn := fun _ => fun
  | [d1, d2] => { results := [.lit (.bool true)], args := [d1, d2] }
  | _ => none }
def touchBothRow : OpenClaim := { program := "ytanpcmkhhpaeiaagreatdoor", sum := "00a34b9a277a215bb1c3f73f11cff863e9d7f690636bbee148ae566c6cd8f7ed", func := "bobbin/bobbinlaw18.TouchBoth", spec := "touchBoth", inPlace := ["internal/bytealg.IndexByteString", "internal/bytealg.IndexString"], unfollowed := true, recurses := true, named := ["bobbin/tree.reserved", "unicode/utf8.first", "unicode/utf8.acceptRanges", "bobbin/code.ops", "internal/bytealg.MaxLen"], apart := false, laid := [("unicode/utf8.acceptRanges", laid_unicode_utf8_acceptRanges), ("bobbin/tree.reserved", laid_bobbin_tree_reserved), ("bobbin/code.ops", laid_bobbin_code_ops), ("unicode/utf8.first", laid_unicode_utf8_first)] }
def TouchBothSaid : Prop := touchBothRow.holds Tryz.pinned (OpenSpec.ofChange touchBothSpec)

/-- ITS FALSE NEIGHBOUR: 'it returns false'. Refute it at one input. -/
def touchBothWrong : ChangeSpec := { name := "touchBoth", fn := fun _ => fun
  | [d1, d2] => { results := [.lit (.bool false)], args := [d1, d2] }
  | _ => none }
def TouchBothWrongFalsely : Prop := touchBothRow.holds Tryz.pinned (OpenSpec.ofChange touchBothWrong)

/-- 'bobbinlaw18.TouchNames': WHATEVER THE INPUT: true; the input reads as it did. -/
def touchNamesSpec : ChangeSpec := { name := "touchNames", fn := fun _ => fun
  | [] => { results := [.lit (.bool true)], args := [] }
  | _ => none }
def touchNamesRow : OpenClaim := { program := "ytanpcmkhhpaeiaagreatdoor", sum := "00a34b9a277a215bb1c3f73f11cff863e9d7f690636bbee148ae566c6cd8f7ed", func := "bobbin/bobbinlaw18.TouchNames", spec := "touchNames", inPlace := ["internal/bytealg.IndexByteString", "internal/bytealg.IndexString"], unfollowed := true, recurses := true, named := ["bobbin/tree.reserved", "unicode/utf8.first", "unicode/utf8.acceptRanges", "bobbin/code.ops", "internal/bytealg.MaxLen"], apart := false, laid := [("unicode/utf8.acceptRanges", laid_unicode_utf8_acceptRanges), ("bobbin/tree.reserved", laid_bobbin_tree_reserved), ("bobbin/code.ops", laid_bobbin_code_ops), ("unicode/utf8.first", laid_unicode_utf8_first)] }
def TouchNamesSaid : Prop := touchNamesRow.holds Tryz.pinned (OpenSpec.ofChange touchNamesSpec)

/-- ITS FALSE NEIGHBOUR: 'it returns false'. Refute it at one input. -/
def touchNamesWrong : ChangeSpec := { name := "touchNames", fn := fun _ => fun
  | [] => { results := [.lit (.bool false)], args := [] }
  | _ => none }
def TouchNamesWrongFalsely : Prop := touchNamesRow.holds Tryz.pinned (OpenSpec.ofChange touchNamesWrong)

/-- 'bobbinlaw18.TouchAll': WHATEVER THE INPUT: true; the input reads as it did. -/
def touchAllSpec : ChangeSpec := { name := "touchAll", fn := fun _ => fun
  | [d1, d2, d3] => { results := [.lit (.bool true)], args := [d1, d2, d3] }
  | _ => none }
def touchAllRow : OpenClaim := { program := "ytanpcmkhhpaeiaagreatdoor", sum := "00a34b9a277a215bb1c3f73f11cff863e9d7f690636bbee148ae566c6cd8f7ed", func := "bobbin/bobbinlaw18.TouchAll", spec := "touchAll", inPlace := ["internal/bytealg.IndexByteString", "internal/bytealg.IndexString"], unfollowed := true, recurses := true, named := ["bobbin/tree.reserved", "unicode/utf8.first", "unicode/utf8.acceptRanges", "bobbin/code.ops", "internal/bytealg.MaxLen"], apart := false, laid := [("unicode/utf8.acceptRanges", laid_unicode_utf8_acceptRanges), ("bobbin/tree.reserved", laid_bobbin_tree_reserved), ("bobbin/code.ops", laid_bobbin_code_ops), ("unicode/utf8.first", laid_unicode_utf8_first)] }
def TouchAllSaid : Prop := touchAllRow.holds Tryz.pinned (OpenSpec.ofChange touchAllSpec)

/-- ITS FALSE NEIGHBOUR: 'it returns false'. Refute it at one input. -/
def touchAllWrong : ChangeSpec := { name := "touchAll", fn := fun _ => fun
  | [d1, d2, d3] => { results := [.lit (.bool false)], args := [d1, d2, d3] }
  | _ => none }
def TouchAllWrongFalsely : Prop := touchAllRow.holds Tryz.pinned (OpenSpec.ofChange touchAllWrong)

/-- 'bobbinlaw18.TouchJoin': WHATEVER THE INPUT: true; the input reads as it did. -/
def touchJoinSpec : ChangeSpec := { name := "touchJoin", fn := fun _ => fun
  | [d1, d2, d3] => { results := [.lit (.bool true)], args := [d1, d2, d3] }
  | _ => none }
def touchJoinRow : OpenClaim := { program := "ytanpcmkhhpaeiaagreatdoor", sum := "00a34b9a277a215bb1c3f73f11cff863e9d7f690636bbee148ae566c6cd8f7ed", func := "bobbin/bobbinlaw18.TouchJoin", spec := "touchJoin", inPlace := ["internal/bytealg.IndexByteString", "internal/bytealg.IndexString"], unfollowed := true, recurses := true, named := ["bobbin/tree.reserved", "unicode/utf8.first", "unicode/utf8.acceptRanges", "bobbin/code.ops", "internal/bytealg.MaxLen"], apart := false, laid := [("unicode/utf8.acceptRanges", laid_unicode_utf8_acceptRanges), ("bobbin/tree.reserved", laid_bobbin_tree_reserved), ("bobbin/code.ops", laid_bobbin_code_ops), ("unicode/utf8.first", laid_unicode_utf8_first)] }
def TouchJoinSaid : Prop := touchJoinRow.holds Tryz.pinned (OpenSpec.ofChange touchJoinSpec)

/-- ITS FALSE NEIGHBOUR: 'it returns false'. Refute it at one input. -/
def touchJoinWrong : ChangeSpec := { name := "touchJoin", fn := fun _ => fun
  | [d1, d2, d3] => { results := [.lit (.bool false)], args := [d1, d2, d3] }
  | _ => none }
def TouchJoinWrongFalsely : Prop := touchJoinRow.holds Tryz.pinned (OpenSpec.ofChange touchJoinWrong)

/-- 'bobbinlaw18.TouchOwn': WHATEVER THE INPUT: true; the input reads as it did. -/
def touchOwnSpec : ChangeSpec := { name := "touchOwn", fn := fun _ => fun
  | [d] => { results := [.lit (.bool true)], args := [d] }
  | _ => none }
def touchOwnRow : OpenClaim := { program := "ytanpcmkhhpaeiaagreatdoor", sum := "00a34b9a277a215bb1c3f73f11cff863e9d7f690636bbee148ae566c6cd8f7ed", func := "bobbin/bobbinlaw18.TouchOwn", spec := "touchOwn", inPlace := ["internal/bytealg.IndexByteString", "internal/bytealg.IndexString"], unfollowed := true, recurses := true, named := ["bobbin/tree.reserved", "unicode/utf8.first", "unicode/utf8.acceptRanges", "bobbin/code.ops", "internal/bytealg.MaxLen"], apart := false, laid := [("unicode/utf8.acceptRanges", laid_unicode_utf8_acceptRanges), ("bobbin/tree.reserved", laid_bobbin_tree_reserved), ("bobbin/code.ops", laid_bobbin_code_ops), ("unicode/utf8.first", laid_unicode_utf8_first)] }
def TouchOwnSaid : Prop := touchOwnRow.holds Tryz.pinned (OpenSpec.ofChange touchOwnSpec)

/-- ITS FALSE NEIGHBOUR: 'it returns false'. Refute it at one input. -/
def touchOwnWrong : ChangeSpec := { name := "touchOwn", fn := fun _ => fun
  | [d] => { results := [.lit (.bool false)], args := [d] }
  | _ => none }
def TouchOwnWrongFalsely : Prop := touchOwnRow.holds Tryz.pinned (OpenSpec.ofChange touchOwnWrong)

/-- 'bobbinlaw07.CodeMade': WHATEVER THE INPUT: true; the input reads as it did. -/
def codeMadeSpec : ChangeSpec := { name := "codeMade", fn := fun _ => fun
  | [d] => { results := [.lit (.bool true)], args := [d] }
  | _ => none }
def codeMadeRow : OpenClaim := { program := "ytanpcmkhhpaeiaagreatdoor", sum := "00a34b9a277a215bb1c3f73f11cff863e9d7f690636bbee148ae566c6cd8f7ed", func := "bobbin/bobbinlaw07.CodeMade", spec := "codeMade", inPlace := ["internal/bytealg.IndexByteString", "internal/bytealg.IndexString", "maps.clone"], unfollowed := true, recurses := true, named := ["bobbin/code.ops", "bobbin/tree.reserved", "unicode/utf8.first", "unicode/utf8.acceptRanges", "bobbin/tree.stmts", "bobbin/tree.exprs", "internal/bytealg.MaxLen"], loops := true, apart := false, laid := [("unicode/utf8.acceptRanges", laid_unicode_utf8_acceptRanges), ("bobbin/tree.reserved", laid_bobbin_tree_reserved), ("bobbin/tree.exprs", laid_bobbin_tree_exprs), ("bobbin/tree.stmts", laid_bobbin_tree_stmts), ("bobbin/code.ops", laid_bobbin_code_ops), ("unicode/utf8.first", laid_unicode_utf8_first)] }
def CodeMadeSaid : Prop := codeMadeRow.holds Tryz.pinned (OpenSpec.ofChange codeMadeSpec)

/-- ITS FALSE NEIGHBOUR: 'it returns false'. Refute it at one input. -/
def codeMadeWrong : ChangeSpec := { name := "codeMade", fn := fun _ => fun
  | [d] => { results := [.lit (.bool false)], args := [d] }
  | _ => none }
def CodeMadeWrongFalsely : Prop := codeMadeRow.holds Tryz.pinned (OpenSpec.ofChange codeMadeWrong)

/- THE SECOND FORM. 'bulk': how many values and letters a reading holds, each counted each time it is reached (what is shared counts as often as it is met; a slice's spare places count too). A statement '..UptoSaid' is the law's where the arguments, and the package variables that the reading takes, are together of bulk at most 1048576: NARROWER than '..Said'. Prove '..Said' where nothing that the law and all that it calls make is longer than what came in: it says more and counts as full. Else prove '..UptoSaid'. A law counts once. -/
mutual
def uptoBulk {H : Type} : DataW H → Nat
  | .lit (.string bytes) => bytes.length + 1
  | .lit _ => 1
  | .nil => 1
  | .ptr d => uptoBulk d + 1
  | .slice elems spare => uptoBulkAll elems + uptoBulkAll spare + 1
  | .agg parts => uptoBulkAll parts + 1
  | .iface _ d => uptoBulk d + 1
  | .map entries => uptoBulkEntries entries + 1
  | .held _ => 1
def uptoBulkAll {H : Type} : List (DataW H) → Nat
  | [] => 0
  | d :: r => uptoBulk d + uptoBulkAll r
def uptoBulkEntries {H : Type} : List (Lit × DataW H) → Nat
  | [] => 0
  | x :: r => uptoBulkEntry x + uptoBulkEntries r
def uptoBulkEntry {H : Type} : Lit × DataW H → Nat
  | (.string bytes, d) => bytes.length + uptoBulk d + 1
  | (_, d) => uptoBulk d + 1
 end
def uptoSmall : (H : Type) → List (DataW H) → Bool := fun _ ds => decide (uptoBulkAll ds ≤ 1048576)
def OpenSpec.upto (s : _root_.Go.ChangeSpec) : _root_.Go.OpenSpec := { _root_.Go.OpenSpec.ofChange s with cond := some uptoSmall }

/-- 'bobbinlaw18.TouchTells', WHERE WHAT IT READS IS OF BULK AT MOST 1048576: true; the input reads as it did. -/
def touchTellsUptoRow : OpenClaim := { program := "ytanpcmkhhpaeiaagreatdoor", sum := "00a34b9a277a215bb1c3f73f11cff863e9d7f690636bbee148ae566c6cd8f7ed", func := "bobbin/bobbinlaw18.TouchTells", spec := "touchTells", inPlace := ["internal/bytealg.IndexByteString", "internal/bytealg.IndexString"], unfollowed := true, recurses := true, named := ["bobbin/tree.reserved", "unicode/utf8.first", "unicode/utf8.acceptRanges", "bobbin/code.ops", "internal/bytealg.MaxLen"], apart := false, laid := [("unicode/utf8.acceptRanges", laid_unicode_utf8_acceptRanges), ("bobbin/tree.reserved", laid_bobbin_tree_reserved), ("bobbin/code.ops", laid_bobbin_code_ops), ("unicode/utf8.first", laid_unicode_utf8_first)], narrowed := true }
def TouchTellsUptoSaid : Prop := touchTellsUptoRow.holds Tryz.pinned (OpenSpec.upto touchTellsSpec)

/-- 'bobbinlaw18.TouchBoth', WHERE WHAT IT READS IS OF BULK AT MOST 1048576: true; the input reads as it did. -/
def touchBothUptoRow : OpenClaim := { program := "ytanpcmkhhpaeiaagreatdoor", sum := "00a34b9a277a215bb1c3f73f11cff863e9d7f690636bbee148ae566c6cd8f7ed", func := "bobbin/bobbinlaw18.TouchBoth", spec := "touchBoth", inPlace := ["internal/bytealg.IndexByteString", "internal/bytealg.IndexString"], unfollowed := true, recurses := true, named := ["bobbin/tree.reserved", "unicode/utf8.first", "unicode/utf8.acceptRanges", "bobbin/code.ops", "internal/bytealg.MaxLen"], apart := false, laid := [("unicode/utf8.acceptRanges", laid_unicode_utf8_acceptRanges), ("bobbin/tree.reserved", laid_bobbin_tree_reserved), ("bobbin/code.ops", laid_bobbin_code_ops), ("unicode/utf8.first", laid_unicode_utf8_first)], narrowed := true }
def TouchBothUptoSaid : Prop := touchBothUptoRow.holds Tryz.pinned (OpenSpec.upto touchBothSpec)

/-- 'bobbinlaw18.TouchNames', WHERE WHAT IT READS IS OF BULK AT MOST 1048576: true; the input reads as it did. -/
def touchNamesUptoRow : OpenClaim := { program := "ytanpcmkhhpaeiaagreatdoor", sum := "00a34b9a277a215bb1c3f73f11cff863e9d7f690636bbee148ae566c6cd8f7ed", func := "bobbin/bobbinlaw18.TouchNames", spec := "touchNames", inPlace := ["internal/bytealg.IndexByteString", "internal/bytealg.IndexString"], unfollowed := true, recurses := true, named := ["bobbin/tree.reserved", "unicode/utf8.first", "unicode/utf8.acceptRanges", "bobbin/code.ops", "internal/bytealg.MaxLen"], apart := false, laid := [("unicode/utf8.acceptRanges", laid_unicode_utf8_acceptRanges), ("bobbin/tree.reserved", laid_bobbin_tree_reserved), ("bobbin/code.ops", laid_bobbin_code_ops), ("unicode/utf8.first", laid_unicode_utf8_first)], narrowed := true }
def TouchNamesUptoSaid : Prop := touchNamesUptoRow.holds Tryz.pinned (OpenSpec.upto touchNamesSpec)

/-- 'bobbinlaw18.TouchAll', WHERE WHAT IT READS IS OF BULK AT MOST 1048576: true; the input reads as it did. -/
def touchAllUptoRow : OpenClaim := { program := "ytanpcmkhhpaeiaagreatdoor", sum := "00a34b9a277a215bb1c3f73f11cff863e9d7f690636bbee148ae566c6cd8f7ed", func := "bobbin/bobbinlaw18.TouchAll", spec := "touchAll", inPlace := ["internal/bytealg.IndexByteString", "internal/bytealg.IndexString"], unfollowed := true, recurses := true, named := ["bobbin/tree.reserved", "unicode/utf8.first", "unicode/utf8.acceptRanges", "bobbin/code.ops", "internal/bytealg.MaxLen"], apart := false, laid := [("unicode/utf8.acceptRanges", laid_unicode_utf8_acceptRanges), ("bobbin/tree.reserved", laid_bobbin_tree_reserved), ("bobbin/code.ops", laid_bobbin_code_ops), ("unicode/utf8.first", laid_unicode_utf8_first)], narrowed := true }
def TouchAllUptoSaid : Prop := touchAllUptoRow.holds Tryz.pinned (OpenSpec.upto touchAllSpec)

/-- 'bobbinlaw18.TouchJoin', WHERE WHAT IT READS IS OF BULK AT MOST 1048576: true; the input reads as it did. -/
def touchJoinUptoRow : OpenClaim := { program := "ytanpcmkhhpaeiaagreatdoor", sum := "00a34b9a277a215bb1c3f73f11cff863e9d7f690636bbee148ae566c6cd8f7ed", func := "bobbin/bobbinlaw18.TouchJoin", spec := "touchJoin", inPlace := ["internal/bytealg.IndexByteString", "internal/bytealg.IndexString"], unfollowed := true, recurses := true, named := ["bobbin/tree.reserved", "unicode/utf8.first", "unicode/utf8.acceptRanges", "bobbin/code.ops", "internal/bytealg.MaxLen"], apart := false, laid := [("unicode/utf8.acceptRanges", laid_unicode_utf8_acceptRanges), ("bobbin/tree.reserved", laid_bobbin_tree_reserved), ("bobbin/code.ops", laid_bobbin_code_ops), ("unicode/utf8.first", laid_unicode_utf8_first)], narrowed := true }
def TouchJoinUptoSaid : Prop := touchJoinUptoRow.holds Tryz.pinned (OpenSpec.upto touchJoinSpec)

/-- 'bobbinlaw18.TouchOwn', WHERE WHAT IT READS IS OF BULK AT MOST 1048576: true; the input reads as it did. -/
def touchOwnUptoRow : OpenClaim := { program := "ytanpcmkhhpaeiaagreatdoor", sum := "00a34b9a277a215bb1c3f73f11cff863e9d7f690636bbee148ae566c6cd8f7ed", func := "bobbin/bobbinlaw18.TouchOwn", spec := "touchOwn", inPlace := ["internal/bytealg.IndexByteString", "internal/bytealg.IndexString"], unfollowed := true, recurses := true, named := ["bobbin/tree.reserved", "unicode/utf8.first", "unicode/utf8.acceptRanges", "bobbin/code.ops", "internal/bytealg.MaxLen"], apart := false, laid := [("unicode/utf8.acceptRanges", laid_unicode_utf8_acceptRanges), ("bobbin/tree.reserved", laid_bobbin_tree_reserved), ("bobbin/code.ops", laid_bobbin_code_ops), ("unicode/utf8.first", laid_unicode_utf8_first)], narrowed := true }
def TouchOwnUptoSaid : Prop := touchOwnUptoRow.holds Tryz.pinned (OpenSpec.upto touchOwnSpec)

/-- 'bobbinlaw07.CodeMade', WHERE WHAT IT READS IS OF BULK AT MOST 1048576: true; the input reads as it did. -/
def codeMadeUptoRow : OpenClaim := { program := "ytanpcmkhhpaeiaagreatdoor", sum := "00a34b9a277a215bb1c3f73f11cff863e9d7f690636bbee148ae566c6cd8f7ed", func := "bobbin/bobbinlaw07.CodeMade", spec := "codeMade", inPlace := ["internal/bytealg.IndexByteString", "internal/bytealg.IndexString", "maps.clone"], unfollowed := true, recurses := true, named := ["bobbin/code.ops", "bobbin/tree.reserved", "unicode/utf8.first", "unicode/utf8.acceptRanges", "bobbin/tree.stmts", "bobbin/tree.exprs", "internal/bytealg.MaxLen"], loops := true, apart := false, laid := [("unicode/utf8.acceptRanges", laid_unicode_utf8_acceptRanges), ("bobbin/tree.reserved", laid_bobbin_tree_reserved), ("bobbin/tree.exprs", laid_bobbin_tree_exprs), ("bobbin/tree.stmts", laid_bobbin_tree_stmts), ("bobbin/code.ops", laid_bobbin_code_ops), ("unicode/utf8.first", laid_unicode_utf8_first)], narrowed := true }
def CodeMadeUptoSaid : Prop := codeMadeUptoRow.holds Tryz.pinned (OpenSpec.upto codeMadeSpec)

end Rows
end Go.Proofs.YtanpcmkhhpaeiaaGreatDoor
