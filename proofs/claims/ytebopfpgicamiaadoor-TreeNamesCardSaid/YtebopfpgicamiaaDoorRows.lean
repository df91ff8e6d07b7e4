/-
  NARROWER THAN 'FOR EVERY INPUT', by the rows' own cells (each row's printed sentence says how): TreeAsks: loops, laid · TreeNames: laid · TreeParts: loops, laid · TreeSame: loops, laid · TreeAlone: loops, laid.
  DERIVED. THE GIVEN ROWS OF THIS SEAT. 5 by the template 'for every input the law returns true; each argument reads behind the call as it read before'; 0 by the template 'total and deterministic' (their statements: YtebopfpgicamiaaDoorTotals.lean).
  GIVEN WITH THE SEED: the statements are not yours to turn. If you find one false, say at which input.
  Laid BY PROGRAM, IN A SANDBOX (cutbox-rows.mjs): the forced cells as the released guide's own fill.sh prints them over the translation 152d56bd067ce3a1… (all of the seat's roots in one cut). By AI agents, Wed Nov 11 2026. No macro, syntax, notation, axiom, sorry.
-/
import Derived.Test.YtebopfpgicamiaaDoorChecked
import GoSem.PinnedTables
import GoSem.Claim
import GoSem.ClaimJoined
import GoSem.ClaimMapViews
import Derived.JoinedTies
import Derived.KernelRfl
namespace Go.Proofs.YtebopfpgicamiaaDoor
/- THE CELL 'sum', in the pinned program and in every row, IS THE sha256 OF THE DUMP (.gsa) THAT YtebopfpgicamiaaDoorProg.lean LOADS. Nothing in Lean hashes anything: it is a label: what it is worth is what the hold of that sum in a sandbox is worth. -/
noncomputable def Tryd.pinned : Pinned := { name := "ytebopfpgicamiaadoor", sum := "152d56bd067ce3a1b70db05a71e88438225db063302c866ae3d2e7e41ce3a303", checked := Tryd.checked }
namespace Rows
def none {H : Type} : Left H := { results := [], args := [] }

/- WHAT THE LISTED PACKAGE-LEVEL VARIABLES READ AS WHEN THE CALL BEGINS. Each datum BY PROGRAM (the guide's laid-datum.mjs) off the statement by which the dump's own 'gosem.cut.vars' lays the variable. In a bare row this is a premise. The card (YtebopfpgicamiaaDoorCards.lean) ties it to the program's text. -/
def laid_unicode_utf8_acceptRanges {H : Type} : DataW H := .agg [.agg [.lit (.int .u8 128), .lit (.int .u8 191)], .agg [.lit (.int .u8 160), .lit (.int .u8 191)], .agg [.lit (.int .u8 128), .lit (.int .u8 159)], .agg [.lit (.int .u8 144), .lit (.int .u8 191)], .agg [.lit (.int .u8 128), .lit (.int .u8 143)], .agg [.lit (.int .u8 0), .lit (.int .u8 0)], .agg [.lit (.int .u8 0), .lit (.int .u8 0)], .agg [.lit (.int .u8 0), .lit (.int .u8 0)], .agg [.lit (.int .u8 0), .lit (.int .u8 0)], .agg [.lit (.int .u8 0), .lit (.int .u8 0)], .agg [.lit (.int .u8 0), .lit (.int .u8 0)], .agg [.lit (.int .u8 0), .lit (.int .u8 0)], .agg [.lit (.int .u8 0), .lit (.int .u8 0)], .agg [.lit (.int .u8 0), .lit (.int .u8 0)], .agg [.lit (.int .u8 0), .lit (.int .u8 0)], .agg [.lit (.int .u8 0), .lit (.int .u8 0)]]
def laid_bobbin_tree_reserved {H : Type} : DataW H := .agg [.lit (.string [103, 108, 111, 98, 97, 108]), .lit (.string [97, 114, 114, 97, 121]), .lit (.string [108, 111, 99, 107]), .lit (.string [102, 117, 110, 99]), .lit (.string [116, 104, 114, 101, 97, 100]), .lit (.string [118, 97, 114]), .lit (.string [105, 102]), .lit (.string [101, 108, 115, 101]), .lit (.string [119, 104, 105, 108, 101]), .lit (.string [119, 105, 116, 104]), .lit (.string [112, 114, 105, 110, 116]), .lit (.string [99, 97, 108, 108]), .lit (.string [114, 101, 116, 117, 114, 110]), .lit (.string [116, 114, 117, 101]), .lit (.string [102, 97, 108, 115, 101])]
def laid_bobbin_tree_exprs {H : Type} : DataW H := .agg [.agg [.lit (.int .i64 0), .lit (.bool false), .lit (.int .i64 0)], .agg [.lit (.int .i64 0), .lit (.bool false), .lit (.int .i64 9223372036854775807)], .agg [.lit (.int .i64 0), .lit (.bool false), .lit (.int .i64 1)], .agg [.lit (.int .i64 0), .lit (.bool true), .lit (.int .i64 0)], .agg [.lit (.int .i64 1), .lit (.bool true), .lit (.int .i64 0)], .agg [.lit (.int .i64 1), .lit (.bool false), .lit (.int .i64 0)], .agg [.lit (.int .i64 1), .lit (.bool false), .lit (.int .i64 0)], .agg [.lit (.int .i64 2), .lit (.bool false), .lit (.int .i64 0)], .agg [.lit (.int .i64 2), .lit (.bool false), .lit (.int .i64 0)], .agg [.lit (.int .i64 2), .lit (.bool false), .lit (.int .i64 0)], .agg [.lit (.int .i64 2), .lit (.bool false), .lit (.int .i64 0)], .agg [.lit (.int .i64 2), .lit (.bool false), .lit (.int .i64 0)], .agg [.lit (.int .i64 2), .lit (.bool false), .lit (.int .i64 0)], .agg [.lit (.int .i64 2), .lit (.bool false), .lit (.int .i64 0)], .agg [.lit (.int .i64 2), .lit (.bool false), .lit (.int .i64 0)], .agg [.lit (.int .i64 2), .lit (.bool false), .lit (.int .i64 0)], .agg [.lit (.int .i64 2), .lit (.bool false), .lit (.int .i64 0)], .agg [.lit (.int .i64 2), .lit (.bool false), .lit (.int .i64 0)]]
def laid_bobbin_tree_stmts {H : Type} : DataW H := .agg [.agg [.lit (.bool false), .lit (.int .i64 0), .lit (.bool false), .lit (.bool false)], .agg [.lit (.bool true), .lit (.int .i64 1), .lit (.bool false), .lit (.bool false)], .agg [.lit (.bool true), .lit (.int .i64 1), .lit (.bool false), .lit (.bool false)], .agg [.lit (.bool true), .lit (.int .i64 2), .lit (.bool false), .lit (.bool false)], .agg [.lit (.bool false), .lit (.int .i64 1), .lit (.bool true), .lit (.bool true)], .agg [.lit (.bool false), .lit (.int .i64 1), .lit (.bool true), .lit (.bool false)], .agg [.lit (.bool true), .lit (.int .i64 0), .lit (.bool true), .lit (.bool false)], .agg [.lit (.bool false), .lit (.int .i64 1), .lit (.bool false), .lit (.bool false)], .agg [.lit (.bool true), .lit (.int .i64 (-1)), .lit (.bool false), .lit (.bool false)], .agg [.lit (.bool false), .lit (.int .i64 1), .lit (.bool false), .lit (.bool false)]]
/-- One of Go's own tables, pinned by name: the form's constant. -/
def laid_unicode_utf8_first : DataW Unit := Go.Pinned.utf8First

/-- 'bobbinlaw02.TreeAsks': WHATEVER THE INPUT: true; the input reads as it did. -/
def treeAsksSpec : ChangeSpec := { name := "treeAsks", fn := fun _ => fun
  | [d1, d2, d3, d4, d5] => { results := [.lit (.bool true)], args := [d1, d2, d3, d4, d5] }
  | _ => none }
def treeAsksRow : OpenClaim := { program := "ytebopfpgicamiaadoor", sum := "152d56bd067ce3a1b70db05a71e88438225db063302c866ae3d2e7e41ce3a303", func := "bobbin/bobbinlaw02.TreeAsks", spec := "treeAsks", inPlace := ["internal/bytealg.IndexByteString", "internal/bytealg.IndexString"], unfollowed := true, recurses := true, named := ["bobbin/tree.reserved", "unicode/utf8.first", "unicode/utf8.acceptRanges", "bobbin/tree.stmts", "bobbin/tree.exprs", "internal/bytealg.MaxLen"], loops := true, apart := false, laid := [("unicode/utf8.acceptRanges", laid_unicode_utf8_acceptRanges), ("bobbin/tree.reserved", laid_bobbin_tree_reserved), ("bobbin/tree.exprs", laid_bobbin_tree_exprs), ("bobbin/tree.stmts", laid_bobbin_tree_stmts), ("unicode/utf8.first", laid_unicode_utf8_first)] }
def TreeAsksSaid : Prop := treeAsksRow.holds Tryd.pinned (OpenSpec.ofChange treeAsksSpec)

/-- ITS FALSE NEIGHBOUR: 'it returns false'. Refute it at one input. -/
def treeAsksWrong : ChangeSpec := { name := "treeAsks", fn := fun _ => fun
  | [d1, d2, d3, d4, d5] => { results := [.lit (.bool false)], args := [d1, d2, d3, d4, d5] }
  | _ => none }
def TreeAsksWrongFalsely : Prop := treeAsksRow.holds Tryd.pinned (OpenSpec.ofChange treeAsksWrong)

/-- 'bobbinlaw02.TreeNames': WHATEVER THE INPUT: true; the input reads as it did. -/
def treeNamesSpec : ChangeSpec := { name := "treeNames", fn := fun _ => fun
  | [] => { results := [.lit (.bool true)], args := [] }
  | _ => none }
def treeNamesRow : OpenClaim := { program := "ytebopfpgicamiaadoor", sum := "152d56bd067ce3a1b70db05a71e88438225db063302c866ae3d2e7e41ce3a303", func := "bobbin/bobbinlaw02.TreeNames", spec := "treeNames", inPlace := ["internal/bytealg.IndexByteString", "internal/bytealg.IndexString"], unfollowed := true, recurses := true, named := ["bobbin/tree.reserved", "unicode/utf8.first", "unicode/utf8.acceptRanges", "bobbin/tree.exprs", "bobbin/tree.stmts", "internal/bytealg.MaxLen"], apart := false, laid := [("unicode/utf8.acceptRanges", laid_unicode_utf8_acceptRanges), ("bobbin/tree.reserved", laid_bobbin_tree_reserved), ("bobbin/tree.exprs", laid_bobbin_tree_exprs), ("bobbin/tree.stmts", laid_bobbin_tree_stmts), ("unicode/utf8.first", laid_unicode_utf8_first)] }
def TreeNamesSaid : Prop := treeNamesRow.holds Tryd.pinned (OpenSpec.ofChange treeNamesSpec)

/-- ITS FALSE NEIGHBOUR: 'it returns false'. Refute it at one input. -/
def treeNamesWrong : ChangeSpec := { name := "treeNames", fn := fun _ => fun
  | [] => { results := [.lit (.bool false)], args := [] }
  | _ => none }
def TreeNamesWrongFalsely : Prop := treeNamesRow.holds Tryd.pinned (OpenSpec.ofChange treeNamesWrong)

/-- 'bobbinlaw02.TreeParts': WHATEVER THE INPUT: true; the input reads as it did. -/
def treePartsSpec : ChangeSpec := { name := "treeParts", fn := fun _ => fun
  | [d1, d2] => { results := [.lit (.bool true)], args := [d1, d2] }
  | _ => none }
def treePartsRow : OpenClaim := { program := "ytebopfpgicamiaadoor", sum := "152d56bd067ce3a1b70db05a71e88438225db063302c866ae3d2e7e41ce3a303", func := "bobbin/bobbinlaw02.TreeParts", spec := "treeParts", inPlace := ["internal/bytealg.IndexByteString", "internal/bytealg.IndexString"], unfollowed := true, recurses := true, named := ["bobbin/tree.reserved", "unicode/utf8.first", "unicode/utf8.acceptRanges", "bobbin/tree.stmts", "bobbin/tree.exprs", "internal/bytealg.MaxLen"], loops := true, apart := false, laid := [("unicode/utf8.acceptRanges", laid_unicode_utf8_acceptRanges), ("bobbin/tree.reserved", laid_bobbin_tree_reserved), ("bobbin/tree.exprs", laid_bobbin_tree_exprs), ("bobbin/tree.stmts", laid_bobbin_tree_stmts), ("unicode/utf8.first", laid_unicode_utf8_first)] }
def TreePartsSaid : Prop := treePartsRow.holds Tryd.pinned (OpenSpec.ofChange treePartsSpec)

/-- ITS FALSE NEIGHBOUR: 'it returns false'. Refute it at one input. -/
def treePartsWrong : ChangeSpec := { name := "treeParts", fn := fun _ => fun
  | [d1, d2] => { results := [.lit (.bool false)], args := [d1, d2] }
  | _ => none }
def TreePartsWrongFalsely : Prop := treePartsRow.holds Tryd.pinned (OpenSpec.ofChange treePartsWrong)

/-- 'bobbinlaw02.TreeSame': WHATEVER THE INPUT: true; the input reads as it did. -/
def treeSameSpec : ChangeSpec := { name := "treeSame", fn := fun _ => fun
  | [d1, d2, d3] => { results := [.lit (.bool true)], args := [d1, d2, d3] }
  | _ => none }
def treeSameRow : OpenClaim := { program := "ytebopfpgicamiaadoor", sum := "152d56bd067ce3a1b70db05a71e88438225db063302c866ae3d2e7e41ce3a303", func := "bobbin/bobbinlaw02.TreeSame", spec := "treeSame", inPlace := ["internal/bytealg.IndexByteString", "internal/bytealg.IndexString"], unfollowed := true, recurses := true, named := ["bobbin/tree.reserved", "unicode/utf8.first", "unicode/utf8.acceptRanges", "bobbin/tree.stmts", "bobbin/tree.exprs", "internal/bytealg.MaxLen"], loops := true, apart := false, laid := [("unicode/utf8.acceptRanges", laid_unicode_utf8_acceptRanges), ("bobbin/tree.reserved", laid_bobbin_tree_reserved), ("bobbin/tree.exprs", laid_bobbin_tree_exprs), ("bobbin/tree.stmts", laid_bobbin_tree_stmts), ("unicode/utf8.first", laid_unicode_utf8_first)] }
def TreeSameSaid : Prop := treeSameRow.holds Tryd.pinned (OpenSpec.ofChange treeSameSpec)

/-- ITS FALSE NEIGHBOUR: 'it returns false'. Refute it at one input. -/
def treeSameWrong : ChangeSpec := { name := "treeSame", fn := fun _ => fun
  | [d1, d2, d3] => { results := [.lit (.bool false)], args := [d1, d2, d3] }
  | _ => none }
def TreeSameWrongFalsely : Prop := treeSameRow.holds Tryd.pinned (OpenSpec.ofChange treeSameWrong)

/-- 'bobbinlaw02.TreeAlone': WHATEVER THE INPUT: true; the input reads as it did. -/
def treeAloneSpec : ChangeSpec := { name := "treeAlone", fn := fun _ => fun
  | [d] => { results := [.lit (.bool true)], args := [d] }
  | _ => none }
def treeAloneRow : OpenClaim := { program := "ytebopfpgicamiaadoor", sum := "152d56bd067ce3a1b70db05a71e88438225db063302c866ae3d2e7e41ce3a303", func := "bobbin/bobbinlaw02.TreeAlone", spec := "treeAlone", inPlace := ["internal/bytealg.IndexByteString", "internal/bytealg.IndexString"], unfollowed := true, recurses := true, named := ["bobbin/tree.reserved", "unicode/utf8.first", "unicode/utf8.acceptRanges", "bobbin/tree.stmts", "bobbin/tree.exprs", "internal/bytealg.MaxLen"], loops := true, apart := false, laid := [("unicode/utf8.acceptRanges", laid_unicode_utf8_acceptRanges), ("bobbin/tree.reserved", laid_bobbin_tree_reserved), ("bobbin/tree.exprs", laid_bobbin_tree_exprs), ("bobbin/tree.stmts", laid_bobbin_tree_stmts), ("unicode/utf8.first", laid_unicode_utf8_first)] }
def TreeAloneSaid : Prop := treeAloneRow.holds Tryd.pinned (OpenSpec.ofChange treeAloneSpec)

/-- ITS FALSE NEIGHBOUR: 'it returns false'. Refute it at one input. -/
def treeAloneWrong : ChangeSpec := { name := "treeAlone", fn := fun _ => fun
  | [d] => { results := [.lit (.bool false)], args := [d] }
  | _ => none }
def TreeAloneWrongFalsely : Prop := treeAloneRow.holds Tryd.pinned (OpenSpec.ofChange treeAloneWrong)

/- THE SECOND FORM. 'bulk': how many values and letters a reading holds, each counted each time it is reached (what is shared counts as often as it is met; a slice's spare places count too). A statement '..UptoSaid' is the law's where the arguments, and the package variables that the reading takes, are together of bulk at most 1048576: NARROWER than '..Said'. Prove '..Said' where nothing that the law and all that it calls make is longer than what came in: it says more and counts as full. Else prove '..UptoSaid'. A law counts once. -/
mutual
def uptoBulk {H : Type} : DataW H → Nat
  | .lit (.string bytes) => bytes.length + 1
  | .lit _ => 1
  | .nil => 1
  | .ptr d => uptoBulk d + 1
  | .slice elems spare => uptoBulkAll elems + uptoBulkAll spare + 1
  | .agg parts => uptoBulkAll parts + 1
  | .iface _ d => uptoBulk d + 1
  | .map entries => uptoBulkEntries entries + 1
  | .held _ => 1
def uptoBulkAll {H : Type} : List (DataW H) → Nat
  | [] => 0
  | d :: r => uptoBulk d + uptoBulkAll r
def uptoBulkEntries {H : Type} : List (Lit × DataW H) → Nat
  | [] => 0
  | x :: r => uptoBulkEntry x + uptoBulkEntries r
def uptoBulkEntry {H : Type} : Lit × DataW H → Nat
  | (.string bytes, d) => bytes.length + uptoBulk d + 1
  | (_, d) => uptoBulk d + 1
 end
def uptoSmall : (H : Type) → List (DataW H) → Bool := fun _ ds => decide (uptoBulkAll ds ≤ 1048576)
def OpenSpec.upto (s : _root_.Go.ChangeSpec) : _root_.Go.OpenSpec := { _root_.Go.OpenSpec.ofChange s with cond := some uptoSmall }

/-- 'bobbinlaw02.TreeAsks', WHERE WHAT IT READS IS OF BULK AT MOST 1048576: true; the input reads as it did. -/
def treeAsksUptoRow : OpenClaim := { program := "ytebopfpgicamiaadoor", sum := "152d56bd067ce3a1b70db05a71e88438225db063302c866ae3d2e7e41ce3a303", func := "bobbin/bobbinlaw02.TreeAsks", spec := "treeAsks", inPlace := ["internal/bytealg.IndexByteString", "internal/bytealg.IndexString"], unfollowed := true, recurses := true, named := ["bobbin/tree.reserved", "unicode/utf8.first", "unicode/utf8.acceptRanges", "bobbin/tree.stmts", "bobbin/tree.exprs", "internal/bytealg.MaxLen"], loops := true, apart := false, laid := [("unicode/utf8.acceptRanges", laid_unicode_utf8_acceptRanges), ("bobbin/tree.reserved", laid_bobbin_tree_reserved), ("bobbin/tree.exprs", laid_bobbin_tree_exprs), ("bobbin/tree.stmts", laid_bobbin_tree_stmts), ("unicode/utf8.first", laid_unicode_utf8_first)], narrowed := true }
def TreeAsksUptoSaid : Prop := treeAsksUptoRow.holds Tryd.pinned (OpenSpec.upto treeAsksSpec)

/-- 'bobbinlaw02.TreeNames', WHERE WHAT IT READS IS OF BULK AT MOST 1048576: true; the input reads as it did. -/
def treeNamesUptoRow : OpenClaim := { program := "ytebopfpgicamiaadoor", sum := "152d56bd067ce3a1b70db05a71e88438225db063302c866ae3d2e7e41ce3a303", func := "bobbin/bobbinlaw02.TreeNames", spec := "treeNames", inPlace := ["internal/bytealg.IndexByteString", "internal/bytealg.IndexString"], unfollowed := true, recurses := true, named := ["bobbin/tree.reserved", "unicode/utf8.first", "unicode/utf8.acceptRanges", "bobbin/tree.exprs", "bobbin/tree.stmts", "internal/bytealg.MaxLen"], apart := false, laid := [("unicode/utf8.acceptRanges", laid_unicode_utf8_acceptRanges), ("bobbin/tree.reserved", laid_bobbin_tree_reserved), ("bobbin/tree.exprs", laid_bobbin_tree_exprs), ("bobbin/tree.stmts", laid_bobbin_tree_stmts), ("unicode/utf8.first", laid_unicode_utf8_first)], narrowed := true }
def TreeNamesUptoSaid : Prop := treeNamesUptoRow.holds Tryd.pinned (OpenSpec.upto treeNamesSpec)

/-- 'bobbinlaw02.TreeParts', WHERE WHAT IT READS IS OF BULK AT MOST 1048576: true; the input reads as it did. -/
def treePartsUptoRow : OpenClaim := { program := "ytebopfpgicamiaadoor", sum := "152d56bd067ce3a1b70db05a71e88438225db063302c866ae3d2e7e41ce3a303", func := "bobbin/bobbinlaw02.TreeParts", spec := "treeParts", inPlace := ["internal/bytealg.IndexByteString", "internal/bytealg.IndexString"], unfollowed := true, recurses := true, named := ["bobbin/tree.reserved", "unicode/utf8.first", "unicode/utf8.acceptRanges", "bobbin/tree.stmts", "bobbin/tree.exprs", "internal/bytealg.MaxLen"], loops := true, apart := false, laid := [("unicode/utf8.acceptRanges", laid_unicode_utf8_acceptRanges), ("bobbin/tree.reserved", laid_bobbin_tree_reserved), ("bobbin/tree.exprs", laid_bobbin_tree_exprs), ("bobbin/tree.stmts", laid_bobbin_tree_stmts), ("unicode/utf8.first", laid_unicode_utf8_first)], narrowed := true }
def TreePartsUptoSaid : Prop := treePartsUptoRow.holds Tryd.pinned (OpenSpec.upto treePartsSpec)

/-- 'bobbinlaw02.TreeSame', WHERE WHAT IT READS IS OF BULK AT MOST 1048576: true; the input reads as it did. -/
def treeSameUptoRow : OpenClaim := { program := "ytebopfpgicamiaadoor", sum := "152d56bd067ce3a1b70db05a71e88438225db063302c866ae3d2e7e41ce3a303", func := "bobbin/bobbinlaw02.TreeSame", spec := "treeSame", inPlace := ["internal/bytealg.IndexByteString", "internal/bytealg.IndexString"], unfollowed := true, recurses := true, named := ["bobbin/tree.reserved", "unicode/utf8.first", "unicode/utf8.acceptRanges", "bobbin/tree.stmts", "bobbin/tree.exprs", "internal/bytealg.MaxLen"], loops := true, apart := false, laid := [("unicode/utf8.acceptRanges", laid_unicode_utf8_acceptRanges), ("bobbin/tree.reserved", laid_bobbin_tree_reserved), ("bobbin/tree.exprs", laid_bobbin_tree_exprs), ("bobbin/tree.stmts", laid_bobbin_tree_stmts), ("unicode/utf8.first", laid_unicode_utf8_first)], narrowed := true }
def TreeSameUptoSaid : Prop := treeSameUptoRow.holds Tryd.pinned (OpenSpec.upto treeSameSpec)

/-- 'bobbinlaw02.TreeAlone', WHERE WHAT IT READS IS OF BULK AT MOST 1048576: true; the input reads as it did. -/
def treeAloneUptoRow : OpenClaim := { program := "ytebopfpgicamiaadoor", sum := "152d56bd067ce3a1b70db05a71e88438225db063302c866ae3d2e7e41ce3a303", func := "bobbin/bobbinlaw02.TreeAlone", spec := "treeAlone", inPlace := ["internal/bytealg.IndexByteString", "internal/bytealg.IndexString"], unfollowed := true, recurses := true, named := ["bobbin/tree.reserved", "unicode/utf8.first", "unicode/utf8.acceptRanges", "bobbin/tree.stmts", "bobbin/tree.exprs", "internal/bytealg.MaxLen"], loops := true, apart := false, laid := [("unicode/utf8.acceptRanges", laid_unicode_utf8_acceptRanges), ("bobbin/tree.reserved", laid_bobbin_tree_reserved), ("bobbin/tree.exprs", laid_bobbin_tree_exprs), ("bobbin/tree.stmts", laid_bobbin_tree_stmts), ("unicode/utf8.first", laid_unicode_utf8_first)], narrowed := true }
def TreeAloneUptoSaid : Prop := treeAloneUptoRow.holds Tryd.pinned (OpenSpec.upto treeAloneSpec)

end Rows
end Go.Proofs.YtebopfpgicamiaaDoor
