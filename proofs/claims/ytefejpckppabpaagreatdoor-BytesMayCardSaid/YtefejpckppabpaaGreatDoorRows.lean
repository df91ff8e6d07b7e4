/-
  NARROWER THAN 'FOR EVERY INPUT', by the rows' own cells (each row's printed sentence says how): BytesMay: laid · BytesEncode: laid · BytesHeights: laid.
  DERIVED. THE GIVEN ROWS OF THIS SEAT. 3 by the template 'for every input the law returns true; each argument reads behind the call as it read before'; 0 by the template 'total and deterministic' (their statements: YtefejpckppabpaaGreatDoorTotals.lean).
  GIVEN WITH THE SEED: the statements are not yours to turn. If you find one false, say at which input.
  Laid BY PROGRAM, IN A SANDBOX (cutbox-rows.mjs): the forced cells as the released guide's own fill.sh prints them over the translation b939c0c80ebc1fa5… (all of the seat's roots in one cut). By AI agents, Wed Nov 11 2026. No macro, syntax, notation, axiom, sorry.
-/
import Derived.Test.YtefejpckppabpaaGreatDoorChecked
import GoSem.PinnedTables
import GoSem.Claim
import GoSem.ClaimJoined
import GoSem.ClaimMapViews
import Derived.JoinedTies
import Derived.KernelRfl
namespace Go.Proofs.YtefejpckppabpaaGreatDoor
/- THE CELL 'sum', in the pinned program and in every row, IS THE sha256 OF THE DUMP (.gsa) THAT YtefejpckppabpaaGreatDoorProg.lean LOADS. Nothing in Lean hashes anything: it is a label: what it is worth is what the hold of that sum in a sandbox is worth. -/
noncomputable def Tryz.pinned : Pinned := { name := "ytefejpckppabpaagreatdoor", sum := "b939c0c80ebc1fa5024bbb748b74df75fe157d6d6e6bab6f203d299f2c12bfa3", checked := Tryz.checked }
namespace Rows
def none {H : Type} : Left H := { results := [], args := [] }

/- WHAT THE LISTED PACKAGE-LEVEL VARIABLES READ AS WHEN THE CALL BEGINS. Each datum BY PROGRAM (the guide's laid-datum.mjs) off the statement by which the dump's own 'gosem.cut.vars' lays the variable. In a bare row this is a premise. The card (YtefejpckppabpaaGreatDoorCards.lean) ties it to the program's text. -/
def laid_unicode_utf8_acceptRanges {H : Type} : DataW H := .agg [.agg [.lit (.int .u8 128), .lit (.int .u8 191)], .agg [.lit (.int .u8 160), .lit (.int .u8 191)], .agg [.lit (.int .u8 128), .lit (.int .u8 159)], .agg [.lit (.int .u8 144), .lit (.int .u8 191)], .agg [.lit (.int .u8 128), .lit (.int .u8 143)], .agg [.lit (.int .u8 0), .lit (.int .u8 0)], .agg [.lit (.int .u8 0), .lit (.int .u8 0)], .agg [.lit (.int .u8 0), .lit (.int .u8 0)], .agg [.lit (.int .u8 0), .lit (.int .u8 0)], .agg [.lit (.int .u8 0), .lit (.int .u8 0)], .agg [.lit (.int .u8 0), .lit (.int .u8 0)], .agg [.lit (.int .u8 0), .lit (.int .u8 0)], .agg [.lit (.int .u8 0), .lit (.int .u8 0)], .agg [.lit (.int .u8 0), .lit (.int .u8 0)], .agg [.lit (.int .u8 0), .lit (.int .u8 0)], .agg [.lit (.int .u8 0), .lit (.int .u8 0)]]
def laid_bobbin_tree_reserved {H : Type} : DataW H := .agg [.lit (.string [103, 108, 111, 98, 97, 108]), .lit (.string [97, 114, 114, 97, 121]), .lit (.string [108, 111, 99, 107]), .lit (.string [102, 117, 110, 99]), .lit (.string [116, 104, 114, 101, 97, 100]), .lit (.string [118, 97, 114]), .lit (.string [105, 102]), .lit (.string [101, 108, 115, 101]), .lit (.string [119, 104, 105, 108, 101]), .lit (.string [119, 105, 116, 104]), .lit (.string [112, 114, 105, 110, 116]), .lit (.string [99, 97, 108, 108]), .lit (.string [114, 101, 116, 117, 114, 110]), .lit (.string [116, 114, 117, 101]), .lit (.string [102, 97, 108, 115, 101])]
def laid_bobbin_code_ops {H : Type} : DataW H := .agg [.agg [.lit (.bool false), .lit (.bool false), .lit (.bool false), .lit (.bool false), .lit (.int .i64 0)], .agg [.lit (.bool true), .lit (.bool false), .lit (.bool false), .lit (.bool false), .lit (.int .i64 1)], .agg [.lit (.bool true), .lit (.bool true), .lit (.bool false), .lit (.bool false), .lit (.int .i64 0)], .agg [.lit (.bool true), .lit (.bool true), .lit (.bool false), .lit (.bool false), .lit (.int .i64 2)], .agg [.lit (.bool true), .lit (.bool true), .lit (.bool true), .lit (.bool false), .lit (.int .i64 3)], .agg [.lit (.bool true), .lit (.bool true), .lit (.bool false), .lit (.bool true), .lit (.int .i64 4)], .agg [.lit (.bool false), .lit (.bool true), .lit (.bool true), .lit (.bool true), .lit (.int .i64 4)], .agg [.lit (.bool false), .lit (.bool false), .lit (.bool false), .lit (.bool false), .lit (.int .i64 5)], .agg [.lit (.bool false), .lit (.bool false), .lit (.bool false), .lit (.bool false), .lit (.int .i64 5)], .agg [.lit (.bool false), .lit (.bool true), .lit (.bool false), .lit (.bool false), .lit (.int .i64 0)], .agg [.lit (.bool true), .lit (.bool false), .lit (.bool false), .lit (.bool false), .lit (.int .i64 6)], .agg [.lit (.bool false), .lit (.bool false), .lit (.bool false), .lit (.bool false), .lit (.int .i64 7)], .agg [.lit (.bool false), .lit (.bool true), .lit (.bool false), .lit (.bool false), .lit (.int .i64 7)], .agg [.lit (.bool false), .lit (.bool true), .lit (.bool false), .lit (.bool false), .lit (.int .i64 0)]]
def laid_bobbin_bytes_ops {H : Type} : DataW H := .agg [.agg [.lit (.int .i64 0), .lit (.int .i64 0), .lit (.int .i64 0)], .agg [.lit (.int .i64 1), .lit (.int .i64 0), .lit (.int .i64 1)], .agg [.lit (.int .i64 2), .lit (.int .i64 0), .lit (.int .i64 1)], .agg [.lit (.int .i64 2), .lit (.int .i64 1), .lit (.int .i64 0)], .agg [.lit (.int .i64 3), .lit (.int .i64 1), .lit (.int .i64 1)], .agg [.lit (.int .i64 4), .lit (.int .i64 2), .lit (.int .i64 1)], .agg [.lit (.int .i64 5), .lit (.int .i64 1), .lit (.int .i64 1)], .agg [.lit (.int .i64 5), .lit (.int .i64 2), .lit (.int .i64 0)], .agg [.lit (.int .i64 6), .lit (.int .i64 0), .lit (.int .i64 0)], .agg [.lit (.int .i64 6), .lit (.int .i64 0), .lit (.int .i64 0)], .agg [.lit (.int .i64 0), .lit (.int .i64 1), .lit (.int .i64 0)], .agg [.lit (.int .i64 7), .lit (.int .i64 0), .lit (.int .i64 1)], .agg [.lit (.int .i64 8), .lit (.int .i64 0), .lit (.int .i64 0)], .agg [.lit (.int .i64 8), .lit (.int .i64 1), .lit (.int .i64 0)], .agg [.lit (.int .i64 0), .lit (.int .i64 1), .lit (.int .i64 0)]]
/-- One of Go's own tables, pinned by name: the form's constant. -/
def laid_unicode_utf8_first : DataW Unit := Go.Pinned.utf8First

/-- 'bobbinlaw29.BytesMay': WHATEVER THE INPUT: true; the input reads as it did. -/
def bytesMaySpec : ChangeSpec := { name := "bytesMay", fn := fun _ => fun
  | [d1, d2, d3] => { results := [.lit (.bool true)], args := [d1, d2, d3] }
  | _ => none }
def bytesMayRow : OpenClaim := { program := "ytefejpckppabpaagreatdoor", sum := "b939c0c80ebc1fa5024bbb748b74df75fe157d6d6e6bab6f203d299f2c12bfa3", func := "bobbin/bobbinlaw29.BytesMay", spec := "bytesMay", inPlace := ["internal/bytealg.IndexByteString", "internal/bytealg.IndexString"], unfollowed := true, recurses := true, named := ["bobbin/tree.reserved", "unicode/utf8.first", "unicode/utf8.acceptRanges", "bobbin/code.ops", "bobbin/bytes.ops", "internal/bytealg.MaxLen"], apart := false, laid := [("unicode/utf8.acceptRanges", laid_unicode_utf8_acceptRanges), ("bobbin/tree.reserved", laid_bobbin_tree_reserved), ("bobbin/code.ops", laid_bobbin_code_ops), ("bobbin/bytes.ops", laid_bobbin_bytes_ops), ("unicode/utf8.first", laid_unicode_utf8_first)] }
def BytesMaySaid : Prop := bytesMayRow.holds Tryz.pinned (OpenSpec.ofChange bytesMaySpec)

/-- ITS FALSE NEIGHBOUR: 'it returns false'. Refute it at one input. -/
def bytesMayWrong : ChangeSpec := { name := "bytesMay", fn := fun _ => fun
  | [d1, d2, d3] => { results := [.lit (.bool false)], args := [d1, d2, d3] }
  | _ => none }
def BytesMayWrongFalsely : Prop := bytesMayRow.holds Tryz.pinned (OpenSpec.ofChange bytesMayWrong)

/-- 'bobbinlaw29.BytesEncode': WHATEVER THE INPUT: true; the input reads as it did. -/
def bytesEncodeSpec : ChangeSpec := { name := "bytesEncode", fn := fun _ => fun
  | [d] => { results := [.lit (.bool true)], args := [d] }
  | _ => none }
def bytesEncodeRow : OpenClaim := { program := "ytefejpckppabpaagreatdoor", sum := "b939c0c80ebc1fa5024bbb748b74df75fe157d6d6e6bab6f203d299f2c12bfa3", func := "bobbin/bobbinlaw29.BytesEncode", spec := "bytesEncode", inPlace := ["internal/bytealg.IndexByteString", "internal/bytealg.IndexString"], unfollowed := true, recurses := true, named := ["bobbin/tree.reserved", "unicode/utf8.first", "unicode/utf8.acceptRanges", "bobbin/code.ops", "bobbin/bytes.ops", "internal/bytealg.MaxLen"], apart := false, laid := [("unicode/utf8.acceptRanges", laid_unicode_utf8_acceptRanges), ("bobbin/tree.reserved", laid_bobbin_tree_reserved), ("bobbin/code.ops", laid_bobbin_code_ops), ("bobbin/bytes.ops", laid_bobbin_bytes_ops), ("unicode/utf8.first", laid_unicode_utf8_first)] }
def BytesEncodeSaid : Prop := bytesEncodeRow.holds Tryz.pinned (OpenSpec.ofChange bytesEncodeSpec)

/-- ITS FALSE NEIGHBOUR: 'it returns false'. Refute it at one input. -/
def bytesEncodeWrong : ChangeSpec := { name := "bytesEncode", fn := fun _ => fun
  | [d] => { results := [.lit (.bool false)], args := [d] }
  | _ => none }
def BytesEncodeWrongFalsely : Prop := bytesEncodeRow.holds Tryz.pinned (OpenSpec.ofChange bytesEncodeWrong)

/-- 'bobbinlaw29.BytesHeights': WHATEVER THE INPUT: true; the input reads as it did. -/
def bytesHeightsSpec : ChangeSpec := { name := "bytesHeights", fn := fun _ => fun
  | [d1, d2, d3] => { results := [.lit (.bool true)], args := [d1, d2, d3] }
  | _ => none }
def bytesHeightsRow : OpenClaim := { program := "ytefejpckppabpaagreatdoor", sum := "b939c0c80ebc1fa5024bbb748b74df75fe157d6d6e6bab6f203d299f2c12bfa3", func := "bobbin/bobbinlaw29.BytesHeights", spec := "bytesHeights", inPlace := ["internal/bytealg.IndexByteString", "internal/bytealg.IndexString"], unfollowed := true, recurses := true, named := ["bobbin/tree.reserved", "unicode/utf8.first", "unicode/utf8.acceptRanges", "bobbin/code.ops", "bobbin/bytes.ops", "internal/bytealg.MaxLen"], apart := false, laid := [("unicode/utf8.acceptRanges", laid_unicode_utf8_acceptRanges), ("bobbin/tree.reserved", laid_bobbin_tree_reserved), ("bobbin/code.ops", laid_bobbin_code_ops), ("bobbin/bytes.ops", laid_bobbin_bytes_ops), ("unicode/utf8.first", laid_unicode_utf8_first)] }
def BytesHeightsSaid : Prop := bytesHeightsRow.holds Tryz.pinned (OpenSpec.ofChange bytesHeightsSpec)

/-- ITS FALSE NEIGHBOUR: 'it returns false'. Refute it at one input. -/
def bytesHeightsWrong : ChangeSpec := { name := "bytesHeights", fn := fun _ => fun
  | [d1, d2, d3] => { results := [.lit (.bool false)], args := [d1, d2, d3] }
  | _ => none }
def BytesHeightsWrongFalsely : Prop := bytesHeightsRow.holds Tryz.pinned (OpenSpec.ofChange bytesHeightsWrong)

/- THE SECOND FORM. 'bulk': how many values and letters a reading holds, each counted each time it is reached (what is shared counts as often as it is met; a slice's spare places count too). A statement '..UptoSaid' is the law's where the arguments, and the package variables that the reading takes, are together of bulk at most 1048576: NARROWER than '..Said'. Prove '..Said' where nothing that the law and all that it calls make is longer than what came in: it says more and counts as full. Else prove '..UptoSaid'. A law counts once. -/
mutual
def uptoBulk {H : Type} : DataW H → Nat
  | .lit (.string bytes) => bytes.length + 1
  | .lit _ => 1
  | .nil => 1
  | .ptr d => uptoBulk d + 1
  | .slice elems spare => uptoBulkAll elems + uptoBulkAll spare + 1
  | .agg parts => uptoBulkAll parts + 1
  | .iface _ d => uptoBulk d + 1
  | .map entries => uptoBulkEntries entries + 1
  | .held _ => 1
def uptoBulkAll {H : Type} : List (DataW H) → Nat
  | [] => 0
  | d :: r => uptoBulk d + uptoBulkAll r
def uptoBulkEntries {H : Type} : List (Lit × DataW H) → Nat
  | [] => 0
  | x :: r => uptoBulkEntry x + uptoBulkEntries r
def uptoBulkEntry {H : Type} : Lit × DataW H → Nat
  | (.string bytes, d) => bytes.length + uptoBulk d + 1
  | (_, d) => uptoBulk d + 1
 end
def uptoSmall : (H : Type) → List (DataW H) → Bool := fun _ ds => decide (uptoBulkAll ds ≤ 1048576)
def OpenSpec.upto (s : _root_.Go.ChangeSpec) : _root_.Go.OpenSpec := { _root_.Go.OpenSpec.ofChange s with cond := some uptoSmall }

/-- 'bobbinlaw29.BytesMay', WHERE WHAT IT READS IS OF BULK AT MOST 1048576: true; the input reads as it did. -/
def bytesMayUptoRow : OpenClaim := { program := "ytefejpckppabpaagreatdoor", sum := "b939c0c80ebc1fa5024bbb748b74df75fe157d6d6e6bab6f203d299f2c12bfa3", func := "bobbin/bobbinlaw29.BytesMay", spec := "bytesMay", inPlace := ["internal/bytealg.IndexByteString", "internal/bytealg.IndexString"], unfollowed := true, recurses := true, named := ["bobbin/tree.reserved", "unicode/utf8.first", "unicode/utf8.acceptRanges", "bobbin/code.ops", "bobbin/bytes.ops", "internal/bytealg.MaxLen"], apart := false, laid := [("unicode/utf8.acceptRanges", laid_unicode_utf8_acceptRanges), ("bobbin/tree.reserved", laid_bobbin_tree_reserved), ("bobbin/code.ops", laid_bobbin_code_ops), ("bobbin/bytes.ops", laid_bobbin_bytes_ops), ("unicode/utf8.first", laid_unicode_utf8_first)], narrowed := true }
def BytesMayUptoSaid : Prop := bytesMayUptoRow.holds Tryz.pinned (OpenSpec.upto bytesMaySpec)

/-- 'bobbinlaw29.BytesEncode', WHERE WHAT IT READS IS OF BULK AT MOST 1048576: true; the input reads as it did. -/
def bytesEncodeUptoRow : OpenClaim := { program := "ytefejpckppabpaagreatdoor", sum := "b939c0c80ebc1fa5024bbb748b74df75fe157d6d6e6bab6f203d299f2c12bfa3", func := "bobbin/bobbinlaw29.BytesEncode", spec := "bytesEncode", inPlace := ["internal/bytealg.IndexByteString", "internal/bytealg.IndexString"], unfollowed := true, recurses := true, named := ["bobbin/tree.reserved", "unicode/utf8.first", "unicode/utf8.acceptRanges", "bobbin/code.ops", "bobbin/bytes.ops", "internal/bytealg.MaxLen"], apart := false, laid := [("unicode/utf8.acceptRanges", laid_unicode_utf8_acceptRanges), ("bobbin/tree.reserved", laid_bobbin_tree_reserved), ("bobbin/code.ops", laid_bobbin_code_ops), ("bobbin/bytes.ops", laid_bobbin_bytes_ops), ("unicode/utf8.first", laid_unicode_utf8_first)], narrowed := true }
def BytesEncodeUptoSaid : Prop := bytesEncodeUptoRow.holds Tryz.pinned (OpenSpec.upto bytesEncodeSpec)

/-- 'bobbinlaw29.BytesHeights', WHERE WHAT IT READS IS OF BULK AT MOST 1048576: true; the input reads as it did. -/
def bytesHeightsUptoRow : OpenClaim := { program := "ytefejpckppabpaagreatdoor", sum := "b939c0c80ebc1fa5024bbb748b74df75fe157d6d6e6bab6f203d299f2c12bfa3", func := "bobbin/bobbinlaw29.BytesHeights", spec := "bytesHeights", inPlace := ["internal/bytealg.IndexByteString", "internal/bytealg.IndexString"], unfollowed := true, recurses := true, named := ["bobbin/tree.reserved", "unicode/utf8.first", "unicode/utf8.acceptRanges", "bobbin/code.ops", "bobbin/bytes.ops", "internal/bytealg.MaxLen"], apart := false, laid := [("unicode/utf8.acceptRanges", laid_unicode_utf8_acceptRanges), ("bobbin/tree.reserved", laid_bobbin_tree_reserved), ("bobbin/code.ops", laid_bobbin_code_ops), ("bobbin/bytes.ops", laid_bobbin_bytes_ops), ("unicode/utf8.first", laid_unicode_utf8_first)], narrowed := true }
def BytesHeightsUptoSaid : Prop := bytesHeightsUptoRow.holds Tryz.pinned (OpenSpec.upto bytesHeightsSpec)

end Rows
end Go.Proofs.YtefejpckppabpaaGreatDoor
