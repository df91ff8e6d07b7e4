/-
  NARROWER THAN 'FOR EVERY INPUT', by the rows' own cells (each row's printed sentence says how): FlowMay: laid · FlowCuts: laid · FlowSame: laid · FlowAll: laid.
  DERIVED. THE GIVEN ROWS OF THIS SEAT. 4 by the template 'for every input the law returns true; each argument reads behind the call as it read before'; 0 by the template 'total and deterministic' (their statements: YtcoepjbipbihfaaGreatDoorTotals.lean).
  GIVEN WITH THE SEED: the statements are not yours to turn. If you find one false, say at which input.
  Laid BY PROGRAM, IN A SANDBOX (cutbox-rows.mjs): the forced cells as the released guide's own fill.sh prints them over the translation 2775bb6c49a1c31d… (all of the seat's roots in one cut). By AI agents, Wed Nov 11 2026. No macro, syntax, notation, axiom, sorry.
-/
import Derived.Test.YtcoepjbipbihfaaGreatDoorChecked
import GoSem.PinnedTables
import GoSem.Claim
import GoSem.ClaimJoined
import GoSem.ClaimMapViews
import Derived.JoinedTies
import Derived.KernelRfl
namespace Go.Proofs.YtcoepjbipbihfaaGreatDoor
/- THE CELL 'sum', in the pinned program and in every row, IS THE sha256 OF THE DUMP (.gsa) THAT YtcoepjbipbihfaaGreatDoorProg.lean LOADS. Nothing in Lean hashes anything: it is a label: what it is worth is what the hold of that sum in a sandbox is worth. -/
noncomputable def Tryz.pinned : Pinned := { name := "ytcoepjbipbihfaagreatdoor", sum := "2775bb6c49a1c31d09748df8c230a86b1a802b250a0ca3d4030a52c1a87978b1", checked := Tryz.checked }
namespace Rows
def none {H : Type} : Left H := { results := [], args := [] }

/- WHAT THE LISTED PACKAGE-LEVEL VARIABLES READ AS WHEN THE CALL BEGINS. Each datum BY PROGRAM (the guide's laid-datum.mjs) off the statement by which the dump's own 'gosem.cut.vars' lays the variable. In a bare row this is a premise. The card (YtcoepjbipbihfaaGreatDoorCards.lean) ties it to the program's text. -/
def laid_unicode_utf8_acceptRanges {H : Type} : DataW H := .agg [.agg [.lit (.int .u8 128), .lit (.int .u8 191)], .agg [.lit (.int .u8 160), .lit (.int .u8 191)], .agg [.lit (.int .u8 128), .lit (.int .u8 159)], .agg [.lit (.int .u8 144), .lit (.int .u8 191)], .agg [.lit (.int .u8 128), .lit (.int .u8 143)], .agg [.lit (.int .u8 0), .lit (.int .u8 0)], .agg [.lit (.int .u8 0), .lit (.int .u8 0)], .agg [.lit (.int .u8 0), .lit (.int .u8 0)], .agg [.lit (.int .u8 0), .lit (.int .u8 0)], .agg [.lit (.int .u8 0), .lit (.int .u8 0)], .agg [.lit (.int .u8 0), .lit (.int .u8 0)], .agg [.lit (.int .u8 0), .lit (.int .u8 0)], .agg [.lit (.int .u8 0), .lit (.int .u8 0)], .agg [.lit (.int .u8 0), .lit (.int .u8 0)], .agg [.lit (.int .u8 0), .lit (.int .u8 0)], .agg [.lit (.int .u8 0), .lit (.int .u8 0)]]
def laid_bobbin_tree_reserved {H : Type} : DataW H := .agg [.lit (.string [103, 108, 111, 98, 97, 108]), .lit (.string [97, 114, 114, 97, 121]), .lit (.string [108, 111, 99, 107]), .lit (.string [102, 117, 110, 99]), .lit (.string [116, 104, 114, 101, 97, 100]), .lit (.string [118, 97, 114]), .lit (.string [105, 102]), .lit (.string [101, 108, 115, 101]), .lit (.string [119, 104, 105, 108, 101]), .lit (.string [119, 105, 116, 104]), .lit (.string [112, 114, 105, 110, 116]), .lit (.string [99, 97, 108, 108]), .lit (.string [114, 101, 116, 117, 114, 110]), .lit (.string [116, 114, 117, 101]), .lit (.string [102, 97, 108, 115, 101])]
def laid_bobbin_code_ops {H : Type} : DataW H := .agg [.agg [.lit (.bool false), .lit (.bool false), .lit (.bool false), .lit (.bool false), .lit (.int .i64 0)], .agg [.lit (.bool true), .lit (.bool false), .lit (.bool false), .lit (.bool false), .lit (.int .i64 1)], .agg [.lit (.bool true), .lit (.bool true), .lit (.bool false), .lit (.bool false), .lit (.int .i64 0)], .agg [.lit (.bool true), .lit (.bool true), .lit (.bool false), .lit (.bool false), .lit (.int .i64 2)], .agg [.lit (.bool true), .lit (.bool true), .lit (.bool true), .lit (.bool false), .lit (.int .i64 3)], .agg [.lit (.bool true), .lit (.bool true), .lit (.bool false), .lit (.bool true), .lit (.int .i64 4)], .agg [.lit (.bool false), .lit (.bool true), .lit (.bool true), .lit (.bool true), .lit (.int .i64 4)], .agg [.lit (.bool false), .lit (.bool false), .lit (.bool false), .lit (.bool false), .lit (.int .i64 5)], .agg [.lit (.bool false), .lit (.bool false), .lit (.bool false), .lit (.bool false), .lit (.int .i64 5)], .agg [.lit (.bool false), .lit (.bool true), .lit (.bool false), .lit (.bool false), .lit (.int .i64 0)], .agg [.lit (.bool true), .lit (.bool false), .lit (.bool false), .lit (.bool false), .lit (.int .i64 6)], .agg [.lit (.bool false), .lit (.bool false), .lit (.bool false), .lit (.bool false), .lit (.int .i64 7)], .agg [.lit (.bool false), .lit (.bool true), .lit (.bool false), .lit (.bool false), .lit (.int .i64 7)], .agg [.lit (.bool false), .lit (.bool true), .lit (.bool false), .lit (.bool false), .lit (.int .i64 0)]]
/-- One of Go's own tables, pinned by name: the form's constant. -/
def laid_unicode_utf8_first : DataW Unit := Go.Pinned.utf8First

/-- 'bobbinlaw11.FlowMay': WHATEVER THE INPUT: true; the input reads as it did. -/
def flowMaySpec : ChangeSpec := { name := "flowMay", fn := fun _ => fun
  | [d1, d2] => { results := [.lit (.bool true)], args := [d1, d2] }
  | _ => none }
def flowMayRow : OpenClaim := { program := "ytcoepjbipbihfaagreatdoor", sum := "2775bb6c49a1c31d09748df8c230a86b1a802b250a0ca3d4030a52c1a87978b1", func := "bobbin/bobbinlaw11.FlowMay", spec := "flowMay", inPlace := ["internal/bytealg.IndexByteString", "internal/bytealg.IndexString"], unfollowed := true, recurses := true, named := ["bobbin/code.ops", "bobbin/tree.reserved", "unicode/utf8.first", "unicode/utf8.acceptRanges", "internal/bytealg.MaxLen"], apart := false, laid := [("unicode/utf8.acceptRanges", laid_unicode_utf8_acceptRanges), ("bobbin/tree.reserved", laid_bobbin_tree_reserved), ("bobbin/code.ops", laid_bobbin_code_ops), ("unicode/utf8.first", laid_unicode_utf8_first)] }
def FlowMaySaid : Prop := flowMayRow.holds Tryz.pinned (OpenSpec.ofChange flowMaySpec)

/-- ITS FALSE NEIGHBOUR: 'it returns false'. Refute it at one input. -/
def flowMayWrong : ChangeSpec := { name := "flowMay", fn := fun _ => fun
  | [d1, d2] => { results := [.lit (.bool false)], args := [d1, d2] }
  | _ => none }
def FlowMayWrongFalsely : Prop := flowMayRow.holds Tryz.pinned (OpenSpec.ofChange flowMayWrong)

/-- 'bobbinlaw11.FlowCuts': WHATEVER THE INPUT: true; the input reads as it did. -/
def flowCutsSpec : ChangeSpec := { name := "flowCuts", fn := fun _ => fun
  | [d] => { results := [.lit (.bool true)], args := [d] }
  | _ => none }
def flowCutsRow : OpenClaim := { program := "ytcoepjbipbihfaagreatdoor", sum := "2775bb6c49a1c31d09748df8c230a86b1a802b250a0ca3d4030a52c1a87978b1", func := "bobbin/bobbinlaw11.FlowCuts", spec := "flowCuts", inPlace := ["internal/bytealg.IndexByteString", "internal/bytealg.IndexString"], unfollowed := true, recurses := true, named := ["bobbin/tree.reserved", "unicode/utf8.first", "unicode/utf8.acceptRanges", "bobbin/code.ops", "internal/bytealg.MaxLen"], apart := false, laid := [("unicode/utf8.acceptRanges", laid_unicode_utf8_acceptRanges), ("bobbin/tree.reserved", laid_bobbin_tree_reserved), ("bobbin/code.ops", laid_bobbin_code_ops), ("unicode/utf8.first", laid_unicode_utf8_first)] }
def FlowCutsSaid : Prop := flowCutsRow.holds Tryz.pinned (OpenSpec.ofChange flowCutsSpec)

/-- ITS FALSE NEIGHBOUR: 'it returns false'. Refute it at one input. -/
def flowCutsWrong : ChangeSpec := { name := "flowCuts", fn := fun _ => fun
  | [d] => { results := [.lit (.bool false)], args := [d] }
  | _ => none }
def FlowCutsWrongFalsely : Prop := flowCutsRow.holds Tryz.pinned (OpenSpec.ofChange flowCutsWrong)

/-- 'bobbinlaw11.FlowSame': WHATEVER THE INPUT: true; the input reads as it did. -/
def flowSameSpec : ChangeSpec := { name := "flowSame", fn := fun _ => fun
  | [d1, d2, d3] => { results := [.lit (.bool true)], args := [d1, d2, d3] }
  | _ => none }
def flowSameRow : OpenClaim := { program := "ytcoepjbipbihfaagreatdoor", sum := "2775bb6c49a1c31d09748df8c230a86b1a802b250a0ca3d4030a52c1a87978b1", func := "bobbin/bobbinlaw11.FlowSame", spec := "flowSame", inPlace := ["internal/bytealg.IndexByteString", "internal/bytealg.IndexString"], unfollowed := true, recurses := true, named := ["bobbin/tree.reserved", "unicode/utf8.first", "unicode/utf8.acceptRanges", "bobbin/code.ops", "internal/bytealg.MaxLen"], apart := false, laid := [("unicode/utf8.acceptRanges", laid_unicode_utf8_acceptRanges), ("bobbin/tree.reserved", laid_bobbin_tree_reserved), ("bobbin/code.ops", laid_bobbin_code_ops), ("unicode/utf8.first", laid_unicode_utf8_first)] }
def FlowSameSaid : Prop := flowSameRow.holds Tryz.pinned (OpenSpec.ofChange flowSameSpec)

/-- ITS FALSE NEIGHBOUR: 'it returns false'. Refute it at one input. -/
def flowSameWrong : ChangeSpec := { name := "flowSame", fn := fun _ => fun
  | [d1, d2, d3] => { results := [.lit (.bool false)], args := [d1, d2, d3] }
  | _ => none }
def FlowSameWrongFalsely : Prop := flowSameRow.holds Tryz.pinned (OpenSpec.ofChange flowSameWrong)

/-- 'bobbinlaw11.FlowAll': WHATEVER THE INPUT: true; the input reads as it did. -/
def flowAllSpec : ChangeSpec := { name := "flowAll", fn := fun _ => fun
  | [d] => { results := [.lit (.bool true)], args := [d] }
  | _ => none }
def flowAllRow : OpenClaim := { program := "ytcoepjbipbihfaagreatdoor", sum := "2775bb6c49a1c31d09748df8c230a86b1a802b250a0ca3d4030a52c1a87978b1", func := "bobbin/bobbinlaw11.FlowAll", spec := "flowAll", inPlace := ["internal/bytealg.IndexByteString", "internal/bytealg.IndexString"], unfollowed := true, recurses := true, named := ["bobbin/tree.reserved", "unicode/utf8.first", "unicode/utf8.acceptRanges", "bobbin/code.ops", "internal/bytealg.MaxLen"], apart := false, laid := [("unicode/utf8.acceptRanges", laid_unicode_utf8_acceptRanges), ("bobbin/tree.reserved", laid_bobbin_tree_reserved), ("bobbin/code.ops", laid_bobbin_code_ops), ("unicode/utf8.first", laid_unicode_utf8_first)] }
def FlowAllSaid : Prop := flowAllRow.holds Tryz.pinned (OpenSpec.ofChange flowAllSpec)

/-- ITS FALSE NEIGHBOUR: 'it returns false'. Refute it at one input. -/
def flowAllWrong : ChangeSpec := { name := "flowAll", fn := fun _ => fun
  | [d] => { results := [.lit (.bool false)], args := [d] }
  | _ => none }
def FlowAllWrongFalsely : Prop := flowAllRow.holds Tryz.pinned (OpenSpec.ofChange flowAllWrong)

/- THE SECOND FORM. 'bulk': how many values and letters a reading holds, each counted each time it is reached (what is shared counts as often as it is met; a slice's spare places count too). A statement '..UptoSaid' is the law's where the arguments, and the package variables that the reading takes, are together of bulk at most 1048576: NARROWER than '..Said'. Prove '..Said' where nothing that the law and all that it calls make is longer than what came in: it says more and counts as full. Else prove '..UptoSaid'. A law counts once. -/
mutual
def uptoBulk {H : Type} : DataW H → Nat
  | .lit (.string bytes) => bytes.length + 1
  | .lit _ => 1
  | .nil => 1
  | .ptr d => uptoBulk d + 1
  | .slice elems spare => uptoBulkAll elems + uptoBulkAll spare + 1
  | .agg parts => uptoBulkAll parts + 1
  | .iface _ d => uptoBulk d + 1
  | .map entries => uptoBulkEntries entries + 1
  | .held _ => 1
def uptoBulkAll {H : Type} : List (DataW H) → Nat
  | [] => 0
  | d :: r => uptoBulk d + uptoBulkAll r
def uptoBulkEntries {H : Type} : List (Lit × DataW H) → Nat
  | [] => 0
  | x :: r => uptoBulkEntry x + uptoBulkEntries r
def uptoBulkEntry {H : Type} : Lit × DataW H → Nat
  | (.string bytes, d) => bytes.length + uptoBulk d + 1
  | (_, d) => uptoBulk d + 1
 end
def uptoSmall : (H : Type) → List (DataW H) → Bool := fun _ ds => decide (uptoBulkAll ds ≤ 1048576)
def OpenSpec.upto (s : _root_.Go.ChangeSpec) : _root_.Go.OpenSpec := { _root_.Go.OpenSpec.ofChange s with cond := some uptoSmall }

/-- 'bobbinlaw11.FlowMay', WHERE WHAT IT READS IS OF BULK AT MOST 1048576: true; the input reads as it did. -/
def flowMayUptoRow : OpenClaim := { program := "ytcoepjbipbihfaagreatdoor", sum := "2775bb6c49a1c31d09748df8c230a86b1a802b250a0ca3d4030a52c1a87978b1", func := "bobbin/bobbinlaw11.FlowMay", spec := "flowMay", inPlace := ["internal/bytealg.IndexByteString", "internal/bytealg.IndexString"], unfollowed := true, recurses := true, named := ["bobbin/code.ops", "bobbin/tree.reserved", "unicode/utf8.first", "unicode/utf8.acceptRanges", "internal/bytealg.MaxLen"], apart := false, laid := [("unicode/utf8.acceptRanges", laid_unicode_utf8_acceptRanges), ("bobbin/tree.reserved", laid_bobbin_tree_reserved), ("bobbin/code.ops", laid_bobbin_code_ops), ("unicode/utf8.first", laid_unicode_utf8_first)], narrowed := true }
def FlowMayUptoSaid : Prop := flowMayUptoRow.holds Tryz.pinned (OpenSpec.upto flowMaySpec)

/-- 'bobbinlaw11.FlowCuts', WHERE WHAT IT READS IS OF BULK AT MOST 1048576: true; the input reads as it did. -/
def flowCutsUptoRow : OpenClaim := { program := "ytcoepjbipbihfaagreatdoor", sum := "2775bb6c49a1c31d09748df8c230a86b1a802b250a0ca3d4030a52c1a87978b1", func := "bobbin/bobbinlaw11.FlowCuts", spec := "flowCuts", inPlace := ["internal/bytealg.IndexByteString", "internal/bytealg.IndexString"], unfollowed := true, recurses := true, named := ["bobbin/tree.reserved", "unicode/utf8.first", "unicode/utf8.acceptRanges", "bobbin/code.ops", "internal/bytealg.MaxLen"], apart := false, laid := [("unicode/utf8.acceptRanges", laid_unicode_utf8_acceptRanges), ("bobbin/tree.reserved", laid_bobbin_tree_reserved), ("bobbin/code.ops", laid_bobbin_code_ops), ("unicode/utf8.first", laid_unicode_utf8_first)], narrowed := true }
def FlowCutsUptoSaid : Prop := flowCutsUptoRow.holds Tryz.pinned (OpenSpec.upto flowCutsSpec)

/-- 'bobbinlaw11.FlowSame', WHERE WHAT IT READS IS OF BULK AT MOST 1048576: true; the input reads as it did. -/
def flowSameUptoRow : OpenClaim := { program := "ytcoepjbipbihfaagreatdoor", sum := "2775bb6c49a1c31d09748df8c230a86b1a802b250a0ca3d4030a52c1a87978b1", func := "bobbin/bobbinlaw11.FlowSame", spec := "flowSame", inPlace := ["internal/bytealg.IndexByteString", "internal/bytealg.IndexString"], unfollowed := true, recurses := true, named := ["bobbin/tree.reserved", "unicode/utf8.first", "unicode/utf8.acceptRanges", "bobbin/code.ops", "internal/bytealg.MaxLen"], apart := false, laid := [("unicode/utf8.acceptRanges", laid_unicode_utf8_acceptRanges), ("bobbin/tree.reserved", laid_bobbin_tree_reserved), ("bobbin/code.ops", laid_bobbin_code_ops), ("unicode/utf8.first", laid_unicode_utf8_first)], narrowed := true }
def FlowSameUptoSaid : Prop := flowSameUptoRow.holds Tryz.pinned (OpenSpec.upto flowSameSpec)

/-- 'bobbinlaw11.FlowAll', WHERE WHAT IT READS IS OF BULK AT MOST 1048576: true; the input reads as it did. -/
def flowAllUptoRow : OpenClaim := { program := "ytcoepjbipbihfaagreatdoor", sum := "2775bb6c49a1c31d09748df8c230a86b1a802b250a0ca3d4030a52c1a87978b1", func := "bobbin/bobbinlaw11.FlowAll", spec := "flowAll", inPlace := ["internal/bytealg.IndexByteString", "internal/bytealg.IndexString"], unfollowed := true, recurses := true, named := ["bobbin/tree.reserved", "unicode/utf8.first", "unicode/utf8.acceptRanges", "bobbin/code.ops", "internal/bytealg.MaxLen"], apart := false, laid := [("unicode/utf8.acceptRanges", laid_unicode_utf8_acceptRanges), ("bobbin/tree.reserved", laid_bobbin_tree_reserved), ("bobbin/code.ops", laid_bobbin_code_ops), ("unicode/utf8.first", laid_unicode_utf8_first)], narrowed := true }
def FlowAllUptoSaid : Prop := flowAllUptoRow.holds Tryz.pinned (OpenSpec.upto flowAllSpec)

end Rows
end Go.Proofs.YtcoepjbipbihfaaGreatDoor
