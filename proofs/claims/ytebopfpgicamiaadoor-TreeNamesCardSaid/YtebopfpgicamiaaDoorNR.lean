/- tree: what the rows share: the package's variables as they are laid, a world to stand in, the bound. -/
import Derived.Test.YtebopfpgicamiaaDoorRows
import Derived.Test.YtebopfpgicamiaaDoorWN
import Derived.Test.YtebopfpgicamiaaDoorM4
import Derived.MakeChecks
import Derived.Lay
import Derived.Deep.DeepHandedRow
namespace Go.Proofs.YtebopfpgicamiaaDoor
set_option linter.unusedSimpArgs false
set_option linter.unusedVariables false
open Go.ChangeShapes Go.WideShapes Go.ChangeAt Go.RowKit Go.Fw

mutual
theorem bulk_is {H : Type} : ∀ d : DataW H, Rows.uptoBulk d = dBulk d
  | .lit l => by cases l <;> rfl
  | .nil => rfl
  | .ptr d => by simp only [Rows.uptoBulk, dBulk, bulk_is d]
  | .slice e s => by simp only [Rows.uptoBulk, dBulk, bulkAll_is e, bulkAll_is s]
  | .agg p => by simp only [Rows.uptoBulk, dBulk, bulkAll_is p]
  | .iface t d => by simp only [Rows.uptoBulk, dBulk, bulk_is d]
  | .map es => by simp only [Rows.uptoBulk, dBulk, bulkEntries_is es]
  | .held h => rfl
theorem bulkAll_is {H : Type} : ∀ l : List (DataW H), Rows.uptoBulkAll l = dBulkAll l
  | [] => rfl
  | d :: r => by simp only [Rows.uptoBulkAll, dBulkAll, bulk_is d, bulkAll_is r]
theorem bulkEntries_is {H : Type} : ∀ l : List (Lit × DataW H), Rows.uptoBulkEntries l = dBulkEntries l
  | [] => rfl
  | x :: r => by simp only [Rows.uptoBulkEntries, dBulkEntries, bulkEntry_is x, bulkEntries_is r]
theorem bulkEntry_is {H : Type} : ∀ x : Lit × DataW H, Rows.uptoBulkEntry x = dBulkEntry x
  | (l, d) => by cases l <;> simp only [Rows.uptoBulkEntry, dBulkEntry, bulk_is d]
end
theorem small {H : Type} {l : List (DataW H)} (hk : Rows.uptoSmall H l = true) : dBulkAll l ≤ 1048576 := by
  have h : Rows.uptoBulkAll l ≤ 1048576 := of_decide_eq_true hk
  rw [bulkAll_is] at h
  exact h

def laid5 : List (String × DataW Unit) := [("unicode/utf8.acceptRanges", Rows.laid_unicode_utf8_acceptRanges), ("bobbin/tree.reserved", Rows.laid_bobbin_tree_reserved), ("bobbin/tree.exprs", Rows.laid_bobbin_tree_exprs), ("bobbin/tree.stmts", Rows.laid_bobbin_tree_stmts), ("unicode/utf8.first", Rows.laid_unicode_utf8_first)]
theorem own : ownKnob Tryd.prog.godebug = none := by kernel_rfl
theorem laid : laidOutB Tryd.prog = true := by kernel_rfl
theorem closed : closedB Tryd.prog argTypes = true := by kernel_rfl
def flatTypes : List TypeId := [59, 58, 86, 85, 3, 4, 2, 66, 9]
theorem flat : flatB Tryd.prog flatTypes = true := by kernel_rfl
theorem exprsAt : GlobAt Tryd.prog flatTypes "bobbin/tree.exprs" Rows.laid_bobbin_tree_exprs 0 exprTabCells :=
  ⟨by kernel_rfl, ⟨59, by kernel_rfl, by simp [flatTypes]⟩, rfl⟩
theorem stmtsAt : GlobAt Tryd.prog flatTypes "bobbin/tree.stmts" Rows.laid_bobbin_tree_stmts 2 stmtTabCells :=
  ⟨by kernel_rfl, ⟨86, by kernel_rfl, by simp [flatTypes]⟩, rfl⟩
theorem resAt : GlobAt Tryd.prog flatTypes "bobbin/tree.reserved" Rows.laid_bobbin_tree_reserved 1 resCells :=
  ⟨by kernel_rfl, ⟨66, by kernel_rfl, by simp [flatTypes]⟩, rfl⟩

/-- The tables, as the walks read them. -/
theorem globs {W : World} (h : laidMetH Tryd.prog laid5 W) : GlobOk (Env.start W) := by
  rw [MakeChecks.laidMetH_plain _ _ _ (by kernel_rfl)] at h
  obtain ⟨ps, hv, _⟩ := h
  intro g cs hg
  have hg' : (if g = 0 then some exprTabCells else if g = 2 then some stmtTabCells else if g = 1 then some resCells else none) = some cs := hg
  split at hg'
  · rename_i he
    subst he
    cases hg'
    exact glob_of_laid flat laid5 ps hv _ _ (by simp [laid5]) _ _ exprsAt
  · split at hg'
    · rename_i he
      subst he
      cases hg'
      exact glob_of_laid flat laid5 ps hv _ _ (by simp [laid5]) _ _ stmtsAt
    · split at hg'
      · rename_i he
        subst he
        cases hg'
        exact glob_of_laid flat laid5 ps hv _ _ (by simp [laid5]) _ _ resAt
      · cases hg'
theorem stood (os : Os) : (World.laidAll Tryd.prog os laid5).Shaped Tryd.prog := World.shaped_of_ZipB (by kernel_rfl) (by kernel_rfl)
theorem met (os : Os) (args : Array Value) : laidMetH Tryd.prog laid5 ((World.laidAll Tryd.prog os laid5).forCall (fun _ _ => 0) ⟨#[], args, []⟩).memory := by
  rw [MakeChecks.laidMetH_plain _ _ _ (by kernel_rfl)]
  exact laidMet_laidAll _ (by kernel_rfl) (by kernel_rfl)
theorem some_of {α : Type} {o : Option α} {p q : α → Bool} (h : o.any (fun x => p x && q x) = true) : ∃ x, o = some x ∧ p x = true ∧ q x = true := by
  cases o with
  | none => cases h
  | some x => exact ⟨x, rfl, by simpa using h⟩
set_option maxRecDepth 100000 in
/-- There is an input that fits. -/
theorem witness {H : Type} {enc : TypeId × Value → H} {os : Os} {f : FuncId} {fn : Func} {s : OpenSpec} {conds : List PathCond} {apart : Bool} {laid : List (String × DataW Unit)} (args : Array Value)
    (hok : Input.okWideB Tryd.prog ((World.laidAll Tryd.prog os laid5).forCall (fun _ _ => 0) ⟨#[], args, []⟩) f ⟨#[], args, []⟩ = true)
    (hrow : s.preRow enc Tryd.prog fn conds apart laid ((World.laidAll Tryd.prog os laid5).forCall (fun _ _ => 0) ⟨#[], args, []⟩).memory args) :
    ∃ (w : World) (tape : Tape) (i : Input), w.os = os ∧ (w.forCall tape i).Shaped Tryd.prog ∧ i.vars = [] ∧ Input.okWide Tryd.prog (w.forCall tape i) .any w.heap.size f i ∧
      s.preRow enc Tryd.prog fn conds apart laid (w.forCall tape i).memory i.args ∧ ({ modest := false } : Assume).holds Tryd.prog (lone (Frame.enter Tryd.prog f i.args .normal) [] (w.forCall tape i)) :=
  ⟨World.laidAll Tryd.prog os laid5, fun _ _ => 0, ⟨#[], args, []⟩, World.laidAll_os _ _ _, stood os, (Input.okWide_of_okWideB (base := 0) hok).1, (Input.okWide_of_okWideB hok).2, hrow, by
    simp only [Assume.holds]
    exact ⟨by simp, by simp, fun _ => Modest.zero, by simp, by simp⟩⟩
end Go.Proofs.YtebopfpgicamiaaDoor
