/- code: what the rows share: the package's variables as they are laid, a world to stand in. -/
import Derived.Test.YtcoepjbipbihfaaGreatDoorRows
import Derived.Test.YtcoepjbipbihfaaGreatDoorVA
import Derived.Test.YtcoepjbipbihfaaGreatDoorM4
import Derived.MakeChecks
import Derived.Lay
namespace Go.Proofs.YtcoepjbipbihfaaGreatDoor
set_option linter.unusedSimpArgs false
set_option linter.unusedVariables false
open Go.ChangeShapes Go.WideShapes Go.ChangeAt Go.RowKit Go.Fw

def laid4 : List (String × DataW Unit) := [("unicode/utf8.acceptRanges", Rows.laid_unicode_utf8_acceptRanges), ("bobbin/tree.reserved", Rows.laid_bobbin_tree_reserved), ("bobbin/code.ops", Rows.laid_bobbin_code_ops), ("unicode/utf8.first", Rows.laid_unicode_utf8_first)]
theorem own : ownKnob Tryz.prog.godebug = none := by kernel_rfl
theorem laid : laidOutB Tryz.prog = true := by kernel_rfl
theorem closed : closedB Tryz.prog argTypes = true := by kernel_rfl
theorem flat : flatB Tryz.prog [150, 126, 3, 4, 148, 9] = true := by kernel_rfl
theorem laidOpsAt : GlobAt Tryz.prog [150, 126, 3, 4, 148, 9] "bobbin/code.ops" Rows.laid_bobbin_code_ops 1 opCells :=
  ⟨by kernel_rfl, ⟨150, by kernel_rfl, by simp⟩, rfl⟩
theorem resAt : GlobAt Tryz.prog [150, 126, 3, 4, 148, 9] "bobbin/tree.reserved" Rows.laid_bobbin_tree_reserved 0 resCells :=
  ⟨by kernel_rfl, ⟨148, by kernel_rfl, by simp⟩, rfl⟩

/-- The tables, as the walks read them. -/
theorem globs {W : World} (h : laidMetH Tryz.prog laid4 W) : GlobOk (Env.start W) := by
  rw [MakeChecks.laidMetH_plain _ _ _ (by kernel_rfl)] at h
  obtain ⟨ps, hv, _⟩ := h
  intro g cs hg
  have hg' : (if g = 1 then some opCells else if g = 0 then some resCells else none) = some cs := hg
  split at hg'
  · rename_i he
    subst he
    cases hg'
    exact glob_of_laid flat laid4 ps hv _ _ (by simp [laid4]) _ _ laidOpsAt
  · split at hg'
    · rename_i he
      subst he
      cases hg'
      exact glob_of_laid flat laid4 ps hv _ _ (by simp [laid4]) _ _ resAt
    · cases hg'
theorem stood (os : Os) : (World.laidAll Tryz.prog os laid4).Shaped Tryz.prog := World.shaped_of_ZipB (by kernel_rfl) (by kernel_rfl)
theorem met (os : Os) (args : Array Value) : laidMetH Tryz.prog laid4 ((World.laidAll Tryz.prog os laid4).forCall (fun _ _ => 0) ⟨#[], args, []⟩).memory := by
  rw [MakeChecks.laidMetH_plain _ _ _ (by kernel_rfl)]
  exact laidMet_laidAll _ (by kernel_rfl) (by kernel_rfl)
end Go.Proofs.YtcoepjbipbihfaaGreatDoor
