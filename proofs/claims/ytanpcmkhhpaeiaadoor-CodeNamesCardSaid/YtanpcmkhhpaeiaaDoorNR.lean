/- code: what the rows share: the package's variables as they are laid, a world to stand in. -/
import Derived.Test.YtanpcmkhhpaeiaaDoorRows
import Derived.Test.YtanpcmkhhpaeiaaDoorNM
import Derived.Test.YtanpcmkhhpaeiaaDoorM4
import Derived.MakeChecks
import Derived.Lay
namespace Go.Proofs.YtanpcmkhhpaeiaaDoor
set_option linter.unusedSimpArgs false
set_option linter.unusedVariables false
open Go.ChangeShapes Go.WideShapes Go.ChangeAt Go.RowKit Go.Fw

def laid4 : List (String × DataW Unit) := [("unicode/utf8.acceptRanges", Rows.laid_unicode_utf8_acceptRanges), ("bobbin/tree.reserved", Rows.laid_bobbin_tree_reserved), ("bobbin/code.ops", Rows.laid_bobbin_code_ops), ("unicode/utf8.first", Rows.laid_unicode_utf8_first)]
theorem own : ownKnob Tryd.prog.godebug = none := by kernel_rfl
theorem laid : laidOutB Tryd.prog = true := by kernel_rfl
theorem closed : closedB Tryd.prog argTypes = true := by kernel_rfl
theorem flat : flatB Tryd.prog [91, 74, 3, 4, 97, 9] = true := by kernel_rfl
theorem laidOpsAt : GlobAt Tryd.prog [91, 74, 3, 4, 97, 9] "bobbin/code.ops" Rows.laid_bobbin_code_ops 0 opCells :=
  ⟨by kernel_rfl, ⟨91, by kernel_rfl, by simp⟩, rfl⟩
theorem resAt : GlobAt Tryd.prog [91, 74, 3, 4, 97, 9] "bobbin/tree.reserved" Rows.laid_bobbin_tree_reserved 1 resCells :=
  ⟨by kernel_rfl, ⟨97, by kernel_rfl, by simp⟩, rfl⟩

/-- The tables, as the walks read them. -/
theorem globs {W : World} (h : laidMetH Tryd.prog laid4 W) : GlobOk (Env.start W) := by
  rw [MakeChecks.laidMetH_plain _ _ _ (by kernel_rfl)] at h
  obtain ⟨ps, hv, _⟩ := h
  intro g cs hg
  have hg' : (if g = 0 then some opCells else if g = 1 then some resCells else none) = some cs := hg
  split at hg'
  · rename_i he
    subst he
    cases hg'
    exact glob_of_laid flat laid4 ps hv _ _ (by simp [laid4]) _ _ laidOpsAt
  · split at hg'
    · rename_i he
      subst he
      cases hg'
      exact glob_of_laid flat laid4 ps hv _ _ (by simp [laid4]) _ _ resAt
    · cases hg'
theorem stood (os : Os) : (World.laidAll Tryd.prog os laid4).Shaped Tryd.prog := World.shaped_of_ZipB (by kernel_rfl) (by kernel_rfl)
theorem met (os : Os) (args : Array Value) : laidMetH Tryd.prog laid4 ((World.laidAll Tryd.prog os laid4).forCall (fun _ _ => 0) ⟨#[], args, []⟩).memory := by
  rw [MakeChecks.laidMetH_plain _ _ _ (by kernel_rfl)]
  exact laidMet_laidAll _ (by kernel_rfl) (by kernel_rfl)
end Go.Proofs.YtanpcmkhhpaeiaaDoor
