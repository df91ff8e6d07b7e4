/- bytes: what the rows share: the package's variables as they are laid, a world to stand in. -/
import Derived.Test.YtefejpckppabpaaGreatDoorRows
import Derived.Test.YtefejpckppabpaaGreatDoorBA
import Derived.Test.YtefejpckppabpaaGreatDoorM4
import Derived.MakeChecks
import Derived.Lay
namespace Go.Proofs.YtefejpckppabpaaGreatDoor
set_option linter.unusedSimpArgs false
set_option linter.unusedVariables false
open Go.ChangeShapes Go.WideShapes Go.ChangeAt Go.RowKit Go.Fw

def laid4 : List (String × DataW Unit) := [("unicode/utf8.acceptRanges", Rows.laid_unicode_utf8_acceptRanges), ("bobbin/tree.reserved", Rows.laid_bobbin_tree_reserved), ("bobbin/code.ops", Rows.laid_bobbin_code_ops), ("bobbin/bytes.ops", Rows.laid_bobbin_bytes_ops), ("unicode/utf8.first", Rows.laid_unicode_utf8_first)]
theorem own : ownKnob Tryz.prog.godebug = none := by kernel_rfl
theorem laid : laidOutB Tryz.prog = true := by kernel_rfl
theorem closed : closedB Tryz.prog argTypes = true := by kernel_rfl
def flatTypes : List TypeId := [163, 132, 3, 4, 128, 9, 102, 101]
theorem flat : flatB Tryz.prog flatTypes = true := by kernel_rfl
theorem laidOpsAt : GlobAt Tryz.prog flatTypes "bobbin/code.ops" Rows.laid_bobbin_code_ops 2 opCells :=
  ⟨by kernel_rfl, ⟨163, by kernel_rfl, by simp [flatTypes]⟩, rfl⟩
theorem resAt : GlobAt Tryz.prog flatTypes "bobbin/tree.reserved" Rows.laid_bobbin_tree_reserved 1 resCells :=
  ⟨by kernel_rfl, ⟨128, by kernel_rfl, by simp [flatTypes]⟩, rfl⟩
theorem bopAt : GlobAt Tryz.prog flatTypes "bobbin/bytes.ops" Rows.laid_bobbin_bytes_ops 0 bopCells :=
  ⟨by kernel_rfl, ⟨102, by kernel_rfl, by simp [flatTypes]⟩, rfl⟩

/-- The tables, as the walks read them. -/
theorem globs {W : World} (h : laidMetH Tryz.prog laid4 W) : GlobOk (Env.start W) := by
  rw [MakeChecks.laidMetH_plain _ _ _ (by kernel_rfl)] at h
  obtain ⟨ps, hv, _⟩ := h
  intro g cs hg
  have hg' : (if g = 2 then some opCells else if g = 1 then some resCells else if g = 0 then some bopCells else none) = some cs := hg
  split at hg'
  · rename_i he
    subst he
    cases hg'
    exact glob_of_laid flat laid4 ps hv _ _ (by simp [laid4]) _ _ laidOpsAt
  · split at hg'
    · rename_i he
      subst he
      cases hg'
      exact glob_of_laid flat laid4 ps hv _ _ (by simp [laid4]) _ _ resAt
    · split at hg'
      · rename_i he
        subst he
        cases hg'
        exact glob_of_laid flat laid4 ps hv _ _ (by simp [laid4]) _ _ bopAt
      · cases hg'
theorem stood (os : Os) : (World.laidAll Tryz.prog os laid4).Shaped Tryz.prog := World.shaped_of_ZipB (by kernel_rfl) (by kernel_rfl)
theorem met (os : Os) (args : Array Value) : laidMetH Tryz.prog laid4 ((World.laidAll Tryz.prog os laid4).forCall (fun _ _ => 0) ⟨#[], args, []⟩).memory := by
  rw [MakeChecks.laidMetH_plain _ _ _ (by kernel_rfl)]
  exact laidMet_laidAll _ (by kernel_rfl) (by kernel_rfl)
end Go.Proofs.YtefejpckppabpaaGreatDoor
