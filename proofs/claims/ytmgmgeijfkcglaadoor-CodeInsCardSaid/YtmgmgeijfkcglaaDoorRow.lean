/- It is proved that the law CodeIns of layer 7 returns true for every input, where the operations' table reads as the program lays it, and that each argument reads behind the call as before. -/
import Derived.Test.YtmgmgeijfkcglaaDoorRows
import Derived.Test.YtmgmgeijfkcglaaDoorAR
namespace Go.Proofs.YtmgmgeijfkcglaaDoor.codeIns
open Go.ChangeShapes Go.WideShapes Go.ChangeAt Go.RowKit Go.Fw

def laidOps : List (String × DataW Unit) := [("bobbin/code.ops", Rows.laid_bobbin_code_ops)]
theorem own : ownKnob Tryd.prog.godebug = none := by kernel_rfl
theorem laid : laidOutB Tryd.prog = true := by kernel_rfl
theorem closed : closedB Tryd.prog argTypes = true := by kernel_rfl
theorem flat : flatB Tryd.prog [53, 44, 3, 4] = true := by kernel_rfl
theorem opsAt : GlobAt Tryd.prog [53, 44, 3, 4] "bobbin/code.ops" Rows.laid_bobbin_code_ops 0 opCells :=
  ⟨by kernel_rfl, ⟨53, by kernel_rfl, by simp⟩, rfl⟩

/-- The table, as the walks read it. -/
theorem globs {W : World} (h : laidMetH Tryd.prog laidOps W) : GlobOk (Env.start W) := by
  rw [MakeChecks.laidMetH_plain _ _ _ (by kernel_rfl)] at h
  obtain ⟨ps, hv, _⟩ := h
  intro g cs hg
  have hg' : (if g = 0 then some opCells else none) = some cs := hg
  split at hg'
  · rename_i he
    subst he
    cases hg'
    exact glob_of_laid flat laidOps ps hv _ _ (List.mem_cons_self) _ _ opsAt
  · cases hg'

theorem door_met (os : Os) (args : Array Value) : laidMetH Tryd.prog laidOps ((World.doorLaid Tryd.prog 400 os).forCall (fun _ _ => 0) ⟨#[], args, []⟩).memory :=
  laidMetH_of_parts3 (fuel := 8) (laidMet_of_run' 8 (by kernel_rfl) (by kernel_rfl)) (by kernel_rfl) (by kernel_rfl)

set_option maxRecDepth 100000 in
theorem lifted (os : Os) (started : os.Started) (H : Type) (enc : TypeId × Value → H) :
    ReturnsInHanded {} Tryd.checked os 3 .any (fun w args => (Rows.codeInsSpec.pre enc Tryd.prog Tryd.f3 [] false w args ∧ laidMetH Tryd.prog laidOps w) ∧ sizedMet enc Tryd.prog Tryd.f3 (OpenSpec.ofChange Rows.codeInsSpec) false w args)
      (Rows.codeInsSpec.post enc Tryd.prog Tryd.f3 false true false false) := by
  refine returnsInHanded_of_change_and (C := Tryd.checked) (X := fun w _ => laidMetH Tryd.prog laidOps w) (fun _ _ _ hh h => h.of_heap hh) own started (by kernel_rfl) Tryd.func3
    (ChangeSpec.witness_shaped (enc := enc) (C := Tryd.checked) (os := os) (X := fun w _ => laidMetH Tryd.prog laidOps w) false (World.doorLaid Tryd.prog 400 os)
      #[.agg #[.slice none 0 0, .slice none 0 0, .slice none 0 0], .int .i64 0, .agg #[.int .u8 0, .int .i64 0, .int .i64 0, .int .i64 0, .int .i64 0, .slice none 0 0], .agg #[.int .u8 0, .int .i64 0, .int .i64 0, .int .i64 0, .int .i64 0, .slice none 0 0]] 8 rfl
      (World.shaped_of_RefB (by kernel_rfl) (by kernel_rfl)) (by kernel_rfl) (by kernel_rfl) (by kernel_rfl) (door_met os _)) ?_
  intro W base args ds gs before hval0 hW _ _ hL _
  exact law_step (P := Tryd.prog) closed laid (fn := Tryd.f3) (of_decide_eq_true (by kernel_rfl)) rfl (by kernel_rfl) Tryd.underlying4
    (fun ds h => by match ds, h with | [_, _, _, _], _ => rfl) ins_contract hval0 hW (globs hL)

theorem over : Rows.CodeInsSaid :=
  OpenClaim.holds_of_wide 3 Tryd.f3 rfl rfl rfl rfl rfl rfl rfl ⟨rfl, rfl, rfl, rfl, rfl⟩ rfl rfl rfl rfl rfl (by kernel_rfl) Tryd.func3 (by kernel_rfl)
    (of_decide_eq_true (by kernel_rfl)) (by unfold Func.isWrapper; first | (rw [if_pos (by decide +kernel)]; kernel_rfl) | (rw [if_neg (by decide +kernel)]; exact ⟨rfl, rfl⟩))
    (fun os started H enc _ => lifted os started H enc)
end Go.Proofs.YtmgmgeijfkcglaaDoor.codeIns
