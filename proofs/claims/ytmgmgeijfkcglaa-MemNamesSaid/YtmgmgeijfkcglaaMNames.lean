/- It is proved that the law MemNames of layer 8 returns true for every input and that each argument reads behind the call as before. No condition. -/
import Derived.Test.YtmgmgeijfkcglaaRows
import Derived.Test.YtmgmgeijfkcglaaB3
import Derived.Test.YtmgmgeijfkcglaaAC
import Derived.Test.YtmgmgeijfkcglaaH4
namespace Go.Proofs.Ytmgmgeijfkcglaa.memNames
set_option linter.unusedSimpArgs false
set_option linter.unusedVariables false
open Go.ChangeShapes Go.WideShapes Go.ChangeAt Go.RowKit Go.Fw

theorem own : ownKnob Try.prog.godebug = none := by kernel_rfl
theorem laid : laidOutB Try.prog = true := by kernel_rfl
theorem closed : closedB Try.prog argTypes = true := by kernel_rfl

set_option maxRecDepth 100000 in
theorem lifted (os : Os) (started : os.Started) (H : Type) (enc : TypeId × Value → H) :
    ReturnsInHanded {} Try.checked os 10 .any (Rows.memNamesSpec.pre6 enc Try.prog Try.f10 Rows.memNamesRow.domain false) (Rows.memNamesSpec.post enc Try.prog Try.f10 false true false false) := by
  refine returnsInHanded_of_change (C := Try.checked) own started (by kernel_rfl) Try.func10
    (ChangeSpec.witness6 (enc := enc) (C := Try.checked) false ⟨#[], #[], []⟩ 8 (by kernel_rfl) (by kernel_rfl) (by kernel_rfl) (by kernel_rfl)) ?_
  intro W base args ds gs before hval0 hW hcnd _
  exact law_step (P := Try.prog) closed laid (fn := Try.f10) (of_decide_eq_true (by kernel_rfl)) rfl (by kernel_rfl) Try.underlying4
    (fun ds h => by match ds, h with | [], _ => rfl) names_contract hval0 hW (globOk_none (fun _ => rfl) _)

theorem over : Rows.memNamesRow.holds Try.pinned (OpenSpec.ofChange Rows.memNamesSpec) :=
  OpenClaim.holds_of_wide 10 Try.f10 rfl rfl rfl rfl rfl rfl rfl ⟨rfl, rfl, rfl, rfl, rfl⟩ rfl rfl rfl rfl rfl (by kernel_rfl) Try.func10 (by kernel_rfl)
    (of_decide_eq_true (by kernel_rfl)) (by unfold Func.isWrapper; first | (rw [if_pos (by decide +kernel)]; kernel_rfl) | (rw [if_neg (by decide +kernel)]; exact ⟨rfl, rfl⟩))
    (fun os started H enc _ => lifted os started H enc)

theorem proved : Rows.MemNamesSaid := over
#print axioms proved
end Go.Proofs.Ytmgmgeijfkcglaa.memNames
