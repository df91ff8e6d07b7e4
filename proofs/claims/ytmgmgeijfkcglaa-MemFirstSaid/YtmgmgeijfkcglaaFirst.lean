/- It is proved that the law MemFirst of layer 8 returns true for every input and that each argument reads behind the call as before. No condition. -/
import Derived.Test.YtmgmgeijfkcglaaRows
import Derived.Test.YtmgmgeijfkcglaaB2
import Derived.Test.YtmgmgeijfkcglaaH4
namespace Go.Proofs.Ytmgmgeijfkcglaa.memFirst
set_option linter.unusedSimpArgs false
set_option linter.unusedVariables false
open Go.ChangeShapes Go.WideShapes Go.ChangeAt Go.RowKit Go.Fw

theorem own : ownKnob Try.prog.godebug = none := by kernel_rfl
theorem laid : laidOutB Try.prog = true := by kernel_rfl
theorem closed : closedB Try.prog argTypes = true := by kernel_rfl

set_option maxRecDepth 100000 in
theorem lifted (os : Os) (started : os.Started) (H : Type) (enc : TypeId × Value → H) :
    ReturnsInHanded {} Try.checked os 8 .any (Rows.memFirstSpec.pre6 enc Try.prog Try.f8 Rows.memFirstRow.domain false) (Rows.memFirstSpec.post enc Try.prog Try.f8 false true false false) := by
  refine returnsInHanded_of_change (C := Try.checked) own started (by kernel_rfl) Try.func8
    (ChangeSpec.witness6 (enc := enc) (C := Try.checked) false ⟨#[], #[.slice none 0 0, .int .i64 0], []⟩ 8 (by kernel_rfl) (by kernel_rfl) (by kernel_rfl) (by kernel_rfl)) ?_
  intro W base args ds gs before hval0 hW hcnd _
  exact law_step (P := Try.prog) closed laid (fn := Try.f8) (of_decide_eq_true (by kernel_rfl)) rfl (by kernel_rfl) Try.underlying4
    (fun ds h => by match ds, h with | [_, _], _ => rfl) first_contract hval0 hW (globOk_none (fun _ => rfl) _)

theorem over : Rows.memFirstRow.holds Try.pinned (OpenSpec.ofChange Rows.memFirstSpec) :=
  OpenClaim.holds_of_wide 8 Try.f8 rfl rfl rfl rfl rfl rfl rfl ⟨rfl, rfl, rfl, rfl, rfl⟩ rfl rfl rfl rfl rfl (by kernel_rfl) Try.func8 (by kernel_rfl)
    (of_decide_eq_true (by kernel_rfl)) (by unfold Func.isWrapper; first | (rw [if_pos (by decide +kernel)]; kernel_rfl) | (rw [if_neg (by decide +kernel)]; exact ⟨rfl, rfl⟩))
    (fun os started H enc _ => lifted os started H enc)

theorem proved : Rows.MemFirstSaid := over
#print axioms proved
end Go.Proofs.Ytmgmgeijfkcglaa.memFirst
