/- It is proved that the law FrontOne returns true for every input and that each argument reads behind the call as before. No condition. -/
import Derived.Test.YtmbbklddjkmcmaaRows
import Derived.Test.YtmbbklddjkmcmaaJFO
namespace Go.Proofs.Ytmbbklddjkmcmaa.frontOne
set_option linter.unusedSimpArgs false
set_option linter.unusedVariables false
open Go.ChangeShapes Go.WideShapes Go.ChangeAt Go.RowKit Go.Fw

theorem own : ownKnob Try.prog.godebug = none := by kernel_rfl
theorem laid : laidOutB Try.prog = true := by kernel_rfl
theorem closed : closedB Try.prog argTypes = true := by kernel_rfl

theorem contract (vs : List AV) (hl : vs.length = Try.f13.params.size) (ha : ∀ (i : Nat) (t : TypeId) (a : AV), Try.f13.params[i]? = some t → vs[i]? = some a → ArgR Try.prog t a) :
    ACall Try.prog 13 vs noHeap 0 (fun r _ _ => r = .lit (.bool true)) := by
  rw [Try.params13] at hl ha
  match vs, hl with
  | [a0, a1, a2], _ =>
    obtain ⟨x0, rfl, hx0, hR0⟩ := arg_graphR (ha 0 _ a0 rfl rfl)
    obtain ⟨l1, rfl, hl1⟩ := arg_intsR (ha 1 _ a1 rfl rfl)
    obtain ⟨l2, rfl, hl2⟩ := arg_intsR (ha 2 _ a2 rfl rfl)
    exact p_FrontOne x0 hx0 hR0 l1 hl1 l2 hl2 noHeap 0

set_option maxRecDepth 100000 in
theorem lifted (os : Os) (started : os.Started) (H : Type) (enc : TypeId × Value → H) :
    ReturnsInHanded {} Try.checked os 13 .any (Rows.frontOneSpec.pre6 enc Try.prog Try.f13 Rows.frontOneRow.domain false) (Rows.frontOneSpec.post enc Try.prog Try.f13 false true false false) := by
  refine returnsInHanded_of_change_sized (C := Try.checked) own started (by kernel_rfl) Try.func13
    (ChangeSpec.witness6 (enc := enc) (C := Try.checked) false ⟨#[], #[.slice none 0 0, .slice none 0 0, .slice none 0 0], []⟩ 8 (by kernel_rfl) (by kernel_rfl) (by kernel_rfl) (by kernel_rfl)) ?_
  intro W base args ds gs before hval0 hW hcnd hwt _
  exact law_stepR (P := Try.prog) closed laid (fn := Try.f13) (of_decide_eq_true (by kernel_rfl)) rfl (by kernel_rfl) Try.underlying4
    (fun ds h => by match ds, h with | [_, _, _], _ => rfl) contract hval0 hW (globOk_none (fun _ => rfl) _) hwt

theorem over : Rows.frontOneRow.holds Try.pinned (OpenSpec.ofChange Rows.frontOneSpec) :=
  OpenClaim.holds_of_wide 13 Try.f13 rfl rfl rfl rfl rfl rfl rfl ⟨rfl, rfl, rfl, rfl, rfl⟩ rfl rfl rfl rfl rfl (by kernel_rfl) Try.func13 (by kernel_rfl)
    (of_decide_eq_true (by kernel_rfl)) (by unfold Func.isWrapper; first | (rw [if_pos (by decide +kernel)]; kernel_rfl) | (rw [if_neg (by decide +kernel)]; exact ⟨rfl, rfl⟩))
    (fun os started H enc _ => lifted os started H enc)

theorem proved : Rows.FrontOneSaid := over
#print axioms proved
end Go.Proofs.Ytmbbklddjkmcmaa.frontOne
