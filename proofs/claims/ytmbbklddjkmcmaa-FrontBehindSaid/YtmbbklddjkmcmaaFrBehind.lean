/- It is proved that the law FrontBehind returns true for every input and that each argument reads behind the call as before. No condition. -/
import Derived.Test.YtmbbklddjkmcmaaRows
import Derived.Test.YtmbbklddjkmcmaaJFB
namespace Go.Proofs.Ytmbbklddjkmcmaa.frontBehind
set_option linter.unusedSimpArgs false
set_option linter.unusedVariables false
open Go.ChangeShapes Go.WideShapes Go.ChangeAt Go.RowKit Go.Fw

theorem own : ownKnob Try.prog.godebug = none := by kernel_rfl
theorem laid : laidOutB Try.prog = true := by kernel_rfl
theorem closed : closedB Try.prog argTypes = true := by kernel_rfl

theorem contract (vs : List AV) (hl : vs.length = Try.f12.params.size) (ha : ∀ (i : Nat) (t : TypeId) (a : AV), Try.f12.params[i]? = some t → vs[i]? = some a → Arg Try.prog t a) :
    ACall Try.prog 12 vs noHeap 0 (fun r _ _ => r = .lit (.bool true)) := by
  rw [Try.params12] at hl ha
  match vs, hl with
  | [a0, a1], _ =>
    obtain ⟨x0, rfl, hx0⟩ := arg_graph (ha 0 _ a0 rfl rfl)
    obtain ⟨l1, rfl, hl1⟩ := arg_ints (ha 1 _ a1 rfl rfl)
    exact p_FrontBehind x0 hx0 l1 hl1 noHeap 0

set_option maxRecDepth 100000 in
theorem lifted (os : Os) (started : os.Started) (H : Type) (enc : TypeId × Value → H) :
    ReturnsInHanded {} Try.checked os 12 .any (Rows.frontBehindSpec.pre6 enc Try.prog Try.f12 Rows.frontBehindRow.domain false) (Rows.frontBehindSpec.post enc Try.prog Try.f12 false true false false) := by
  refine returnsInHanded_of_change (C := Try.checked) own started (by kernel_rfl) Try.func12
    (ChangeSpec.witness6 (enc := enc) (C := Try.checked) false ⟨#[], #[.slice none 0 0, .slice none 0 0], []⟩ 8 (by kernel_rfl) (by kernel_rfl) (by kernel_rfl) (by kernel_rfl)) ?_
  intro W base args ds gs before hval0 hW hcnd _
  exact law_step (P := Try.prog) closed laid (fn := Try.f12) (of_decide_eq_true (by kernel_rfl)) rfl (by kernel_rfl) Try.underlying4
    (fun ds h => by match ds, h with | [_, _], _ => rfl) contract hval0 hW (globOk_none (fun _ => rfl) _)

theorem over : Rows.frontBehindRow.holds Try.pinned (OpenSpec.ofChange Rows.frontBehindSpec) :=
  OpenClaim.holds_of_wide 12 Try.f12 rfl rfl rfl rfl rfl rfl rfl ⟨rfl, rfl, rfl, rfl, rfl⟩ rfl rfl rfl rfl rfl (by kernel_rfl) Try.func12 (by kernel_rfl)
    (of_decide_eq_true (by kernel_rfl)) (by unfold Func.isWrapper; first | (rw [if_pos (by decide +kernel)]; kernel_rfl) | (rw [if_neg (by decide +kernel)]; exact ⟨rfl, rfl⟩))
    (fun os started H enc _ => lifted os started H enc)

theorem proved : Rows.FrontBehindSaid := over
#print axioms proved
end Go.Proofs.Ytmbbklddjkmcmaa.frontBehind
