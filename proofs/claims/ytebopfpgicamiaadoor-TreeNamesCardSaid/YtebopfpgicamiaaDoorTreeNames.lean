/- It is proved that the law TreeNames returns true for every input, where the tables read as the program lays them, and that each argument reads behind the call as before. -/
import Derived.Test.YtebopfpgicamiaaDoorNR
import Derived.Test.YtebopfpgicamiaaDoorWZ
namespace Go.Proofs.YtebopfpgicamiaaDoor.treeNames
set_option linter.unusedSimpArgs false
set_option linter.unusedVariables false
open Go.ChangeShapes Go.WideShapes Go.ChangeAt Go.RowKit Go.Fw

theorem contract (vs : List AV) (hl : vs.length = Tryd.f4.params.size) (ha : ∀ (i : Nat) (t : TypeId) (a : AV), Tryd.f4.params[i]? = some t → vs[i]? = some a → ArgS Tryd.prog t a) :
    ACall Tryd.prog 4 vs noHeap 0 (fun r _ _ => r = .lit (.bool true)) := by
  rw [Tryd.params4] at hl ha
  match vs, hl with
  | [], _ =>
    exact p_TreeNames noHeap 0

set_option maxRecDepth 100000 in
theorem lifted (os : Os) (started : os.Started) (H : Type) (enc : TypeId × Value → H) :
    ReturnsInHanded {} Tryd.checked os 4 .any (fun w args => (Rows.treeNamesSpec.pre enc Tryd.prog Tryd.f4 [] false w args ∧ laidMetH Tryd.prog laid5 w) ∧ sizedMet enc Tryd.prog Tryd.f4 (OpenSpec.ofChange Rows.treeNamesSpec) false w args)
      (Rows.treeNamesSpec.post enc Tryd.prog Tryd.f4 false true false false) := by
  refine returnsInHanded_of_change_and (C := Tryd.checked) (X := fun w _ => laidMetH Tryd.prog laid5 w) (fun _ _ _ hh h => h.of_heap hh) own started (by kernel_rfl) Tryd.func4
    (ChangeSpec.witness_shaped (enc := enc) (C := Tryd.checked) (os := os) (X := fun w _ => laidMetH Tryd.prog laid5 w) false (World.laidAll Tryd.prog os laid5) #[] 8 (World.laidAll_os _ _ _)
      (stood os) (by kernel_rfl) (by kernel_rfl) (by kernel_rfl) (met os _)) ?_
  intro W base args ds gs before hval0 hW _ hwt hL _
  exact law_stepS (P := Tryd.prog) closed laid (fn := Tryd.f4) (of_decide_eq_true (by kernel_rfl)) rfl (by kernel_rfl) Tryd.underlying4
    (fun ds h => by match ds, h with | [], _ => rfl) contract hval0 hW (globs hL) hwt

theorem over : Rows.TreeNamesSaid :=
  OpenClaim.holds_of_wide 4 Tryd.f4 rfl rfl rfl rfl rfl rfl rfl ⟨rfl, rfl, rfl, rfl, rfl⟩ rfl rfl rfl rfl rfl (by kernel_rfl) Tryd.func4 (by kernel_rfl)
    (of_decide_eq_true (by kernel_rfl)) (by unfold Func.isWrapper; first | (rw [if_pos (by decide +kernel)]; kernel_rfl) | (rw [if_neg (by decide +kernel)]; exact ⟨rfl, rfl⟩))
    (fun os started H enc _ => lifted os started H enc)
end Go.Proofs.YtebopfpgicamiaaDoor.treeNames
