/- It is proved that the law CodeParts returns true for every input, where the tables read as the program lays them, and that each argument reads behind the call as before. -/
import Derived.Test.YtanpcmkhhpaeiaaDoorNR
import Derived.Test.YtanpcmkhhpaeiaaDoorO2
namespace Go.Proofs.YtanpcmkhhpaeiaaDoor.codeParts
set_option linter.unusedSimpArgs false
set_option linter.unusedVariables false
open Go.ChangeShapes Go.WideShapes Go.ChangeAt Go.RowKit Go.Fw

theorem contract (vs : List AV) (hl : vs.length = Tryd.f7.params.size) (ha : ∀ (i : Nat) (t : TypeId) (a : AV), Tryd.f7.params[i]? = some t → vs[i]? = some a → ArgS Tryd.prog t a) :
    ACall Tryd.prog 7 vs noHeap 0 (fun r _ _ => r = .lit (.bool true)) := by
  rw [Tryd.params7] at hl ha
  match vs, hl with
  | [a0, a1, a2, a3], _ =>
    obtain ⟨p0, rfl, hp0⟩ := arg_prog (ha 0 _ a0 rfl rfl)
    obtain ⟨n1, rfl, hn1, hm1⟩ := arg_int (ha 1 _ a1 rfl rfl)
    obtain ⟨n2, rfl, hn2, hm2⟩ := arg_int (ha 2 _ a2 rfl rfl)
    obtain ⟨x3, rfl, hx3, hl3⟩ := arg_ins (ha 3 _ a3 rfl rfl)
    exact p_CodeParts hp0 hx3 hl3 noHeap 0

set_option maxRecDepth 100000 in
theorem lifted (os : Os) (started : os.Started) (H : Type) (enc : TypeId × Value → H) :
    ReturnsInHanded {} Tryd.checked os 7 .any (fun w args => (Rows.codePartsSpec.pre enc Tryd.prog Tryd.f7 [] false w args ∧ laidMetH Tryd.prog laid4 w) ∧ sizedMet enc Tryd.prog Tryd.f7 (OpenSpec.ofChange Rows.codePartsSpec) false w args)
      (Rows.codePartsSpec.post enc Tryd.prog Tryd.f7 false true false false) := by
  refine returnsInHanded_of_change_and (C := Tryd.checked) (X := fun w _ => laidMetH Tryd.prog laid4 w) (fun _ _ _ hh h => h.of_heap hh) own started (by kernel_rfl) Tryd.func7
    (ChangeSpec.witness_shaped (enc := enc) (C := Tryd.checked) (os := os) (X := fun w _ => laidMetH Tryd.prog laid4 w) false (World.laidAll Tryd.prog os laid4) #[.agg #[.slice none 0 0, .slice none 0 0, .slice none 0 0], .int .i64 0, .int .i64 0, .agg #[.int .u8 0, .int .i64 0, .int .i64 0, .int .i64 0, .int .i64 0, .slice none 0 0]] 8 (World.laidAll_os _ _ _)
      (stood os) (by kernel_rfl) (by kernel_rfl) (by kernel_rfl) (met os _)) ?_
  intro W base args ds gs before hval0 hW _ hwt hL _
  exact law_stepS (P := Tryd.prog) closed laid (fn := Tryd.f7) (of_decide_eq_true (by kernel_rfl)) rfl (by kernel_rfl) Tryd.underlying4
    (fun ds h => by match ds, h with | [_, _, _, _], _ => rfl) contract hval0 hW (globs hL) hwt

theorem over : Rows.CodePartsSaid :=
  OpenClaim.holds_of_wide 7 Tryd.f7 rfl rfl rfl rfl rfl rfl rfl ⟨rfl, rfl, rfl, rfl, rfl⟩ rfl rfl rfl rfl rfl (by kernel_rfl) Tryd.func7 (by kernel_rfl)
    (of_decide_eq_true (by kernel_rfl)) (by unfold Func.isWrapper; first | (rw [if_pos (by decide +kernel)]; kernel_rfl) | (rw [if_neg (by decide +kernel)]; exact ⟨rfl, rfl⟩))
    (fun os started H enc _ => lifted os started H enc)
end Go.Proofs.YtanpcmkhhpaeiaaDoor.codeParts
