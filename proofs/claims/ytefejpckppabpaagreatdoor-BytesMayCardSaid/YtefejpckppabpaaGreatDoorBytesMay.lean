/- It is proved that the law BytesMay returns true for every input, where the tables read as the program lays them, and that each argument reads behind the call as before. -/
import Derived.Test.YtefejpckppabpaaGreatDoorNR
import Derived.Test.YtefejpckppabpaaGreatDoorBL
namespace Go.Proofs.YtefejpckppabpaaGreatDoor.bytesMay
set_option linter.unusedSimpArgs false
set_option linter.unusedVariables false
open Go.ChangeShapes Go.WideShapes Go.ChangeAt Go.RowKit Go.Fw

theorem contract (vs : List AV) (hl : vs.length = Tryz.f3.params.size) (ha : ∀ (i : Nat) (t : TypeId) (a : AV), Tryz.f3.params[i]? = some t → vs[i]? = some a → ArgS Tryz.prog t a) :
    ACall Tryz.prog 3 vs noHeap 0 (fun r _ _ => r = .lit (.bool true)) := by
  rw [Tryz.params3] at hl ha
  match vs, hl with
  | [a0, a1, a2], _ =>
    obtain ⟨p0, rfl, hp0⟩ := arg_img (ha 0 _ a0 rfl rfl)
    obtain ⟨p1, rfl, hp1⟩ := arg_img (ha 1 _ a1 rfl rfl)
    obtain ⟨n2, rfl, hn2, hm2⟩ := arg_int (ha 2 _ a2 rfl rfl)
    exact p_BytesMay hp0 hp1 noHeap 0

set_option maxRecDepth 100000 in
theorem lifted (os : Os) (started : os.Started) (H : Type) (enc : TypeId × Value → H) :
    ReturnsInHanded {} Tryz.checked os 3 .any (fun w args => (Rows.bytesMaySpec.pre enc Tryz.prog Tryz.f3 [] false w args ∧ laidMetH Tryz.prog laid4 w) ∧ sizedMet enc Tryz.prog Tryz.f3 (OpenSpec.ofChange Rows.bytesMaySpec) false w args)
      (Rows.bytesMaySpec.post enc Tryz.prog Tryz.f3 false true false false) := by
  refine returnsInHanded_of_change_and (C := Tryz.checked) (X := fun w _ => laidMetH Tryz.prog laid4 w) (fun _ _ _ hh h => h.of_heap hh) own started (by kernel_rfl) Tryz.func3
    (ChangeSpec.witness_shaped (enc := enc) (C := Tryz.checked) (os := os) (X := fun w _ => laidMetH Tryz.prog laid4 w) false (World.laidAll Tryz.prog os laid4) #[.agg #[.slice none 0 0, .slice none 0 0, .slice none 0 0], .agg #[.slice none 0 0, .slice none 0 0, .slice none 0 0], .int .i64 0] 8 (World.laidAll_os _ _ _)
      (stood os) (by kernel_rfl) (by kernel_rfl) (by kernel_rfl) (met os _)) ?_
  intro W base args ds gs before hval0 hW _ hwt hL _
  exact law_stepS (P := Tryz.prog) closed laid (fn := Tryz.f3) (of_decide_eq_true (by kernel_rfl)) rfl (by kernel_rfl) Tryz.underlying4
    (fun ds h => by match ds, h with | [_, _, _], _ => rfl) contract hval0 hW (globs hL) hwt

theorem over : Rows.BytesMaySaid :=
  OpenClaim.holds_of_wide 3 Tryz.f3 rfl rfl rfl rfl rfl rfl rfl ⟨rfl, rfl, rfl, rfl, rfl⟩ rfl rfl rfl rfl rfl (by kernel_rfl) Tryz.func3 (by kernel_rfl)
    (of_decide_eq_true (by kernel_rfl)) (by unfold Func.isWrapper; first | (rw [if_pos (by decide +kernel)]; kernel_rfl) | (rw [if_neg (by decide +kernel)]; exact ⟨rfl, rfl⟩))
    (fun os started H enc _ => lifted os started H enc)
end Go.Proofs.YtefejpckppabpaaGreatDoor.bytesMay
