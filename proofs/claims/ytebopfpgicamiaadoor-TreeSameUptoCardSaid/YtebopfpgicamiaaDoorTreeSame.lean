/- It is proved that the law TreeSame returns true for every input of bulk at most 1048576, where the tables read as the program lays them, and that each argument reads behind the call as before. -/
import Derived.Test.YtebopfpgicamiaaDoorNR
import Derived.Test.YtebopfpgicamiaaDoorWT
namespace Go.Proofs.YtebopfpgicamiaaDoor.treeSame
set_option linter.unusedSimpArgs false
set_option linter.unusedVariables false
open Go.ChangeShapes Go.WideShapes Go.ChangeAt Go.RowKit Go.Fw

theorem contract (vs : List AV) (hl : vs.length = Tryd.f6.params.size) (ha : ∀ (i : Nat) (t : TypeId) (a : AV), Tryd.f6.params[i]? = some t → vs[i]? = some a → ArgS Tryd.prog t a) (hb : bulkL vs ≤ 1048576 + vs.length) :
    ACall Tryd.prog 6 vs noHeap 0 (fun r _ _ => r = .lit (.bool true)) := by
  rw [Tryd.params6] at hl ha
  match vs, hl with
  | [a0, a1, a2], _ =>
    obtain ⟨k0, l0, rfl, o0⟩ := arg_decls (ha 0 _ a0 rfl rfl)
    have z0 := bulk_decls l0
    obtain ⟨k1, l1, rfl, o1⟩ := arg_decls (ha 1 _ a1 rfl rfl)
    have z1 := bulk_decls l1
    obtain ⟨i2, rfl, o2⟩ := arg_int (ha 2 _ a2 rfl rfl)
    simp only [bulkL, AV.bulk, List.length_cons, List.length_nil] at hb
    exact p_TreeSame o0 o1 (by omega) (by omega) o2 noHeap 0

set_option maxRecDepth 100000 in
theorem lifted (os : Os) (started : os.Started) (H : Type) (enc : TypeId × Value → H) (F : Stop.Interp) :
    ReturnsInHanded {} Tryd.checked os 6 .any ((Rows.OpenSpec.upto Rows.treeSameSpec).preRow enc Tryd.prog Tryd.f6 Rows.treeSameUptoRow.domain false Rows.treeSameUptoRow.laid) (((Rows.OpenSpec.upto Rows.treeSameSpec).at F).post enc Tryd.prog Tryd.f6 false true false false) := by
  obtain ⟨x, hx, h1, h2⟩ := some_of (o := DataW.whole enc Tryd.prog ((World.laidAll Tryd.prog os laid5).forCall (fun _ _ => 0) ⟨#[], #[.slice none 0 0, .slice none 0 0, .int .i64 0], []⟩).memory Tryd.f6.params.toList (Rows.OpenSpec.upto Rows.treeSameSpec).vars false #[Value.slice none 0 0, .slice none 0 0, .int .i64 0].toList 8)
    (p := fun x => Rows.treeSameUptoRow.domain.all (PathCond.test Tryd.prog ⟨Tryd.f6.params.toList, x.1, (Rows.OpenSpec.upto Rows.treeSameSpec).bare.plain.varTypes Tryd.prog, x.2.1⟩)) (q := fun x => Rows.uptoSmall H (x.1 ++ x.2.1)) (by kernel_rfl)
  refine returnsInHanded_of_row (C := Tryd.checked) (s := Rows.OpenSpec.upto Rows.treeSameSpec) own started (by kernel_rfl) Tryd.func6
    (witness (enc := enc) #[.slice none 0 0, .slice none 0 0, .int .i64 0] (by kernel_rfl)
      (OpenSpec.preRow_of_cond 8 hx h1 (fun k hk => by cases hk; exact h2) (by kernel_rfl) (met os _))) ?_
  intro W base args ds gs before hval hW _ hcond hwt hL _ _
  exact law_stepU (P := Tryd.prog) (s := Rows.treeSameSpec) closed laid (fn := Tryd.f6) (of_decide_eq_true (by kernel_rfl)) rfl (by kernel_rfl) Tryd.underlying4
    (fun ds h => by match ds, h with | [_, _, _], _ => rfl) contract hval hW (globs hL) hwt (small (hcond _ rfl))

theorem over : Rows.TreeSameUptoSaid :=
  OpenClaim.holds_of_cond 6 Tryd.f6 rfl rfl rfl rfl rfl rfl rfl ⟨rfl, rfl, rfl, rfl, rfl⟩ rfl rfl rfl rfl rfl (by kernel_rfl) Tryd.func6 (by kernel_rfl)
    (of_decide_eq_true (by kernel_rfl)) (by unfold Func.isWrapper; first | (rw [if_pos (by decide +kernel)]; kernel_rfl) | (rw [if_neg (by decide +kernel)]; exact ⟨rfl, rfl⟩))
    (fun os started H enc _ F => by rw [OpenClaim.pre_eq_preRow]; exact lifted os started H enc F)
end Go.Proofs.YtebopfpgicamiaaDoor.treeSame
