/- It is proved that the law TreeAsks returns true for every input of bulk at most 1048576, where the tables read as the program lays them, and that each argument reads behind the call as before. -/
import Derived.Test.YtebopfpgicamiaaDoorNR
import Derived.Test.YtebopfpgicamiaaDoorWM
namespace Go.Proofs.YtebopfpgicamiaaDoor.treeAsks
set_option linter.unusedSimpArgs false
set_option linter.unusedVariables false
open Go.ChangeShapes Go.WideShapes Go.ChangeAt Go.RowKit Go.Fw

theorem contract (vs : List AV) (hl : vs.length = Tryd.f3.params.size) (ha : ∀ (i : Nat) (t : TypeId) (a : AV), Tryd.f3.params[i]? = some t → vs[i]? = some a → ArgS Tryd.prog t a) (hb : bulkL vs ≤ 1048576 + vs.length) :
    ACall Tryd.prog 3 vs noHeap 0 (fun r _ _ => r = .lit (.bool true)) := by
  rw [Tryd.params3] at hl ha
  match vs, hl with
  | [a0, a1, a2, a3, a4], _ =>
    obtain ⟨k0, l0, rfl, o0⟩ := arg_decls (ha 0 _ a0 rfl rfl)
    obtain ⟨k1, l1, rfl, o1⟩ := arg_decls (ha 1 _ a1 rfl rfl)
    obtain ⟨e2, rfl, o2⟩ := arg_expr (ha 2 _ a2 rfl rfl)
    obtain ⟨e3, rfl, o3⟩ := arg_expr (ha 3 _ a3 rfl rfl)
    obtain ⟨s, rfl⟩ := arg_str (ha 4 _ a4 rfl rfl)
    have z0 := bulk_decls l0
    have z1 := bulk_decls l1
    have z2 := bulk_expr e2
    have z3 := bulk_expr e3
    simp only [bulkL, AV.bulk, List.length_cons, List.length_nil] at hb
    exact p_TreeAsks o0 (by omega) (by omega) o2 (by omega) (by omega) (by omega) noHeap 0

set_option maxRecDepth 100000 in
theorem lifted (os : Os) (started : os.Started) (H : Type) (enc : TypeId × Value → H) (F : Stop.Interp) :
    ReturnsInHanded {} Tryd.checked os 3 .any ((Rows.OpenSpec.upto Rows.treeAsksSpec).preRow enc Tryd.prog Tryd.f3 Rows.treeAsksUptoRow.domain false Rows.treeAsksUptoRow.laid) (((Rows.OpenSpec.upto Rows.treeAsksSpec).at F).post enc Tryd.prog Tryd.f3 false true false false) := by
  obtain ⟨x, hx, h1, h2⟩ := some_of (o := DataW.whole enc Tryd.prog ((World.laidAll Tryd.prog os laid5).forCall (fun _ _ => 0) ⟨#[], #[.slice none 0 0, .slice none 0 0, .agg #[.int .u8 0, .string .empty, .int .i64 0, .slice none 0 0, .int .i64 0], .agg #[.int .u8 0, .string .empty, .int .i64 0, .slice none 0 0, .int .i64 0], .string .empty], []⟩).memory Tryd.f3.params.toList (Rows.OpenSpec.upto Rows.treeAsksSpec).vars false #[Value.slice none 0 0, .slice none 0 0, .agg #[.int .u8 0, .string .empty, .int .i64 0, .slice none 0 0, .int .i64 0], .agg #[.int .u8 0, .string .empty, .int .i64 0, .slice none 0 0, .int .i64 0], .string .empty].toList 8)
    (p := fun x => Rows.treeAsksUptoRow.domain.all (PathCond.test Tryd.prog ⟨Tryd.f3.params.toList, x.1, (Rows.OpenSpec.upto Rows.treeAsksSpec).bare.plain.varTypes Tryd.prog, x.2.1⟩)) (q := fun x => Rows.uptoSmall H (x.1 ++ x.2.1)) (by kernel_rfl)
  refine returnsInHanded_of_row (C := Tryd.checked) (s := Rows.OpenSpec.upto Rows.treeAsksSpec) own started (by kernel_rfl) Tryd.func3
    (witness (enc := enc) #[.slice none 0 0, .slice none 0 0, .agg #[.int .u8 0, .string .empty, .int .i64 0, .slice none 0 0, .int .i64 0], .agg #[.int .u8 0, .string .empty, .int .i64 0, .slice none 0 0, .int .i64 0], .string .empty] (by kernel_rfl)
      (OpenSpec.preRow_of_cond 8 hx h1 (fun k hk => by cases hk; exact h2) (by kernel_rfl) (met os _))) ?_
  intro W base args ds gs before hval hW _ hcond hwt hL _ _
  exact law_stepU (P := Tryd.prog) (s := Rows.treeAsksSpec) closed laid (fn := Tryd.f3) (of_decide_eq_true (by kernel_rfl)) rfl (by kernel_rfl) Tryd.underlying4
    (fun ds h => by match ds, h with | [_, _, _, _, _], _ => rfl) contract hval hW (globs hL) hwt (small (hcond _ rfl))

theorem over : Rows.TreeAsksUptoSaid :=
  OpenClaim.holds_of_cond 3 Tryd.f3 rfl rfl rfl rfl rfl rfl rfl ⟨rfl, rfl, rfl, rfl, rfl⟩ rfl rfl rfl rfl rfl (by kernel_rfl) Tryd.func3 (by kernel_rfl)
    (of_decide_eq_true (by kernel_rfl)) (by unfold Func.isWrapper; first | (rw [if_pos (by decide +kernel)]; kernel_rfl) | (rw [if_neg (by decide +kernel)]; exact ⟨rfl, rfl⟩))
    (fun os started H enc _ F => by rw [OpenClaim.pre_eq_preRow]; exact lifted os started H enc F)
end Go.Proofs.YtebopfpgicamiaaDoor.treeAsks
