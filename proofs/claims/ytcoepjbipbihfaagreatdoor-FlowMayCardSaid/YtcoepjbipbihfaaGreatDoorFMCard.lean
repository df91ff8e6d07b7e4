/- The card of FlowMay: what its row lists is tied to the program's text. -/
import Derived.Test.YtcoepjbipbihfaaGreatDoorFlowMay
import Derived.Test.YtcoepjbipbihfaaGreatDoorTie
import Derived.Test.YtcoepjbipbihfaaGreatDoorCards
namespace Go.Proofs.YtcoepjbipbihfaaGreatDoor.flowMay
set_option linter.unusedSimpArgs false
set_option linter.unusedVariables false
open Go

theorem proved : Rows.FlowMayCardSaid :=
  Claim7.holds_tied_plain_at .later [] [.data, .widerDeep, .data, .pinned] true (true, "1ebf872916baaa265a21ebecd7750f4e3c3d53a9db75764e564b30c3f7775e43") false
    over (fun _ h => by cases h) (by kernel_rfl) (fun _ h => by cases h) flowMay_row_tie rfl ⟨rfl, rfl⟩ (by kernel_rfl) rfl
    (fun f fn hf hfn => by
      obtain rfl : f = 3 := Option.some.inj ((show Tryz.prog.funcNamed "bobbin/bobbinlaw11.FlowMay" = some 3 by kernel_rfl).symm.trans hf) |>.symm
      obtain rfl : fn = Tryz.f3 := (Option.some.inj (Tryz.func3.symm.trans hfn)).symm
      exact ⟨by kernel_rfl, fun j t ht => by
        rw [Tryz.params3] at ht
        have hm : t ∈ [26, 26] := by simpa using Array.mem_of_getElem? ht
        have hall : ([26, 26].all fun u => !Tryz.prog.wantsStandIn u) = true := by kernel_rfl
        exact (show Tryz.prog.wantsStandIn t = false by simpa using List.all_eq_true.1 hall t hm)⟩)
    (by kernel_rfl)
#print axioms proved
end Go.Proofs.YtcoepjbipbihfaaGreatDoor.flowMay
