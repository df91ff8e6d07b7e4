/- The card of TreeAsks, up to the bulk that it names: what its row lists is tied to the program's text. -/
import Derived.Test.YtebopfpgicamiaaDoorTreeAsks
import Derived.Test.YtebopfpgicamiaaDoorTie
import Derived.Test.YtebopfpgicamiaaDoorCards
namespace Go.Proofs.YtebopfpgicamiaaDoor.treeAsks
set_option linter.unusedSimpArgs false
set_option linter.unusedVariables false
open Go

theorem proved : Rows.TreeAsksUptoCardSaid :=
  Claim7.holds_tied_plain_at .later [] [.data, .widerDeep, .data, .data, .pinned] true (true, "f90207f1b6051af95caf39c4862b683135643bff56d7539904ac1216f0f5fa05") false
    over (fun _ h => by cases h) (by kernel_rfl) (fun _ h => by cases h) treeAsksUpto_row_tie rfl ⟨rfl, rfl⟩ (by kernel_rfl) rfl
    (fun f fn hf hfn => by
      obtain rfl : f = 3 := Option.some.inj ((show Tryd.prog.funcNamed "bobbin/bobbinlaw02.TreeAsks" = some 3 by kernel_rfl).symm.trans hf) |>.symm
      obtain rfl : fn = Tryd.f3 := (Option.some.inj (Tryd.func3.symm.trans hfn)).symm
      exact ⟨by kernel_rfl, fun j t ht => by
        rw [Tryd.params3] at ht
        have hm : t ∈ [22, 22, 25, 25, 9] := by simpa using Array.mem_of_getElem? ht
        have hall : ([22, 22, 25, 25, 9].all fun u => !Tryd.prog.wantsStandIn u) = true := by kernel_rfl
        exact (show Tryd.prog.wantsStandIn t = false by simpa using List.all_eq_true.1 hall t hm)⟩)
    (by kernel_rfl)
#print axioms proved
end Go.Proofs.YtebopfpgicamiaaDoor.treeAsks
