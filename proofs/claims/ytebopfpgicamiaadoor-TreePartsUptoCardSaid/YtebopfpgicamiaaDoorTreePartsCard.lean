/- The card of TreeParts, up to the bulk that it names: what its row lists is tied to the program's text. -/
import Derived.Test.YtebopfpgicamiaaDoorTreeParts
import Derived.Test.YtebopfpgicamiaaDoorTie
import Derived.Test.YtebopfpgicamiaaDoorCards
namespace Go.Proofs.YtebopfpgicamiaaDoor.treeParts
set_option linter.unusedSimpArgs false
set_option linter.unusedVariables false
open Go

theorem proved : Rows.TreePartsUptoCardSaid :=
  Claim7.holds_tied_plain_at .later [] [.data, .widerDeep, .data, .data, .pinned] true (true, "f90207f1b6051af95caf39c4862b683135643bff56d7539904ac1216f0f5fa05") false
    over (fun _ h => by cases h) (by kernel_rfl) (fun _ h => by cases h) treePartsUpto_row_tie rfl ⟨rfl, rfl⟩ (by kernel_rfl) rfl
    (fun f fn hf hfn => by
      obtain rfl : f = 5 := Option.some.inj ((show Tryd.prog.funcNamed "bobbin/bobbinlaw02.TreeParts" = some 5 by kernel_rfl).symm.trans hf) |>.symm
      obtain rfl : fn = Tryd.f5 := (Option.some.inj (Tryd.func5.symm.trans hfn)).symm
      exact ⟨by kernel_rfl, fun j t ht => by
        rw [Tryd.params5] at ht
        have hm : t ∈ [22, 22] := by simpa using Array.mem_of_getElem? ht
        have hall : ([22, 22].all fun u => !Tryd.prog.wantsStandIn u) = true := by kernel_rfl
        exact (show Tryd.prog.wantsStandIn t = false by simpa using List.all_eq_true.1 hall t hm)⟩)
    (by kernel_rfl)
#print axioms proved
end Go.Proofs.YtebopfpgicamiaaDoor.treeParts
