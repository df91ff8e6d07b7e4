/- The card of CodeNames: what its row lists is tied to the program's text. -/
import Derived.Test.YtanpcmkhhpaeiaaDoorCodeNames
import Derived.Test.YtanpcmkhhpaeiaaDoorTie
import Derived.Test.YtanpcmkhhpaeiaaDoorCards
namespace Go.Proofs.YtanpcmkhhpaeiaaDoor.codeNames
set_option linter.unusedSimpArgs false
set_option linter.unusedVariables false
open Go

theorem proved : Rows.CodeNamesCardSaid :=
  Claim7.holds_tied_plain_at .later [] [.data, .widerDeep, .data, .pinned] true (true, "15aaf8d47ab5e32f9f1245bbb2b3f968dd2b8157ed6aa14d43f088b7ef48f49e") false
    over (fun _ h => by cases h) (by kernel_rfl) (fun _ h => by cases h) codeNames_row_tie rfl ⟨rfl, rfl⟩ (by kernel_rfl) rfl
    (fun f fn hf hfn => by
      obtain rfl : f = 6 := Option.some.inj ((show Tryd.prog.funcNamed "bobbin/bobbinlaw07.CodeNames" = some 6 by kernel_rfl).symm.trans hf) |>.symm
      obtain rfl : fn = Tryd.f6 := (Option.some.inj (Tryd.func6.symm.trans hfn)).symm
      exact ⟨by kernel_rfl, fun j t ht => by
        rw [Tryd.params6] at ht
        have hm : t ∈ [] := by simpa using Array.mem_of_getElem? ht
        have hall : ([].all fun u => !Tryd.prog.wantsStandIn u) = true := by kernel_rfl
        exact (show Tryd.prog.wantsStandIn t = false by simpa using List.all_eq_true.1 hall t hm)⟩)
    (by kernel_rfl)
#print axioms proved
end Go.Proofs.YtanpcmkhhpaeiaaDoor.codeNames
