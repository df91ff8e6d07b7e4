/- The card of TouchAll: what its row lists is tied to the program's text. -/
import Derived.Test.YtanpcmkhhpaeiaaGreatDoorTouchAll
import Derived.Test.YtanpcmkhhpaeiaaGreatDoorTie
import Derived.Test.YtanpcmkhhpaeiaaGreatDoorCards
namespace Go.Proofs.YtanpcmkhhpaeiaaGreatDoor.touchAll
set_option linter.unusedSimpArgs false
set_option linter.unusedVariables false
open Go

theorem proved : Rows.TouchAllCardSaid :=
  Claim7.holds_tied_plain_at .later [] [.data, .widerDeep, .data, .pinned] true (true, "65f160460fd42e7665d69c92954a3f68067ecd5d061fc70f3f640bc24cd4ed27") true
    over (fun _ h => by cases h) (by kernel_rfl) (fun _ h => by cases h) touchAll_row_tie rfl ⟨rfl, rfl⟩ (by kernel_rfl) rfl
    (fun f fn hf hfn => by
      obtain rfl : f = 6 := Option.some.inj ((show Tryz.prog.funcNamed "bobbin/bobbinlaw18.TouchAll" = some 6 by kernel_rfl).symm.trans hf) |>.symm
      obtain rfl : fn = Tryz.f6 := (Option.some.inj (Tryz.func6.symm.trans hfn)).symm
      exact ⟨by kernel_rfl, fun j t ht => by
        rw [Tryz.params6] at ht
        have hm : t ∈ [26, 3, 3] := by simpa using Array.mem_of_getElem? ht
        have hall : ([26, 3, 3].all fun u => !Tryz.prog.wantsStandIn u) = true := by kernel_rfl
        exact (show Tryz.prog.wantsStandIn t = false by simpa using List.all_eq_true.1 hall t hm)⟩)
    (by kernel_rfl)
#print axioms proved
end Go.Proofs.YtanpcmkhhpaeiaaGreatDoor.touchAll
