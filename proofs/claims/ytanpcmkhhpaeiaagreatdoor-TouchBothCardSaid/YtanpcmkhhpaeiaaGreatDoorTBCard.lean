/- The card of TouchBoth: what its row lists is tied to the program's text. -/
import Derived.Test.YtanpcmkhhpaeiaaGreatDoorTouchBoth
import Derived.Test.YtanpcmkhhpaeiaaGreatDoorTie
import Derived.Test.YtanpcmkhhpaeiaaGreatDoorCards
namespace Go.Proofs.YtanpcmkhhpaeiaaGreatDoor.touchBoth
set_option linter.unusedSimpArgs false
set_option linter.unusedVariables false
open Go

theorem proved : Rows.TouchBothCardSaid :=
  Claim7.holds_tied_plain_at .later [] [.data, .widerDeep, .data, .pinned] true (true, "65f160460fd42e7665d69c92954a3f68067ecd5d061fc70f3f640bc24cd4ed27") true
    over (fun _ h => by cases h) (by kernel_rfl) (fun _ h => by cases h) touchBoth_row_tie rfl ⟨rfl, rfl⟩ (by kernel_rfl) rfl
    (fun f fn hf hfn => by
      obtain rfl : f = 4 := Option.some.inj ((show Tryz.prog.funcNamed "bobbin/bobbinlaw18.TouchBoth" = some 4 by kernel_rfl).symm.trans hf) |>.symm
      obtain rfl : fn = Tryz.f4 := (Option.some.inj (Tryz.func4.symm.trans hfn)).symm
      exact ⟨by kernel_rfl, fun j t ht => by
        rw [Tryz.params4] at ht
        have hm : t ∈ [43, 43] := by simpa using Array.mem_of_getElem? ht
        have hall : ([43, 43].all fun u => !Tryz.prog.wantsStandIn u) = true := by kernel_rfl
        exact (show Tryz.prog.wantsStandIn t = false by simpa using List.all_eq_true.1 hall t hm)⟩)
    (by kernel_rfl)
#print axioms proved
end Go.Proofs.YtanpcmkhhpaeiaaGreatDoor.touchBoth
