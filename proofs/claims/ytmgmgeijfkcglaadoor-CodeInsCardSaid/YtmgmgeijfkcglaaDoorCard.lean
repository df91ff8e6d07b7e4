/- The card of CodeIns: what its row lists is tied to the program's text. -/
import Derived.Test.YtmgmgeijfkcglaaDoorRow
import Derived.Test.YtmgmgeijfkcglaaDoorTie
import Derived.Test.YtmgmgeijfkcglaaDoorCards
namespace Go.Proofs.YtmgmgeijfkcglaaDoor.codeIns
open Go

theorem proved : Rows.CodeInsCardSaid :=
  Claim7.holds_tied_plain_at .later [] [.data] true (true, "0d5aa42e68c10f9ae38d2e445b5b0f11a2d9cd43b1105d94c38e5702657fcc2d") false
    over (fun _ h => by cases h) (by kernel_rfl) (fun _ h => by cases h) codeIns_row_tie rfl ⟨rfl, rfl⟩ (by kernel_rfl) rfl
    (fun f fn hf hfn => by
      obtain rfl : f = 3 := Option.some.inj ((show Tryd.prog.funcNamed "bobbin/bobbinlaw07.CodeIns" = some 3 by kernel_rfl).symm.trans hf) |>.symm
      obtain rfl : fn = Tryd.f3 := (Option.some.inj (Tryd.func3.symm.trans hfn)).symm
      exact ⟨by kernel_rfl, fun j t ht => by
        rw [Tryd.params3] at ht
        have hm : t ∈ [26, 3, 29, 29] := by simpa using Array.mem_of_getElem? ht
        have hall : ([26, 3, 29, 29].all fun u => !Tryd.prog.wantsStandIn u) = true := by kernel_rfl
        exact (show Tryd.prog.wantsStandIn t = false by simpa using List.all_eq_true.1 hall t hm)⟩)
    (by kernel_rfl)
#print axioms proved
end Go.Proofs.YtmgmgeijfkcglaaDoor.codeIns
