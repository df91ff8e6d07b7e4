/- The card of BytesMay: what its row lists is tied to the program's text. -/
import Derived.Test.YtefejpckppabpaaGreatDoorBytesMay
import Derived.Test.YtefejpckppabpaaGreatDoorTie
import Derived.Test.YtefejpckppabpaaGreatDoorCards
namespace Go.Proofs.YtefejpckppabpaaGreatDoor.bytesMay
set_option linter.unusedSimpArgs false
set_option linter.unusedVariables false
open Go

theorem proved : Rows.BytesMayCardSaid :=
  Claim7.holds_tied_plain_at .later [] [.data, .widerDeep, .data, .data, .pinned] true (true, "4632710f8cdacc6dc12ecaa9b2a93d48e45e9478503ccdbe494ee5457cfc9dde") false
    over (fun _ h => by cases h) (by kernel_rfl) (fun _ h => by cases h) bytesMay_row_tie rfl ⟨rfl, rfl⟩ (by kernel_rfl) rfl
    (fun f fn hf hfn => by
      obtain rfl : f = 3 := Option.some.inj ((show Tryz.prog.funcNamed "bobbin/bobbinlaw29.BytesMay" = some 3 by kernel_rfl).symm.trans hf) |>.symm
      obtain rfl : fn = Tryz.f3 := (Option.some.inj (Tryz.func3.symm.trans hfn)).symm
      exact ⟨by kernel_rfl, fun j t ht => by
        rw [Tryz.params3] at ht
        have hm : t ∈ [26, 26, 3] := by simpa using Array.mem_of_getElem? ht
        have hall : ([26, 26, 3].all fun u => !Tryz.prog.wantsStandIn u) = true := by kernel_rfl
        exact (show Tryz.prog.wantsStandIn t = false by simpa using List.all_eq_true.1 hall t hm)⟩)
    (by kernel_rfl)
#print axioms proved
end Go.Proofs.YtefejpckppabpaaGreatDoor.bytesMay
