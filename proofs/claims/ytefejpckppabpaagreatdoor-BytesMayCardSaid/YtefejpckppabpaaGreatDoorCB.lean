/- code: what the statements ask themselves: whether a program is large; whether numbers are the same. -/
import Derived.Test.YtefejpckppabpaaGreatDoorCA
namespace Go.Proofs.YtefejpckppabpaaGreatDoor
set_option linter.unusedSimpArgs false
set_option linter.unusedVariables false
open Go Go.Fw

section
variable {p : PrgV} {A : Nat → AV} {H : AHeap} {N : Nat} {fs : List Fr} {Q : Post} {n : Int}

theorem elem_of {α : Type} {f : α → List AV} {l : List α} {k : SK} {z j : Nat} (h : j < l.length) : aindex z (.sl k z (l.map f)) (i64 j) = some (.ip (f l[j]) 0) :=
  aindex_sl (by omega) (by simp [h])

end
end Go.Proofs.YtefejpckppabpaaGreatDoor
