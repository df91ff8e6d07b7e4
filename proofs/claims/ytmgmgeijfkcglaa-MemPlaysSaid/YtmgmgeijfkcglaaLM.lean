/- The shelf's maps.Clone and maps.Equal at this program (the layings printed by the shelf's programs). -/
import Derived.Test.YtmgmgeijfkcglaaHC
import Derived.Test.YtmgmgeijfkcglaaK1
import Derived.Shelf.SlGeneric
namespace Go.Proofs.Ytmgmgeijfkcglaa
set_option linter.unusedVariables false
open Go Go.Shelf Go.Fw
def lays_clone_ren : Go.Shelf.Ren := ⟨fun | 5 => 46 | 7 => 67 | n => n, fun | 23 => 70 | 25 => 3 | 3 => 3 | 4 => 4 | 20 => 20 | n => n, fun | n => n⟩
theorem lays_clone : Go.Proofs.SlLaysW.n5 Try.prog lays_clone_ren := {
  mixed := by kernel_rfl
  f5 := ⟨Try.f46.name, by decide, Try.func46.trans (congrArg some (by kernel_rfl))⟩
  f7 := Try.func67.trans (congrArg some (by kernel_rfl))
  t4 := Try.underlying4
  a4 := Try.isAgg4
  z4 := Try.sizeOf4
  v4 := Try.zeroValue4
  t20 := Try.underlying20
  a20 := Try.isAgg20
  z20 := Try.sizeOf20
  v20 := Try.zeroValue20
  t23 := Try.underlying70
  a23 := Try.isAgg70
  z23 := Try.sizeOf70
  v23 := Try.zeroValue70 }
def lays_equal_ren : Go.Shelf.Ren := ⟨fun | 6 => 45 | n => n, fun | 23 => 70 | 24 => 70 | 26 => 3 | 27 => 3 | 4 => 4 | 3 => 3 | 0 => 0 | 36 => 46 | n => n, fun | n => n⟩
theorem lays_equal : Go.Proofs.SlLaysEq.n6 Try.prog lays_equal_ren := {
  mixed := by kernel_rfl
  f6 := ⟨Try.f45.name, by decide, Try.func45.trans (congrArg some (by kernel_rfl))⟩
  t0 := Try.underlying0
  a0 := Try.isAgg0
  z0 := Try.sizeOf0
  v0 := Try.zeroValue0
  t3 := Try.underlying3
  a3 := Try.isAgg3
  z3 := Try.sizeOf3
  v3 := Try.zeroValue3
  t4 := Try.underlying4
  a4 := Try.isAgg4
  z4 := Try.sizeOf4
  v4 := Try.zeroValue4
  t23 := Try.underlying70
  a23 := Try.isAgg70
  z23 := Try.sizeOf70
  v23 := Try.zeroValue70
  t24 := Try.underlying70
  a24 := Try.isAgg70
  z24 := Try.sizeOf70
  v24 := Try.zeroValue70
  a26 := Try.isAgg3
  z26 := Try.sizeOf3
  a27 := Try.isAgg3
  z27 := Try.sizeOf3
  t36 := Try.underlying46
  a36 := Try.isAgg46
  z36 := Try.sizeOf46 }

theorem a_maps_Clone {H : AHeap} {id : Nat} {es : List (Value × AV)} (hH : H id = some (.map es)) (N : Nat) :
    ACall Try.prog 46 [.mm id] H N (fun r H' N' => r = .mm N ∧ H' = H.set N (.map es) ∧ N' = N + 1) :=
  mclone_acall (by kernel_rfl) (fun b es clock w hb => Go.Proofs.AnyW.maps_Clone lays_clone b es clock w hb) hH
theorem a_maps_Equal {H : AHeap} {i j : Nat} {l1 l2 : List (Int × Int)} (h1 : H i = some (.map (intM l1))) (h2 : H j = some (.map (intM l2))) (r1 : ∀ p ∈ l1, In64 p.1 ∧ In64 p.2) (r2 : ∀ p ∈ l2, In64 p.1 ∧ In64 p.2)
    (s1 : l1.length ≤ maxLen) (s2 : l2.length ≤ maxLen) (N : Nat) : ACall Try.prog 45 [.mm i, .mm j] H N (fun r H' N' => r = bl (mapEq l1 l2) ∧ H' = H ∧ N' = N) :=
  mequal_acall (by kernel_rfl) Try.underlying3 Try.zeroValue3 (fun R1 R2 eqd b1 b2 n1 n2 D1 D2 w o1 o2 z2 hz zd zp hzd hn => Go.Proofs.AnyEq.maps_Equal lays_equal (Go.Maps.int_keyed Try.underlying3) R1 R2 eqd b1 b2 n1 n2 D1 D2 w o1 o2 z2 hz zd zp hzd hn) h1 h2 r1 r2 s1 s2
end Go.Proofs.Ytmgmgeijfkcglaa
