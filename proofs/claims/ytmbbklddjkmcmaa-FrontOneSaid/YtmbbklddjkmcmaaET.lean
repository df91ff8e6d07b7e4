/- The sort, out of the shelf's contracts. -/
import Derived.Test.YtmbbklddjkmcmaaEL
namespace Go.Proofs.Ytmbbklddjkmcmaa
set_option linter.unusedSimpArgs false
set_option linter.unusedVariables false
open Go Go.Fw Go.Dm
theorem a_Sort {H : AHeap} {id : Nat} {l : List Int} (hH : H id = some (.blk (l.map i64))) (h0 : 0 < l.length) (hl : l.length ≤ 1000000000) (N : Nat) :
    ACall Try.prog 47 [.ms id 0 l.length 1] H N (fun r H' N' => r = .tup [] ∧ H' = H.set id (.blk ((sortL l).map i64)) ∧ N' = N) :=
  sort_acall (by kernel_rfl) (fun blk off cap zs w h1 h2 h3 => slices_Sort_int blk off cap zs w h1 h2 h3) hH h0 hl
theorem a_Compact {H : AHeap} {id : Nat} {l : List Int} (hH : H id = some (.blk (l.map i64))) (h0 : 0 < l.length) (hl : l.length ≤ 1000000000) (N : Nat) :
    ACall Try.prog 50 [.ms id 0 l.length 1] H N (fun r H' N' => r = .ms id 0 (Lib.compact l).length 1 ∧ H' = H.set id (.blk ((Lib.compact l ++ List.replicate (l.length - (Lib.compact l).length) 0).map i64)) ∧ N' = N) :=
  compact_acall (by kernel_rfl) (fun blk off cap zs w h1 h2 h3 => slices_Compact_int blk off cap zs w h1 h2 h3) hH h0 hl
theorem p_Sort_nil {z : Nat} : PCall Try.prog 47 [.sl .nil z []] (.tup []) :=
  nil_acall (k := 0) (ra := fun _ => .tup []) (r := fun _ => .tuple #[]) (by kernel_rfl) (fun w => (slices_Sort_int_none none 0 w).mono fun e w' h => ⟨h.1, 0, by rw [h.2]; rfl⟩) (fun e => .tup (vs := []) rfl (fun i c v h => by simp at h))
theorem p_Compact_nil {z : Nat} : PCall Try.prog 50 [.sl .nil z []] (.sl .nil z []) :=
  nil_acall (k := 0) (ra := fun x => x) (r := fun x => x) (by kernel_rfl) (fun w => (slices_Compact_int_empty none 0 w).mono fun e w' h => ⟨h.1, 0, by rw [h.2]; rfl⟩) (fun e => .slNil _)
end Go.Proofs.Ytmbbklddjkmcmaa
