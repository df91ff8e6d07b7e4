/- bytes: the same numbers. -/
import Derived.Test.YtefejpckppabpaaGreatDoorW2
import Derived.Test.YtefejpckppabpaaGreatDoorKR
namespace Go.Proofs.YtefejpckppabpaaGreatDoor
set_option linter.unusedSimpArgs false
set_option linter.unusedVariables false
open Go Go.Fw
/-- The same numbers? -/
theorem p_Ints {H : AHeap} {a b : AV} {la lb : List Int} (ha : RdSl H 1 (intCells la) a) (hb : RdSl H 1 (intCells lb) b) (hl : la.length ≤ maxLen) (N : Nat) :
    ACall Tryz.prog 13 [a, b] H N (fun r H' N' => r = bl (decide (la = lb)) ∧ H' = H ∧ N' = N) := by
  have hm : maxLen = 9223372036854775807 := rfl
  refine acall mixed c_bobbinref12_Ints (by simp) ?_
  have hla := ha.len
  have hlb := hb.len
  rw [intCells_len] at hla hlb
  by_cases hll : la.length = lb.length
  · simp [a_bobbinref12_Ints, hla, hlb, hll, -alen]
    refine run_loop (fun m s => ∃ j, j ≤ la.length ∧ m = la.length - j ∧ s.A 0 = a ∧ s.A 1 = b ∧ s.A 5 = i64 j ∧ s.H = H ∧ s.N = N ∧ la.take j = lb.take j) la.length ?_ ?_
    · exact ⟨0, by omega, by omega, by simp, by simp, by simp, by simp, by simp, by simp⟩
    · rintro m A H1 N1 ⟨j, hj, rfl, h0, h1, h5, rfl, rfl, heq⟩
      simp only at h0 h1 h5
      by_cases hjl : j = la.length
      · subst hjl
        have : la = lb := by
          rw [List.take_length, hll, List.take_length] at heq; exact heq
        simp [a_bobbinref12_Intsb1, h0, h1, h5, hla, this, -alen]
      · have hlt : j < la.length := by omega
        have hlt2 : j < lb.length := by omega
        obtain ⟨p, hp, pp⟩ := ha.at (intCells_sz la) (intCells_at hlt)
        obtain ⟨q, hq, qq⟩ := hb.at (intCells_sz lb) (intCells_at hlt2)
        have lp := pp.one
        have lq := qq.one
        by_cases hv : la[j] = lb[j]
        · simp [a_bobbinref12_Intsb1, h0, h1, h5, hla, hlt, hp, hq, lp, lq, hv, -aload, -alen]
          refine ⟨la.length - (j + 1), by omega, j + 1, by omega, rfl, by rw [wrap_i64 (by omega) (by omega)]; rfl, ?_⟩
          rw [take_next hlt, take_next hlt2, heq, hv]
        · have : la ≠ lb := fun h => hv (by subst h; rfl)
          simp [a_bobbinref12_Intsb1, h0, h1, h5, hla, hlt, hp, hq, lp, lq, hv, this, -aload, -alen]
  · have : la ≠ lb := fun h => hll (by rw [h])
    simp [a_bobbinref12_Ints, hla, hlb, show ¬ ((la.length : Int) = lb.length) by omega, this, -alen]
end Go.Proofs.YtefejpckppabpaaGreatDoor
