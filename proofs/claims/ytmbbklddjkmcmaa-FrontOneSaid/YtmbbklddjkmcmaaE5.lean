/- front: is a number among others? -/
import Derived.Test.YtmbbklddjkmcmaaE4
namespace Go.Proofs.Ytmbbklddjkmcmaa
set_option linter.unusedSimpArgs false
set_option linter.unusedVariables false
open Go Go.Fw Go.Dm

theorem mem_take_next {l : List Int} {j : Nat} (hj : j < l.length) {n : Int} (h : n ∉ l.take j) (hne : l[j] ≠ n) : n ∉ l.take (j + 1) := by
  rw [Go.Fw.take_next hj, List.mem_append, List.mem_singleton]
  rintro (h1 | h1)
  · exact h h1
  · exact hne h1.symm

theorem p_rHas {H : AHeap} {a : AV} {l : List Int} (ha : RdSl H 1 (intCells l) a) (hl : l.length ≤ maxLen) (n : Int) (N : Nat) :
    ACall Try.prog 51 [a, i64 n] H N (fun r H' N' => r = bl (decide (n ∈ l)) ∧ H' = H ∧ N' = N) := by
  have hm : maxLen = 9223372036854775807 := rfl
  refine acall mixed c_bobbinref13_has (by simp) ?_
  have hla := ha.len
  rw [intCells_len] at hla
  simp [a_bobbinref13_has]
  refine run_loop (fun m s => ∃ j, j ≤ l.length ∧ m = l.length - j ∧ s.A 0 = a ∧ s.A 1 = i64 n ∧ s.A 5 = i64 j ∧ s.H = H ∧ s.N = N ∧ n ∉ l.take j) l.length ?_ ?_
  · exact ⟨0, by omega, by omega, by simp, by simp, by simp, by simp, by simp, by simp⟩
  · rintro m A H1 N1 ⟨j, hj, rfl, h0, h1, h5, rfl, rfl, heq⟩
    simp only at h0 h1 h5
    by_cases hjl : j = l.length
    · subst hjl
      rw [List.take_length] at heq
      simp [a_bobbinref13_hasb1, h0, h1, h5, hla, heq, -alen]
    · have hlt : j < l.length := by omega
      obtain ⟨p, hp, pp⟩ := ha.at (intCells_sz l) (intCells_at hlt)
      have lp := pp.one
      by_cases hv : l[j] = n
      · have : n ∈ l := by rw [← hv]; exact List.getElem_mem hlt
        simp [a_bobbinref13_hasb1, h0, h1, h5, hla, hlt, hp, lp, hv, this, -aload, -alen]
      · simp [a_bobbinref13_hasb1, h0, h1, h5, hla, hlt, hp, lp, hv, -aload, -alen]
        exact ⟨l.length - (j + 1), by omega, j + 1, by omega, rfl, by rw [wrap_i64 (by omega) (by omega)]; rfl, mem_take_next hlt heq hv⟩

theorem p_lHas {H : AHeap} {a : AV} {l : List Int} (ha : RdSl H 1 (intCells l) a) (hl : l.length ≤ maxLen) (n : Int) (N : Nat) :
    ACall Try.prog 36 [a, i64 n] H N (fun r H' N' => r = bl (decide (n ∈ l)) ∧ H' = H ∧ N' = N) := by
  have hm : maxLen = 9223372036854775807 := rfl
  refine acall mixed c_bobbinlaw13_has (by simp) ?_
  have hla := ha.len
  rw [intCells_len] at hla
  simp [a_bobbinlaw13_has]
  refine run_loop (fun m s => ∃ j, j ≤ l.length ∧ m = l.length - j ∧ s.A 0 = a ∧ s.A 1 = i64 n ∧ s.A 5 = i64 j ∧ s.H = H ∧ s.N = N ∧ n ∉ l.take j) l.length ?_ ?_
  · exact ⟨0, by omega, by omega, by simp, by simp, by simp, by simp, by simp, by simp⟩
  · rintro m A H1 N1 ⟨j, hj, rfl, h0, h1, h5, rfl, rfl, heq⟩
    simp only at h0 h1 h5
    by_cases hjl : j = l.length
    · subst hjl
      rw [List.take_length] at heq
      simp [a_bobbinlaw13_hasb1, h0, h1, h5, hla, heq, -alen]
    · have hlt : j < l.length := by omega
      obtain ⟨p, hp, pp⟩ := ha.at (intCells_sz l) (intCells_at hlt)
      have lp := pp.one
      by_cases hv : l[j] = n
      · have : n ∈ l := by rw [← hv]; exact List.getElem_mem hlt
        simp [a_bobbinlaw13_hasb1, h0, h1, h5, hla, hlt, hp, lp, hv, this, -aload, -alen]
      · simp [a_bobbinlaw13_hasb1, h0, h1, h5, hla, hlt, hp, lp, hv, -aload, -alen]
        exact ⟨l.length - (j + 1), by omega, j + 1, by omega, rfl, by rw [wrap_i64 (by omega) (by omega)]; rfl, mem_take_next hlt heq hv⟩

theorem p_Index {H : AHeap} {a : AV} {l : List Int} (ha : RdSl H 1 (intCells l) a) (hl : l.length ≤ maxLen) (n : Int) (N : Nat) :
    ACall Try.prog 60 [a, i64 n] H N (fun r H' N' => (∃ m : Int, r = i64 m ∧ (0 ≤ m ↔ n ∈ l)) ∧ H' = H ∧ N' = N) := by
  have hm : maxLen = 9223372036854775807 := rfl
  refine acall mixed c_slices_Index_int_int (by simp) ?_
  have hla := ha.len
  rw [intCells_len] at hla
  simp [a_slices_Index_int_int, hla, -alen]
  refine run_loop (fun m s => ∃ j, j ≤ l.length ∧ m = l.length - j ∧ s.A 0 = a ∧ s.A 1 = i64 n ∧ s.A 7 = i64 l.length ∧ s.A 8 = i64 j ∧ s.H = H ∧ s.N = N ∧ n ∉ l.take j) l.length ?_ ?_
  · exact ⟨0, by omega, by omega, by simp, by simp, by simp, by simp, by simp, by simp, by simp⟩
  · rintro m A H1 N1 ⟨j, hj, rfl, h0, h1, h7, h8, rfl, rfl, heq⟩
    simp only at h0 h1 h7 h8
    by_cases hjl : j = l.length
    · subst hjl
      rw [List.take_length] at heq
      simp [a_slices_Index_int_intb1, h0, h1, h7, h8, heq, -alen]
    · have hlt : j < l.length := by omega
      obtain ⟨p, hp, pp⟩ := ha.at (intCells_sz l) (intCells_at hlt)
      have lp := pp.one
      by_cases hv : n = l[j]
      · have : n ∈ l := by rw [hv]; exact List.getElem_mem hlt
        simp [a_slices_Index_int_intb1, h0, h1, h7, h8, hlt, hp, lp, ← hv, this, -aload, -alen]
      · simp [a_slices_Index_int_intb1, h0, h1, h7, h8, hlt, hp, lp, hv, -aload, -alen]
        exact ⟨l.length - (j + 1), by omega, j + 1, by omega, rfl, by rw [wrap_i64 (by omega) (by omega)]; rfl, mem_take_next hlt heq (fun h => hv h.symm)⟩

theorem p_Contains {H : AHeap} {a : AV} {l : List Int} (ha : RdSl H 1 (intCells l) a) (hl : l.length ≤ maxLen) (n : Int) (N : Nat) :
    ACall Try.prog 46 [a, i64 n] H N (fun r H' N' => r = bl (decide (n ∈ l)) ∧ H' = H ∧ N' = N) := by
  refine acall mixed c_slices_Contains_int_int (by simp) ?_
  simp [a_slices_Contains_int_int]
  refine (p_Index ha hl n N).mono ?_
  rintro r H' N' ⟨⟨m, rfl, hm⟩, rfl, rfl⟩
  simp [hm]

end Go.Proofs.Ytmbbklddjkmcmaa
