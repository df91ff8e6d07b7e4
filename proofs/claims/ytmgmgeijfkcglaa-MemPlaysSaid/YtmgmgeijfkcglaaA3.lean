/- Contracts of what mem's memory is built with. -/
import Derived.Test.YtmgmgeijfkcglaaK2
import Derived.Test.YtmgmgeijfkcglaaA1
namespace Go.Proofs.Ytmgmgeijfkcglaa
set_option linter.unusedSimpArgs false
set_option linter.unusedVariables false
open Go Go.Fw

abbrev u64 (n : Int) : AV := .lit (.int .u64 n)

theorem wrap_u64 {n : Int} (h : 0 ≤ n) (h2 : n < 18446744073709551616) : IntKind.u64.wrap n = n := by
  simp [IntKind.wrap, IntKind.bits, IntKind.signed]; omega
theorem wrap_i64 {n : Int} (h : -9223372036854775808 ≤ n) (h2 : n < 9223372036854775808) : IntKind.i64.wrap n = n := by
  simp [IntKind.wrap, IntKind.bits, IntKind.signed]; omega

theorem and32 {b : Int} (h : 0 ≤ b) (h2 : b < 4294967296) : iand .u64 b 4294967295 = b := by
  obtain ⟨n, rfl⟩ := Int.eq_ofNat_of_zero_le h
  have h3 : n < 4294967296 := by omega
  have : (BitVec.ofInt 64 (n : Int) &&& BitVec.ofInt 64 4294967295).toNat = n := by
    simp
    rw [Nat.mod_eq_of_lt (by omega : n < 18446744073709551616)]
    have := Nat.and_two_pow_sub_one_eq_mod n 32
    simp at this
    rw [this]
    omega
  have e : iand .u64 (n : Int) 4294967295 = IntKind.u64.wrap ((BitVec.ofInt 64 (n : Int) &&& BitVec.ofInt 64 4294967295).toNat : Nat) := rfl
  rw [e, this]
  exact wrap_u64 h (by omega)

theorem shr32 {b : Int} (h : 0 ≤ b) (h2 : b < 4294967296) : ishr .u64 b 32 = 0 := by
  have : min (Int.toNat 32) IntKind.u64.bits = 32 := by decide
  unfold ishr
  rw [this, Int.fdiv_eq_ediv_of_nonneg _ (by decide)]
  omega

theorem p70 (b : Int) (h : 0 ≤ b) (h2 : b < 4294967296) : PCall Try.prog 70 [u64 1, u64 b] (.tup [u64 0, u64 b]) := by
  refine PCall.of fun N => acall mixed c70 (by simp) ?_
  have e1 : iand .u64 1 4294967295 = 1 := by decide
  have e0 : iand .u64 0 4294967295 = 0 := by decide
  have e2 : ishr .u64 1 32 = 0 := by decide
  have e3 : ishr .u64 0 32 = 0 := by decide
  simp [a70, and32 h h2, shr32 h h2, e1, e2, e0, e3, wrap_u64 h (by omega), show IntKind.u64.wrap 0 = 0 by decide]
  exact .free rfl

theorem p66 (b : Int) (h : 0 ≤ b) (h2 : b < 4294967296) : PCall Try.prog 66 [u64 1, u64 b] (.tup [u64 0, u64 b]) := by
  refine PCall.of fun N => acall mixed c66 (by simp) ?_
  simp [a66]
  refine (p70 b h h2).acall ?_
  simp
  exact .free rfl

theorem rep_step {v z : AV} {j k q : Nat} (h : j + q ≤ k) : splice j (List.replicate q v) (List.replicate j v ++ List.replicate (k - j) z) = List.replicate (j + q) v ++ List.replicate (k - (j + q)) z := by
  rw [splice_eq (by simp; omega)]
  have h1 : (List.replicate j v ++ List.replicate (k - j) z).take j = List.replicate j v := by
    rw [List.take_append_of_le_length (by simp), List.take_of_length_le (by simp)]
  have h2 : (List.replicate j v ++ List.replicate (k - j) z).drop (j + (List.replicate q v).length) = List.replicate (k - (j + q)) z := by
    rw [List.length_replicate, List.drop_append, List.drop_eq_nil_of_le (by simp), List.nil_append, List.drop_replicate]
    congr 1
    simp
    omega
  rw [h1, h2, List.replicate_append_replicate]

/-- Repeat, of one number. -/
theorem p39 (v : Int) (k : Nat) (h : 1 ≤ k) (h2 : k ≤ 65536) (N : Nat) :
    ACall Try.prog 39 [.sl .exact 1 [[i64 v]], i64 k] noHeap N (fun r H' N' => r = .ms N 0 k 1 ∧ H' = noHeap.set N (.blk (List.replicate k (i64 v))) ∧ N' = N + 1) := by
  refine acall mixed c39 (by simp) ?_
  have n0 : ¬ ((k : Int) < 0) := by omega
  have n1 : ¬ (9223372036854775807 < (k : Int)) := by omega
  have w1 := wrap_u64 (n := k) (by omega) (by omega)
  have w2 := wrap_i64 (n := k) (by omega) (by omega)
  simp [a39, n0, w1, show IntKind.u64.wrap 1 = 1 by decide]
  refine (p66 k (by omega) (by omega)).acall ?_
  have hmk : amake 1 8 [AV.lit (.int .i64 0)] (i64 k) (i64 k) = some (k, k) := by
    simp [amake]; omega
  have hcp : acopy (noHeap.set N (.blk (List.replicate k (AV.lit (.int .i64 0))))) 1 (.ms N 0 k 1) (.sl .exact 1 [[i64 v]]) =
      some (1, noHeap.set N (.blk (List.replicate 1 (i64 v) ++ List.replicate (k - 1) (i64 0)))) := by
    have : min 1 k = 1 := by omega
    obtain ⟨m, rfl⟩ : ∃ m, k = m + 1 := ⟨k - 1, by omega⟩
    simp [acopy, alenS, asrcN, this, splice, List.replicate_succ]
  simp [n0, n1, w2, hmk, hcp]
  refine run_loop (fun m s => ∃ j, 1 ≤ j ∧ j ≤ k ∧ m = k - j ∧ s.A 7 = .ms N 0 k 1 ∧ s.A 8 = i64 j ∧ s.H = noHeap.set N (.blk (List.replicate j (i64 v) ++ List.replicate (k - j) (i64 0))) ∧ s.N = N + 1) (k - 1) ?_ ?_
  · exact ⟨1, by omega, h, rfl, by simp, by simp, by simp, by simp⟩
  · rintro m A H N1 ⟨j, hj1, hj2, rfl, h7, h8, rfl, rfl⟩
    simp at h7 h8
    simp [h7, h8]
    by_cases hjk : j = k
    · subst hjk
      simp [h7, h8]
    · have hlt : j < k := by omega
      have s1 : aslice 1 (.ms N 0 k 1) (some (i64 j)) none none = some (.ms N j (k - j) 1) := by
        simp [aslice, bnd, hj2]
      have s2 : aslice 1 (.ms N 0 k 1) none (some (i64 j)) none = some (.ms N 0 j 1) := by
        simp [aslice, bnd, hj2]
      have s3 : acopy (noHeap.set N (.blk (List.replicate j (i64 v) ++ List.replicate (k - j) (i64 0)))) 1 (.ms N j (k - j) 1) (.ms N 0 j 1) =
          some (min j (k - j), noHeap.set N (.blk (List.replicate (j + min j (k - j)) (i64 v) ++ List.replicate (k - (j + min j (k - j))) (i64 0)))) := by
        have hq : j + min j (k - j) ≤ k := by omega
        have ht : (List.replicate j (i64 v) ++ List.replicate (k - j) (i64 0)).take (min j (k - j)) = List.replicate (min j (k - j)) (i64 v) := by
          rw [List.take_append_of_le_length (by simp; omega), List.take_replicate]
          congr 1
          omega
        have := rep_step (v := i64 v) (z := i64 0) hq
        simp only [acopy, alenS, asrcN, set_at, if_true, List.drop_zero, Nat.mul_one, Nat.zero_add, set_set]
        rw [if_pos (by simp <;> omega)]
        simp only
        rw [if_pos (by simp <;> omega), ht, this]
      simp [hlt, h7, h8, s1, s2, s3]
      generalize hq : min j (k - j) = q
      exact ⟨k - (j + q), by omega, j + q, by omega, by omega, rfl, by rw [wrap_i64 (by omega) (by omega)]; omega, rfl⟩

end Go.Proofs.Ytmgmgeijfkcglaa
