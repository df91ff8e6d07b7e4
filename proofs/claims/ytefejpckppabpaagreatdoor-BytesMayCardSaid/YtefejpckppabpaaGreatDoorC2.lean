/- code: what an instruction's operation names; what it writes, and where it goes to; lists of numbers. -/
import Derived.Test.YtefejpckppabpaaGreatDoorC1
import Derived.Test.YtefejpckppabpaaGreatDoorK0
import Derived.Test.YtefejpckppabpaaGreatDoorK1
namespace Go.Proofs.YtefejpckppabpaaGreatDoor
set_option linter.unusedSimpArgs false
set_option linter.unusedVariables false
open Go Go.Fw

theorem opsAt {n : Nat} (h : n < 14) : n * 5 + 5 ≤ opCells.length ∧ List.take 5 (List.drop (n * 5) opCells) = (opRows.getD n zRow).cells := by
  have : n = 0 ∨ n = 1 ∨ n = 2 ∨ n = 3 ∨ n = 4 ∨ n = 5 ∨ n = 6 ∨ n = 7 ∨ n = 8 ∨ n = 9 ∨ n = 10 ∨ n = 11 ∨ n = 12 ∨ n = 13 := by omega
  rcases this with rfl | rfl | rfl | rfl | rfl | rfl | rfl | rfl | rfl | rfl | rfl | rfl | rfl | rfl <;> exact ⟨by decide, rfl⟩

theorem gptr_ops : gptr 2 = .ip opCells 0 := rfl

theorem p_of (x : Ins) (hx : x.Ok) : PCall Tryz.prog 93 [.agg x.cells] (.tup [.agg (ofR x.op).cells, bl (known x.op)]) := by
  refine PCall.of fun N => acall mixed c_code_of (by simp) ?_
  have h0 := hx.op0
  have h256 := hx.op1
  have hw : IntKind.i64.wrap x.op = x.op := wrap_i64 (by omega) (by omega)
  by_cases h1 : x.op < 1
  · have hk : known x.op = false := by simp [known]; omega
    simp [a_code_of, h1, ofR, hk]
    exact .free rfl
  · by_cases h2 : 14 ≤ x.op
    · have hk : known x.op = false := by simp [known]; omega
      simp [a_code_of, h1, hw, h2, ofR, hk]
      exact .free rfl
    · have hk : known x.op = true := by simp [known]; omega
      obtain ⟨hl1, hl2⟩ := opsAt (n := x.op.toNat) (by omega)
      simp [a_code_of, h0, h1, hw, h2, ofR, hk, gptr_ops, show x.op < 14 by omega, hl1, hl2]
      exact .free rfl

theorem p_Writes (x : Ins) (hx : x.Ok) : PCall Tryz.prog 98 [.agg x.cells] (.tup [i64 (if (ofR x.op).r = true then x.r else 0), bl (ofR x.op).r]) := by
  refine PCall.of fun N => acall mixed c_code_Writes (by simp) ?_
  simp [a_code_Writes]
  refine (p_of x hx).acall ?_
  by_cases hk : known x.op = true
  · by_cases hr : (ofR x.op).r = true
    · simp [hk, hr]; exact .free rfl
    · simp [hk, hr]; exact .free rfl
  · have : (ofR x.op).r = false := by simp [ofR, hk, zRow]
    simp [hk, this]; exact .free rfl



theorem take_next {α : Type} {l : List α} {j : Nat} (h : j < l.length) : l.take (j + 1) = l.take j ++ [l[j]] := by
  rw [List.take_add_one]; simp [h]

theorem p_Equal_int {H : AHeap} {a b : AV} {la lb : List Int} (ha : RdSl H 1 (intCells la) a) (hb : RdSl H 1 (intCells lb) b) (hl : la.length ≤ maxLen) (N : Nat) :
    ACall Tryz.prog 120 [a, b] H N (fun r H' N' => r = bl (decide (la = lb)) ∧ H' = H ∧ N' = N) := by
  have hm : maxLen = 9223372036854775807 := rfl
  refine acall mixed c_slices_Equal_int_int (by simp) ?_
  have hla := ha.len
  have hlb := hb.len
  rw [intCells_len] at hla hlb
  by_cases hll : la.length = lb.length
  · simp [a_slices_Equal_int_int, hla, hlb, hll, -alen]
    refine run_loop (fun m s => ∃ j, j ≤ la.length ∧ m = la.length - j ∧ s.A 0 = a ∧ s.A 1 = b ∧ s.A 12 = i64 la.length ∧ s.A 13 = i64 j ∧ s.H = H ∧ s.N = N ∧ la.take j = lb.take j) la.length ?_ ?_
    · exact ⟨0, by omega, by omega, by simp, by simp, by simp [hll], by simp, by simp, by simp, by simp⟩
    · rintro m A H1 N1 ⟨j, hj, rfl, h0, h1, h12, h13, rfl, rfl, heq⟩
      simp only at h0 h1 h12 h13
      by_cases hjl : j = la.length
      · subst hjl
        have : la = lb := by
          rw [List.take_length, hll, List.take_length] at heq; exact heq
        simp [a_slices_Equal_int_intb1, h12, h13, this]
      · have hlt : j < la.length := by omega
        have hlt2 : j < lb.length := by omega
        obtain ⟨p, hp, pp⟩ := ha.at (intCells_sz la) (intCells_at hlt)
        obtain ⟨q, hq, qq⟩ := hb.at (intCells_sz lb) (intCells_at hlt2)
        have lp := pp.one
        have lq := qq.one
        by_cases hv : la[j] = lb[j]
        · simp [a_slices_Equal_int_intb1, h0, h1, h12, h13, hlt, hp, hq, lp, lq, hv, -aload]
          refine ⟨la.length - (j + 1), by omega, j + 1, by omega, rfl, by rw [wrap_i64 (by omega) (by omega)]; rfl, ?_⟩
          rw [take_next hlt, take_next hlt2, heq, hv]
        · have : la ≠ lb := fun h => hv (by subst h; rfl)
          simp [a_slices_Equal_int_intb1, h0, h1, h12, h13, hlt, hp, hq, lp, lq, hv, this, -aload]
  · have : la ≠ lb := fun h => hll (by rw [h])
    simp [a_slices_Equal_int_int, hla, hlb, show ¬ ((la.length : Int) = lb.length) by omega, this, -alen]

def sameIns (x y : Ins) : Bool := decide (x.op = y.op ∧ x.r = y.r ∧ x.a = y.a ∧ x.b = y.b ∧ x.n = y.n ∧ x.args = y.args)

theorem p_SameIns (x y : Ins) (hx : x.Ok) (hy : y.Ok) : PCall Tryz.prog 94 [.agg x.cells, .agg y.cells] (bl (sameIns x y)) := by
  refine PCall.of fun N => acall mixed c_code_SameIns (by simp) ?_
  by_cases h1 : x.op = y.op
  · by_cases h2 : x.r = y.r
    · by_cases h3 : x.a = y.a
      · by_cases h4 : x.b = y.b
        · by_cases h5 : x.n = y.n
          · simp [a_code_SameIns, h1, h2, h3, h4, h5]
            refine (p_Equal_int (hx.rd _) (hy.rd _) hx.len N).mono ?_
            rintro r H' N' ⟨rfl, rfl, rfl⟩
            simp [sameIns, h1, h2, h3, h4, h5]
            exact .free rfl
          · simp [a_code_SameIns, h1, h2, h3, h4, h5, sameIns]; exact .free rfl
        · simp [a_code_SameIns, h1, h2, h3, h4, sameIns]; exact .free rfl
      · simp [a_code_SameIns, h1, h2, h3, sameIns]; exact .free rfl
    · simp [a_code_SameIns, h1, h2, sameIns]; exact .free rfl
  · simp [a_code_SameIns, h1, sameIns]; exact .free rfl

end Go.Proofs.YtefejpckppabpaaGreatDoor
