/- The laws of mem's numbers: MemLess, MemNumbers. -/
import Derived.Test.YtldggoldiaiooaaA8
namespace Go.Proofs.Ytldggoldiaiooaa
open Go Go.Fw
attribute [local simp] Value.oneCell' anil aidxs noHeap_or set_or

theorem b01_cases (b : Bool) : b01 b = 0 ∨ b01 b = 1 := by cases b <;> simp [b01]

def ltW (a b : Int) : Int := b01 (decide (a < b))
def leW (a b : Int) : Int := b01 (decide (a ≤ b))
def eqW (a b : Int) : Int := b01 (decide (a = b))
def neW (a b : Int) : Int := b01 (decide (a ≠ b))
def andW (a b : Int) : Int := b01 (decide (a ≠ 0 ∧ b ≠ 0))
def orW (a b : Int) : Int := b01 (decide (a ≠ 0 ∨ b ≠ 0))
def notW (a : Int) : Int := b01 (decide (a = 0))

theorem q18_12 (a b : Int) : PCall Try.prog 18 [u8 12, i64 a, i64 b] (i64 (ltW a b)) := p18 12 a b
theorem q18_13 (a b : Int) : PCall Try.prog 18 [u8 13, i64 a, i64 b] (i64 (leW a b)) := p18 13 a b
theorem q18_14 (a b : Int) : PCall Try.prog 18 [u8 14, i64 a, i64 b] (i64 (eqW a b)) := p18 14 a b
theorem q18_15 (a b : Int) : PCall Try.prog 18 [u8 15, i64 a, i64 b] (i64 (neW a b)) := p18 15 a b
theorem q18_16 (a b : Int) : PCall Try.prog 18 [u8 16, i64 a, i64 b] (i64 (andW a b)) := p18 16 a b
theorem q18_17 (a b : Int) : PCall Try.prog 18 [u8 17, i64 a, i64 b] (i64 (orW a b)) := p18 17 a b
theorem q19 (a : Int) : PCall Try.prog 19 [i64 a] (i64 (notW a)) := p19 a

theorem less_one (a b : Int) : w64 (w64 (ltW a b + ltW b a) + eqW a b) = 1 := by
  unfold ltW eqW b01
  by_cases h : a < b
  · have h1 : ¬ b < a := by omega
    have h2 : ¬ a = b := by omega
    simp [h, h1, h2]; decide
  · by_cases h1 : b < a
    · have h2 : ¬ a = b := by omega
      simp [h, h1, h2]; decide
    · have h2 : a = b := by omega
      simp [h2]; decide
theorem lt_trans1 {a b c : Int} (h : ltW a b = 1) (h2 : ltW b c = 1) : ltW a c = 1 := by
  simp [ltW, b01] at h h2 ⊢; omega
theorem le_or (a b : Int) : leW a b = orW (ltW a b) (eqW a b) := by
  simp only [leW, orW, ltW, eqW, b01]
  by_cases h : a < b
  · simp [h, show a ≤ b by omega]
  · by_cases h2 : a = b
    · simp [h2]
    · simp [h, h2, show ¬ a ≤ b by omega]
theorem not_and (a b : Int) : notW (andW a b) = orW (notW a) (notW b) := by
  simp only [notW, andW, orW, b01]
  by_cases h : a = 0 <;> by_cases h2 : b = 0 <;> simp [h, h2]
theorem not_or' (a b : Int) : notW (orW a b) = andW (notW a) (notW b) := by
  simp only [notW, andW, orW, b01]
  by_cases h : a = 0 <;> by_cases h2 : b = 0 <;> simp [h, h2]
theorem not_not' (a : Int) : notW (notW a) = neW a 0 := by
  simp only [notW, neW, b01]
  by_cases h : a = 0 <;> simp [h]

theorem p6 {a b c : Int} : PCall Try.prog 6 [i64 a, i64 b, i64 c] (bl true) := by
  refine PCall.of fun N => acall mixed c6 (by simp) ?_
  have e1 := less_one a b
  have e2 := le_or a b
  have e3 := not_and a b
  have e4 := not_or' a b
  have e5 := not_not' a
  simp [a6]
  refine (q18_12 _ _).acall ?_
  simp
  refine (q18_12 _ _).acall ?_
  simp
  refine (q18_14 _ _).acall ?_
  simp [e1]
  refine p15.acall ?_
  simp
  have h3 : ltW a b = 1 → ltW b c = 1 → ltW a c = 1 := lt_trans1
  by_cases h1 : ltW a b = 1 <;> by_cases h2 : ltW b c = 1
  all_goals
    repeat (first
    | (refine (q18_12 _ _).acall ?_; simp [h1, h2, h3])
    | (refine (q18_13 _ _).acall ?_; simp [h1, h2, e2, e3, e4, e5])
    | (refine (q18_14 _ _).acall ?_; simp [h1, h2, e2, e3, e4, e5])
    | (refine (q18_15 _ _).acall ?_; simp [h1, h2, e2, e3, e4, e5])
    | (refine (q18_16 _ _).acall ?_; simp [h1, h2, e2, e3, e4, e5])
    | (refine (q18_17 _ _).acall ?_; simp [h1, h2, e2, e3, e4, e5])
    | (refine (q19 _).acall ?_; simp [h1, h2, e2, e3, e4, e5]))
    exact .free rfl

theorem bin_truth {j : Nat} (h : 12 ≤ j) (h2 : j ≤ 17) (a b : Int) : ∃ v, binR j a b = some v ∧ (v = 0 ∨ v = 1) := by
  have : j = 12 ∨ j = 13 ∨ j = 14 ∨ j = 15 ∨ j = 16 ∨ j = 17 := by omega
  rcases this with rfl | rfl | rfl | rfl | rfl | rfl <;> exact ⟨_, rfl, b01_cases _⟩

def subW (a b : Int) : Int := w64 (a - b)
theorem q16_8 (a b : Int) : PCall Try.prog 16 [u8 8, i64 a, i64 b] (i64 (subW a b)) := p16 8 a b
theorem q16_7 (a b : Int) : PCall Try.prog 16 [u8 7, i64 a, i64 b] (i64 (addW a b)) := p16 7 a b
theorem q16_9 (a b : Int) : PCall Try.prog 16 [u8 9, i64 a, i64 b] (i64 (mulW a b)) := p16 9 a b
theorem q16_12 (a b : Int) : PCall Try.prog 16 [u8 12, i64 a, i64 b] (i64 (ltW a b)) := p16 12 a b
theorem q16_13 (a b : Int) : PCall Try.prog 16 [u8 13, i64 a, i64 b] (i64 (leW a b)) := p16 13 a b
theorem q16_14 (a b : Int) : PCall Try.prog 16 [u8 14, i64 a, i64 b] (i64 (eqW a b)) := p16 14 a b
theorem q16_15 (a b : Int) : PCall Try.prog 16 [u8 15, i64 a, i64 b] (i64 (neW a b)) := p16 15 a b
theorem q17_5 (a : Int) : PCall Try.prog 17 [u8 5, i64 a] (i64 (negW a)) := p17 5 a
theorem q17_6 (a : Int) : PCall Try.prog 17 [u8 6, i64 a] (i64 (notW a)) := p17 6 a

theorem sub_add (a b : Int) : subW a b = addW a (negW b) := by
  simp only [subW, addW, negW, w64_bmod, Int.add_bmod_bmod]
  rw [show a + (0 - b) = a - b by omega]
theorem lt_not (a b : Int) : ltW a b = notW (leW b a) := by
  simp only [ltW, notW, leW, b01]
  by_cases h : a < b
  · simp [h, show ¬ b ≤ a by omega]
  · simp [h, show b ≤ a by omega]
theorem ne_not (a b : Int) : neW a b = notW (eqW a b) := by
  simp only [neW, notW, eqW, b01]
  by_cases h : a = b <;> simp [h]

def quoW (a b : Int) : Int := w64 (a.tdiv b)
theorem div_mod {a : Int} (h : -9223372036854775808 ≤ a) (h2 : a < 9223372036854775808) (b : Int) : addW (mulW b (quoW a b)) (a.tmod b) = a := by
  simp only [addW, mulW, quoW, w64_bmod, Int.bmod_add_bmod, Int.mul_bmod_bmod]
  rw [Int.mul_tdiv_add_tmod, ← w64_bmod]
  exact wrap_i64 h h2

theorem p4 {a b : Int} (ha : -9223372036854775808 ≤ a) (ha2 : a < 9223372036854775808) : PCall Try.prog 4 [i64 a, i64 b] (bl true) := by
  refine PCall.of fun N => acall mixed c4 (by simp) ?_
  simp [a4]
  refine p15.acall ?_
  simp
  refine run_loop (fun m s => ∃ j : Nat, 12 ≤ j ∧ j ≤ 18 ∧ m = 18 - j ∧ s.A 0 = i64 a ∧ s.A 1 = i64 b ∧ s.A 5 = .fn (.func 16) [] [] ∧ s.A 6 = .fn (.func 17) [] [] ∧ s.A 7 = u8 j) 6 ?_ ?_
  · exact ⟨12, by omega, by omega, by omega, by simp, by simp, by simp, by simp, by simp⟩
  · rintro m A H1 N1 ⟨j, hj1, hj2, rfl, h0, h1, h5, h6, h7⟩
    simp at h0 h1 h5 h6 h7
    by_cases hj : j = 18
    · subst hj
      simp [h7, h0, h1, h5, h6]
      have e1 := sub_add a b
      have e2 := lt_not a b
      have e3 := ne_not a b
      have e4 := div_mod ha ha2 b
      refine (q16_8 _ _).acall ?_
      simp [h0, h1, h5, h6]
      refine (q17_5 _).acall ?_
      simp
      refine (q16_7 _ _).acall ?_
      simp [h0, h1, h5, h6, e1]
      refine (q16_12 _ _).acall ?_
      simp [h0, h1, h5, h6]
      refine (q16_13 _ _).acall ?_
      simp
      refine (q17_6 _).acall ?_
      simp [h0, h1, h5, h6, e2]
      refine (q16_15 _ _).acall ?_
      simp [h0, h1, h5, h6]
      refine (q16_14 _ _).acall ?_
      simp
      refine (q17_6 _).acall ?_
      simp [h0, h1, h5, h6, e3]
      refine (p13 10 a b).acall ?_
      by_cases hb : b = 0
      · subst hb
        have d1 : binR 10 a 0 = none := by simp [binR]
        have d2 : binR 11 a 0 = none := by simp [binR]
        simp [d1, ans, h0, h1]
        refine (p13 11 a 0).acall ?_
        simp [d2, ans, h0, h1]
        exact .free rfl
      · have d1 : binR 10 a b = some (quoW a b) := by simp [binR, hb, quoW]
        have d2 : binR 11 a b = some (a.tmod b) := by simp [binR, hb]
        simp [d1, ans, h0, h1]
        refine (p13 11 a b).acall ?_
        simp [d2, ans, h0, h1, hb, h5]
        refine (q16_9 _ _).acall ?_
        simp
        refine (q16_7 _ _).acall ?_
        simp [h0, e4]
        exact .free rfl
    · have hle : (j : Int) ≤ 17 := by omega
      have hw : IntKind.u8.wrap ((j : Int) + 1) = j + 1 := by simp [IntKind.wrap, IntKind.bits, IntKind.signed]; omega
      simp [h7, h0, h1, hle]
      refine (p13 j a b).acall ?_
      obtain ⟨v, hv, hv2⟩ := bin_truth hj1 (by omega) a b
      rcases hv2 with rfl | rfl
      · simp [hv, ans, h7, h0, h1, h5, h6, hw]
        exact ⟨18 - (j + 1), by omega, j + 1, by omega, by omega, rfl, by omega⟩
      · simp [hv, ans, h7, h0, h1, h5, h6, hw]
        exact ⟨18 - (j + 1), by omega, j + 1, by omega, by omega, rfl, by omega⟩

end Go.Proofs.Ytldggoldiaiooaa
