/- Contracts of mem's numbers: Binary, Unary. -/
import Derived.Test.YtmgmgeijfkcglaaA1
namespace Go.Proofs.Ytmgmgeijfkcglaa
set_option linter.unusedSimpArgs false
set_option linter.unusedVariables false
open Go Go.Fw

/-- What an operation makes of two numbers. -/
def binR (k a b : Int) : Option Int :=
  if k = 7 then some (w64 (a + b)) else if k = 8 then some (w64 (a - b)) else if k = 9 then some (w64 (a * b))
  else if k = 10 then (if b = 0 then none else some (w64 (a.tdiv b))) else if k = 11 then (if b = 0 then none else some (a.tmod b))
  else if k = 12 then some (b01 (decide (a < b))) else if k = 13 then some (b01 (decide (a ≤ b))) else if k = 14 then some (b01 (decide (a = b)))
  else if k = 15 then some (b01 (decide (a ≠ b))) else if k = 16 then some (b01 (decide (a ≠ 0 ∧ b ≠ 0))) else if k = 17 then some (b01 (decide (a ≠ 0 ∨ b ≠ 0))) else none

def ans (r : Option Int) : AV := .tup [i64 (r.getD 0), bl r.isSome]

theorem find_none {k : Int} (h : ¬ (7 ≤ k ∧ k ≤ 17)) : afind (.int .u8 k) opsTab 0 = some none := by
  have e : ∀ n : Int, 7 ≤ n → n ≤ 17 → (k == n) = false := fun n h1 h2 => by simp; omega
  simp [opsTab, e]

theorem bin_none {k a b : Int} (h : ¬ (7 ≤ k ∧ k ≤ 17)) : binR k a b = none := by
  have e : ∀ n : Int, 7 ≤ n → n ≤ 17 → k ≠ n := fun n h1 h2 => by omega
  simp [binR, e]

theorem p13 (k a b : Int) : PCall Try.prog 13 [u8 k, i64 a, i64 b] (ans (binR k a b)) := by
  refine PCall.of fun N => acall mixed c13 (by simp) ?_
  simp [a13]
  refine (p36 N).mono ?_
  rintro r H' N' ⟨rfl, hH⟩
  have fin : ∀ (H : AHeap) (n : Int), View H (.tup [i64 n, bl true]) (ans (some n)) := fun H n => .free rfl
  simp [hH]
  by_cases hk : 7 ≤ k ∧ k ≤ 17
  · have : k = 7 ∨ k = 8 ∨ k = 9 ∨ k = 10 ∨ k = 11 ∨ k = 12 ∨ k = 13 ∨ k = 14 ∨ k = 15 ∨ k = 16 ∨ k = 17 := by omega
    rcases this with rfl | rfl | rfl | rfl | rfl | rfl | rfl | rfl | rfl | rfl | rfl
    · by_cases hb : b = 0 <;> simp [opsTab, binR, hb] <;> refine (p54 _ _).acall ?_ <;> simp <;> exact fin _ _
    · by_cases hb : b = 0 <;> simp [opsTab, binR, hb] <;> refine (p55 _ _).acall ?_ <;> simp <;> exact fin _ _
    · by_cases hb : b = 0 <;> simp [opsTab, binR, hb] <;> refine (p56 _ _).acall ?_ <;> simp <;> exact fin _ _
    · by_cases hb : b = 0
      · simp [opsTab, binR, hb]; exact .free rfl
      · simp [opsTab, binR, hb]; refine (p57 _ _ hb).acall ?_; simp; exact fin _ _
    · by_cases hb : b = 0
      · simp [opsTab, binR, hb]; exact .free rfl
      · simp [opsTab, binR, hb]; refine (p58 _ _ hb).acall ?_; simp; exact fin _ _
    · by_cases hb : b = 0 <;> simp [opsTab, binR, hb, cmp] <;> refine (p53 _ _ _ _ (p59 _ _)).acall ?_ <;> simp <;> exact fin _ _
    · by_cases hb : b = 0 <;> simp [opsTab, binR, hb, cmp] <;> refine (p53 _ _ _ _ (p60 _ _)).acall ?_ <;> simp <;> exact fin _ _
    · by_cases hb : b = 0 <;> simp [opsTab, binR, hb, cmp] <;> refine (p53 _ _ _ _ (p61 _ _)).acall ?_ <;> simp <;> exact fin _ _
    · by_cases hb : b = 0 <;> simp [opsTab, binR, hb, cmp] <;> refine (p53 _ _ _ _ (p62 _ _)).acall ?_ <;> simp <;> exact fin _ _
    · by_cases hb : b = 0 <;> by_cases ha : a = 0 <;> simp [opsTab, binR, hb, ha, cmp] <;> refine (p53 _ _ _ _ (p63 _ _)).acall ?_ <;> simp [hb, ha] <;> exact fin _ _
    · by_cases hb : b = 0 <;> by_cases ha : a = 0 <;> simp [opsTab, binR, hb, ha, cmp] <;> refine (p53 _ _ _ _ (p64 _ _)).acall ?_ <;> simp [hb, ha] <;> exact fin _ _
  · simp [find_none hk, bin_none hk]
    exact .free rfl

/-- What an operation makes of a number. -/
def unR (k a : Int) : Option Int := if k = 5 then some (w64 (0 - a)) else if k = 6 then some (b01 (decide (a = 0))) else none

theorem p11 (k a : Int) : PCall Try.prog 11 [u8 k, i64 a] (ans (unR k a)) := by
  refine PCall.of fun N => acall mixed c11 (by simp) ?_
  by_cases h5 : k = 5
  · subst h5; simp [a11, unR]; exact .free rfl
  · by_cases h6 : k = 6
    · subst h6
      simp [a11, unR]
      refine (p34 _).acall ?_
      simp
      exact .free rfl
    · simp [a11, unR, h5, h6]; exact .free rfl

theorem p18 (k a b : Int) : PCall Try.prog 18 [u8 k, i64 a, i64 b] (i64 ((binR k a b).getD 0)) := by
  refine PCall.of fun N => acall mixed c18 (by simp) ?_
  simp [a18]
  refine (p13 k a b).acall ?_
  simp [ans]
  exact .free rfl
theorem p16 (k a b : Int) : PCall Try.prog 16 [u8 k, i64 a, i64 b] (i64 ((binR k a b).getD 0)) := by
  refine PCall.of fun N => acall mixed c16 (by simp) ?_
  simp [a16]
  refine (p13 k a b).acall ?_
  simp [ans]
  exact .free rfl
theorem p17 (k a : Int) : PCall Try.prog 17 [u8 k, i64 a] (i64 ((unR k a).getD 0)) := by
  refine PCall.of fun N => acall mixed c17 (by simp) ?_
  simp [a17]
  refine (p11 k a).acall ?_
  simp [ans]
  exact .free rfl
theorem p19 (a : Int) : PCall Try.prog 19 [i64 a] (i64 (b01 (decide (a = 0)))) := by
  refine PCall.of fun N => acall mixed c19 (by simp) ?_
  simp [a19]
  refine (p11 6 a).acall ?_
  simp [ans, unR]
  exact .free rfl

end Go.Proofs.Ytmgmgeijfkcglaa
