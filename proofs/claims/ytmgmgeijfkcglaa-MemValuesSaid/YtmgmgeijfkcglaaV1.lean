/- MemValues: the document's numbers; the contract. -/
import Derived.Test.YtmgmgeijfkcglaaA7
import Derived.Test.YtmgmgeijfkcglaaK4
namespace Go.Proofs.Ytmgmgeijfkcglaa
open Go Go.Fw

theorem p35 (b : Bool) : PCall Try.prog 35 [bl b] (.tup [i64 (b01 b), bl true]) := by
  refine PCall.of fun N => acall mixed c35 (by simp) ?_
  cases b <;> simp [a35, b01] <;> exact .free rfl

theorem p12 (k a : Int) : PCall Try.prog 12 [u8 k, i64 a] (ans (unR k a)) := by
  refine PCall.of fun N => acall mixed c12 (by simp) ?_
  by_cases h5 : k = 5
  · subst h5; simp [a12, unR]; exact .free rfl
  · by_cases h6 : k = 6
    · subst h6
      simp [a12, unR]
      refine (p35 _).acall ?_
      simp [ans]
      exact .free rfl
    · simp [a12, unR, h5, h6]; exact .free rfl

theorem p14 (k a b : Int) : PCall Try.prog 14 [u8 k, i64 a, i64 b] (ans (binR k a b)) := by
  refine PCall.of fun N => acall mixed c14 (by simp) ?_
  have fin : ∀ (H : AHeap) (n : Int), View H (.tup [i64 n, bl true]) (ans (some n)) := fun H n => .free rfl
  by_cases hk : 7 ≤ k ∧ k ≤ 17
  · have : k = 7 ∨ k = 8 ∨ k = 9 ∨ k = 10 ∨ k = 11 ∨ k = 12 ∨ k = 13 ∨ k = 14 ∨ k = 15 ∨ k = 16 ∨ k = 17 := by omega
    rcases this with rfl | rfl | rfl | rfl | rfl | rfl | rfl | rfl | rfl | rfl | rfl
    · simp [a14, binR]; exact fin _ _
    · simp [a14, binR]; exact fin _ _
    · simp [a14, binR]; exact fin _ _
    · by_cases hb : b = 0
      · simp [a14, binR, hb]; exact .free rfl
      · by_cases h1 : b = -1
        · subst h1; simp [a14, binR, hb]; exact fin _ _
        · simp [a14, binR, hb, h1]; exact fin _ _
    · by_cases hb : b = 0
      · simp [a14, binR, hb]; exact .free rfl
      · by_cases h1 : b = -1
        · subst h1; simp [a14, binR, hb]; exact fin _ _
        · simp [a14, binR, hb, h1]; exact fin _ _
    · simp [a14, binR]; refine (p35 _).acall ?_; simp; exact fin _ _
    · simp [a14, binR]; refine (p35 _).acall ?_; simp; exact fin _ _
    · simp [a14, binR]; refine (p35 _).acall ?_; simp; exact fin _ _
    · simp [a14, binR]; refine (p35 _).acall ?_; simp; exact fin _ _
    · by_cases ha : a = 0 <;> simp [a14, binR, ha] <;> refine (p35 _).acall ?_ <;> simp <;> exact fin _ _
    · by_cases ha : a = 0 <;> simp [a14, binR, ha] <;> refine (p35 _).acall ?_ <;> simp <;> exact fin _ _
  · have e : ∀ n : Int, 7 ≤ n → n ≤ 17 → k ≠ n := fun n h1 h2 => by omega
    simp [a14, bin_none hk, e]
    exact .free rfl

theorem values_contract (k a b : Int) : PCall Try.prog 3 [u8 k, i64 a, i64 b] (bl true) := by
  refine PCall.of fun N => acall mixed c3 (by simp) ?_
  simp [a3]
  refine (p11 k a).acall ?_
  simp [ans]
  refine (p12 k a).acall ?_
  simp [ans]
  refine (p13 k a b).acall ?_
  simp [ans]
  refine (p14 k a b).acall ?_
  simp [ans]
  refine p15.acall ?_
  simp
  exact .free rfl

end Go.Proofs.Ytmgmgeijfkcglaa
