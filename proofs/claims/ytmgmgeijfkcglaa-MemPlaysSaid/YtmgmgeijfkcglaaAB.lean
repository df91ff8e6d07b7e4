/- Plain facts on cells behind a store. -/
import Derived.Test.YtmgmgeijfkcglaaA5
namespace Go.Proofs.Ytmgmgeijfkcglaa
set_option linter.unusedSimpArgs false
set_option linter.unusedVariables false
open Go Go.Fw

theorem setRows_err (rows : List (List Int)) (a p v x y : Int) : cellErr (setRows rows a p v) x y = cellErr rows x y := by
  unfold setRows
  split
  · have hl : (rows.set a.toNat ((rows.getD a.toNat []).set p.toNat v)).length = rows.length := by simp
    have hr : ((rows.set a.toNat ((rows.getD a.toNat []).set p.toNat v)).getD x.toNat []).length = (rows.getD x.toNat []).length := by
      simp only [List.getD_eq_getElem?_getD, List.getElem?_set]
      split
      · rename_i h
        split
        · simp [h]
        · rename_i h2
          rw [h] at h2
          simp [List.getElem?_eq_none (Nat.le_of_not_lt h2)]
      · rfl
    unfold cellErr
    rw [hl, hr]
  · rfl

theorem cellErr_in {rows : List (List Int)} {a p : Int} (h : cellErr rows a p = 0) : 0 ≤ a ∧ 0 ≤ p ∧ a.toNat < rows.length ∧ p.toNat < (rows.getD a.toNat []).length := by
  unfold cellErr at h
  split at h
  · cases h
  · split at h
    · cases h
    · omega

theorem setRows_at (rows : List (List Int)) (a p v x y : Int) : cellAt (setRows rows a p v) x y = if cellErr rows x y = 0 ∧ a = x ∧ p = y then v else cellAt rows x y := by
  unfold cellAt
  rw [setRows_err]
  by_cases h : cellErr rows x y = 0
  · rw [if_pos h, if_pos h]
    by_cases hax : a = x ∧ p = y
    · obtain ⟨rfl, rfl⟩ := hax
      rw [if_pos ⟨h, rfl, rfl⟩]
      unfold setRows
      rw [if_pos h]
      unfold cellErr at h
      split at h
      · cases h
      · split at h
        · cases h
        · rename_i h1 h2
          have hi : a.toNat < rows.length := by omega
          have hj : p.toNat < (rows.getD a.toNat []).length := by omega
          simp only [List.getD_eq_getElem?_getD, List.getElem?_set, if_true, if_pos hi, Option.getD_some]
          simp only [List.getD_eq_getElem?_getD] at hj
          rw [if_pos hj]
          rfl
    · rw [if_neg (fun hh => hax hh.2)]
      unfold setRows
      split
      · rename_i h2
        obtain ⟨g1, g2, g3, g4⟩ := cellErr_in h
        obtain ⟨k1, k2, k3, k4⟩ := cellErr_in h2
        simp only [List.getD_eq_getElem?_getD, List.getElem?_set]
        by_cases hx : a = x
        · subst hx
          have hp : p.toNat ≠ y.toNat := by
            intro hh; exact hax ⟨rfl, by omega⟩
          simp only [if_true, if_pos g3, Option.getD_some, List.getElem?_set, if_neg hp]
        · have : a.toNat ≠ x.toNat := by omega
          rw [if_neg this]
      · rfl
  · rw [if_neg h, if_neg h, if_neg (fun hh => h hh.1)]

end Go.Proofs.Ytmgmgeijfkcglaa
