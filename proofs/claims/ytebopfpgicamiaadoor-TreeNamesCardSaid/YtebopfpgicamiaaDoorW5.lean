/- tree: which statements may be, by the program. -/
import Derived.Test.YtebopfpgicamiaaDoorW4
namespace Go.Proofs.YtebopfpgicamiaaDoor
set_option linter.unusedSimpArgs false
set_option linter.unusedVariables false
open Go Go.Fw
section
variable {A : Nat → AV} {H : AHeap} {N : Nat} {fs : List Fr} {Q : Post} {s : StmtV} {r : SShape} {b : Nat}
def b17 (s : StmtV) (r : SShape) : Bool := decide (¬ (0 ≤ r.e ∧ (s.e.length : Int) ≠ r.e) ∧ s.e.length ≤ 8) && someB s.name r.named
def b43 (s : StmtV) : Bool := if s.to = noStr then !s.new else decide (s.kind = 8) && nameB s.to
def b67 (s : StmtV) (r : SShape) : Bool := (r.body || decide (s.body.length = 0)) && (r.els || decide (s.els.length = 0))
theorem may_17 {c : ACode} (hc : a_may_17 = c) (hsz : s.sz ≤ 100000000) (h1 : A 1 = .ip s.cells 0) (h3 : A 3 = .mp b 0) (hb : H b = some (.blk r.cells))
    (hk : ∀ A', A' 1 = A 1 → A' 3 = A 3 → A' 17 = bl (!b17 s r) → onward Tryd.prog fs Q .normal ⟨A', H, N⟩) : run Tryd.prog c fs Q ⟨A, H, N⟩ := by
  subst hc
  rw [s.sz_eq] at hsz
  rw [s.cells_eq] at h1
  have hsome := p_some s.name (by omega) r.named
  by_cases c1 : 0 ≤ r.e
  · by_cases c2 : (s.e.length : Int) = r.e
    · by_cases c3 : (8 : Int) < s.e.length
      · simp [a_may_17, h1, h3, hb, SShape.cells, exprCells_len, c1, c2, c3]
        have : b17 s r = false := by simp [b17]; intro h; omega
        have c3' : 8 < r.e := by omega
        simp [c3']
        exact hk _ (by simp [h1]) (by simp [h3]) (by simp [this])
      · have c3' : ¬ 8 < r.e := by omega
        simp [a_may_17, h1, h3, hb, SShape.cells, exprCells_len, c1, c2, c3, c3']
        refine hsome.acall ?_
        have : b17 s r = someB s.name r.named := by
          have : decide (¬ (0 ≤ r.e ∧ (s.e.length : Int) ≠ r.e) ∧ s.e.length ≤ 8) = true := decide_eq_true ⟨by omega, by omega⟩
          simp only [b17, this, Bool.true_and]
        simp
        exact hk _ (by simp [h1]) (by simp [h3]) (by simp [this])
    · simp [a_may_17, h1, h3, hb, SShape.cells, exprCells_len, c1, c2]
      have : b17 s r = false := by
        have : decide (¬ (0 ≤ r.e ∧ (s.e.length : Int) ≠ r.e) ∧ s.e.length ≤ 8) = false := decide_eq_false (by intro h; exact h.1 ⟨c1, c2⟩)
        simp only [b17, this, Bool.false_and]
      exact hk _ (by simp [h1]) (by simp [h3]) (by simp [this])
  · by_cases c3 : (8 : Int) < s.e.length
    · simp [a_may_17, h1, h3, hb, SShape.cells, exprCells_len, c1, c3]
      have : b17 s r = false := by
        have : decide (¬ (0 ≤ r.e ∧ (s.e.length : Int) ≠ r.e) ∧ s.e.length ≤ 8) = false := decide_eq_false (by intro h; omega)
        simp only [b17, this, Bool.false_and]
      exact hk _ (by simp [h1]) (by simp [h3]) (by simp [this])
    · simp [a_may_17, h1, h3, hb, SShape.cells, exprCells_len, c1, c3]
      refine hsome.acall ?_
      have : b17 s r = someB s.name r.named := by
        have : decide (¬ (0 ≤ r.e ∧ (s.e.length : Int) ≠ r.e) ∧ s.e.length ≤ 8) = true := decide_eq_true ⟨by omega, by omega⟩
        simp only [b17, this, Bool.true_and]
      simp
      exact hk _ (by simp [h1]) (by simp [h3]) (by simp [this])

theorem may_43 {c : ACode} (hc : a_may_43 = c) (hsz : s.sz ≤ 100000000) (h1 : A 1 = .ip s.cells 0)
    (hk : ∀ A', A' 1 = A 1 → A' 3 = A 3 → A' 43 = bl (!b43 s) → onward Tryd.prog fs Q .normal ⟨A', H, N⟩) : run Tryd.prog c fs Q ⟨A, H, N⟩ := by
  subst hc
  rw [s.sz_eq] at hsz
  rw [s.cells_eq] at h1
  have hname : PCall Tryd.prog 23 [str s.to] (bl (nameB s.to)) := p_Name s.to (by omega)
  by_cases c1 : s.to = ⟨#[]⟩
  · have : b43 s = !s.new := by simp [b43, noStr, c1]
    simp [a_may_43, h1, c1]
    exact hk _ (by simp [h1]) (by simp) (by simp [this])
  · by_cases c2 : s.kind = 8
    · simp [a_may_43, h1, c1, c2]
      refine hname.acall ?_
      have : b43 s = nameB s.to := by simp [b43, noStr, c1, c2]
      cases hn : nameB s.to with
      | true =>
        simp [h1, c1]
        exact hk _ (by simp [h1]) (by simp) (by simp [this, hn])
      | false =>
        simp
        exact hk _ (by simp [h1]) (by simp) (by simp [this, hn])
    · simp [a_may_43, h1, c1, c2]
      have : b43 s = false := by simp [b43, noStr, c1, c2]
      exact hk _ (by simp [h1]) (by simp) (by simp [this])

theorem may_67 {c : ACode} (hc : a_may_67 = c) (h1 : A 1 = .ip s.cells 0) (h3 : A 3 = .mp b 0) (hb : H b = some (.blk r.cells))
    (hk : ∀ A', A' 1 = A 1 → A' 67 = bl (!b67 s r) → onward Tryd.prog fs Q .normal ⟨A', H, N⟩) : run Tryd.prog c fs Q ⟨A, H, N⟩ := by
  subst hc
  rw [s.cells_eq] at h1
  have e1 : decide ((0 : Int) < s.body.length) = !decide (s.body.length = 0) := by
    by_cases h : s.body.length = 0
    · simp [h]
    · have : (0 : Int) < s.body.length := by omega
      simp [h, this]; omega
  have e2 : decide ((0 : Int) < s.els.length) = !decide (s.els.length = 0) := by
    by_cases h : s.els.length = 0
    · simp [h]
    · have : (0 : Int) < s.els.length := by omega
      simp [h, this]; omega
  obtain ⟨x, hx⟩ : ∃ x, decide (s.body.length = 0) = x := ⟨_, rfl⟩
  obtain ⟨y, hy⟩ : ∃ y, decide (s.els.length = 0) = y := ⟨_, rfl⟩
  rw [hx] at e1
  rw [hy] at e2
  have hB : b67 s r = ((r.body || x) && (r.els || y)) := by unfold b67; rw [hx, hy]
  obtain ⟨rn, re, rb, rl⟩ := r
  have d1 : ∀ z : Bool, x = z → (decide ((0 : Int) < s.body.length) = !z) := fun z h => by rw [e1, h]
  cases rb <;> cases rl <;> cases x <;> cases y <;> simp at hB e1 e2 <;> simp [a_may_67, h1, h3, hb, SShape.cells, stmtCells_len, e1, e2] <;> exact hk _ (by simp [h1]) (by simp [hB])
end
end Go.Proofs.YtebopfpgicamiaaDoor
