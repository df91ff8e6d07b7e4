/- code, the reference: which programs may be; which Funs are Threads. -/
import Derived.Test.YtefejpckppabpaaGreatDoorNF
namespace Go.Proofs.YtefejpckppabpaaGreatDoor
set_option linter.unusedSimpArgs false
set_option linter.unusedVariables false
open Go Go.Fw

theorem p_refThreads {p : PrgV} (hl : p.funs.length ≤ 1000000000) (H : AHeap) (N : Nat) : ACall Tryz.prog 63 [.agg p.cells] H N (fun r H' N' => N ≤ N' ∧ (∀ j, j < N → H' j = H j) ∧ Built H' N 1 (.sl .nil 0 []) (intCells (thrL p.funs)) r) := by
  refine acallF mixed c_bobbinref07_Threads (by simp) fun hF => ?_
  simp [a_bobbinref07_Threads]
  refine run_loop (fun m s => ∃ j v, j ≤ p.funs.length ∧ m = p.funs.length - j ∧ s.A 1 = .ip p.cells 0 ∧ s.A 3 = v ∧ s.A 4 = i64 j ∧ N ≤ s.N ∧ (∀ j, j < N → s.H j = H j) ∧ Fresh s.H s.N ∧ Built s.H N 1 (.sl .nil 0 []) (intCells (thrL (p.funs.take j))) v) p.funs.length ?_ ?_
  · exact ⟨0, .sl .nil 0 [], by omega, by omega, by simp, by simp, by simp, by simp, fun _ _ => rfl, hF, .nil⟩
  · rintro m A1 H1 N1 ⟨j, v, hj, rfl, e1, e3, e4, hN1, hold, hF1, hB⟩
    simp only at e1 e3 e4 hN1 hold hF1 hB
    by_cases hjl : j = p.funs.length
    · subst hjl
      rw [List.take_length] at hB
      simp [a_bobbinref07_Threadsb1, e1, e3, e4]
      exact ⟨hN1, hold, hB⟩
    · have hlt : j < p.funs.length := by omega
      obtain ⟨x, hx⟩ : ∃ x, p.funs[j] = x := ⟨_, rfl⟩
      have hix : aindex 5 (.sl p.fk 5 (funCells p.funs)) (i64 j) = some (.ip x.cells 0) := aindex_sl (by omega) (by simp [funCells, hlt, hx])
      have hnx := thrL_next hlt
      rw [hx] at hnx
      have hlen := thrL_len (p.funs.take j)
      rw [List.length_take] at hlen
      by_cases ht : x.thread = true
      · rw [if_pos ht] at hnx
        obtain ⟨v', H', N', happ, hB', ho', hN', hF'⟩ := hB.push (bytes := 8) (k := .exact) (x := [i64 j]) hF1 (by omega) rfl (by rw [intCells_len]; unfold lim; omega) (by rw [intCells_len]; omega)
        have hB2 : Built H' N 1 (.sl .nil 0 []) (intCells (thrL (p.funs.take (j + 1)))) v' := by rw [hnx, intCells_app]; exact hB'
        simp [a_bobbinref07_Threadsb1, e1, e3, e4, hlt, hix, ht, happ]
        exact ⟨p.funs.length - (j + 1), by omega, j + 1, by omega, rfl, by rw [wrap_i64 (by omega) (by omega)]; rfl, by omega, fun i hi => by rw [ho' i hi]; exact hold i hi, hF', hB2⟩
      · rw [if_neg ht] at hnx
        rw [← hnx] at hB
        simp [a_bobbinref07_Threadsb1, e1, e3, e4, hlt, hix, ht]
        exact ⟨p.funs.length - (j + 1), by omega, j + 1, by omega, rfl, by rw [wrap_i64 (by omega) (by omega)]; rfl, hN1, hold, hF1, hB⟩

def headP (f : FunV) : Prop := 0 ≤ f.params ∧ f.params ≤ 8 ∧ ¬ (f.thread = true ∧ 0 < f.params) ∧ f.params ≤ f.regs ∧ f.regs ≤ 4096 ∧ 1 ≤ f.code.length ∧ f.code.length ≤ 16384

section
variable {p : PrgV} {f : FunV} {A : Nat → AV} {H : AHeap} {N o : Nat} {fs : List Fr} {Q : Post} {v : AV} {l : List ByteArray}

theorem refMay_h (h6 : A 6 = .mp o 0) (hH : H o = some (.blk f.cells))
    (hk : headP f → ∀ A', (∀ t, t ≤ 10 → A' t = A t) → onward Tryz.prog fs Q .normal ⟨A', H, N⟩)
    (hr : ¬ headP f → ∀ A', A' 2 = bl false → onward Tryz.prog fs Q .ret ⟨A', H, N⟩) : run Tryz.prog a_refMay_h fs Q ⟨A, H, N⟩ := by
  by_cases c1 : f.params < 0
  · have := hr (by unfold headP; omega)
    simp [a_refMay_h, h6, hH, c1]; exact this _ (by simp)
  by_cases c2 : 8 < f.params
  · have := hr (by unfold headP; omega)
    simp [a_refMay_h, h6, hH, c1, c2]; exact this _ (by simp)
  by_cases c3 : f.thread = true ∧ ¬ f.params = 0
  · have := hr (by unfold headP; intro h; exact h.2.2.1 ⟨c3.1, by omega⟩)
    simp [a_refMay_h, h6, hH, c1, c2, c3.1, c3.2]; exact this _ (by simp)
  have d3 : f.thread = true → f.params = 0 := fun h => by
    by_cases h2 : f.params = 0
    · exact h2
    · exact absurd ⟨h, h2⟩ c3
  have d4 : ¬ (f.thread = true ∧ 0 < f.params) := fun h => by have := d3 h.1; omega
  have tail : ∀ A', (∀ t, t ≤ 10 → A' t = A t) → headP f → onward Tryz.prog fs Q .normal ⟨A', H, N⟩ := fun A' h1 h2 => hk h2 A' h1
  by_cases c4 : f.regs < f.params
  · have := hr (by unfold headP; omega)
    cases hth : f.thread with
    | false => simp [a_refMay_h, h6, hH, c1, c2, hth, c4]; exact this _ (by simp)
    | true => simp [a_refMay_h, h6, hH, c1, c2, hth, d3 hth, show f.regs < 0 by rw [d3 hth] at c4; exact c4]; exact this _ (by simp)
  by_cases c5 : 4096 < f.regs
  · have := hr (by unfold headP; omega)
    cases hth : f.thread with
    | false => simp [a_refMay_h, h6, hH, c1, c2, hth, c4, c5]; exact this _ (by simp)
    | true => simp [a_refMay_h, h6, hH, c1, c2, hth, d3 hth, show ¬ f.regs < 0 by rw [d3 hth] at c4; exact c4, c5]; exact this _ (by simp)
  by_cases c6 : (f.code.length : Int) < 1
  · have := hr (by unfold headP; omega)
    cases hth : f.thread with
    | false => simp [a_refMay_h, h6, hH, c1, c2, hth, c4, c5, c6]; exact this _ (by simp)
    | true => simp [a_refMay_h, h6, hH, c1, c2, hth, d3 hth, show ¬ f.regs < 0 by rw [d3 hth] at c4; exact c4, c5, c6]; exact this _ (by simp)
  by_cases c7 : (16384 : Int) < f.code.length
  · have := hr (by unfold headP; omega)
    cases hth : f.thread with
    | false => simp [a_refMay_h, h6, hH, c1, c2, hth, c4, c5, c6, c7]; exact this _ (by simp)
    | true => simp [a_refMay_h, h6, hH, c1, c2, hth, d3 hth, show ¬ f.regs < 0 by rw [d3 hth] at c4; exact c4, c5, c6, c7]; exact this _ (by simp)
  have hh : headP f := ⟨by omega, by omega, d4, by omega, by omega, by omega, by omega⟩
  cases hth : f.thread with
  | false =>
    simp [a_refMay_h, h6, hH, c1, c2, hth, c4, c5, c6, c7]
    refine tail _ (fun t ht => ?_) hh
    (try simp only [upA]); repeat rw [if_neg (by omega)]
  | true =>
    simp [a_refMay_h, h6, hH, c1, c2, hth, d3 hth, show ¬ f.regs < 0 by rw [d3 hth] at c4; exact c4, c5, c6, c7]
    refine tail _ (fun t ht => ?_) hh
    (try simp only [upA]); repeat rw [if_neg (by omega)]
end
end Go.Proofs.YtefejpckppabpaaGreatDoor
