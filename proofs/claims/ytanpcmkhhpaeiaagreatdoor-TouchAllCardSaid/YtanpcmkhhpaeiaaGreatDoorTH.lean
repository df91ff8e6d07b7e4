/- touch: whether a program is more than a statement goes over. -/
import Derived.Test.YtanpcmkhhpaeiaaGreatDoorTG
import Derived.Test.YtanpcmkhhpaeiaaGreatDoorNM
namespace Go.Proofs.YtanpcmkhhpaeiaaGreatDoor
set_option linter.unusedSimpArgs false
set_option linter.unusedVariables false
open Go Go.Fw
def FewF (f : FunV) : Prop := f.code.length ≤ 600 ∧ ∀ x ∈ f.code, x.args.length ≤ 100
section
variable {p : PrgV}
theorem p_long (hp : p.Rch) (H : AHeap) (N : Nat) : ACall Tryz.prog 10 [.agg p.cells] H N (fun r H' N' => H' = H ∧ N' = N ∧ ∃ b, r = bl b ∧ (b = false → p.mems.length ≤ 300 ∧ p.locks.length ≤ 300 ∧ p.funs.length ≤ 20 ∧ ∀ f ∈ p.funs, FewF f)) := by
  have := hp.ml
  have := hp.ll
  have hfl := hp.fl
  refine acall mixed c_bobbinlaw18_long (by simp) ?_
  by_cases hf20 : p.funs.length ≤ 20
  · by_cases hm : p.mems.length ≤ 300
    · by_cases hl : p.locks.length ≤ 300
      · have n1 : ¬ (20 : Int) < p.funs.length := by omega
        have n2 : ¬ (300 : Int) < p.mems.length := by omega
        have n3 : ¬ (300 : Int) < p.locks.length := by omega
        simp [a_bobbinlaw18_long, n1, n2, n3]
        refine run_loop (fun m s => ∃ (j : Nat) (n' : Int), 0 ≤ n' ∧ n' ≤ 600 * j ∧ (∀ f ∈ p.funs.take j, FewF f) ∧ j ≤ p.funs.length ∧ m = p.funs.length - j ∧ s.A 1 = .ip p.cells 0 ∧ s.A 3 = i64 n' ∧ s.A 4 = i64 j ∧ s.H = H ∧ s.N = N) p.funs.length ?_ ?_
        · exact ⟨0, 0, by omega, by omega, by simp, by omega, by omega, by simp, by simp, by simp, rfl, rfl⟩
        · rintro m A1 H1 N1 ⟨j, n', hg1, hg2, hsm, hj, rfl, e1, e3, e4, rfl, rfl⟩
          simp only at e1 e3 e4
          by_cases hjl : j = p.funs.length
          · rw [hjl, List.take_length] at hsm
            simp [a_bobbinlaw18_longb2, e1, e3, e4, hjl]
            by_cases hn : n' ≤ 1500
            · exact .inl ⟨hn, hm, hl, hf20, hsm⟩
            · exact .inr (by omega)
          · have hlt : j < p.funs.length := by omega
            have hq : aindex 5 (.sl p.fk 5 (funCells p.funs)) (i64 j) = some (.ip p.funs[j].cells 0) := elem_of hlt
            have hcl := hp.cl _ (List.getElem_mem hlt)
            by_cases h600 : p.funs[j].code.length ≤ 600
            · have n6 : ¬ (600 : Int) < p.funs[j].code.length := by omega
              simp [a_bobbinlaw18_longb2, e1, e3, e4, hlt, hq, n6]
              refine run_loop (fun m s => ∃ (i : Nat), (∀ x ∈ p.funs[j].code.take i, x.args.length ≤ 100) ∧ i ≤ p.funs[j].code.length ∧ m = p.funs[j].code.length - i ∧ s.A 1 = .ip p.cells 0 ∧ s.A 3 = i64 (n' + p.funs[j].code.length) ∧ s.A 4 = i64 j ∧ s.A 5 = i64 i ∧ s.H = H1 ∧ s.N = N1) p.funs[j].code.length ?_ ?_
              · refine ⟨0, by simp, by omega, by omega, by simp [e1], ?_, by simp [e4], by simp, rfl, rfl⟩
                simp
                rw [wrap_i64 (by omega) (by omega)]
              · rintro m A2 H2 N2 ⟨i, k3, hi, rfl, f1, f3, f4, f5, rfl, rfl⟩
                simp only at f1 f3 f4 f5
                by_cases hil : i = p.funs[j].code.length
                · have h4 : ∀ x ∈ p.funs[j].code, x.args.length ≤ 100 := by rwa [hil, List.take_length] at k3
                  simp [a_bobbinlaw18_longb1, f1, f3, f4, f5, hq, hil]
                  refine ⟨p.funs.length - (j + 1), by omega, j + 1, n' + p.funs[j].code.length, by omega, by omega, fun f hf => ?_, by omega, rfl, rfl, ?_⟩
                  · rw [take_next hlt, List.mem_append] at hf
                    rcases hf with hf | hf
                    · exact hsm f hf
                    · obtain rfl : f = p.funs[j] := by simpa using hf
                      exact ⟨h600, h4⟩
                  · rw [wrap_i64 (by omega) (by omega)]; rfl
                · have hlt2 : i < p.funs[j].code.length := by omega
                  have hq2 : aindex 6 (.sl p.funs[j].k 6 (codeCells p.funs[j].code)) (i64 i) = some (.ip p.funs[j].code[i].cells 0) := elem_of hlt2
                  by_cases h100 : p.funs[j].code[i].args.length ≤ 100
                  · have n7 : ¬ (100 : Int) < p.funs[j].code[i].args.length := by omega
                    simp [a_bobbinlaw18_longb1, f1, f3, f4, f5, hq, hq2, hlt2, n7, intCells_len]
                    refine ⟨p.funs[j].code.length - (i + 1), by omega, i + 1, fun x hx => ?_, by omega, rfl, ?_⟩
                    · rw [take_next hlt2, List.mem_append] at hx
                      rcases hx with hx | hx
                      · exact k3 x hx
                      · obtain rfl : x = p.funs[j].code[i] := by simpa using hx
                        exact h100
                    · rw [wrap_i64 (by omega) (by omega)]; rfl
                  · have n7 : (100 : Int) < p.funs[j].code[i].args.length := by omega
                    simp [a_bobbinlaw18_longb1, f1, f3, f4, f5, hq, hq2, hlt2, n7, intCells_len]
            · have n6 : (600 : Int) < p.funs[j].code.length := by omega
              simp [a_bobbinlaw18_longb2, e1, e3, e4, hlt, hq, n6]
      · have n1 : ¬ (20 : Int) < p.funs.length := by omega
        have n2 : ¬ (300 : Int) < p.mems.length := by omega
        have n3 : (300 : Int) < p.locks.length := by omega
        simp [a_bobbinlaw18_long, n1, n2, n3]
    · have n1 : ¬ (20 : Int) < p.funs.length := by omega
      have n2 : (300 : Int) < p.mems.length := by omega
      simp [a_bobbinlaw18_long, n1, n2]
  · have n1 : (20 : Int) < p.funs.length := by omega
    simp [a_bobbinlaw18_long, n1]
end
theorem few_shr {p : PrgV} (h : p.funs.length ≤ 20) (h2 : ∀ f ∈ p.funs, FewF f) : p.Shr := ⟨by omega, fun f hf => by have := (h2 f hf).1; omega⟩
theorem few_fit {p : PrgV} (hp : p.Rch) (h1 : p.mems.length ≤ 300) (h2 : p.locks.length ≤ 300) (h : p.funs.length ≤ 20) (h4 : ∀ f ∈ p.funs, FewF f) : p.Fit :=
  hp.fit (by omega) fun f hf => ⟨by have := (h4 f hf).1; omega, fun x hx => by have := (h4 f hf).2 x hx; omega⟩
end Go.Proofs.YtanpcmkhhpaeiaaGreatDoor
