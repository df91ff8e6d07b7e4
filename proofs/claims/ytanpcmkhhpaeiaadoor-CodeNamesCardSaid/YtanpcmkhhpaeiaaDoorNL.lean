/- code: whether a program is large, told exactly enough. -/
import Derived.Test.YtanpcmkhhpaeiaaDoorNK
import Derived.Test.YtanpcmkhhpaeiaaDoorM5
namespace Go.Proofs.YtanpcmkhhpaeiaaDoor
set_option linter.unusedSimpArgs false
set_option linter.unusedVariables false
open Go Go.Fw

/-- As large as a memory holds. -/
structure PrgV.Rch (p : PrgV) : Prop where
  ml : p.mems.length ≤ 140737488355328
  ll : p.locks.length ≤ 140737488355328
  fl : p.funs.length ≤ 140737488355328
  nm : ∀ s ∈ p.names, s.size ≤ 140737488355328
  cl : ∀ f ∈ p.funs, f.code.length ≤ 140737488355328
  al : ∀ f ∈ p.funs, ∀ x ∈ f.code, x.Ok ∧ x.args.length ≤ 140737488355328

theorem PrgV.Rch.ok {p : PrgV} (h : p.Rch) : p.Ok := by
  have hm : maxLen = 9223372036854775807 := rfl
  have := h.ml
  have := h.ll
  have := h.fl
  exact ⟨by omega, by omega, by omega, fun f hf => by have := h.cl f hf; omega⟩

section
variable {p : PrgV} {A : Nat → AV} {H : AHeap} {N : Nat} {fs : List Fr} {Q : Post} {n : Int}

theorem large_mR (hp : p.Rch) (hn0 : 0 ≤ n) (hn1 : n ≤ 1125899906842624) (h1 : A 1 = .ip p.cells 0) (h3 : A 3 = i64 n) (hk : ∀ A' n', n ≤ n' → n' ≤ 1125899906842624 → A' 1 = A 1 → A' 3 = i64 n' → onward Tryd.prog fs Q .normal ⟨A', H, N⟩) : run Tryd.prog a_large_m fs Q ⟨A, H, N⟩ := by
  have hl := hp.ml
  simp [a_large_m]
  refine run_loop (fun m s => ∃ (j : Nat) (n' : Int), n ≤ n' ∧ n' ≤ 1125899906842624 ∧ j ≤ p.mems.length ∧ m = p.mems.length - j ∧ s.A 1 = A 1 ∧ s.A 3 = i64 n' ∧ s.A 4 = i64 j ∧ s.H = H ∧ s.N = N) p.mems.length ?_ ?_
  · exact ⟨0, n, by omega, by omega, by omega, by omega, by simp, by simp [h3], by simp, rfl, rfl⟩
  · rintro m A1 H1 N1 ⟨j, n', hg1, hg2, hj, rfl, e1, e3, e4, rfl, rfl⟩
    simp only at e1 e3 e4
    have d1 := e1.trans h1
    by_cases hjl : j = p.mems.length
    · simp [a_bobbinlaw07_largeb4, d1, e3, e4, hjl]
      exact hk _ n' hg1 hg2 (by simp [e1]) (by simp [e3])
    · have hlt : j < p.mems.length := by omega
      by_cases hn : n' < 40000
      · have hq : aindex 3 (.sl p.mmk 3 (memCells p.mems)) (i64 j) = some (.ip p.mems[j].cells 0) := elem_of hlt
        have hsz : p.mems[j].name.size ≤ 140737488355328 := hp.nm _ (by simp only [PrgV.names, List.mem_append, List.mem_map]; exact .inl (.inl ⟨_, List.getElem_mem hlt, rfl⟩))
        simp [a_bobbinlaw07_largeb4, d1, e3, e4, hlt, hn, hq, MemV.cells]
        refine ⟨p.mems.length - (j + 1), by omega, j + 1, n' + p.mems[j].name.size / 64, by omega, by omega, by omega, rfl, by simp [h1], ?_, ?_⟩
        · rw [wrap_i64 (n := (p.mems[j].name.size : Int) / 64) (by omega) (by omega), wrap_i64 (by omega) (by omega)]
        · rw [wrap_i64 (by omega) (by omega)]; rfl
      · simp [a_bobbinlaw07_largeb4, d1, e3, e4, hlt, hn]
        exact hk _ n' hg1 hg2 (by simp [e1]) (by simp [e3])
theorem large_lR (hp : p.Rch) (hn0 : 0 ≤ n) (hn1 : n ≤ 1125899906842624) (h1 : A 1 = .ip p.cells 0) (h3 : A 3 = i64 n) (hk : ∀ A' n', n ≤ n' → n' ≤ 1125899906842624 → A' 1 = A 1 → A' 3 = i64 n' → onward Tryd.prog fs Q .normal ⟨A', H, N⟩) : run Tryd.prog a_large_l fs Q ⟨A, H, N⟩ := by
  have hl := hp.ll
  simp [a_large_l]
  refine run_loop (fun m s => ∃ (j : Nat) (n' : Int), n ≤ n' ∧ n' ≤ 1125899906842624 ∧ j ≤ p.locks.length ∧ m = p.locks.length - j ∧ s.A 1 = A 1 ∧ s.A 3 = i64 n' ∧ s.A 5 = i64 j ∧ s.H = H ∧ s.N = N) p.locks.length ?_ ?_
  · exact ⟨0, n, by omega, by omega, by omega, by omega, by simp, by simp [h3], by simp, rfl, rfl⟩
  · rintro m A1 H1 N1 ⟨j, n', hg1, hg2, hj, rfl, e1, e3, e4, rfl, rfl⟩
    simp only at e1 e3 e4
    have d1 := e1.trans h1
    by_cases hjl : j = p.locks.length
    · simp [a_bobbinlaw07_largeb3, d1, e3, e4, hjl]
      exact hk _ n' hg1 hg2 (by simp [e1]) (by simp [e3])
    · have hlt : j < p.locks.length := by omega
      by_cases hn : n' < 40000
      · have hq : aindex 1 (.sl p.lk 1 (lockCells p.locks)) (i64 j) = some (.ip [str p.locks[j]] 0) := elem_of hlt
        have hsz : p.locks[j].size ≤ 140737488355328 := hp.nm _ (by simp only [PrgV.names, List.mem_append, List.mem_map]; exact .inl (.inr (List.getElem_mem hlt)))
        simp [a_bobbinlaw07_largeb3, d1, e3, e4, hlt, hn, hq]
        refine ⟨p.locks.length - (j + 1), by omega, j + 1, n' + p.locks[j].size / 64, by omega, by omega, by omega, rfl, by simp [h1], ?_, ?_⟩
        · rw [wrap_i64 (n := (p.locks[j].size : Int) / 64) (by omega) (by omega), wrap_i64 (by omega) (by omega)]
        · rw [wrap_i64 (by omega) (by omega)]; rfl
      · simp [a_bobbinlaw07_largeb3, d1, e3, e4, hlt, hn]
        exact hk _ n' hg1 hg2 (by simp [e1]) (by simp [e3])

/-- What a Fun is, where the program is not large. -/
def SmallF (f : FunV) : Prop := f.code.length ≤ 40000 ∧ ∀ x ∈ f.code, x.args.length ≤ 40000

theorem large_fR (hp : p.Rch) (hn0 : 0 ≤ n) (hn1 : n ≤ 1125899906842624) (h1 : A 1 = .ip p.cells 0) (h3 : A 3 = i64 n)
    (hk : ∀ A' n', n ≤ n' → (n' < 40000 → ∀ f ∈ p.funs, SmallF f) → A' 1 = A 1 → A' 3 = i64 n' → onward Tryd.prog fs Q .normal ⟨A', H, N⟩) : run Tryd.prog a_large_f fs Q ⟨A, H, N⟩ := by
  have hl := hp.fl
  simp [a_large_f]
  refine run_loop (fun m s => ∃ (j : Nat) (n' : Int), n ≤ n' ∧ n' ≤ 1125899906842624 ∧ (n' < 40000 → ∀ f ∈ p.funs.take j, SmallF f) ∧ j ≤ p.funs.length ∧ m = p.funs.length - j ∧ s.A 1 = A 1 ∧ s.A 3 = i64 n' ∧ s.A 6 = i64 j ∧ s.H = H ∧ s.N = N) p.funs.length ?_ ?_
  · exact ⟨0, n, by omega, by omega, by simp, by omega, by omega, by simp, by simp [h3], by simp, rfl, rfl⟩
  · rintro m A1 H1 N1 ⟨j, n', hg1, hg2, hsm, hj, rfl, e1, e3, e4, rfl, rfl⟩
    simp only at e1 e3 e4
    have d1 := e1.trans h1
    by_cases hjl : j = p.funs.length
    · simp [a_bobbinlaw07_largeb2, d1, e3, e4, hjl]
      exact hk _ n' hg1 (fun h => by have := hsm h; rwa [hjl, List.take_length] at this) (by simp [e1]) (by simp [e3])
    · have hlt : j < p.funs.length := by omega
      by_cases hn : n' < 40000
      · have hq : aindex 5 (.sl p.fk 5 (funCells p.funs)) (i64 j) = some (.ip p.funs[j].cells 0) := elem_of hlt
        have hcl := hp.cl _ (List.getElem_mem hlt)
        have hal := hp.al _ (List.getElem_mem hlt)
        have hsz : p.funs[j].name.size ≤ 140737488355328 := hp.nm _ (by simp only [PrgV.names, List.mem_append, List.mem_map]; exact .inr ⟨_, List.getElem_mem hlt, rfl⟩)
        have hold := hsm hn
        clear hsm
        simp [a_bobbinlaw07_largeb2, d1, e3, e4, hlt, hn, hq]
        refine run_loop (fun m s => ∃ (i : Nat) (n2 : Int), n' + 2 + p.funs[j].code.length ≤ n2 ∧ n2 ≤ 1125899906842624 ∧ (n2 < 40000 → ∀ x ∈ p.funs[j].code.take i, x.args.length ≤ 40000) ∧ i ≤ p.funs[j].code.length ∧ m = p.funs[j].code.length - i ∧ s.A 1 = A 1 ∧ s.A 3 = i64 n2 ∧ s.A 6 = i64 j ∧ s.A 7 = i64 i ∧ s.H = H1 ∧ s.N = N1) p.funs[j].code.length ?_ ?_
        · refine ⟨0, n' + 2 + p.funs[j].code.length + p.funs[j].name.size / 64, by omega, by omega, by simp, by omega, by omega, by simp [d1, h1], ?_, by simp [e4], by simp, rfl, rfl⟩
          simp
          rw [wrap_i64 (n := (p.funs[j].name.size : Int) / 64) (by omega) (by omega), wrap_i64 (n := n' + 2) (by omega) (by omega), wrap_i64 (n := n' + 2 + (p.funs[j].code.length : Int)) (by omega) (by omega), wrap_i64 (by omega) (by omega)]
        · rintro m A2 H2 N2 ⟨i, n2, k1, k2, k3, hi, rfl, f1, f3, f6, f7, rfl, rfl⟩
          simp only at f1 f3 f6 f7
          have g1 := f1.trans h1
          have next : (n2 < 40000 → ∀ x ∈ p.funs[j].code, x.args.length ≤ 40000) → n2 < 40000 → ∀ f ∈ p.funs.take (j + 1), SmallF f := by
            intro h4 h5 f hf
            rw [take_next hlt, List.mem_append] at hf
            rcases hf with hf | hf
            · exact hold f hf
            · obtain rfl : f = p.funs[j] := by simpa using hf
              exact ⟨by omega, h4 h5⟩
          by_cases hil : i = p.funs[j].code.length
          · have h4 : n2 < 40000 → ∀ x ∈ p.funs[j].code, x.args.length ≤ 40000 := fun h => by have := k3 h; rwa [hil, List.take_length] at this
            simp [a_bobbinlaw07_largeb1, g1, f3, f6, f7, hq, hil]
            refine ⟨p.funs.length - (j + 1), by omega, j + 1, n2, by omega, by omega, next h4, by omega, rfl, by simp [h1], rfl, ?_⟩
            rw [wrap_i64 (by omega) (by omega)]; rfl
          · have hlt2 : i < p.funs[j].code.length := by omega
            have hx := (hal _ (List.getElem_mem hlt2)).2
            by_cases hn2 : n2 < 40000
            · have hq2 : aindex 6 (.sl p.funs[j].k 6 (codeCells p.funs[j].code)) (i64 i) = some (.ip p.funs[j].code[i].cells 0) := elem_of hlt2
              have k4 := k3 hn2
              simp [a_bobbinlaw07_largeb1, g1, f3, f6, f7, hq, hq2, hlt2, hn2]
              refine ⟨p.funs[j].code.length - (i + 1), by omega, i + 1, n2 + p.funs[j].code[i].args.length, by omega, by omega, ?_, by omega, rfl, by simp [h1], ?_, ?_⟩
              · intro h5 x hx'
                rw [take_next hlt2, List.mem_append] at hx'
                rcases hx' with hx' | hx'
                · exact k4 x hx'
                · obtain rfl : x = p.funs[j].code[i] := by simpa using hx'
                  omega
              · rw [intCells_len, wrap_i64 (by omega) (by omega)]
              · rw [wrap_i64 (by omega) (by omega)]; rfl
            · simp [a_bobbinlaw07_largeb1, g1, f3, f6, f7, hq, hlt2, hn2]
              refine ⟨p.funs.length - (j + 1), by omega, j + 1, n2, by omega, by omega, fun h => absurd h hn2, by omega, rfl, by simp [h1], rfl, ?_⟩
              rw [wrap_i64 (by omega) (by omega)]; rfl
      · simp [a_bobbinlaw07_largeb2, d1, e3, e4, hlt, hn]
        exact hk _ n' hg1 (fun h => absurd h hn) (by simp [e1]) (by simp [e3])

theorem p_largeR (hp : p.Rch) (H : AHeap) (N : Nat) : ACall Tryd.prog 11 [.agg p.cells] H N (fun r H' N' => H' = H ∧ N' = N ∧ ∃ b, r = bl b ∧ (b = false → p.mems.length + p.locks.length + p.funs.length ≤ 600 ∧ ∀ f ∈ p.funs, SmallF f)) := by
  refine acall mixed c_bobbinlaw07_large (by simp) ?_
  have := hp.ml
  have := hp.ll
  have := hp.fl
  unfold a_bobbinlaw07_large
  obtain ⟨_, em⟩ : ∃ c, a_large_m = c := ⟨_, rfl⟩
  rw [em]
  obtain ⟨_, el⟩ : ∃ c, a_large_l = c := ⟨_, rfl⟩
  rw [el]
  obtain ⟨_, ef⟩ : ∃ c, a_large_f = c := ⟨_, rfl⟩
  rw [ef]
  simp
  rw [← em]
  refine large_mR (p := p) (n := 2 * p.mems.length + 2 * p.locks.length) hp (by omega) (by omega) (by simp) ?_ fun A1 n1 gm1 gm2 h1 h3 => ?_
  · simp
    rw [wrap_i64 (n := 2 * (p.mems.length : Int)) (by omega) (by omega), wrap_i64 (n := 2 * (p.locks.length : Int)) (by omega) (by omega), wrap_i64 (by omega) (by omega)]
  have h1 : A1 1 = .ip p.cells 0 := h1.trans (by simp)
  simp
  rw [← el]
  refine large_lR (p := p) hp (by omega) gm2 h1 h3 fun A2 n2 gl1 gl2 e1 e3 => ?_
  have e1 : A2 1 = .ip p.cells 0 := e1.trans h1
  simp
  rw [← ef]
  refine large_fR (p := p) hp (by omega) gl2 e1 e3 fun A3 n3 gf1 gf2 f1 f3 => ?_
  have f1 : A3 1 = .ip p.cells 0 := f1.trans e1
  have hw1 : w64 ((p.mems.length : Int) + p.locks.length) = (p.mems.length : Int) + p.locks.length := wrap_i64 (by omega) (by omega)
  have hw2 : w64 ((p.mems.length : Int) + p.locks.length + p.funs.length) = (p.mems.length : Int) + p.locks.length + p.funs.length := wrap_i64 (by omega) (by omega)
  by_cases h : 40000 ≤ n3
  · simp [f1, f3, h]
  · have h4 := gf2 (by omega)
    simp [f1, f3, h, hw1, hw2]
    by_cases h6 : p.mems.length + p.locks.length + p.funs.length ≤ 600
    · exact .inl ⟨by omega, h6, h4⟩
    · exact .inr (by omega)
end
end Go.Proofs.YtanpcmkhhpaeiaaDoor
