/- code: what the statements ask themselves: whether a program is large; whether numbers are the same. -/
import Derived.Test.YtanpcmkhhpaeiaaDoorCA
namespace Go.Proofs.YtanpcmkhhpaeiaaDoor
set_option linter.unusedSimpArgs false
set_option linter.unusedVariables false
open Go Go.Fw

section
variable {p : PrgV} {A : Nat → AV} {H : AHeap} {N : Nat} {fs : List Fr} {Q : Post} {n : Int}

theorem elem_of {α : Type} {f : α → List AV} {l : List α} {k : SK} {z j : Nat} (h : j < l.length) : aindex z (.sl k z (l.map f)) (i64 j) = some (.ip (f l[j]) 0) :=
  aindex_sl (by omega) (by simp [h])

theorem large_m (hp : p.Ok) (h1 : A 1 = .ip p.cells 0) (h3 : A 3 = i64 n) (hk : ∀ A' n', A' 1 = A 1 → A' 3 = i64 n' → onward Tryd.prog fs Q .normal ⟨A', H, N⟩) : run Tryd.prog a_large_m fs Q ⟨A, H, N⟩ := by
  have hm : maxLen = 9223372036854775807 := rfl
  have hl := hp.ml
  simp [a_large_m]
  refine run_loop (fun m s => ∃ (j : Nat) (n' : Int), j ≤ p.mems.length ∧ m = p.mems.length - j ∧ s.A 1 = A 1 ∧ s.A 3 = i64 n' ∧ s.A 4 = i64 j ∧ s.H = H ∧ s.N = N) p.mems.length ?_ ?_
  · exact ⟨0, n, by omega, by omega, by simp, by simp [h3], by simp, rfl, rfl⟩
  · rintro m A1 H1 N1 ⟨j, n', hj, rfl, e1, e3, e4, rfl, rfl⟩
    simp only at e1 e3 e4
    have d1 := e1.trans h1
    by_cases hjl : j = p.mems.length
    · simp [a_bobbinlaw07_largeb4, d1, e3, e4, hjl]
      exact hk _ n' (by simp [e1]) (by simp [e3])
    · have hlt : j < p.mems.length := by omega
      by_cases hn : n' < 40000
      · have hq : aindex 3 (.sl p.mmk 3 (memCells p.mems)) (i64 j) = some (.ip p.mems[j].cells 0) := elem_of hlt
        simp [a_bobbinlaw07_largeb4, d1, e3, e4, hlt, hn, hq, MemV.cells]
        refine ⟨p.mems.length - (j + 1), by omega, j + 1, by omega, rfl, by simp [h1], ?_⟩
        rw [wrap_i64 (by omega) (by omega)]; rfl
      · simp [a_bobbinlaw07_largeb4, d1, e3, e4, hlt, hn]
        exact hk _ n' (by simp [e1]) (by simp [e3])

theorem large_l (hp : p.Ok) (h1 : A 1 = .ip p.cells 0) (h3 : A 3 = i64 n) (hk : ∀ A' n', A' 1 = A 1 → A' 3 = i64 n' → onward Tryd.prog fs Q .normal ⟨A', H, N⟩) : run Tryd.prog a_large_l fs Q ⟨A, H, N⟩ := by
  have hm : maxLen = 9223372036854775807 := rfl
  have hl := hp.ll
  simp [a_large_l]
  refine run_loop (fun m s => ∃ (j : Nat) (n' : Int), j ≤ p.locks.length ∧ m = p.locks.length - j ∧ s.A 1 = A 1 ∧ s.A 3 = i64 n' ∧ s.A 5 = i64 j ∧ s.H = H ∧ s.N = N) p.locks.length ?_ ?_
  · exact ⟨0, n, by omega, by omega, by simp, by simp [h3], by simp, rfl, rfl⟩
  · rintro m A1 H1 N1 ⟨j, n', hj, rfl, e1, e3, e4, rfl, rfl⟩
    simp only at e1 e3 e4
    have d1 := e1.trans h1
    by_cases hjl : j = p.locks.length
    · simp [a_bobbinlaw07_largeb3, d1, e3, e4, hjl]
      exact hk _ n' (by simp [e1]) (by simp [e3])
    · have hlt : j < p.locks.length := by omega
      by_cases hn : n' < 40000
      · have hq : aindex 1 (.sl p.lk 1 (lockCells p.locks)) (i64 j) = some (.ip [str p.locks[j]] 0) := elem_of hlt
        simp [a_bobbinlaw07_largeb3, d1, e3, e4, hlt, hn, hq]
        refine ⟨p.locks.length - (j + 1), by omega, j + 1, by omega, rfl, by simp [h1], ?_⟩
        rw [wrap_i64 (by omega) (by omega)]; rfl
      · simp [a_bobbinlaw07_largeb3, d1, e3, e4, hlt, hn]
        exact hk _ n' (by simp [e1]) (by simp [e3])

theorem large_f (hp : p.Ok) (h1 : A 1 = .ip p.cells 0) (h3 : A 3 = i64 n) (hk : ∀ A' n', A' 1 = A 1 → A' 3 = i64 n' → onward Tryd.prog fs Q .normal ⟨A', H, N⟩) : run Tryd.prog a_large_f fs Q ⟨A, H, N⟩ := by
  have hm : maxLen = 9223372036854775807 := rfl
  have hl := hp.fl
  simp [a_large_f]
  refine run_loop (fun m s => ∃ (j : Nat) (n' : Int), j ≤ p.funs.length ∧ m = p.funs.length - j ∧ s.A 1 = A 1 ∧ s.A 3 = i64 n' ∧ s.A 6 = i64 j ∧ s.H = H ∧ s.N = N) p.funs.length ?_ ?_
  · exact ⟨0, n, by omega, by omega, by simp, by simp [h3], by simp, rfl, rfl⟩
  · rintro m A1 H1 N1 ⟨j, n', hj, rfl, e1, e3, e4, rfl, rfl⟩
    simp only at e1 e3 e4
    have d1 := e1.trans h1
    by_cases hjl : j = p.funs.length
    · simp [a_bobbinlaw07_largeb2, d1, e3, e4, hjl]
      exact hk _ n' (by simp [e1]) (by simp [e3])
    · have hlt : j < p.funs.length := by omega
      by_cases hn : n' < 40000
      · have hq : aindex 5 (.sl p.fk 5 (funCells p.funs)) (i64 j) = some (.ip p.funs[j].cells 0) := elem_of hlt
        have hcl := hp.cl _ (List.getElem_mem hlt)
        simp [a_bobbinlaw07_largeb2, d1, e3, e4, hlt, hn, hq]
        refine run_loop (fun m s => ∃ (i : Nat) (n' : Int), i ≤ p.funs[j].code.length ∧ m = p.funs[j].code.length - i ∧ s.A 1 = A 1 ∧ s.A 3 = i64 n' ∧ s.A 6 = i64 j ∧ s.A 7 = i64 i ∧ s.H = H1 ∧ s.N = N1) p.funs[j].code.length ?_ ?_
        · exact ⟨0, _, by omega, by omega, by simp [d1, h1], by simp; rfl, by simp [e4], by simp, rfl, rfl⟩
        · rintro m A2 H2 N2 ⟨i, n2, hi, rfl, f1, f3, f6, f7, rfl, rfl⟩
          simp only at f1 f3 f6 f7
          have g1 := f1.trans h1
          by_cases hil : i = p.funs[j].code.length
          · simp [a_bobbinlaw07_largeb1, g1, f3, f6, f7, hq, hil]
            refine ⟨p.funs.length - (j + 1), by omega, j + 1, by omega, rfl, by simp [h1], ?_⟩
            rw [wrap_i64 (by omega) (by omega)]; rfl
          · have hlt2 : i < p.funs[j].code.length := by omega
            by_cases hn2 : n2 < 40000
            · have hq2 : aindex 6 (.sl p.funs[j].k 6 (codeCells p.funs[j].code)) (i64 i) = some (.ip p.funs[j].code[i].cells 0) := elem_of hlt2
              simp [a_bobbinlaw07_largeb1, g1, f3, f6, f7, hq, hq2, hlt2, hn2]
              refine ⟨p.funs[j].code.length - (i + 1), by omega, i + 1, by omega, rfl, by simp [h1], ?_⟩
              rw [wrap_i64 (by omega) (by omega)]; rfl
            · simp [a_bobbinlaw07_largeb1, g1, f3, f6, f7, hq, hlt2, hn2]
              refine ⟨p.funs.length - (j + 1), by omega, j + 1, by omega, rfl, by simp [h1], ?_⟩
              rw [wrap_i64 (by omega) (by omega)]; rfl
      · simp [a_bobbinlaw07_largeb2, d1, e3, e4, hlt, hn]
        exact hk _ n' (by simp [e1]) (by simp [e3])

theorem p_large (hp : p.Ok) (H : AHeap) (N : Nat) : ACall Tryd.prog 11 [.agg p.cells] H N (fun r H' N' => (∃ b, r = bl b) ∧ H' = H ∧ N' = N) := by
  refine acall mixed c_bobbinlaw07_large (by simp) ?_
  unfold a_bobbinlaw07_large
  obtain ⟨_, em⟩ : ∃ c, a_large_m = c := ⟨_, rfl⟩
  rw [em]
  obtain ⟨_, el⟩ : ∃ c, a_large_l = c := ⟨_, rfl⟩
  rw [el]
  obtain ⟨_, ef⟩ : ∃ c, a_large_f = c := ⟨_, rfl⟩
  rw [ef]
  simp
  rw [← em]
  refine large_m (p := p) (n := w64 (w64 (2 * p.mems.length) + w64 (2 * p.locks.length))) hp (by simp) (by simp) fun A1 n1 h1 h3 => ?_
  have h1 : A1 1 = .ip p.cells 0 := h1.trans (by simp)
  simp
  rw [← el]
  refine large_l (p := p) hp h1 h3 fun A2 n2 e1 e3 => ?_
  have e1 : A2 1 = .ip p.cells 0 := e1.trans h1
  simp
  rw [← ef]
  refine large_f (p := p) hp e1 e3 fun A3 n3 f1 f3 => ?_
  have f1 : A3 1 = .ip p.cells 0 := f1.trans e1
  by_cases h : 40000 ≤ n3
  · simp [f1, f3, h]
  · simp [f1, f3, h]
    omega

end

/-- The same numbers? -/
theorem p_ints {H : AHeap} {a b : AV} {la lb : List Int} (ha : RdSl H 1 (intCells la) a) (hb : RdSl H 1 (intCells lb) b) (hl : la.length ≤ maxLen) (N : Nat) :
    ACall Tryd.prog 16 [a, b] H N (fun r H' N' => r = bl (decide (la = lb)) ∧ H' = H ∧ N' = N) := by
  have hm : maxLen = 9223372036854775807 := rfl
  refine acall mixed c_bobbinlaw07_ints (by simp) ?_
  have hla := ha.len
  have hlb := hb.len
  rw [intCells_len] at hla hlb
  by_cases hll : la.length = lb.length
  · simp [a_bobbinlaw07_ints, hla, hlb, hll, -alen]
    refine run_loop (fun m s => ∃ j, j ≤ la.length ∧ m = la.length - j ∧ s.A 0 = a ∧ s.A 1 = b ∧ s.A 5 = i64 j ∧ s.H = H ∧ s.N = N ∧ la.take j = lb.take j) la.length ?_ ?_
    · exact ⟨0, by omega, by omega, by simp, by simp, by simp, by simp, by simp, by simp⟩
    · rintro m A H1 N1 ⟨j, hj, rfl, h0, h1, h5, rfl, rfl, heq⟩
      simp only at h0 h1 h5
      by_cases hjl : j = la.length
      · subst hjl
        have : la = lb := by
          rw [List.take_length, hll, List.take_length] at heq; exact heq
        simp [a_bobbinlaw07_intsb1, h0, h1, h5, hla, this, -alen]
      · have hlt : j < la.length := by omega
        have hlt2 : j < lb.length := by omega
        obtain ⟨p, hp, pp⟩ := ha.at (intCells_sz la) (intCells_at hlt)
        obtain ⟨q, hq, qq⟩ := hb.at (intCells_sz lb) (intCells_at hlt2)
        have lp := pp.one
        have lq := qq.one
        by_cases hv : la[j] = lb[j]
        · simp [a_bobbinlaw07_intsb1, h0, h1, h5, hla, hlt, hp, hq, lp, lq, hv, -aload, -alen]
          refine ⟨la.length - (j + 1), by omega, j + 1, by omega, rfl, by rw [wrap_i64 (by omega) (by omega)]; rfl, ?_⟩
          rw [take_next hlt, take_next hlt2, heq, hv]
        · have : la ≠ lb := fun h => hv (by subst h; rfl)
          simp [a_bobbinlaw07_intsb1, h0, h1, h5, hla, hlt, hp, hq, lp, lq, hv, this, -aload, -alen]
  · have : la ≠ lb := fun h => hll (by rw [h])
    simp [a_bobbinlaw07_ints, hla, hlb, show ¬ ((la.length : Int) = lb.length) by omega, this, -alen]

end Go.Proofs.YtanpcmkhhpaeiaaDoor
