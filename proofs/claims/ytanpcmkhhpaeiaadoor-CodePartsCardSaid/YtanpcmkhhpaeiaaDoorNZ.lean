/- code: more pieces of the law CodeParts. -/
import Derived.Test.YtanpcmkhhpaeiaaDoorNY
namespace Go.Proofs.YtanpcmkhhpaeiaaDoor
set_option linter.unusedSimpArgs false
set_option linter.unusedVariables false
open Go Go.Fw
section
variable {p q : PrgV} {x : Ins} {A : Nat → AV} {H : AHeap} {N : Nat} {fs : List Fr} {Q : Post} {n : Int} {k o o1 o2 : Nat}

theorem par_g (hp : p.Rch) (hx : x.args.length ≤ 140737488355328) (h4 : A 4 = .ip p.cells 0) (h7 : A 7 = .ip x.cells 0)
    (hk : p.Fit → p.funs.length ≤ 600 → x.args.length ≤ 100 → prgB p = true → p.funs.length ≠ 0 → ∀ A', (∀ t ∈ [1, 2, 4, 7], A' t = A t) → onward Tryd.prog fs Q .normal ⟨A', H, N⟩)
    (hr : ∀ A', A' 8 = bl true → onward Tryd.prog fs Q .ret ⟨A', H, N⟩) : run Tryd.prog a_par_g fs Q ⟨A, H, N⟩ := by
  simp [a_par_g]
  refine p_works.acall ?_
  simp [h4]
  refine (p_largeR hp H N).mono ?_
  rintro r H1 N1 ⟨rfl, rfl, b1, rfl, hb1⟩
  cases b1 with
  | true =>
    simp
    refine p_works.acall ?_
    simp
    exact hr _ (by simp)
  | false =>
    obtain ⟨ht, hs⟩ := hb1 rfl
    have hf := hp.fit (by omega) hs
    by_cases h2 : 100 < x.args.length
    · simp [h7, show (100 : Int) < x.args.length by omega, intCells_len]
      refine p_works.acall ?_
      simp
      exact hr _ (by simp)
    · simp [h4, h7, show ¬ (100 : Int) < x.args.length by omega, intCells_len]
      refine (p_May hf).acall ?_
      cases hb : prgB p with
      | false =>
        simp
        refine p_works.acall ?_
        simp
        exact hr _ (by simp)
      | true =>
        by_cases h0 : p.funs.length = 0
        · simp [h4, h0]
          refine p_works.acall ?_
          simp
          exact hr _ (by simp)
        · have h' : p.funs ≠ [] := fun e => h0 (by rw [e]; rfl)
          simp [h4, h']
          exact hk hf (by omega) (by omega) hb h0 _ (by simp [h4, h7])

theorem par_i (hf : p.Fit) (hb : prgB p = true) (h4 : A 4 = .ip p.cells 0) (hk : ∀ A', (∀ t ∈ [1, 2, 4, 7], A' t = A t) → onward Tryd.prog fs Q .normal ⟨A', H, N⟩) : run Tryd.prog a_par_i fs Q ⟨A, H, N⟩ := by
  simp [a_par_i, h4]
  refine (p_inside hf hb).acall ?_
  simp
  exact hk _ (by simp [h4])
theorem par_k (hl : p.funs.length ≤ 600) (h0 : p.funs.length ≠ 0) (h1 : A 1 = i64 n) (h4 : A 4 = .ip p.cells 0) (hk : ∀ A' k, k < p.funs.length → A' 9 = i64 (k : Nat) → (∀ t ∈ [2, 4, 7], A' t = A t) → onward Tryd.prog fs Q .normal ⟨A', H, N⟩) :
    run Tryd.prog a_par_k fs Q ⟨A, H, N⟩ := by
  obtain ⟨w, hw⟩ := u64_nn n
  have h1' : ¬ ((p.funs.length : Int) = 0) := by omega
  have hm := Nat.mod_lt w (show 0 < p.funs.length by omega)
  have h' : p.funs ≠ [] := fun e => h0 (by rw [e]; rfl)
  simp [a_par_k, h1, h4, u64_small (show p.funs.length ≤ 1000000 by omega), hw, h']
  refine hk _ (w % p.funs.length) hm ?_ (by simp [h4])
  have e : (w : Int).tmod (p.funs.length : Int) = ((w % p.funs.length : Nat) : Int) := rfl
  simp
  rw [e, wrap_i64 (by omega) (by omega)]
  push_cast
  rfl
theorem par_q1 (h4 : A 4 = .ip p.cells 0) (hk : ∀ A', (∀ t ∈ [2, 4, 7, 9], A' t = A t) → A' 10 = .mp N 0 → onward Tryd.prog fs Q .normal ⟨A', H.set N (.blk p.cells), N + 1⟩) :
    run Tryd.prog a_par_q1 fs Q ⟨A, H, N⟩ := by
  simp [a_par_q1, h4]
  exact hk _ (by simp [h4]) (by simp)
theorem par_q2 (hl : p.funs.length ≤ 600) (h0 : p.funs.length ≠ 0) (h4 : A 4 = .ip p.cells 0) (h10 : A 10 = .mp o 0) (ho : H o = some (.blk p.cells)) (hoN : o < N)
    (hk : ∀ A', (∀ t ∈ [2, 4, 7, 9, 10], A' t = A t) → onward Tryd.prog fs Q .normal ⟨A', (H.set N (.blk (funCells p.funs).flatten)).set o (.blk [.sl p.mmk 3 (memCells p.mems), .sl p.lk 1 (lockCells p.locks), .ms N 0 p.funs.length 5]), N + 1⟩) :
    run Tryd.prog a_par_q2 fs Q ⟨A, H, N⟩ := by
  have happ := app_exact (H := H) (N := N) (sz := 5) (bytes := 64) (y := .sl p.fk 5 (funCells p.funs)) (news := (funCells p.funs).flatten) (m := p.funs.length) (by simp [asrc, funCells_len']) h0 (by unfold lim; omega) (by omega)
  have hne : ¬ o = N := by omega
  simp [a_par_q2, h4, h10, happ, ho, hne]
  exact hk _ (by simp [h4, h10])

theorem par_q3 {mk lk : AV} {f : FunV} {cs : List AV} {len : Nat} (hkf : p.funs[k]? = some f) (hkl : k < len) (hcs : cs.length = len * 5) (hc0 : f.code.length ≠ 0) (hc1 : f.code.length ≤ 16384) (hN : H N = none) (hoN : o1 < N) (h4 : A 4 = .ip p.cells 0) (h9 : A 9 = i64 (k : Nat)) (h10 : A 10 = .mp o 0)
    (ho : H o = some (.blk [mk, lk, .ms o1 0 len 5])) (ho1 : H o1 = some (.blk cs))
    (hk : ∀ A', (∀ t ∈ [2, 4, 7, 9, 10], A' t = A t) → onward Tryd.prog fs Q .normal ⟨A', (H.set N (.blk (codeCells f.code).flatten)).set o1 (.blk (cs.set (k * 5 + 4) (.ms N 0 f.code.length 6))), N + 1⟩) :
    run Tryd.prog a_par_q3 fs Q ⟨A, H, N⟩ := by
  have hlt : k < p.funs.length := (List.getElem?_eq_some_iff.1 hkf).1
  have hfe : p.funs[k] = f := (List.getElem?_eq_some_iff.1 hkf).2
  have hqp : aindex 5 (.sl p.fk 5 (funCells p.funs)) (i64 (k : Nat)) = some (.ip p.funs[k].cells 0) := elem_of hlt
  rw [hfe] at hqp
  have happ := app_exact (H := H) (N := N) (sz := 6) (bytes := 64) (y := .sl f.k 6 (codeCells f.code)) (news := (codeCells f.code).flatten) (m := f.code.length) (by simp [asrc, codeCells_len]) hc0 (by unfold lim; omega) (by omega)
  have hq : aindex 5 (.ms o1 0 len 5) (i64 (k : Nat)) = some (.mp o1 (k * 5)) := by simp [aindex, hkl]
  have hne : ¬ o1 = N := by omega
  have hb : k * 5 + 4 + 1 ≤ len * 5 := by omega
  have hkp : keepOk H N (.sl .exact 6 []) = true := by simp [keepOk, hN]
  simp [a_par_q3, h4, h9, h10, ho, ho1, hqp, happ, hq, hcs, hb, hN, hne, hkp]
  exact hk _ (by simp [h4, h9, h10])

theorem par_l {mk lk : AV} {cs : List AV} {len m : Nat} (hkl : k < len) (hm0 : m ≠ 0) (hm1 : m ≤ 16384) (hc : cs[k * 5 + 4]? = some (.ms o2 0 m 6)) (h2 : A 2 = i64 n) (h9 : A 9 = i64 (k : Nat)) (h10 : A 10 = .mp o 0) (ho : H o = some (.blk [mk, lk, .ms o1 0 len 5])) (ho1 : H o1 = some (.blk cs))
    (hk : ∀ A' j, j < m → A' 11 = i64 (j : Nat) → (∀ t ∈ [4, 7, 9, 10], A' t = A t) → onward Tryd.prog fs Q .normal ⟨A', H, N⟩) :
    run Tryd.prog a_par_l fs Q ⟨A, H, N⟩ := by
  obtain ⟨w, hw⟩ := u64_nn n
  have hm := Nat.mod_lt w (show 0 < m by omega)
  have hq : aindex 5 (.ms o1 0 len 5) (i64 (k : Nat)) = some (.mp o1 (k * 5)) := by simp [aindex, hkl]
  simp [a_par_l, h2, h9, h10, ho, ho1, hq, hc, u64_small (show m ≤ 1000000 by omega), hw, hm0]
  refine hk _ (w % m) hm ?_ (by simp [h9, h10])
  have e : (w : Int).tmod (m : Int) = ((w % m : Nat) : Int) := rfl
  simp
  rw [e, wrap_i64 (by omega) (by omega)]
  push_cast
  rfl

theorem par_m {mk lk : AV} {len : Nat} (hl : len ≤ 600) (h0 : len ≠ 0) (h10 : A 10 = .mp o 0) (ho : H o = some (.blk [mk, lk, .ms o1 0 len 5])) (hk : ∀ A', A' 12 = i64 ((len - 1 : Nat) : Int) → (∀ t ∈ [4, 10], A' t = A t) → onward Tryd.prog fs Q .normal ⟨A', H, N⟩) :
    run Tryd.prog a_par_m fs Q ⟨A, H, N⟩ := by
  have hw : IntKind.i64.wrap ((len : Int) - 1) = ((len - 1 : Nat) : Int) := by rw [wrap_i64 (by omega) (by omega)]; omega
  simp [a_par_m, h10, ho]
  refine hk _ ?_ (by simp [h10])
  simp
  exact hw

theorem par_n0 {mk lk : AV} {b : FunV} {cs : List AV} {len j : Nat} (hkf : p.funs[j]? = some b) (h0 : len ≠ 0) (hcs : cs.length = len * 5) (h4 : A 4 = .ip p.cells 0) (h12 : A 12 = i64 (j : Nat)) (h10 : A 10 = .mp o 0) (ho : H o = some (.blk [mk, lk, .ms o1 0 len 5])) (ho1 : H o1 = some (.blk cs))
    (hk : ∀ A', (∀ t ∈ [4, 10, 12], A' t = A t) → onward Tryd.prog fs Q .normal ⟨A', H.set o1 (.blk (cs.set 0 (str b.name))), N⟩) : run Tryd.prog a_par_n0 fs Q ⟨A, H, N⟩ := by
  have hlt : j < p.funs.length := (List.getElem?_eq_some_iff.1 hkf).1
  have hfe : p.funs[j] = b := (List.getElem?_eq_some_iff.1 hkf).2
  have hqp : aindex 5 (.sl p.fk 5 (funCells p.funs)) (i64 (j : Nat)) = some (.ip p.funs[j].cells 0) := elem_of hlt
  rw [hfe] at hqp
  have hq : aindex 5 (.ms o1 0 len 5) (i64 0) = some (.mp o1 0) := by simp [aindex, show 0 < len by omega]
  simp [a_par_n0, h4, h10, h12, ho, ho1, hqp, hq, hcs, show 1 ≤ len * 5 by omega, show 0 < len * 5 by omega]
  exact hk _ (by simp [h4, h10, h12])

theorem par_n1 {mk lk : AV} {a : FunV} {cs : List AV} {len j : Nat} (hkf : p.funs[0]? = some a) (hj : j < len) (hcs : cs.length = len * 5) (h4 : A 4 = .ip p.cells 0) (h12 : A 12 = i64 (j : Nat)) (h10 : A 10 = .mp o 0) (ho : H o = some (.blk [mk, lk, .ms o1 0 len 5])) (ho1 : H o1 = some (.blk cs))
    (hk : ∀ A', (∀ t ∈ [4, 10, 12], A' t = A t) → onward Tryd.prog fs Q .normal ⟨A', H.set o1 (.blk (cs.set (j * 5) (str a.name))), N⟩) : run Tryd.prog a_par_n1 fs Q ⟨A, H, N⟩ := by
  have hlt : 0 < p.funs.length := (List.getElem?_eq_some_iff.1 hkf).1
  have hfe : p.funs[0] = a := (List.getElem?_eq_some_iff.1 hkf).2
  have hqp : aindex 5 (.sl p.fk 5 (funCells p.funs)) (i64 ((0 : Nat) : Int)) = some (.ip p.funs[0].cells 0) := elem_of hlt
  rw [hfe] at hqp
  have hqp' : aindex 5 (.sl p.fk 5 (funCells p.funs)) (i64 0) = some (.ip a.cells 0) := hqp
  have hq : aindex 5 (.ms o1 0 len 5) (i64 (j : Nat)) = some (.mp o1 (j * 5)) := by simp [aindex, hj]
  simp [a_par_n1, h4, h10, h12, ho, ho1, hqp', hq, hcs, show j * 5 + 1 ≤ len * 5 by omega]
  exact hk _ (by simp [h4, h10, h12])
end
end Go.Proofs.YtanpcmkhhpaeiaaDoor
