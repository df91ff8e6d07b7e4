/- tree: which statements and declarations may be, by the program: whole. -/
import Derived.Test.YtebopfpgicamiaaDoorW5
namespace Go.Proofs.YtebopfpgicamiaaDoor
set_option linter.unusedSimpArgs false
set_option linter.unusedVariables false
open Go Go.Fw
theorem headS_eq (s : StmtV) : headS s.kind s.name s.to s.new s.e.length s.body.length s.els.length = (decide (1 ≤ s.kind ∧ s.kind < 10) && (b17 s (sRow s.kind) && (b43 s && b67 s (sRow s.kind)))) := by
  unfold headS b17 b43 b67
  simp only [Bool.and_assoc]
theorem p_may (s : StmtV) : s.Ok → s.sz ≤ 100000000 → PCall Tryd.prog 54 [.agg s.cells] (bl (mayS s)) := by
  induction s using StmtV.ind with
  | h s ih1 ih2 =>
    intro hok hsz
    obtain ⟨⟨k0, k1⟩, hoe, hob, hol⟩ := hok.eq
    have hsz' := hsz
    rw [s.sz_eq] at hsz'
    have hallE : PCall Tryd.prog 42 [.sl s.ke 5 (exprCells s.e), .fn (.func 19) [] []] (bl (mayEs s.e)) := by
      rw [mayEs_all]
      exact p_allP_Expr (by have := exprSz_len s.e; omega) fun x hx => p_MayExpr x (hoe x hx) (by have := exprSz_mem hx; omega)
    have hallB : PCall Tryd.prog 53 [.sl s.kb 8 (stmtCells s.body), .fn (.func 54) [] []] (bl (maySs s.body)) := by
      rw [maySs_all]
      exact p_allP_Stmt (by have := stmtSz_len s.body; omega) fun x hx => ih1 x hx (hob x hx) (by have := stmtSz_mem hx; omega)
    have hallL : PCall Tryd.prog 53 [.sl s.kl 8 (stmtCells s.els), .fn (.func 54) [] []] (bl (maySs s.els)) := by
      rw [maySs_all]
      exact p_allP_Stmt (by have := stmtSz_len s.els; omega) fun x hx => ih2 x hx (hol x hx) (by have := stmtSz_mem hx; omega)
    obtain ⟨B, hB⟩ : ∃ B, mayS s = B := ⟨_, rfl⟩
    rw [hB]
    rw [mayS_eq, headS_eq] at hB
    obtain ⟨kn, hkn⟩ : ∃ kn : Nat, s.kind = (kn : Int) := ⟨s.kind.toNat, by omega⟩
    have hw : IntKind.i64.wrap s.kind = s.kind := wrap_i64 (by omega) (by omega)
    have hce := s.cells_eq
    obtain ⟨c17, e17⟩ : ∃ c, a_may_17 = c := ⟨_, rfl⟩
    obtain ⟨c43, e43⟩ : ∃ c, a_may_43 = c := ⟨_, rfl⟩
    obtain ⟨c67, e67⟩ : ∃ c, a_may_67 = c := ⟨_, rfl⟩
    refine PCall.of fun N => acall mixed c_tree_may (by simp) ?_
    unfold a_tree_may
    rw [e17, e43, e67]
    by_cases hk : 1 ≤ s.kind ∧ s.kind < 10
    · obtain ⟨hq, hq2⟩ := sRow_at kn (by omega)
      have hkt : s.kind.toNat = kn := by omega
      rw [← hkn, ← hkt] at hq2
      rw [← hkt] at hq
      obtain ⟨r, hr⟩ : ∃ r, sRow s.kind = r := ⟨_, rfl⟩
      rw [hr] at hq2 hB
      rw [decide_eq_true hk, Bool.true_and] at hB
      have g1 : ¬ 10 ≤ s.kind := by omega
      have g2 : ¬ s.kind < 1 := by omega
      rw [hce]
      simp [hw, g1, g2, gptr_stmts, hq, hq2, SShape.cells, hk, k0, splice]
      refine may_17 (s := s) (r := r) (b := N) e17 hsz (by simp [hce]) (by simp) (by simp [AHeap.set, SShape.cells]) fun A1 f1 f3 f17 => ?_
      cases h17 : b17 s r with
      | false =>
        rw [h17] at f17 hB
        obtain rfl : B = false := by rw [← hB]; rfl
        simp [f17]
        exact .free rfl
      | true =>
        rw [h17] at f17 hB
        simp [f17]
        refine may_43 (s := s) e43 hsz (by simp [f1, hce]) fun A2 g1 g3 g43 => ?_
        cases h43 : b43 s with
        | false =>
          rw [h43] at g43 hB
          obtain rfl : B = false := by rw [← hB]; rfl
          simp [g43]
          exact .free rfl
        | true =>
          rw [h43] at g43 hB
          simp [g43]
          refine may_67 (s := s) (r := r) (b := N) e67 (by simp [g1, f1, hce]) (by simp [g3, f3]) (by simp [AHeap.set, SShape.cells]) fun A3 i1 i67 => ?_
          have i1' : A3 1 = .ip s.cells 0 := i1.trans (by simp [g1, f1, hce])
          rw [hce] at i1'
          cases h67 : b67 s r with
          | false =>
            rw [h67] at i67 hB
            obtain rfl : B = false := by rw [← hB]; rfl
            simp [i67]
            exact .free rfl
          | true =>
            rw [h67] at i67 hB
            simp at hB
            simp [a_may_e, i67, i1']
            refine hallE.acall ?_
            cases hE : mayEs s.e with
            | false =>
              rw [hE] at hB
              obtain rfl : B = false := by rw [← hB]; rfl
              simp
              exact .free rfl
            | true =>
              rw [hE] at hB
              simp at hB
              simp [i1']
              refine hallB.acall ?_
              cases hBo : maySs s.body with
              | false =>
                rw [hBo] at hB
                obtain rfl : B = false := by rw [← hB]; rfl
                simp
                exact .free rfl
              | true =>
                rw [hBo] at hB
                simp at hB
                simp [i1']
                refine hallL.acall ?_
                rw [hB]
                simp
                exact .free rfl
    · rw [decide_eq_false hk, Bool.false_and, Bool.false_and] at hB
      subst hB
      rw [hce]
      by_cases g1 : 10 ≤ s.kind
      · simp [hw, g1]
        exact .free rfl
      · have g2 : s.kind < 1 := by omega
        simp [hw, g1, g2]
        exact .free rfl

section
variable {A : Nat → AV} {H : AHeap} {N : Nat} {fs : List Fr} {Q : Post} {d : DeclV}
def b25 (d : DeclV) : Bool := nameB d.name && (decide (d.params.length ≤ 8) && (d.params.all nameB && maySs d.body))
theorem decl_25 {c : ACode} (hc : a_decl_25 = c) (hok : d.Ok) (hsz : d.sz ≤ 100000000) (h1 : A 1 = .ip d.cells 0)
    (hk : ∀ A', A' 1 = A 1 → A' 25 = bl (!b25 d) → onward Tryd.prog fs Q .normal ⟨A', H, N⟩) : run Tryd.prog c fs Q ⟨A, H, N⟩ := by
  subst hc
  unfold DeclV.sz at hsz
  have hname : PCall Tryd.prog 23 [str d.name] (bl (nameB d.name)) := p_Name d.name (by omega)
  have hallN : PCall Tryd.prog 52 [.sl d.kp 1 (strCells d.params), .fn (.func 23) [] []] (bl (d.params.all nameB)) :=
    p_allP_string (by have := strSz_len d.params; omega) fun x hx => p_Name x (by have := strSz_mem hx; omega)
  have hallB : PCall Tryd.prog 53 [.sl d.kb 8 (stmtCells d.body), .fn (.func 54) [] []] (bl (maySs d.body)) := by
    rw [maySs_all]
    exact p_allP_Stmt (by have := stmtSz_len d.body; omega) fun x hx => p_may x ((stmtsOk_iff _).1 hok.body x hx) (by have := stmtSz_mem hx; omega)
  obtain ⟨B, hB⟩ : ∃ B, b25 d = B := ⟨_, rfl⟩
  rw [hB] at hk
  unfold b25 at hB
  unfold DeclV.cells at h1
  simp [a_decl_25, h1]
  refine hname.acall ?_
  cases hn : nameB d.name with
  | false =>
    rw [hn] at hB
    simp at hB
    simp
    exact hk _ (by simp [h1]) (by simp [← hB])
  | true =>
    rw [hn] at hB
    by_cases c1 : (8 : Int) < d.params.length
    · have c1' : ¬ d.params.length ≤ 8 := by omega
      simp [c1'] at hB
      simp [h1, strCells_len, c1]
      exact hk _ (by simp [h1]) (by simp [← hB])
    · have c1' : d.params.length ≤ 8 := by omega
      simp [c1'] at hB
      simp [h1, strCells_len, c1]
      refine hallN.acall ?_
      cases hp : d.params.all nameB with
      | false =>
        rw [hp] at hB
        simp at hB
        simp
        exact hk _ (by simp [h1]) (by simp [← hB])
      | true =>
        rw [hp] at hB
        simp at hB
        simp [h1]
        refine hallB.acall ?_
        rw [hB]
        simp
        exact hk _ (by simp [h1]) (by simp)
end
theorem p_decl (d : DeclV) (hok : d.Ok) (hsz : d.sz ≤ 100000000) : PCall Tryd.prog 30 [.agg d.cells] (bl (declB d)) := by
  obtain ⟨c, e⟩ : ∃ c, a_decl_25 = c := ⟨_, rfl⟩
  have hdb : declB d = (b25 d && (if d.kind = 1 then decide (d.params.length = 0 ∧ d.body.length = 0) else if d.kind = 2 then decide (d.params.length = 0 ∧ d.body.length = 0 ∧ 1 ≤ d.n ∧ d.n ≤ 1024) else if d.kind = 3 then decide (d.params.length = 0 ∧ d.body.length = 0 ∧ d.n = 0)
   else if d.kind = 4 then decide (d.n = 0) else if d.kind = 5 then decide (d.n = 0 ∧ d.params.length = 0) else false)) := by
    simp only [declB, b25, Bool.and_assoc]
  obtain ⟨B, hB⟩ : ∃ B, declB d = B := ⟨_, rfl⟩
  rw [hB]
  rw [hdb] at hB
  refine PCall.of fun N => acall mixed c_tree_decl (by simp) ?_
  unfold a_tree_decl
  rw [e]
  have hce : d.cells = [u8 d.kind, str d.name, i64 d.n, .sl d.kp 1 (strCells d.params), .sl d.kb 8 (stmtCells d.body), i64 d.pos] := rfl
  simp
  refine decl_25 (d := d) e hok hsz (by simp) fun A1 f1 f25 => ?_
  have f1' := f1.trans (show _ = AV.ip d.cells 0 by simp)
  rw [hce] at f1'
  cases h25 : b25 d with
  | false =>
    rw [h25] at f25 hB
    obtain rfl : B = false := by rw [← hB]; rfl
    simp [f25]
    exact .free rfl
  | true =>
    rw [h25] at f25 hB
    simp only [Bool.true_and] at hB
    subst hB
    by_cases p0 : d.params = [] <;> by_cases b0 : d.body = [] <;> by_cases k1 : d.kind = 1
    all_goals try (simp [f25, f1', strCells_len, stmtCells_len, p0, b0, k1]; exact .free rfl)
    all_goals by_cases k2 : d.kind = 2
    all_goals try (
      by_cases n1 : 1 ≤ d.n <;> by_cases n2 : d.n ≤ 1024 <;> simp [f25, f1', strCells_len, stmtCells_len, p0, b0, k2, n1, n2] <;> exact .free rfl)
    all_goals by_cases k3 : d.kind = 3
    all_goals try (simp [f25, f1', strCells_len, stmtCells_len, p0, b0, k3]; exact .free rfl)
    all_goals by_cases k4 : d.kind = 4
    all_goals try (simp [f25, f1', strCells_len, stmtCells_len, p0, b0, k4]; exact .free rfl)
    all_goals by_cases k5 : d.kind = 5
    all_goals try (by_cases n0 : d.n = 0 <;> simp [f25, f1', strCells_len, stmtCells_len, p0, b0, k5, n0] <;> exact .free rfl)
    all_goals (simp [f25, f1', strCells_len, stmtCells_len, p0, b0, k1, k2, k3, k4, k5]; exact .free rfl)
end Go.Proofs.YtebopfpgicamiaaDoor
