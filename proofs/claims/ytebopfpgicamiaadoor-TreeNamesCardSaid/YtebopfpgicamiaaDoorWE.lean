/- tree: how large, and which declarations and programs may be, by the reference. -/
import Derived.Test.YtebopfpgicamiaaDoorWD
namespace Go.Proofs.YtebopfpgicamiaaDoor
set_option linter.unusedSimpArgs false
set_option linter.unusedVariables false
open Go Go.Fw
theorem cntEs_ge : ∀ l : List ExprV, l.length ≤ cntEs l
  | [] => by simp [cntEs]
  | e :: l => by rw [cntEs, cntE_eq, List.length_cons]; have := cntEs_ge l; omega
theorem cntSs_ge : ∀ l : List StmtV, l.length ≤ cntSs l
  | [] => by simp [cntSs]
  | e :: l => by rw [cntSs, cntS_eq, List.length_cons]; have := cntSs_ge l; omega
/-- So far. -/
def sumE (l : List ExprV) (j : Nat) : Nat := l.length + cntEs (l.take j) - j
theorem sumE_next {l : List ExprV} {j : Nat} (h : j < l.length) : sumE l (j + 1) = sumE l j + cntEs l[j].args := by
  have h1 := cntEs_take h
  have h2 := cntEs_ge (l.take j)
  rw [List.length_take] at h2
  rw [cntE_eq] at h1
  unfold sumE; omega
theorem sumE_all (l : List ExprV) : sumE l l.length = cntEs l := by unfold sumE; rw [List.take_length]; omega
theorem sumE_le (l : List ExprV) (j : Nat) (h : j ≤ l.length) : sumE l j ≤ cntEs l := by
  have h1 := cntEs_ge (l.drop j)
  have : cntEs l = cntEs (l.take j) + cntEs (l.drop j) := by rw [← cntEs_app, List.take_append_drop]
  rw [List.length_drop] at h1
  unfold sumE; omega
def sumS (l : List StmtV) (j : Nat) : Nat := l.length + cntSs (l.take j) - j
theorem sumS_next {l : List StmtV} {j : Nat} (h : j < l.length) : sumS l (j + 1) = sumS l j + (cntEs l[j].e + (cntSs l[j].body + cntSs l[j].els)) := by
  have h1 := cntSs_take h
  have h2 := cntSs_ge (l.take j)
  rw [List.length_take] at h2
  rw [cntS_eq] at h1
  unfold sumS; omega
theorem sumS_all (l : List StmtV) : sumS l l.length = cntSs l := by unfold sumS; rw [List.take_length]; omega
theorem sumS_le (l : List StmtV) (j : Nat) (h : j ≤ l.length) : sumS l j ≤ cntSs l := by
  have h1 := cntSs_ge (l.drop j)
  have : cntSs l = cntSs (l.take j) + cntSs (l.drop j) := by rw [← cntSs_app, List.take_append_drop]
  rw [List.length_drop] at h1
  unfold sumS; omega
theorem p_rExprSize : ∀ (n : Nat) (l : List ExprV), exprSz l = n → exprSz l ≤ 100000000 → ∀ k, PCall Tryd.prog 61 [.sl k 5 (exprCells l)] (i64 (cntEs l)) := by
  intro n
  induction n using Nat.strongRecOn with
  | _ n ih =>
    intro l hn hsz k
    have hll := exprSz_len l
    have hcl := cntEs_le l
    refine PCall.of fun N => acall mixed c_bobbinref02_ExprSize (by simp) ?_
    simp [a_bobbinref02_ExprSize]
    refine run_loop (fun m s => ∃ j : Nat, j ≤ l.length ∧ m = l.length - j ∧ s.A 0 = .sl k 5 (exprCells l) ∧ s.A 3 = i64 (sumE l j) ∧ s.A 4 = i64 j) l.length ?_ ?_
    · exact ⟨0, by omega, by omega, by simp, by simp [sumE, cntEs, exprCells_len], by simp⟩
    · rintro m A1 H1 N1 ⟨j, hj, rfl, e0, e3, e4⟩
      simp only at e0 e3 e4
      by_cases hjl : j < l.length
      · have n1 : (j : Int) < l.length := by omega
        obtain ⟨x, hx⟩ : ∃ x, l[j] = x := ⟨_, rfl⟩
        have hxs := exprSz_mem (List.getElem_mem hjl)
        rw [hx] at hxs
        have hse := x.sz_eq
        have hq : aindex 5 (.sl k 5 (exprCells l)) (i64 (j : Nat)) = some (.ip x.cells 0) := by rw [← hx]; exact aindex_sl (by omega) (by simpa using exprCells_at (List.getElem?_eq_getElem hjl))
        rw [x.cells_eq] at hq
        have hw : IntKind.i64.wrap ((j : Int) + 1) = ((j + 1 : Nat) : Int) := by rw [wrap_i64 (by omega) (by omega)]; rfl
        have htk := sumE_next hjl
        rw [hx] at htk
        have h2 := sumE_le l (j + 1) (by omega)
        have hws : IntKind.i64.wrap ((sumE l j : Int) + (cntEs x.args : Int)) = ((sumE l (j + 1) : Nat) : Int) := by rw [wrap_i64 (by omega) (by omega)]; omega
        simp [a_bobbinref02_ExprSizeb1, e0, e3, e4, exprCells_len, n1, hq]
        refine (ih (exprSz x.args) (by omega) x.args rfl (by omega) x.k).acall ?_
        simp [e0, e4, hw, hws]
        exact ⟨l.length - (j + 1), by omega, j + 1, by omega, rfl, rfl, rfl⟩
      · have n1 : ¬ (j : Int) < l.length := by omega
        have hje : j = l.length := by omega
        subst hje
        rw [sumE_all] at e3
        simp [a_bobbinref02_ExprSizeb1, e0, e3, e4, exprCells_len]
        exact .free rfl
theorem p_rStmtSize : ∀ (n : Nat) (l : List StmtV), stmtSz l = n → stmtSz l ≤ 100000000 → ∀ k, PCall Tryd.prog 34 [.sl k 8 (stmtCells l)] (i64 (cntSs l)) := by
  intro n
  induction n using Nat.strongRecOn with
  | _ n ih =>
    intro l hn hsz k
    have hll := stmtSz_len l
    have hcl := cntSs_le l
    refine PCall.of fun N => acall mixed c_bobbinref02_StmtSize (by simp) ?_
    simp [a_bobbinref02_StmtSize]
    refine run_loop (fun m s => ∃ j : Nat, j ≤ l.length ∧ m = l.length - j ∧ s.A 0 = .sl k 8 (stmtCells l) ∧ s.A 3 = i64 (sumS l j) ∧ s.A 4 = i64 j) l.length ?_ ?_
    · exact ⟨0, by omega, by omega, by simp, by simp [sumS, cntSs, stmtCells_len], by simp⟩
    · rintro m A1 H1 N1 ⟨j, hj, rfl, e0, e3, e4⟩
      simp only at e0 e3 e4
      by_cases hjl : j < l.length
      · have n1 : (j : Int) < l.length := by omega
        obtain ⟨x, hx⟩ : ∃ x, l[j] = x := ⟨_, rfl⟩
        have hxs := stmtSz_mem (List.getElem_mem hjl)
        rw [hx] at hxs
        have hse := x.sz_eq
        have hq : aindex 8 (.sl k 8 (stmtCells l)) (i64 (j : Nat)) = some (.ip x.cells 0) := by rw [← hx]; exact aindex_sl (by omega) (by simpa using stmtCells_at (List.getElem?_eq_getElem hjl))
        rw [x.cells_eq] at hq
        have hw : IntKind.i64.wrap ((j : Int) + 1) = ((j + 1 : Nat) : Int) := by rw [wrap_i64 (by omega) (by omega)]; rfl
        have htk := sumS_next hjl
        rw [hx] at htk
        have h2 := sumS_le l (j + 1) (by omega)
        have hw1 : IntKind.i64.wrap ((sumS l j : Int) + (cntEs x.e : Int)) = ((sumS l j + cntEs x.e : Nat) : Int) := by rw [wrap_i64 (by omega) (by omega)]; omega
        have hw2 : IntKind.i64.wrap (((sumS l j + cntEs x.e : Nat) : Int) + (cntSs x.body : Int)) = ((sumS l j + cntEs x.e + cntSs x.body : Nat) : Int) := by rw [wrap_i64 (by omega) (by omega)]; omega
        have hw3 : IntKind.i64.wrap (((sumS l j + cntEs x.e + cntSs x.body : Nat) : Int) + (cntSs x.els : Int)) = ((sumS l (j + 1) : Nat) : Int) := by rw [wrap_i64 (by omega) (by omega)]; omega
        simp [a_bobbinref02_StmtSizeb1, e0, e3, e4, stmtCells_len, n1, hq]
        refine (p_rExprSize _ x.e rfl (by omega) x.ke).acall ?_
        simp [hw1, -Int.natCast_add]
        refine (ih (stmtSz x.body) (by omega) x.body rfl (by omega) x.kb).acall ?_
        simp [hw2, -Int.natCast_add]
        refine (ih (stmtSz x.els) (by omega) x.els rfl (by omega) x.kl).acall ?_
        simp [e0, e4, hw, hw3, -Int.natCast_add]
        exact ⟨l.length - (j + 1), by omega, j + 1, by omega, rfl, rfl, rfl⟩
      · have n1 : ¬ (j : Int) < l.length := by omega
        have hje : j = l.length := by omega
        subst hje
        rw [sumS_all] at e3
        simp [a_bobbinref02_StmtSizeb1, e0, e3, e4, stmtCells_len]
        exact .free rfl
theorem p_rSize (k : SK) (l : List DeclV) (hsz : declSz l ≤ 100000000) : PCall Tryd.prog 16 [.sl k 6 (declCells l)] (i64 (cntP l)) := by
  have hll := declSz_len l
  have hcl := cntP_le l
  refine PCall.of fun N => acall mixed c_bobbinref02_Size (by simp) ?_
  simp [a_bobbinref02_Size]
  refine run_loop (fun m s => ∃ j : Nat, j ≤ l.length ∧ m = l.length - j ∧ s.A 0 = .sl k 6 (declCells l) ∧ s.A 3 = i64 (l.length + cntB l j : Nat) ∧ s.A 4 = i64 j) l.length ?_ ?_
  · exact ⟨0, by omega, by omega, by simp, by simp [cntB, cntP, declCells_len], by simp⟩
  · rintro m A1 H1 N1 ⟨j, hj, rfl, e0, e3, e4⟩
    simp only at e0 e3 e4
    by_cases hjl : j < l.length
    · have n1 : (j : Int) < l.length := by omega
      obtain ⟨d, hd⟩ : ∃ d, l[j]? = some d := ⟨l[j], List.getElem?_eq_getElem hjl⟩
      have hdm := declSz_mem (List.mem_of_getElem? hd)
      have hds : d.sz = 1 + d.name.size + strSz d.params + stmtSz d.body := rfl
      have hq : aindex 6 (.sl k 6 (declCells l)) (i64 (j : Nat)) = some (.ip d.cells 0) := aindex_sl (by omega) (by simpa using declCells_at hd)
      have hce : d.cells = [u8 d.kind, str d.name, i64 d.n, .sl d.kp 1 (strCells d.params), .sl d.kb 8 (stmtCells d.body), i64 d.pos] := rfl
      rw [hce] at hq
      have hw : IntKind.i64.wrap ((j : Int) + 1) = ((j + 1 : Nat) : Int) := by rw [wrap_i64 (by omega) (by omega)]; rfl
      have htk := cntB_take hd
      have hb := cntB_le l (j + 1)
      have hws : IntKind.i64.wrap (((l.length + cntB l j : Nat) : Int) + (cntSs d.body : Int)) = ((l.length + cntB l (j + 1) : Nat) : Int) := by rw [wrap_i64 (by omega) (by omega)]; omega
      simp [a_bobbinref02_Sizeb1, e0, e3, e4, declCells_len, n1, hq, -Int.natCast_add]
      refine (p_rStmtSize _ d.body rfl (by omega) d.kb).acall ?_
      simp [e0, e4, hw, hws, -Int.natCast_add]
      exact ⟨l.length - (j + 1), by omega, j + 1, by omega, rfl, rfl, rfl⟩
    · have n1 : ¬ (j : Int) < l.length := by omega
      have hje : j = l.length := by omega
      subst hje
      rw [cntB_all] at e3
      simp [a_bobbinref02_Sizeb1, e0, e3, e4, declCells_len]
      exact .free rfl

/-- The last question of a declaration. -/
def dB (d : DeclV) : Bool := if d.kind = 1 then decide (d.params.length = 0 ∧ d.body.length = 0) else if d.kind = 2 then decide (d.params.length = 0 ∧ d.body.length = 0 ∧ 1 ≤ d.n ∧ d.n ≤ 1024) else if d.kind = 3 then decide (d.params.length = 0 ∧ d.body.length = 0 ∧ d.n = 0)
   else if d.kind = 4 then decide (d.n = 0) else if d.kind = 5 then decide (d.n = 0 ∧ d.params.length = 0) else false
theorem rde_rest {A : Nat → AV} {H : AHeap} {N : Nat} {fs : List Fr} {Q : Post} {d : DeclV} {c : ACode} (hc : a_rde_rest = c) (h1 : A 1 = .ip d.cells 0)
    (hk : ∀ A', A' 2 = bl (dB d) → onward Tryd.prog fs Q .ret ⟨A', H, N⟩) : run Tryd.prog c fs Q ⟨A, H, N⟩ := by
  subst hc
  have hce : d.cells = [u8 d.kind, str d.name, i64 d.n, .sl d.kp 1 (strCells d.params), .sl d.kb 8 (stmtCells d.body), i64 d.pos] := rfl
  rw [hce] at h1
  unfold dB at hk
  by_cases p0 : d.params = [] <;> by_cases b0 : d.body = [] <;> by_cases k1 : d.kind = 1
  all_goals try (simp [a_rde_rest, h1, strCells_len, stmtCells_len, p0, b0, k1]; exact hk _ (by simp [p0, b0, k1]))
  all_goals by_cases k2 : d.kind = 2
  all_goals try (by_cases n1 : 1 ≤ d.n <;> by_cases n2 : d.n ≤ 1024 <;> simp [a_rde_rest, h1, strCells_len, stmtCells_len, p0, b0, k2, n1, n2] <;> exact hk _ (by simp [p0, b0, k2, n1, n2]))
  all_goals by_cases k3 : d.kind = 3
  all_goals try (by_cases n0 : d.n = 0 <;> simp [a_rde_rest, h1, strCells_len, stmtCells_len, p0, b0, k3, n0] <;> exact hk _ (by simp [p0, b0, k3, n0]))
  all_goals by_cases k4 : d.kind = 4
  all_goals try (simp [a_rde_rest, h1, strCells_len, stmtCells_len, p0, b0, k4]; exact hk _ (by simp [p0, b0, k4]))
  all_goals by_cases k5 : d.kind = 5
  all_goals try (by_cases n0 : d.n = 0 <;> simp [a_rde_rest, h1, strCells_len, stmtCells_len, p0, b0, k5, n0] <;> exact hk _ (by simp [p0, b0, k5, n0]))
  all_goals (simp [a_rde_rest, h1, strCells_len, stmtCells_len, p0, b0, k1, k2, k3, k4, k5]; exact hk _ (by simp [p0, b0, k1, k2, k3, k4, k5]))
end Go.Proofs.YtebopfpgicamiaaDoor
