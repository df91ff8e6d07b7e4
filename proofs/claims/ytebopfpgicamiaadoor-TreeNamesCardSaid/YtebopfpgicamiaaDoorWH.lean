/- tree: which are the same, by the program. -/
import Derived.Test.YtebopfpgicamiaaDoorWG
namespace Go.Proofs.YtebopfpgicamiaaDoor
set_option linter.unusedSimpArgs false
set_option linter.unusedVariables false
open Go Go.Fw
theorem sameE_iff (a b : ExprV) : sameE a b = true ↔ a.bare = b.bare := by unfold sameE; simp
theorem sameS_iff (a b : StmtV) : sameS a b = true ↔ a.bare = b.bare := by unfold sameS; simp
theorem sameEs_iff (a b : List ExprV) : sameEs a b = true ↔ bareEs a = bareEs b := by unfold sameEs; simp
theorem sameSs_iff (a b : List StmtV) : sameSs a b = true ↔ bareSs a = bareSs b := by unfold sameSs; simp
theorem sameP_iff (a b : List DeclV) : sameP a b = true ↔ barePs a = barePs b := by unfold sameP; simp
theorem eqF_sameE (a b : List ExprV) : eqF sameE a b = sameEs a b := by
  rw [Bool.eq_iff_iff, eqF_map ExprV.bare sameE sameE_iff, sameEs_iff, bareEs_map, bareEs_map]
theorem eqF_sameS (a b : List StmtV) : eqF sameS a b = sameSs a b := by
  rw [Bool.eq_iff_iff, eqF_map StmtV.bare sameS sameS_iff, sameSs_iff, bareSs_map, bareSs_map]
open Classical in
noncomputable def sameD (a b : DeclV) : Bool := decide (a.bare = b.bare)
theorem sameD_iff (a b : DeclV) : sameD a b = true ↔ a.bare = b.bare := by unfold sameD; simp
theorem eqF_sameD (a b : List DeclV) : eqF sameD a b = sameP a b := by
  rw [Bool.eq_iff_iff, eqF_map DeclV.bare sameD sameD_iff, sameP_iff]; rfl
theorem sameE_eq (a b : ExprV) : sameE a b = (decide (a.kind = b.kind) && (decide (a.name = b.name) && (decide (a.n = b.n) && sameEs a.args b.args))) := by
  rw [Bool.eq_iff_iff, sameE_iff, ExprV.bare_eq]
  simp only [Bool.and_eq_true, decide_eq_true_eq, sameEs_iff]
theorem sameS_eq (a b : StmtV) : sameS a b = (decide (a.kind = b.kind) && (decide (a.name = b.name) && (decide (a.to = b.to) && (decide (a.new = b.new) && (sameEs a.e b.e && (sameSs a.body b.body && sameSs a.els b.els)))))) := by
  rw [Bool.eq_iff_iff, sameS_iff, StmtV.bare_eq]
  simp only [Bool.and_eq_true, decide_eq_true_eq, sameEs_iff, sameSs_iff]
theorem sameD_eq (a b : DeclV) : sameD a b = (decide (a.kind = b.kind) && (decide (a.name = b.name) && (decide (a.n = b.n) && (decide (a.params = b.params) && sameSs a.body b.body)))) := by
  rw [Bool.eq_iff_iff, sameD_iff, DeclV.bare_eq]
  simp only [Bool.and_eq_true, decide_eq_true_eq, sameSs_iff]
theorem p_SameExpr (a : ExprV) : ∀ b : ExprV, a.sz ≤ 100000000 → PCall Tryd.prog 21 [.agg a.cells, .agg b.cells] (bl (sameE a b)) := by
  induction a using ExprV.ind with
  | h a ih =>
    intro b hsz
    rw [a.sz_eq] at hsz
    have hall : PCall Tryd.prog 44 [.sl a.k 5 (exprCells a.args), .sl b.k 5 (exprCells b.args), .fn (.func 21) [] []] (bl (sameEs a.args b.args)) := by
      rw [← eqF_sameE]
      exact p_EqF_Expr (by have := exprSz_len a.args; omega) fun x hx y _ => ih x hx y (by have := exprSz_mem hx; omega)
    rw [a.cells_eq, b.cells_eq, sameE_eq]
    refine PCall.of fun N => acall mixed c_tree_SameExpr (by simp) ?_
    by_cases c1 : a.kind = b.kind
    · by_cases c2 : a.name = b.name
      · by_cases c3 : a.n = b.n
        · simp [a_tree_SameExpr, c1, c2, c3]
          refine hall.acall ?_
          simp
          exact .free rfl
        · simp [a_tree_SameExpr, c1, c2, c3]; exact .free rfl
      · simp [a_tree_SameExpr, c1, c2]; exact .free rfl
    · simp [a_tree_SameExpr, c1]; exact .free rfl
theorem p_eqExprs {ka kb : SK} {la lb : List ExprV} (h : exprSz la ≤ 100000000) : PCall Tryd.prog 44 [.sl ka 5 (exprCells la), .sl kb 5 (exprCells lb), .fn (.func 21) [] []] (bl (sameEs la lb)) := by
  rw [← eqF_sameE]
  exact p_EqF_Expr (by have := exprSz_len la; omega) fun x hx y _ => p_SameExpr x y (by have := exprSz_mem hx; omega)
theorem p_same (a : StmtV) : ∀ b : StmtV, a.sz ≤ 100000000 → PCall Tryd.prog 39 [.agg a.cells, .agg b.cells] (bl (sameS a b)) := by
  induction a using StmtV.ind with
  | h a ih1 ih2 =>
    intro b hsz
    rw [a.sz_eq] at hsz
    have hE : PCall Tryd.prog 44 [.sl a.ke 5 (exprCells a.e), .sl b.ke 5 (exprCells b.e), .fn (.func 21) [] []] (bl (sameEs a.e b.e)) := p_eqExprs (by omega)
    have hB : PCall Tryd.prog 38 [.sl a.kb 8 (stmtCells a.body), .sl b.kb 8 (stmtCells b.body), .fn (.func 39) [] []] (bl (sameSs a.body b.body)) := by
      rw [← eqF_sameS]
      exact p_EqF_Stmt (by have := stmtSz_len a.body; omega) fun x hx y _ => ih1 x hx y (by have := stmtSz_mem hx; omega)
    have hL : PCall Tryd.prog 38 [.sl a.kl 8 (stmtCells a.els), .sl b.kl 8 (stmtCells b.els), .fn (.func 39) [] []] (bl (sameSs a.els b.els)) := by
      rw [← eqF_sameS]
      exact p_EqF_Stmt (by have := stmtSz_len a.els; omega) fun x hx y _ => ih2 x hx y (by have := stmtSz_mem hx; omega)
    rw [a.cells_eq, b.cells_eq, sameS_eq]
    refine PCall.of fun N => acall mixed c_tree_same (by simp) ?_
    by_cases c1 : a.kind = b.kind
    · by_cases c2 : a.name = b.name
      · by_cases c3 : a.to = b.to
        · by_cases c4 : a.new = b.new
          · simp [a_tree_same, c1, c2, c3, c4]
            refine hE.acall ?_
            cases h1 : sameEs a.e b.e with
            | false => simp; exact .free rfl
            | true =>
              simp
              refine hB.acall ?_
              cases h2 : sameSs a.body b.body with
              | false => simp; exact .free rfl
              | true =>
                simp
                refine hL.acall ?_
                simp
                exact .free rfl
          · cases h1 : a.new <;> cases h2 : b.new <;> first | exact absurd (h1.trans h2.symm) c4 | (simp [a_tree_same, c1, c2, c3, h1, h2]; exact .free rfl)
        · simp [a_tree_same, c1, c2, c3]; exact .free rfl
      · simp [a_tree_same, c1, c2]; exact .free rfl
    · simp [a_tree_same, c1]; exact .free rfl
theorem p_Same_1 (a b : DeclV) (hsz : a.sz ≤ 100000000) : PCall Tryd.prog 36 [.agg a.cells, .agg b.cells] (bl (sameD a b)) := by
  have hs : a.sz = 1 + a.name.size + strSz a.params + stmtSz a.body := rfl
  have hP : PCall Tryd.prog 37 [.sl a.kp 1 (strCells a.params), .sl b.kp 1 (strCells b.params)] (bl (decide (a.params = b.params))) := p_EqS (by have := strSz_len a.params; omega)
  have hB : PCall Tryd.prog 38 [.sl a.kb 8 (stmtCells a.body), .sl b.kb 8 (stmtCells b.body), .fn (.func 39) [] []] (bl (sameSs a.body b.body)) := by
    rw [← eqF_sameS]
    exact p_EqF_Stmt (by have := stmtSz_len a.body; omega) fun x hx y _ => p_same x y (by have := stmtSz_mem hx; omega)
  have ha : a.cells = [u8 a.kind, str a.name, i64 a.n, .sl a.kp 1 (strCells a.params), .sl a.kb 8 (stmtCells a.body), i64 a.pos] := rfl
  have hb : b.cells = [u8 b.kind, str b.name, i64 b.n, .sl b.kp 1 (strCells b.params), .sl b.kb 8 (stmtCells b.body), i64 b.pos] := rfl
  rw [ha, hb, sameD_eq]
  refine PCall.of fun N => acall mixed c_tree_Same_1 (by simp) ?_
  by_cases c1 : a.kind = b.kind
  · by_cases c2 : a.name = b.name
    · by_cases c3 : a.n = b.n
      · simp [a_tree_Same_1, c1, c2, c3]
        refine hP.acall ?_
        by_cases c4 : a.params = b.params
        · simp [c4]
          refine hB.acall ?_
          simp
          exact .free rfl
        · simp [c4]; exact .free rfl
      · simp [a_tree_Same_1, c1, c2, c3]; exact .free rfl
    · simp [a_tree_Same_1, c1, c2]; exact .free rfl
  · simp [a_tree_Same_1, c1]; exact .free rfl
theorem p_Same {ka kb : SK} {a b : List DeclV} (hsz : declSz a ≤ 100000000) : PCall Tryd.prog 17 [.sl ka 6 (declCells a), .sl kb 6 (declCells b)] (bl (sameP a b)) := by
  refine PCall.of fun N => acall mixed c_tree_Same (by simp) ?_
  simp [a_tree_Same]
  refine (p_EqF_Decl (ka := ka) (kb := kb) (la := a) (lb := b) (g := 36) (p := sameD) (by have := declSz_len a; omega) fun x hx y _ => p_Same_1 x y (by have := declSz_mem hx; omega)).acall ?_
  rw [eqF_sameD]
  simp
  exact .free rfl
end Go.Proofs.YtebopfpgicamiaaDoor
