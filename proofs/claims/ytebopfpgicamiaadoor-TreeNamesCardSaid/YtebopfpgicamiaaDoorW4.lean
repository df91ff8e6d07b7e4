/- tree: which expressions, statements, declarations may be, by the program. -/
import Derived.Test.YtebopfpgicamiaaDoorW3
namespace Go.Proofs.YtebopfpgicamiaaDoor
set_option linter.unusedSimpArgs false
set_option linter.unusedVariables false
open Go Go.Fw

theorem p_some (s : ByteArray) (hs : s.size ≤ 1000000000) (b : Bool) : PCall Tryd.prog 41 [str s, bl b] (bl (someB s b)) := by
  refine PCall.of fun N => acall mixed c_tree_some (by simp) ?_
  have hn : PCall Tryd.prog 23 [str s] (bl (nameB s)) := p_Name s (by omega)
  cases b with
  | true =>
    simp [a_tree_some]
    refine hn.acall ?_
    cases h : nameB s <;> simp [someB, h] <;> exact .free rfl
  | false =>
    simp [a_tree_some]
    by_cases h : s = ⟨#[]⟩ <;> simp [someB, noStr, h] <;> exact .free rfl

theorem eRow_at (k : Nat) (hk : k < 18) : k * 3 + 3 ≤ exprTabCells.length ∧ (exprTabCells.drop (k * 3)).take 3 = (eRow k).cells := by
  have : k = 0 ∨ k = 1 ∨ k = 2 ∨ k = 3 ∨ k = 4 ∨ k = 5 ∨ k = 6 ∨ k = 7 ∨ k = 8 ∨ k = 9 ∨ k = 10 ∨ k = 11 ∨ k = 12 ∨ k = 13 ∨ k = 14 ∨ k = 15 ∨ k = 16 ∨ k = 17 := by omega
  rcases this with rfl | rfl | rfl | rfl | rfl | rfl | rfl | rfl | rfl | rfl | rfl | rfl | rfl | rfl | rfl | rfl | rfl | rfl <;> exact ⟨by decide, rfl⟩
theorem sRow_at (k : Nat) (hk : k < 10) : k * 4 + 4 ≤ stmtTabCells.length ∧ (stmtTabCells.drop (k * 4)).take 4 = (sRow k).cells := by
  have : k = 0 ∨ k = 1 ∨ k = 2 ∨ k = 3 ∨ k = 4 ∨ k = 5 ∨ k = 6 ∨ k = 7 ∨ k = 8 ∨ k = 9 := by omega
  rcases this with rfl | rfl | rfl | rfl | rfl | rfl | rfl | rfl | rfl | rfl <;> exact ⟨by decide, rfl⟩

theorem p_MayExpr (e : ExprV) : e.Ok → e.sz ≤ 100000000 → PCall Tryd.prog 19 [.agg e.cells] (bl (mayE e)) := by
  induction e using ExprV.ind with
  | h e ih =>
    intro hok hsz
    obtain ⟨⟨k0, k1⟩, ⟨n0, n1⟩, hak⟩ := hok.eq
    have hsz' := hsz
    rw [e.sz_eq] at hsz'
    have hall : PCall Tryd.prog 42 [.sl e.k 5 (exprCells e.args), .fn (.func 19) [] []] (bl (e.args.all mayE)) :=
      p_allP_Expr (by have := exprSz_len e.args; omega) fun x hx => ih x hx (hak x hx) (by have := exprSz_mem hx; omega)
    rw [← mayEs_all] at hall
    rw [e.cells_eq, mayE_eq]
    obtain ⟨kn, hkn⟩ : ∃ kn : Nat, e.kind = (kn : Int) := ⟨e.kind.toNat, by omega⟩
    have hw : IntKind.i64.wrap e.kind = e.kind := wrap_i64 (by omega) (by omega)
    refine PCall.of fun N => acall mixed c_tree_MayExpr (by simp) ?_
    by_cases hk : 1 ≤ e.kind ∧ e.kind < 18
    · obtain ⟨hq, hq2⟩ := eRow_at kn (by omega)
      have hkt : e.kind.toNat = kn := by omega
      rw [← hkn, ← hkt] at hq2
      rw [← hkt] at hq
      have hsome := p_some e.name (by omega) (eRow e.kind).named
      obtain ⟨r, hr⟩ : ∃ r, eRow e.kind = r := ⟨_, rfl⟩
      rw [hr] at hq2 hsome ⊢
      have g1 : ¬ 18 ≤ e.kind := by omega
      have g2 : ¬ e.kind < 1 := by omega
      by_cases c1 : (e.args.length : Int) = r.args
      · by_cases c2 : 0 ≤ e.n
        · by_cases c3 : e.n ≤ r.most
          · simp [a_tree_MayExpr, hw, g1, g2, gptr_exprs, hq, hq2, EShape.cells, exprCells_len, c1, c2, c3, hk, k0, splice]
            refine hsome.acall ?_
            cases hs : someB e.name r.named with
            | true =>
              simp
              refine hall.acall ?_
              simp
              exact .free rfl
            | false => simp; exact .free rfl
          · simp [a_tree_MayExpr, hw, g1, g2, gptr_exprs, hq, hq2, EShape.cells, exprCells_len, c1, c2, c3, hk, k0, splice]
            exact .free rfl
        · simp [a_tree_MayExpr, hw, g1, g2, gptr_exprs, hq, hq2, EShape.cells, exprCells_len, c1, c2, hk, k0, splice]
          exact .free rfl
      · simp [a_tree_MayExpr, hw, g1, g2, gptr_exprs, hq, hq2, EShape.cells, exprCells_len, c1, hk, k0, splice]
        exact .free rfl
    · by_cases g1 : 18 ≤ e.kind
      · simp [a_tree_MayExpr, hw, g1, hk]
        exact .free rfl
      · have g2 : e.kind < 1 := by omega
        simp [a_tree_MayExpr, hw, g1, g2, hk]
        exact .free rfl
end Go.Proofs.YtebopfpgicamiaaDoor
