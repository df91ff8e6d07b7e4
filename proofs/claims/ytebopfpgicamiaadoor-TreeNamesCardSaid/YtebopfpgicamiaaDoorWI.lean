/- tree: which are the same, by the reference. -/
import Derived.Test.YtebopfpgicamiaaDoorWH
namespace Go.Proofs.YtebopfpgicamiaaDoor
set_option linter.unusedSimpArgs false
set_option linter.unusedVariables false
open Go Go.Fw
theorem eqF_false {α : Type} {p : α → α → Bool} {a b : List α} {j : Nat} (ha : j < a.length) (hb : j < b.length) (h : p a[j] b[j] = false) : eqF p a b = false := by
  unfold eqF
  have hz : j < (a.zip b).length := by rw [List.length_zip]; omega
  have : ((a.zip b).all fun x => p x.1 x.2) = false := List.all_eq_false.2 ⟨(a[j], b[j]), by rw [← List.getElem_zip (h := hz)]; exact List.getElem_mem hz, by simp [h]⟩
  rw [this, Bool.and_false]
theorem eqF_next {α : Type} {p : α → α → Bool} {a b : List α} {j : Nat} (ha : j < a.length) (hb : j < b.length) (hp : ((a.zip b).take j).all (fun x => p x.1 x.2) = true) (h : p a[j] b[j] = true) : ((a.zip b).take (j + 1)).all (fun x => p x.1 x.2) = true := by
  have hz : j < (a.zip b).length := by rw [List.length_zip]; omega
  have := all_take (p := fun x : α × α => p x.1 x.2) hz hp
  rw [List.getElem_zip] at this
  exact this.trans h
theorem eqF_true {α : Type} {p : α → α → Bool} {a b : List α} (hl : a.length = b.length) (hp : ((a.zip b).take a.length).all (fun x => p x.1 x.2) = true) : eqF p a b = true := by
  rw [List.take_of_length_le (by rw [List.length_zip]; omega)] at hp
  unfold eqF
  rw [hp, decide_eq_true hl]; rfl
theorem eqF_len {α : Type} {p : α → α → Bool} {a b : List α} (hl : ¬ a.length = b.length) : eqF p a b = false := by
  unfold eqF
  rw [decide_eq_false hl]; rfl

theorem p_rsameExprs {ka kb : SK} {la lb : List ExprV} (hl : la.length ≤ 1000000000) {p : ExprV → ExprV → Bool} (hg : ∀ a ∈ la, ∀ b ∈ lb, PCall Tryd.prog 22 [.agg a.cells, .agg b.cells] (bl (p a b))) :
    PCall Tryd.prog 45 [.sl ka 5 (exprCells la), .sl kb 5 (exprCells lb)] (bl (eqF p la lb)) := by
  refine PCall.of fun N => acall mixed c_bobbinref02_sameExprs (by simp) ?_
  by_cases hll : la.length = lb.length
  · have hll' : (la.length : Int) = lb.length := by omega
    simp [a_bobbinref02_sameExprs, exprCells_len, hll']
    refine run_loop (fun m s => ∃ j : Nat, j ≤ la.length ∧ m = la.length - j ∧ s.A 0 = .sl ka 5 (exprCells la) ∧ s.A 1 = .sl kb 5 (exprCells lb) ∧ s.A 5 = i64 j ∧ ((la.zip lb).take j).all (fun x => p x.1 x.2) = true) la.length ?_ ?_
    · exact ⟨0, by omega, by omega, by simp, by simp, by simp, by simp⟩
    · rintro m A1 H1 N1 ⟨j, hj, rfl, e0, e1, e5, hp⟩
      simp only at e0 e1 e5 hp
      by_cases hjl : j < la.length
      · have n1 : (j : Int) < la.length := by omega
        have hjb : j < lb.length := by omega
        obtain ⟨x, hx⟩ : ∃ x, la[j] = x := ⟨_, rfl⟩
        obtain ⟨y, hy⟩ : ∃ y, lb[j] = y := ⟨_, rfl⟩
        have hq : aindex 5 (.sl ka 5 (exprCells la)) (i64 (j : Nat)) = some (.ip x.cells 0) := by rw [← hx]; exact aindex_sl (by omega) (by simpa using exprCells_at (List.getElem?_eq_getElem hjl))
        have hq2 : aindex 5 (.sl kb 5 (exprCells lb)) (i64 (j : Nat)) = some (.ip y.cells 0) := by rw [← hy]; exact aindex_sl (by omega) (by simpa using exprCells_at (List.getElem?_eq_getElem hjb))
        have hxl : x.cells.length = 5 := by rw [x.cells_eq]; rfl
        have hyl : y.cells.length = 5 := by rw [y.cells_eq]; rfl
        have hw : IntKind.i64.wrap ((j : Int) + 1) = ((j + 1 : Nat) : Int) := by rw [wrap_i64 (by omega) (by omega)]; rfl
        simp [a_bobbinref02_sameExprsb1, e0, e1, e5, exprCells_len, n1, hq, hq2, hxl, hyl, take_len hxl, take_len hyl]
        refine (hg x (by rw [← hx]; exact List.getElem_mem hjl) y (by rw [← hy]; exact List.getElem_mem hjb)).acall ?_
        cases hv : p x y with
        | true =>
          simp [e0, e1, e5, hw]
          exact ⟨la.length - (j + 1), by omega, j + 1, by omega, rfl, rfl, by simpa using eqF_next hjl hjb hp (by rw [hx, hy]; exact hv)⟩
        | false =>
          rw [eqF_false hjl hjb (by rw [hx, hy]; exact hv)]
          simp
          exact .free rfl
      · have n1 : ¬ (j : Int) < la.length := by omega
        have hje : j = la.length := by omega
        rw [hje] at hp
        rw [eqF_true hll hp]
        simp [a_bobbinref02_sameExprsb1, e0, e5, exprCells_len, n1]
        exact .free rfl
  · have hll' : ¬ (la.length : Int) = lb.length := by omega
    rw [eqF_len hll]
    simp [a_bobbinref02_sameExprs, exprCells_len, hll']
    exact .free rfl
theorem p_rSameExpr (a : ExprV) : ∀ b : ExprV, a.sz ≤ 100000000 → PCall Tryd.prog 22 [.agg a.cells, .agg b.cells] (bl (sameE a b)) := by
  induction a using ExprV.ind with
  | h a ih =>
    intro b hsz
    rw [a.sz_eq] at hsz
    have hall : PCall Tryd.prog 45 [.sl a.k 5 (exprCells a.args), .sl b.k 5 (exprCells b.args)] (bl (sameEs a.args b.args)) := by
      rw [← eqF_sameE]
      exact p_rsameExprs (by have := exprSz_len a.args; omega) fun x hx y _ => ih x hx y (by have := exprSz_mem hx; omega)
    rw [a.cells_eq, b.cells_eq, sameE_eq]
    refine PCall.of fun N => acall mixed c_bobbinref02_SameExpr (by simp) ?_
    by_cases c1 : a.kind = b.kind
    · by_cases c2 : a.name = b.name
      · by_cases c3 : a.n = b.n
        · simp [a_bobbinref02_SameExpr, c1, c2, c3]
          refine hall.acall ?_
          simp
          exact .free rfl
        · simp [a_bobbinref02_SameExpr, c1, c2, c3]; exact .free rfl
      · simp [a_bobbinref02_SameExpr, c1, c2]; exact .free rfl
    · simp [a_bobbinref02_SameExpr, c1]; exact .free rfl
theorem p_rsEs {ka kb : SK} {la lb : List ExprV} (h : exprSz la ≤ 100000000) : PCall Tryd.prog 45 [.sl ka 5 (exprCells la), .sl kb 5 (exprCells lb)] (bl (sameEs la lb)) := by
  rw [← eqF_sameE]
  exact p_rsameExprs (by have := exprSz_len la; omega) fun x hx y _ => p_rSameExpr x y (by have := exprSz_mem hx; omega)
theorem p_rsSs : ∀ (n : Nat) (la : List StmtV), stmtSz la = n → stmtSz la ≤ 100000000 → ∀ (lb : List StmtV) (ka kb : SK), PCall Tryd.prog 40 [.sl ka 8 (stmtCells la), .sl kb 8 (stmtCells lb)] (bl (sameSs la lb)) := by
  intro n
  induction n using Nat.strongRecOn with
  | _ n ih =>
    intro la hn hsz lb ka kb
    have hll0 := stmtSz_len la
    rw [← eqF_sameS]
    refine PCall.of fun N => acall mixed c_bobbinref02_sameStmts (by simp) ?_
    by_cases hll : la.length = lb.length
    · have hll' : (la.length : Int) = lb.length := by omega
      simp [a_bobbinref02_sameStmts, stmtCells_len, hll']
      refine run_loop (fun m s => ∃ j : Nat, j ≤ la.length ∧ m = la.length - j ∧ s.A 0 = .sl ka 8 (stmtCells la) ∧ s.A 1 = .sl kb 8 (stmtCells lb) ∧ s.A 5 = i64 j ∧ ((la.zip lb).take j).all (fun x => sameS x.1 x.2) = true) la.length ?_ ?_
      · exact ⟨0, by omega, by omega, by simp, by simp, by simp, by simp⟩
      · rintro m A1 H1 N1 ⟨j, hj, rfl, e0, e1, e5, hp⟩
        simp only at e0 e1 e5 hp
        by_cases hjl : j < la.length
        · have n1 : (j : Int) < la.length := by omega
          have hjb : j < lb.length := by omega
          obtain ⟨x, hx⟩ : ∃ x, la[j] = x := ⟨_, rfl⟩
          obtain ⟨y, hy⟩ : ∃ y, lb[j] = y := ⟨_, rfl⟩
          have hxs := stmtSz_mem (List.getElem_mem hjl)
          rw [hx] at hxs
          have hse := x.sz_eq
          have hq : aindex 8 (.sl ka 8 (stmtCells la)) (i64 (j : Nat)) = some (.ip x.cells 0) := by rw [← hx]; exact aindex_sl (by omega) (by simpa using stmtCells_at (List.getElem?_eq_getElem hjl))
          have hq2 : aindex 8 (.sl kb 8 (stmtCells lb)) (i64 (j : Nat)) = some (.ip y.cells 0) := by rw [← hy]; exact aindex_sl (by omega) (by simpa using stmtCells_at (List.getElem?_eq_getElem hjb))
          rw [x.cells_eq] at hq
          rw [y.cells_eq] at hq2
          have hw : IntKind.i64.wrap ((j : Int) + 1) = ((j + 1 : Nat) : Int) := by rw [wrap_i64 (by omega) (by omega)]; rfl
          have hE := p_rsEs (ka := x.ke) (kb := y.ke) (la := x.e) (lb := y.e) (by omega)
          have hB := ih (stmtSz x.body) (by omega) x.body rfl (by omega) y.body x.kb y.kb
          have hL := ih (stmtSz x.els) (by omega) x.els rfl (by omega) y.els x.kl y.kl
          have hv := sameS_eq x y
          have no : sameS x y = false → eqF sameS la lb = false := fun h => eqF_false hjl hjb (by rw [hx, hy]; exact h)
          by_cases c1 : x.kind = y.kind
          · by_cases c2 : x.name = y.name
            · by_cases c3 : x.to = y.to
              · by_cases c4 : x.new = y.new
                · simp [a_bobbinref02_sameStmtsb1, e0, e1, e5, stmtCells_len, n1, hq, hq2, c1, c2, c3, c4]
                  refine ⟨_, hE, ?_⟩
                  cases h1 : sameEs x.e y.e with
                  | false =>
                    rw [no (by rw [hv, h1]; simp)]
                    simp
                    exact .free rfl
                  | true =>
                    simp [e0, e1, e5, hq, hq2]
                    refine ⟨_, hB, ?_⟩
                    cases h2 : sameSs x.body y.body with
                    | false =>
                      rw [no (by rw [hv, h2]; simp)]
                      simp
                      exact .free rfl
                    | true =>
                      simp [e0, e1, e5, hq, hq2]
                      refine ⟨_, hL, ?_⟩
                      cases h3 : sameSs x.els y.els with
                      | false =>
                        rw [no (by rw [hv, h3]; simp)]
                        simp
                        exact .free rfl
                      | true =>
                        simp [e0, e1, e5, hw]
                        refine ⟨la.length - (j + 1), by omega, j + 1, by omega, rfl, rfl, ?_⟩
                        simpa using eqF_next hjl hjb hp (by rw [hx, hy, hv]; simp [c1, c2, c3, c4, h1, h2, h3])
                · rw [no (by rw [hv]; simp [c4])]
                  cases h1 : x.new <;> cases h2 : y.new <;> first | exact absurd (h1.trans h2.symm) c4 | (rw [h1] at hq; rw [h2] at hq2; simp [a_bobbinref02_sameStmtsb1, e0, e1, e5, stmtCells_len, n1, hq, hq2, c1, c2, c3]; exact .free rfl)
              · rw [no (by rw [hv]; simp [c3])]
                simp [a_bobbinref02_sameStmtsb1, e0, e1, e5, stmtCells_len, n1, hq, hq2, c1, c2, c3]
                exact .free rfl
            · rw [no (by rw [hv]; simp [c2])]
              simp [a_bobbinref02_sameStmtsb1, e0, e1, e5, stmtCells_len, n1, hq, hq2, c1, c2]
              exact .free rfl
          · rw [no (by rw [hv]; simp [c1])]
            simp [a_bobbinref02_sameStmtsb1, e0, e1, e5, stmtCells_len, n1, hq, hq2, c1]
            exact .free rfl
        · have n1 : ¬ (j : Int) < la.length := by omega
          have hje : j = la.length := by omega
          rw [hje] at hp
          rw [eqF_true hll hp]
          simp [a_bobbinref02_sameStmtsb1, e0, e5, stmtCells_len, n1]
          exact .free rfl
    · have hll' : ¬ (la.length : Int) = lb.length := by omega
      rw [eqF_len hll]
      simp [a_bobbinref02_sameStmts, stmtCells_len, hll']
      exact .free rfl
end Go.Proofs.YtebopfpgicamiaaDoor
