/- tree: how much a statement goes over. -/
import Derived.Test.YtebopfpgicamiaaDoorWJ
import Derived.Test.YtebopfpgicamiaaDoorKC
namespace Go.Proofs.YtebopfpgicamiaaDoor
set_option linter.unusedSimpArgs false
set_option linter.unusedVariables false
open Go Go.Fw
theorem exprSz_take {l : List ExprV} {j : Nat} (h : j < l.length) : exprSz (l.take (j + 1)) = exprSz (l.take j) + l[j].sz := by
  rw [take_next h, exprSz_app]; simp [exprSz]
theorem stmtSz_take {l : List StmtV} {j : Nat} (h : j < l.length) : stmtSz (l.take (j + 1)) = stmtSz (l.take j) + l[j].sz := by
  rw [take_next h, stmtSz_app]; simp [stmtSz]
theorem declSz_take {l : List DeclV} {j : Nat} (h : j < l.length) : declSz (l.take (j + 1)) = declSz (l.take j) + l[j].sz := by
  rw [take_next h, declSz_app]; simp [declSz]
theorem take_exprSz (l : List ExprV) (j : Nat) : exprSz (l.take j) ≤ exprSz l := by
  have : exprSz l = exprSz (l.take j) + exprSz (l.drop j) := by rw [← exprSz_app, List.take_append_drop]
  omega
theorem take_stmtSz (l : List StmtV) (j : Nat) : stmtSz (l.take j) ≤ stmtSz l := by
  have : stmtSz l = stmtSz (l.take j) + stmtSz (l.drop j) := by rw [← stmtSz_app, List.take_append_drop]
  omega
theorem p_lexpr (e : ExprV) : e.sz ≤ 100000000 → ∀ H N, ACall Tryd.prog 9 [.agg e.cells] H N (fun r H' N' => (∃ n : Int, r = i64 n ∧ 0 ≤ n ∧ n ≤ 1000 * e.sz) ∧ H' = H ∧ N' = N) := by
  induction e using ExprV.ind with
  | h e ih =>
    intro hsz H N
    have hse := e.sz_eq
    have hll := exprSz_len e.args
    have hce := e.cells_eq
    refine acall mixed c_bobbinlaw02_expr (by simp) ?_
    rw [hce]
    by_cases c1 : (400 : Int) < e.args.length
    · simp [a_bobbinlaw02_expr, exprCells_len, c1]
      omega
    · by_cases c2 : (300 : Int) < e.name.size
      · simp [a_bobbinlaw02_expr, exprCells_len, c1, c2]
        omega
      · simp [a_bobbinlaw02_expr, exprCells_len, c1, c2]
        refine run_loop (fun m s => ∃ (j : Nat) (n : Int), j ≤ e.args.length ∧ m = e.args.length - j ∧ s.A 1 = .ip e.cells 0 ∧ s.A 3 = i64 n ∧ s.A 4 = i64 j ∧ 0 ≤ n ∧ n ≤ 1 + 1000 * exprSz (e.args.take j) ∧ s.H = H ∧ s.N = N) e.args.length ?_ ?_
        · exact ⟨0, 1, by omega, by omega, by simp [hce], by simp, by simp, by omega, by omega, rfl, rfl⟩
        · rintro m A1 H1 N1 ⟨j, n, hj, rfl, e1, e3, e4, hn0, hn1, rfl, rfl⟩
          simp only at e1 e3 e4
          rw [hce] at e1
          have htk := take_exprSz e.args j
          by_cases hjl : j < e.args.length
          · have n1 : (j : Int) < e.args.length := by omega
            by_cases h5 : n ≤ 500
            · obtain ⟨x, hx⟩ : ∃ x, e.args[j] = x := ⟨_, rfl⟩
              have hxm : x ∈ e.args := by rw [← hx]; exact List.getElem_mem hjl
              have hxs := exprSz_mem hxm
              have ht1 := exprSz_take hjl
              rw [hx] at ht1
              have ht2 := take_exprSz e.args (j + 1)
              have hq : aindex 5 (.sl e.k 5 (exprCells e.args)) (i64 (j : Nat)) = some (.ip x.cells 0) := by rw [← hx]; exact aindex_sl (by omega) (by simpa using exprCells_at (List.getElem?_eq_getElem hjl))
              have hla : ∀ X, aload X true 5 (.ip x.cells 0) = some (.agg x.cells) := fun X => by rw [x.cells_eq]; rfl
              have hxl : x.cells.length = 5 := by rw [x.cells_eq]; rfl
              have hw : IntKind.i64.wrap ((j : Int) + 1) = ((j + 1 : Nat) : Int) := by rw [wrap_i64 (by omega) (by omega)]; rfl
              simp [a_bobbinlaw02_exprb1, e1, e3, e4, exprCells_len, n1, h5, hq, hxl, take_len hxl]
              refine (ih x hxm (by omega) H1 N1).mono ?_
              rintro r H2 N2 ⟨⟨k, rfl, hk0, hk1⟩, rfl, rfl⟩
              have hwn : IntKind.i64.wrap (n + k) = n + k := wrap_i64 (by omega) (by omega)
              simp [e1, e4, hw, hwn]
              exact ⟨e.args.length - (j + 1), by omega, j + 1, by omega, rfl, by rw [hce], rfl, by omega, by omega⟩
            · simp [a_bobbinlaw02_exprb1, e1, e3, e4, exprCells_len, n1, h5]
              omega
          · have n1 : ¬ (j : Int) < e.args.length := by omega
            simp [a_bobbinlaw02_exprb1, e1, e3, e4, exprCells_len, n1]
            omega
theorem len_drop (l : List StmtV) (j : Nat) : l.length - j + stmtSz (l.take j) ≤ stmtSz l := by
  have h1 : stmtSz l = stmtSz (l.take j) + stmtSz (l.drop j) := by rw [← stmtSz_app, List.take_append_drop]
  have h2 := stmtSz_len (l.drop j)
  rw [List.length_drop] at h2
  omega
theorem p_lstmts : ∀ (z : Nat) (l : List StmtV), stmtSz l = z → stmtSz l ≤ 100000000 → ∀ k H N, ACall Tryd.prog 28 [.sl k 8 (stmtCells l)] H N (fun r H' N' => (∃ n : Int, r = i64 n ∧ 0 ≤ n ∧ n ≤ 1000 + 2001 * stmtSz l) ∧ H' = H ∧ N' = N) := by
  intro z
  induction z using Nat.strongRecOn with
  | _ z ih =>
    intro l hz hsz k H N
    have hll := stmtSz_len l
    obtain ⟨c1', ec1⟩ : ∃ c, (.loop a_bobbinlaw02_stmtsb1 : ACode) = c := ⟨_, rfl⟩
    refine acall mixed c_bobbinlaw02_stmts (by simp) ?_
    by_cases c1 : (400 : Int) < l.length
    · simp [a_bobbinlaw02_stmts, stmtCells_len, c1]
      omega
    · simp [a_bobbinlaw02_stmts, stmtCells_len, c1]
      refine run_loop (fun m s => ∃ (j : Nat) (n : Int), j ≤ l.length ∧ m = l.length - j ∧ s.A 0 = .sl k 8 (stmtCells l) ∧ s.A 3 = i64 n ∧ s.A 4 = i64 j ∧ 0 ≤ n ∧ n ≤ (l.length - j : Nat) + 2001 * stmtSz (l.take j) ∧ s.H = H ∧ s.N = N) l.length ?_ ?_
      · exact ⟨0, l.length, by omega, by omega, by simp, by simp [stmtCells_len], by simp, by omega, by omega, rfl, rfl⟩
      · rintro m A1 H1 N1 ⟨j, n, hj, rfl, e0, e3, e4, hn0, hn1, rfl, rfl⟩
        simp only at e0 e3 e4
        have hld := len_drop l j
        unfold a_bobbinlaw02_stmtsb2
        rw [ec1]
        by_cases hjl : j < l.length
        · have n1 : (j : Int) < l.length := by omega
          by_cases h5 : n ≤ 500
          · obtain ⟨x, hx⟩ : ∃ x, l[j] = x := ⟨_, rfl⟩
            have hxm : x ∈ l := by rw [← hx]; exact List.getElem_mem hjl
            have hxs := stmtSz_mem hxm
            have hse := x.sz_eq
            have ht1 := stmtSz_take hjl
            rw [hx] at ht1
            have hle := exprSz_len x.e
            have hld2 := len_drop l (j + 1)
            have hq : aindex 8 (.sl k 8 (stmtCells l)) (i64 (j : Nat)) = some (.ip x.cells 0) := by rw [← hx]; exact aindex_sl (by omega) (by simpa using stmtCells_at (List.getElem?_eq_getElem hjl))
            rw [x.cells_eq] at hq
            have hw : IntKind.i64.wrap ((j : Int) + 1) = ((j + 1 : Nat) : Int) := by rw [wrap_i64 (by omega) (by omega)]; rfl
            by_cases d1 : (400 : Int) < x.e.length
            · simp [e0, e3, e4, stmtCells_len, n1, h5, hq, exprCells_len, d1]
              omega
            · by_cases d2 : (300 : Int) < x.name.size
              · simp [e0, e3, e4, stmtCells_len, n1, h5, hq, exprCells_len, d1, d2]
                omega
              · by_cases d3 : (300 : Int) < x.to.size
                · simp [e0, e3, e4, stmtCells_len, n1, h5, hq, exprCells_len, d1, d2, d3]
                  omega
                · simp [e0, e3, e4, stmtCells_len, n1, h5, hq, exprCells_len, d1, d2, d3]
                  rw [← ec1]
                  refine run_loop (fun m s => ∃ (i : Nat) (n' : Int), i ≤ x.e.length ∧ m = x.e.length - i ∧ s.A 0 = .sl k 8 (stmtCells l) ∧ s.A 3 = i64 n' ∧ s.A 4 = i64 j ∧ s.A 5 = i64 i ∧ 0 ≤ n' ∧ n' ≤ n + 1000 * exprSz (x.e.take i) ∧ s.H = H1 ∧ s.N = N1) x.e.length ?_ ?_
                  · exact ⟨0, n, by omega, by omega, by simp [e0], by simp [e3], by simp [e4], by simp, by omega, by omega, rfl, rfl⟩
                  · rintro m A2 H2 N2 ⟨i, n', hi, rfl, f0, f3, f4, f5, hm0, hm1, rfl, rfl⟩
                    simp only at f0 f3 f4 f5
                    have htk := take_exprSz x.e i
                    by_cases hil : i < x.e.length
                    · have m1 : (i : Int) < x.e.length := by omega
                      by_cases h6 : n' ≤ 500
                      · obtain ⟨y, hy⟩ : ∃ y, x.e[i] = y := ⟨_, rfl⟩
                        have hym : y ∈ x.e := by rw [← hy]; exact List.getElem_mem hil
                        have hys := exprSz_mem hym
                        have ht3 := exprSz_take hil
                        rw [hy] at ht3
                        have ht4 := take_exprSz x.e (i + 1)
                        have hr : aindex 5 (.sl x.ke 5 (exprCells x.e)) (i64 (i : Nat)) = some (.ip y.cells 0) := by rw [← hy]; exact aindex_sl (by omega) (by simpa using exprCells_at (List.getElem?_eq_getElem hil))
                        have hyl : y.cells.length = 5 := by rw [y.cells_eq]; rfl
                        have hwi : IntKind.i64.wrap ((i : Int) + 1) = ((i + 1 : Nat) : Int) := by rw [wrap_i64 (by omega) (by omega)]; rfl
                        simp [a_bobbinlaw02_stmtsb1, f0, f3, f4, f5, hq, exprCells_len, m1, h6, hr, hyl, take_len hyl]
                        refine (p_lexpr y (by omega) H2 N2).mono ?_
                        rintro r H3 N3 ⟨⟨q, rfl, hq0, hq1⟩, rfl, rfl⟩
                        have hwn : IntKind.i64.wrap (n' + q) = n' + q := wrap_i64 (by omega) (by omega)
                        simp [f0, f4, f5, hwi, hwn]
                        exact ⟨x.e.length - (i + 1), by omega, i + 1, by omega, rfl, rfl, by omega, by omega⟩
                      · simp [a_bobbinlaw02_stmtsb1, f0, f3, f4, f5, hq, exprCells_len, m1, h6, hw]
                        exact ⟨l.length - (j + 1), by omega, j + 1, by omega, rfl, rfl, by omega, by omega⟩
                    · have m1 : ¬ (i : Int) < x.e.length := by omega
                      by_cases h6 : n' ≤ 500
                      · simp [a_bobbinlaw02_stmtsb1, f0, f3, f4, f5, hq, exprCells_len, m1, h6]
                        refine (ih (stmtSz x.body) (by omega) x.body rfl (by omega) x.kb H2 N2).mono ?_
                        rintro r H3 N3 ⟨⟨q, rfl, hq0, hq1⟩, rfl, rfl⟩
                        have hwn : IntKind.i64.wrap (n' + q) = n' + q := wrap_i64 (by omega) (by omega)
                        simp [hwn]
                        refine (ih (stmtSz x.els) (by omega) x.els rfl (by omega) x.kl H3 N3).mono ?_
                        rintro r H4 N4 ⟨⟨q', rfl, hp0, hp1⟩, rfl, rfl⟩
                        have hwn2 : IntKind.i64.wrap (n' + q + q') = n' + q + q' := wrap_i64 (by omega) (by omega)
                        simp [f0, f4, hw, hwn2]
                        exact ⟨l.length - (j + 1), by omega, j + 1, by omega, rfl, rfl, by omega, by omega⟩
                      · simp [a_bobbinlaw02_stmtsb1, f0, f3, f4, f5, hq, exprCells_len, m1, h6, hw]
                        exact ⟨l.length - (j + 1), by omega, j + 1, by omega, rfl, rfl, by omega, by omega⟩
          · simp [e0, e3, e4, stmtCells_len, n1, h5]
            omega
        · have n1 : ¬ (j : Int) < l.length := by omega
          simp [e0, e3, e4, stmtCells_len, n1]
          omega
end Go.Proofs.YtebopfpgicamiaaDoor
