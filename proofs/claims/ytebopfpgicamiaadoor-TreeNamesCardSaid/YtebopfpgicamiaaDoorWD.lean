/- tree: how deep and large, and which declarations and programs may be, by the reference. -/
import Derived.Test.YtebopfpgicamiaaDoorWC
namespace Go.Proofs.YtebopfpgicamiaaDoor
set_option linter.unusedSimpArgs false
set_option linter.unusedVariables false
open Go Go.Fw
theorem depEs_take {l : List ExprV} {j : Nat} (h : j < l.length) : depEs (l.take (j + 1)) = max (depEs (l.take j)) (depE l[j]) := by
  rw [take_next h, depEs_app]; simp [depEs]
theorem cntEs_take {l : List ExprV} {j : Nat} (h : j < l.length) : cntEs (l.take (j + 1)) = cntEs (l.take j) + cntE l[j] := by
  rw [take_next h, cntEs_app]; simp [cntEs]
theorem depSs_take {l : List StmtV} {j : Nat} (h : j < l.length) : depSs (l.take (j + 1)) = max (depSs (l.take j)) (depS l[j]) := by
  rw [take_next h, depSs_app]; simp [depSs]
theorem cntSs_take {l : List StmtV} {j : Nat} (h : j < l.length) : cntSs (l.take (j + 1)) = cntSs (l.take j) + cntS l[j] := by
  rw [take_next h, cntSs_app]; simp [cntSs]
theorem take_cntEs (l : List ExprV) (j : Nat) : cntEs (l.take j) ≤ cntEs l := by
  have : cntEs l = cntEs (l.take j) + cntEs (l.drop j) := by rw [← cntEs_app, List.take_append_drop]
  omega
theorem take_cntSs (l : List StmtV) (j : Nat) : cntSs (l.take j) ≤ cntSs l := by
  have : cntSs l = cntSs (l.take j) + cntSs (l.drop j) := by rw [← cntSs_app, List.take_append_drop]
  omega
theorem mx_cast (a b : Nat) : (if (a : Int) < (b : Int) then (b : Int) else (a : Int)) = ((max a b : Nat) : Int) := by split <;> omega

theorem p_rdeep1 (e : ExprV) : e.sz ≤ 100000000 → PCall Tryd.prog 78 [.agg e.cells] (i64 (depE e)) := by
  induction e using ExprV.ind with
  | h e ih =>
    intro hsz
    rw [e.sz_eq] at hsz
    have hce := e.cells_eq
    have hll := exprSz_len e.args
    have hdl := depEs_le e.args
    have hcl := cntEs_le e.args
    have hall : PCall Tryd.prog 60 [.sl e.k 5 (exprCells e.args)] (i64 (depEs e.args)) := by
      refine PCall.of fun N => acall mixed c_bobbinref02_deepest (by simp) ?_
      simp [a_bobbinref02_deepest]
      refine run_loop (fun m s => ∃ j : Nat, j ≤ e.args.length ∧ m = e.args.length - j ∧ s.A 0 = .sl e.k 5 (exprCells e.args) ∧ s.A 3 = i64 (depEs (e.args.take j)) ∧ s.A 4 = i64 j) e.args.length ?_ ?_
      · exact ⟨0, by omega, by omega, by simp, by simp [depEs], by simp⟩
      · rintro m A1 H1 N1 ⟨j, hj, rfl, e0, e3, e4⟩
        simp only at e0 e3 e4
        by_cases hjl : j < e.args.length
        · have n1 : (j : Int) < e.args.length := by omega
          have hxm := List.getElem_mem hjl
          have hxs := exprSz_mem hxm
          have hq : aindex 5 (.sl e.k 5 (exprCells e.args)) (i64 (j : Nat)) = some (.ip e.args[j].cells 0) := aindex_sl (by omega) (by simpa using exprCells_at (List.getElem?_eq_getElem hjl))
          have hla : ∀ X, aload X true 5 (.ip e.args[j].cells 0) = some (.agg e.args[j].cells) := fun X => by rw [e.args[j].cells_eq]; rfl
          have hw : IntKind.i64.wrap ((j : Int) + 1) = ((j + 1 : Nat) : Int) := by rw [wrap_i64 (by omega) (by omega)]; rfl
          have htk := depEs_take hjl
          simp [a_bobbinref02_deepestb1, e0, e3, e4, exprCells_len, n1, hq, hla, -aload]
          refine (ih _ hxm (by omega)).acall ?_
          have hmx := mx_cast (depEs (e.args.take j)) (depE e.args[j])
          rw [← htk] at hmx
          simp [e0, e4, hw]
          refine ⟨e.args.length - (j + 1), by omega, j + 1, by omega, rfl, ?_, rfl⟩
          first
            | exact hmx
            | (rw [htk]; split <;> omega)
        · have n1 : ¬ (j : Int) < e.args.length := by omega
          have hje : j = e.args.length := by omega
          subst hje
          rw [List.take_length] at e3
          simp [a_bobbinref02_deepestb1, e0, e3, e4, exprCells_len]
          exact .free rfl
    refine PCall.of fun N => acall mixed c_bobbinref02_expr (by simp) ?_
    rw [hce]
    simp [a_bobbinref02_expr]
    refine hall.acall ?_
    have hw : IntKind.i64.wrap (1 + (depEs e.args : Int)) = ((depE e : Nat) : Int) := by rw [wrap_i64 (by omega) (by omega), depE_eq]; omega
    simp [hw]
    exact .free rfl
theorem p_rdeepest {k : SK} {l : List ExprV} (hl : exprSz l ≤ 100000000) : PCall Tryd.prog 60 [.sl k 5 (exprCells l)] (i64 (depEs l)) := by
  have hll := exprSz_len l
  refine PCall.of fun N => acall mixed c_bobbinref02_deepest (by simp) ?_
  simp [a_bobbinref02_deepest]
  refine run_loop (fun m s => ∃ j : Nat, j ≤ l.length ∧ m = l.length - j ∧ s.A 0 = .sl k 5 (exprCells l) ∧ s.A 3 = i64 (depEs (l.take j)) ∧ s.A 4 = i64 j) l.length ?_ ?_
  · exact ⟨0, by omega, by omega, by simp, by simp [depEs], by simp⟩
  · rintro m A1 H1 N1 ⟨j, hj, rfl, e0, e3, e4⟩
    simp only at e0 e3 e4
    by_cases hjl : j < l.length
    · have n1 : (j : Int) < l.length := by omega
      have hxm := List.getElem_mem hjl
      have hxs := exprSz_mem hxm
      have hq : aindex 5 (.sl k 5 (exprCells l)) (i64 (j : Nat)) = some (.ip l[j].cells 0) := aindex_sl (by omega) (by simpa using exprCells_at (List.getElem?_eq_getElem hjl))
      have hla : ∀ X, aload X true 5 (.ip l[j].cells 0) = some (.agg l[j].cells) := fun X => by rw [l[j].cells_eq]; rfl
      have hw : IntKind.i64.wrap ((j : Int) + 1) = ((j + 1 : Nat) : Int) := by rw [wrap_i64 (by omega) (by omega)]; rfl
      have htk := depEs_take hjl
      simp [a_bobbinref02_deepestb1, e0, e3, e4, exprCells_len, n1, hq, hla, -aload]
      refine (p_rdeep1 _ (by omega)).acall ?_
      simp [e0, e4, hw]
      refine ⟨l.length - (j + 1), by omega, j + 1, by omega, rfl, ?_, rfl⟩
      rw [htk]; split <;> omega
    · have n1 : ¬ (j : Int) < l.length := by omega
      have hje : j = l.length := by omega
      subst hje
      rw [List.take_length] at e3
      simp [a_bobbinref02_deepestb1, e0, e3, e4, exprCells_len]
      exact .free rfl
theorem p_rdeep : ∀ (n : Nat) (l : List StmtV), stmtSz l = n → stmtSz l ≤ 100000000 → ∀ k, PCall Tryd.prog 33 [.sl k 8 (stmtCells l)] (i64 (depSs l)) := by
  intro n
  induction n using Nat.strongRecOn with
  | _ n ih =>
    intro l hn hsz k
    have hll := stmtSz_len l
    refine PCall.of fun N => acall mixed c_bobbinref02_deep (by simp) ?_
    simp [a_bobbinref02_deep]
    refine run_loop (fun m s => ∃ j : Nat, j ≤ l.length ∧ m = l.length - j ∧ s.A 0 = .sl k 8 (stmtCells l) ∧ s.A 3 = i64 (depSs (l.take j)) ∧ s.A 4 = i64 j) l.length ?_ ?_
    · exact ⟨0, by omega, by omega, by simp, by simp [depSs], by simp⟩
    · rintro m A1 H1 N1 ⟨j, hj, rfl, e0, e3, e4⟩
      simp only at e0 e3 e4
      by_cases hjl : j < l.length
      · have n1 : (j : Int) < l.length := by omega
        obtain ⟨s, hs⟩ : ∃ s, l[j] = s := ⟨_, rfl⟩
        have hxm := List.getElem_mem hjl
        have hxs := stmtSz_mem hxm
        rw [hs] at hxs
        have hse := s.sz_eq
        have hq : aindex 8 (.sl k 8 (stmtCells l)) (i64 (j : Nat)) = some (.ip s.cells 0) := by rw [← hs]; exact aindex_sl (by omega) (by simpa using stmtCells_at (List.getElem?_eq_getElem hjl))
        rw [s.cells_eq] at hq
        have hw : IntKind.i64.wrap ((j : Int) + 1) = ((j + 1 : Nat) : Int) := by rw [wrap_i64 (by omega) (by omega)]; rfl
        have htk := depSs_take hjl
        rw [hs, depS_eq] at htk
        have d1 := depEs_le s.e
        have d2 := depSs_le s.body
        have d3 := depSs_le s.els
        have d4 := cntEs_le s.e
        have d5 := cntSs_le s.body
        have d6 := cntSs_le s.els
        simp [a_bobbinref02_deepb1, e0, e3, e4, stmtCells_len, n1, hq]
        refine (p_rdeepest (k := s.ke) (l := s.e) (by omega)).acall ?_
        simp
        refine (ih (stmtSz s.body) (by omega) s.body rfl (by omega) s.kb).acall ?_
        simp
        refine (ih (stmtSz s.els) (by omega) s.els rfl (by omega) s.kl).acall ?_
        have key : ∀ x : Int, x = ((max (depEs s.e) (max (depSs s.body) (depSs s.els)) : Nat) : Int) → IntKind.i64.wrap (1 + x) = ((1 + max (depEs s.e) (max (depSs s.body) (depSs s.els)) : Nat) : Int) := fun x hx => by rw [hx, wrap_i64 (by omega) (by omega)]; omega
        simp [e0, e4, hw]
        rw [key _ (by split <;> split <;> omega)]
        refine ⟨l.length - (j + 1), by omega, j + 1, by omega, rfl, ?_, rfl⟩
        rw [htk]; split <;> omega
      · have n1 : ¬ (j : Int) < l.length := by omega
        have hje : j = l.length := by omega
        subst hje
        rw [List.take_length] at e3
        simp [a_bobbinref02_deepb1, e0, e3, e4, stmtCells_len]
        exact .free rfl
theorem p_rDepth (k : SK) (l : List DeclV) (hsz : declSz l ≤ 100000000) : PCall Tryd.prog 14 [.sl k 6 (declCells l)] (i64 (depP l)) := by
  have hll := declSz_len l
  refine PCall.of fun N => acall mixed c_bobbinref02_Depth (by simp) ?_
  simp [a_bobbinref02_Depth]
  refine run_loop (fun m s => ∃ j : Nat, j ≤ l.length ∧ m = l.length - j ∧ s.A 0 = .sl k 6 (declCells l) ∧ s.A 3 = i64 (depP (l.take j)) ∧ s.A 4 = i64 j) l.length ?_ ?_
  · exact ⟨0, by omega, by omega, by simp, by simp [depP], by simp⟩
  · rintro m A1 H1 N1 ⟨j, hj, rfl, e0, e3, e4⟩
    simp only at e0 e3 e4
    by_cases hjl : j < l.length
    · have n1 : (j : Int) < l.length := by omega
      obtain ⟨d, hd⟩ : ∃ d, l[j]? = some d := ⟨l[j], List.getElem?_eq_getElem hjl⟩
      have hdm := declSz_mem (List.mem_of_getElem? hd)
      have hds : d.sz = 1 + d.name.size + strSz d.params + stmtSz d.body := rfl
      have hq : aindex 6 (.sl k 6 (declCells l)) (i64 (j : Nat)) = some (.ip d.cells 0) := aindex_sl (by omega) (by simpa using declCells_at hd)
      have hce : d.cells = [u8 d.kind, str d.name, i64 d.n, .sl d.kp 1 (strCells d.params), .sl d.kb 8 (stmtCells d.body), i64 d.pos] := rfl
      rw [hce] at hq
      have hw : IntKind.i64.wrap ((j : Int) + 1) = ((j + 1 : Nat) : Int) := by rw [wrap_i64 (by omega) (by omega)]; rfl
      have htk := depP_take hd
      simp [a_bobbinref02_Depthb1, e0, e3, e4, declCells_len, n1, hq]
      refine (p_rdeep _ d.body rfl (by omega) d.kb).acall ?_
      simp [e0, e4, hw]
      refine ⟨l.length - (j + 1), by omega, j + 1, by omega, rfl, ?_, rfl⟩
      rw [htk]; split <;> omega
    · have n1 : ¬ (j : Int) < l.length := by omega
      have hje : j = l.length := by omega
      subst hje
      rw [List.take_length] at e3
      simp [a_bobbinref02_Depthb1, e0, e3, e4, declCells_len]
      exact .free rfl
end Go.Proofs.YtebopfpgicamiaaDoor
