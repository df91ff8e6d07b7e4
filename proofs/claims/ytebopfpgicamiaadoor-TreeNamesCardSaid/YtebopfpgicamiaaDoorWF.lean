/- tree: which declarations and programs may be, by the reference. -/
import Derived.Test.YtebopfpgicamiaaDoorWE
namespace Go.Proofs.YtebopfpgicamiaaDoor
set_option linter.unusedSimpArgs false
set_option linter.unusedVariables false
open Go Go.Fw
theorem declB_eq (d : DeclV) : declB d = (nameB d.name && (decide (d.params.length ≤ 8) && (d.params.all nameB && (maySs d.body && dB d)))) := rfl
theorem p_rdecl (d : DeclV) (hok : d.Ok) (hsz : d.sz ≤ 100000000) : PCall Tryd.prog 31 [.agg d.cells] (bl (declB d)) := by
  have hds : d.sz = 1 + d.name.size + strSz d.params + stmtSz d.body := rfl
  have hpl := strSz_len d.params
  have hBo : PCall Tryd.prog 55 [.sl d.kb 8 (stmtCells d.body)] (bl (maySs d.body)) := by
    rw [maySs_all]
    exact p_rstmts (by have := stmtSz_len d.body; omega) fun x hx => p_rstmt x ((stmtsOk_iff _).1 hok.body x hx) (by have := stmtSz_mem hx; omega)
  have hce : d.cells = [u8 d.kind, str d.name, i64 d.n, .sl d.kp 1 (strCells d.params), .sl d.kb 8 (stmtCells d.body), i64 d.pos] := rfl
  obtain ⟨cr, er⟩ : ∃ c, a_rde_rest = c := ⟨_, rfl⟩
  obtain ⟨B, hB⟩ : ∃ B, declB d = B := ⟨_, rfl⟩
  rw [hB]
  rw [declB_eq] at hB
  refine PCall.of fun N => acall mixed c_bobbinref02_decl (by simp) ?_
  unfold a_bobbinref02_decl
  rw [er, hce]
  simp
  refine (p_refName d.name).acall ?_
  cases hn : nameB d.name with
  | false =>
    rw [hn] at hB
    obtain rfl : B = false := by rw [← hB]; rfl
    simp
    exact .free rfl
  | true =>
    rw [hn, Bool.true_and] at hB
    by_cases c1 : (8 : Int) < d.params.length
    · have c1' : ¬ d.params.length ≤ 8 := by omega
      rw [decide_eq_false c1'] at hB
      obtain rfl : B = false := by rw [← hB]; rfl
      simp [strCells_len, c1]
      exact .free rfl
    · have c1' : d.params.length ≤ 8 := by omega
      rw [decide_eq_true c1', Bool.true_and] at hB
      simp [strCells_len, c1]
      refine hBo.acall ?_
      cases hb : maySs d.body with
      | false =>
        rw [hb] at hB
        obtain rfl : B = false := by rw [← hB]; simp
        simp
        exact .free rfl
      | true =>
        rw [hb, Bool.true_and] at hB
        simp
        refine run_loop (fun m s => ∃ j : Nat, j ≤ d.params.length ∧ m = d.params.length - j ∧ s.A 1 = .ip d.cells 0 ∧ s.A 3 = i64 j ∧ (d.params.take j).all nameB = true ∧ s.H = noHeap) d.params.length ?_ ?_
        · exact ⟨0, by omega, by omega, by simp [hce], by simp, by simp, rfl⟩
        · rintro m A1 H1 N1 ⟨j, hj, rfl, e1, e3, hp, rfl⟩
          simp only at e1 e3 hp
          have e1' := e1
          rw [hce] at e1'
          by_cases hjl : j < d.params.length
          · have n1 : (j : Int) < d.params.length := by omega
            obtain ⟨x, hx⟩ : ∃ x, d.params[j] = x := ⟨_, rfl⟩
            have hq : aindex 1 (.sl d.kp 1 (strCells d.params)) (i64 (j : Nat)) = some (.ip [str x] 0) := by rw [← hx]; exact aindex_sl (by omega) (by simpa using strCells_get (List.getElem?_eq_getElem hjl))
            have hw : IntKind.i64.wrap ((j : Int) + 1) = ((j + 1 : Nat) : Int) := by rw [wrap_i64 (by omega) (by omega)]; rfl
            have hat := all_take (p := nameB) hjl hp
            rw [hx] at hat
            simp [a_bobbinref02_declb1, e1', e3, strCells_len, n1, hq]
            refine (p_refName x).acall ?_
            cases hv : nameB x with
            | true =>
              simp [e1', e3, hw]
              exact ⟨d.params.length - (j + 1), by omega, j + 1, by omega, rfl, by rw [hce], rfl, by simpa using hat.trans hv⟩
            | false =>
              have : d.params.all nameB = false := List.all_eq_false.2 ⟨x, by rw [← hx]; exact List.getElem_mem hjl, by simp [hv]⟩
              rw [this] at hB
              obtain rfl : B = false := by rw [← hB]; rfl
              simp
              exact .free rfl
          · have n1 : ¬ (j : Int) < d.params.length := by omega
            have hje : j = d.params.length := by omega
            rw [hje, List.take_length] at hp
            rw [hp, Bool.true_and] at hB
            simp [a_bobbinref02_declb1, e1', e3, strCells_len, n1]
            refine rde_rest (d := d) er (by simp [e1]) fun A' h2 => ?_
            simp [h2, hB]
            exact .free rfl
theorem p_rMay {k : SK} {l : List DeclV} (hok : ∀ d ∈ l, d.Ok) (hsz : declSz l ≤ 100000000) : PCall Tryd.prog 12 [.sl k 6 (declCells l)] (bl (mayP l)) := by
  have hll := declSz_len l
  obtain ⟨B, hB⟩ : ∃ B, mayP l = B := ⟨_, rfl⟩
  rw [hB]
  unfold mayP at hB
  refine PCall.of fun N => acall mixed c_bobbinref02_May (by simp) ?_
  by_cases c1 : (256 : Int) < l.length
  · have c1' : ¬ l.length ≤ 256 := by omega
    rw [decide_eq_false c1'] at hB
    obtain rfl : B = false := by rw [← hB]; rfl
    simp [a_bobbinref02_May, declCells_len, c1]
    exact .free rfl
  · have c1' : l.length ≤ 256 := by omega
    rw [decide_eq_true c1', Bool.true_and] at hB
    simp [a_bobbinref02_May, declCells_len, c1]
    refine run_loop (fun m s => ∃ j : Nat, j ≤ l.length ∧ m = l.length - j ∧ s.A 0 = .sl k 6 (declCells l) ∧ s.A 3 = i64 j ∧ (l.take j).all declB = true ∧ s.H = noHeap) l.length ?_ ?_
    · exact ⟨0, by omega, by omega, by simp, by simp, by simp, rfl⟩
    · rintro m A1 H1 N1 ⟨j, hj, rfl, e0, e3, hp, rfl⟩
      simp only at e0 e3 hp
      by_cases hjl : j < l.length
      · have n1 : (j : Int) < l.length := by omega
        obtain ⟨x, hx⟩ : ∃ x, l[j] = x := ⟨_, rfl⟩
        have hxm : x ∈ l := by rw [← hx]; exact List.getElem_mem hjl
        have hxs := declSz_mem hxm
        have hq : aindex 6 (.sl k 6 (declCells l)) (i64 (j : Nat)) = some (.ip x.cells 0) := by rw [← hx]; exact aindex_sl (by omega) (by simpa using declCells_at (List.getElem?_eq_getElem hjl))
        have hla : ∀ X, aload X true 6 (.ip x.cells 0) = some (.agg x.cells) := fun X => rfl
        have hw : IntKind.i64.wrap ((j : Int) + 1) = ((j + 1 : Nat) : Int) := by rw [wrap_i64 (by omega) (by omega)]; rfl
        have hat := all_take (p := declB) hjl hp
        rw [hx] at hat
        simp [a_bobbinref02_Mayb1, e0, e3, declCells_len, n1, hq, hla, -aload]
        refine (p_rdecl x (hok x hxm) (by omega)).acall ?_
        cases hv : declB x with
        | true =>
          simp [e0, e3, hw]
          exact ⟨l.length - (j + 1), by omega, j + 1, by omega, rfl, rfl, by simpa using hat.trans hv⟩
        | false =>
          have : l.all declB = false := List.all_eq_false.2 ⟨x, hxm, by simp [hv]⟩
          rw [this] at hB
          obtain rfl : B = false := by rw [← hB]; rfl
          simp
          exact .free rfl
      · have n1 : ¬ (j : Int) < l.length := by omega
        have hje : j = l.length := by omega
        rw [hje, List.take_length] at hp
        rw [hp, Bool.true_and] at hB
        simp [a_bobbinref02_Mayb1, e0, e3, declCells_len, n1]
        refine (p_rDepth k l hsz).acall ?_
        have : decide ((depP l : Int) ≤ 60) = B := by
          rw [← hB]
          by_cases c : depP l ≤ 60
          · have : (depP l : Int) ≤ 60 := by omega
            simp [c, this]
          · have : ¬ (depP l : Int) ≤ 60 := by omega
            simp [c, this]
        simp [this]
        exact .free rfl
end Go.Proofs.YtebopfpgicamiaaDoor
