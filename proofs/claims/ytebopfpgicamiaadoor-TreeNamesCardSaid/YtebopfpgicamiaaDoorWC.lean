/- tree: which statements and programs may be, by the reference. -/
import Derived.Test.YtebopfpgicamiaaDoorWB
namespace Go.Proofs.YtebopfpgicamiaaDoor
set_option linter.unusedSimpArgs false
set_option linter.unusedVariables false
open Go Go.Fw
theorem p_rstmts {k : SK} {l : List StmtV} (hl : l.length ≤ 1000000000) {p : StmtV → Bool} (hg : ∀ e ∈ l, PCall Tryd.prog 77 [.agg e.cells] (bl (p e))) : PCall Tryd.prog 55 [.sl k 8 (stmtCells l)] (bl (l.all p)) := by
  refine PCall.of fun N => acall mixed c_bobbinref02_stmts (by simp) ?_
  simp [a_bobbinref02_stmts]
  refine run_loop (fun m s => ∃ j : Nat, j ≤ l.length ∧ m = l.length - j ∧ s.A 0 = .sl k 8 (stmtCells l) ∧ s.A 3 = i64 j ∧ (l.take j).all p = true) l.length ?_ ?_
  · exact ⟨0, by omega, by omega, by simp, by simp, by simp⟩
  · rintro m A1 H1 N1 ⟨j, hj, rfl, e0, e3, hp⟩
    simp only at e0 e3 hp
    by_cases hjl : j < l.length
    · have n1 : (j : Int) < l.length := by omega
      have hq : aindex 8 (.sl k 8 (stmtCells l)) (i64 (j : Nat)) = some (.ip l[j].cells 0) := aindex_sl (by omega) (by simpa using stmtCells_at (List.getElem?_eq_getElem hjl))
      have hla : ∀ X, aload X true 8 (.ip l[j].cells 0) = some (.agg l[j].cells) := fun X => by rw [l[j].cells_eq]; rfl
      have hw : IntKind.i64.wrap ((j : Int) + 1) = ((j + 1 : Nat) : Int) := by rw [wrap_i64 (by omega) (by omega)]; rfl
      have hat := all_take (p := p) hjl hp
      simp [a_bobbinref02_stmtsb1, e0, e3, stmtCells_len, n1, hq, hla, -aload]
      refine (hg l[j] (List.getElem_mem hjl)).acall ?_
      cases hv : p l[j] with
      | true =>
        simp [e0, e3, hw]
        exact ⟨l.length - (j + 1), by omega, j + 1, by omega, rfl, rfl, by simpa using hat.trans hv⟩
      | false =>
        have : l.all p = false := List.all_eq_false.2 ⟨l[j], List.getElem_mem hjl, by simp [hv]⟩
        rw [this]
        simp
        exact .free rfl
    · have n1 : ¬ (j : Int) < l.length := by omega
      have hje : j = l.length := by omega
      subst hje
      rw [List.take_length] at hp
      rw [hp]
      simp [a_bobbinref02_stmtsb1, e0, e3, stmtCells_len]
      exact .free rfl
section
variable {A : Nat → AV} {H : AHeap} {N : Nat} {fs : List Fr} {Q : Post} {s : StmtV}
theorem rst_name {c : ACode} (hc : a_rst_name = c) {nm : Bool} (h1 : A 1 = .ip s.cells 0) (h4 : A 4 = bl nm)
    (hk : ∀ A', (∀ t ∈ [1, 3, 5, 6], A' t = A t) → A' 79 = bl (!someB s.name nm) → onward Tryd.prog fs Q .normal ⟨A', H, N⟩) : run Tryd.prog c fs Q ⟨A, H, N⟩ := by
  subst hc
  rw [s.cells_eq] at h1
  cases nm with
  | true =>
    simp [a_rst_name, h1, h4]
    refine (p_refName s.name).acall ?_
    cases hn : nameB s.name with
    | true => simp [h4]; exact hk _ (by simp [h1]) (by simp [someB, hn])
    | false => simp; exact hk _ (by simp [h1]) (by simp [someB, hn])
  | false =>
    by_cases hn : s.name = ⟨#[]⟩
    · simp [a_rst_name, h1, h4, hn]; exact hk _ (by simp [h1]) (by simp [someB, noStr, hn])
    · simp [a_rst_name, h1, h4, hn]; exact hk _ (by simp [h1]) (by simp [someB, noStr, hn])
/-- The last question. -/
def eB (s : StmtV) (ne : Int) (body els : Bool) : Bool := decide ((s.e.length : Int) = ne) && ((body || decide (s.body.length = 0)) && ((els || decide (s.els.length = 0)) && (mayEs s.e && (maySs s.body && maySs s.els))))
theorem rst_e {c : ACode} (hc : a_rst_e = c) {ne : Int} {body els : Bool} (h1 : A 1 = .ip s.cells 0) (h3 : A 3 = i64 ne) (h5 : A 5 = bl body) (h6 : A 6 = bl els)
    (hE : PCall Tryd.prog 43 [.sl s.ke 5 (exprCells s.e)] (bl (mayEs s.e)))
    (hBo : PCall Tryd.prog 55 [.sl s.kb 8 (stmtCells s.body)] (bl (maySs s.body)))
    (hL : PCall Tryd.prog 55 [.sl s.kl 8 (stmtCells s.els)] (bl (maySs s.els)))
    (hk : ∀ A', A' 2 = bl (eB s ne body els) → onward Tryd.prog fs Q .ret ⟨A', H, N⟩) : run Tryd.prog c fs Q ⟨A, H, N⟩ := by
  subst hc
  rw [s.cells_eq] at h1
  obtain ⟨B, hB⟩ : ∃ B, eB s ne body els = B := ⟨_, rfl⟩
  rw [hB] at hk
  unfold eB at hB
  obtain ⟨o1, e1⟩ : ∃ o, o_rst1 = o := ⟨_, rfl⟩
  have tl : ∀ (A2 : Nat → AV) (X : Bool), A2 1 = A 1 → A2 103 = bl X → (X && (mayEs s.e && (maySs s.body && maySs s.els))) = B → runOps Tryd.prog o1 (.seq .ret :: fs) Q ⟨A2, H, N⟩ := fun A2 X g1 g103 hB2 => by
    subst e1
    rw [h1] at g1
    cases X with
    | false =>
      obtain rfl : B = false := by rw [← hB2]; rfl
      simp [o_rst1, g1, g103]
      exact hk _ (by simp)
    | true =>
      simp only [Bool.true_and] at hB2
      simp [o_rst1, g1, g103]
      refine hE.acall ?_
      cases hx1 : mayEs s.e with
      | false =>
        rw [hx1] at hB2
        obtain rfl : B = false := by rw [← hB2]; rfl
        simp [g103]
        exact hk _ (by simp)
      | true =>
        rw [hx1] at hB2
        simp only [Bool.true_and] at hB2
        simp [g1, g103]
        refine hBo.acall ?_
        cases hx2 : maySs s.body with
        | false =>
          rw [hx2] at hB2
          obtain rfl : B = false := by rw [← hB2]; rfl
          simp [g103]
          exact hk _ (by simp)
        | true =>
          rw [hx2] at hB2
          simp only [Bool.true_and] at hB2
          simp [g1, g103]
          refine hL.acall ?_
          simp [g103]
          exact hk _ (by simp [hB2])
  have hB3 : ((decide ((s.e.length : Int) = ne) && ((body || decide (s.body.length = 0)) && (els || decide (s.els.length = 0)))) && (mayEs s.e && (maySs s.body && maySs s.els))) = B := by
    rw [← hB]; simp only [Bool.and_assoc]
  unfold a_rst_e
  rw [e1]
  simp only [run_seq, run_ops, run_append]
  clear hB
  by_cases c1 : (s.e.length : Int) = ne <;> cases body <;> cases els <;> by_cases b0 : s.body = [] <;> by_cases l0 : s.els = [] <;> simp [c1, b0, l0] at hB3 <;>
    simp [o_rst0, h1, h3, h5, h6, exprCells_len, stmtCells_len, c1, b0, l0]
  all_goals first
    | exact tl _ true (by simp [h1]) (by simp) (by simpa [b0, l0] using hB3)
    | exact tl _ false (by simp [h1]) (by simp) (by simpa using hB3)

theorem rst_rest {c : ACode} (hc : a_rst_rest = c) {ne : Int} {nm body els B : Bool} (h1 : A 1 = .ip s.cells 0) (h3 : A 3 = i64 ne) (h4 : A 4 = bl nm) (h5 : A 5 = bl body) (h6 : A 6 = bl els)
    (hE : PCall Tryd.prog 43 [.sl s.ke 5 (exprCells s.e)] (bl (mayEs s.e)))
    (hBo : PCall Tryd.prog 55 [.sl s.kb 8 (stmtCells s.body)] (bl (maySs s.body)))
    (hL : PCall Tryd.prog 55 [.sl s.kl 8 (stmtCells s.els)] (bl (maySs s.els)))
    (hB : B = ((decide (s.kind = 8) || (decide (s.to = noStr) && !s.new)) && (someB s.name nm && eB s ne body els)))
    (hk : ∀ A', A' 2 = bl B → onward Tryd.prog fs Q .ret ⟨A', H, N⟩) : run Tryd.prog c fs Q ⟨A, H, N⟩ := by
  subst hc
  obtain ⟨cn, en⟩ : ∃ c, a_rst_name = c := ⟨_, rfl⟩
  obtain ⟨ce, ee⟩ : ∃ c, a_rst_e = c := ⟨_, rfl⟩
  have hce := s.cells_eq
  have tail : ∀ A2 : Nat → AV, (∀ t ∈ [1, 3, 4, 5, 6], A2 t = A t) → B = (someB s.name nm && eB s ne body els) → run Tryd.prog cn (.seq (.cond (.tmp 79) (.seq (.ops [⟨some 2, .val (.val (.lit (.bool false))), none⟩]) .ret) .skip) :: .seq ce :: fs) Q ⟨A2, H, N⟩ := fun A2 hA hB2 => by
    refine rst_name (s := s) en ((hA 1 (by simp)).trans h1) ((hA 4 (by simp)).trans h4) fun A3 f f79 => ?_
    cases hs : someB s.name nm with
    | false =>
      rw [hs] at f79 hB2
      simp [f79]
      exact hk _ (by simp [hB2])
    | true =>
      rw [hs] at f79 hB2
      simp [f79]
      refine rst_e (s := s) (ne := ne) (body := body) (els := els) ee (by simp [f, hA, h1]) (by simp [f, hA, h3]) (by simp [f, hA, h5]) (by simp [f, hA, h6]) hE hBo hL fun A4 g2 => hk A4 (by rw [g2, hB2]; rfl)
  rw [hce] at h1
  unfold a_rst_rest
  rw [en, ee]
  by_cases k8 : s.kind = 8
  · simp [h1, k8]
    refine tail _ (by simp [h1]) ?_
    rw [hB]; simp [k8]
  · by_cases t0 : s.to = ⟨#[]⟩
    · cases hn : s.new with
      | true =>
        simp [h1, k8, t0, hn]
        exact hk _ (by simp [hB, k8, t0, hn, noStr])
      | false =>
        simp [h1, k8, t0, hn]
        refine tail _ (by simp [h1]) ?_
        rw [hB]; simp [k8, t0, hn, noStr]
    · simp [h1, k8, t0]
      exact hk _ (by simp [hB, k8, t0, noStr])
end
theorem mayS_row {s : StmtV} {nm body els : Bool} {ne : Int} (hk : 1 ≤ s.kind ∧ s.kind < 10) (h8 : s.kind ≠ 8) (hr : sRow s.kind = ⟨nm, ne, body, els⟩) (h0 : 0 ≤ ne) (h1 : ne ≤ 8) :
    mayS s = ((decide (s.kind = 8) || (decide (s.to = noStr) && !s.new)) && (someB s.name nm && eB s ne body els)) := by
  rw [mayS_eq, headS_eq, hr, decide_eq_true hk, decide_eq_false h8]
  have e17 : b17 s ⟨nm, ne, body, els⟩ = (decide ((s.e.length : Int) = ne) && someB s.name nm) := by
    unfold b17
    congr 1
    by_cases c : (s.e.length : Int) = ne
    · rw [decide_eq_true c]; exact decide_eq_true ⟨fun h => h.2 c, by omega⟩
    · rw [decide_eq_false c]; exact decide_eq_false fun h => h.1 ⟨h0, c⟩
  have e43 : b43 s = (decide (s.to = noStr) && !s.new) := by
    unfold b43
    by_cases c : s.to = noStr
    · simp [c]
    · simp [c, h8]
  rw [e17, e43]
  unfold b67 eB
  simp only [Bool.true_and, Bool.false_or]
  ac_rfl
theorem p_rstmt (s : StmtV) : s.Ok → s.sz ≤ 100000000 → PCall Tryd.prog 77 [.agg s.cells] (bl (mayS s)) := by
  induction s using StmtV.ind with
  | h s ih1 ih2 =>
    intro hok hsz
    obtain ⟨⟨k0, k1⟩, hoe, hob, hol⟩ := hok.eq
    have hsz' := hsz
    rw [s.sz_eq] at hsz'
    have hE : PCall Tryd.prog 43 [.sl s.ke 5 (exprCells s.e)] (bl (mayEs s.e)) := by
      rw [mayEs_all]
      exact p_rexprs (by have := exprSz_len s.e; omega) fun x hx => p_rMayExpr x (hoe x hx) (by have := exprSz_mem hx; omega)
    have hBo : PCall Tryd.prog 55 [.sl s.kb 8 (stmtCells s.body)] (bl (maySs s.body)) := by
      rw [maySs_all]
      exact p_rstmts (by have := stmtSz_len s.body; omega) fun x hx => ih1 x hx (hob x hx) (by have := stmtSz_mem hx; omega)
    have hL : PCall Tryd.prog 55 [.sl s.kl 8 (stmtCells s.els)] (bl (maySs s.els)) := by
      rw [maySs_all]
      exact p_rstmts (by have := stmtSz_len s.els; omega) fun x hx => ih2 x hx (hol x hx) (by have := stmtSz_mem hx; omega)
    have hce := s.cells_eq
    obtain ⟨B, hB⟩ : ∃ B, mayS s = B := ⟨_, rfl⟩
    rw [hB]
    obtain ⟨cr, er⟩ : ∃ c, a_rst_rest = c := ⟨_, rfl⟩
    refine PCall.of fun N => acall mixed c_bobbinref02_stmt (by simp) ?_
    unfold a_bobbinref02_stmt
    rw [er, hce]
    by_cases q1 : s.kind = 1
    · simp [q1]
      refine rst_rest (s := s) er (ne := 1) (nm := true) (body := false) (els := false) (B := B) (by simp [hce, q1]) (by simp) (by simp) (by simp) (by simp) hE hBo hL (by rw [← hB]; exact mayS_row (by omega) (by omega) (by rw [q1]; rfl) (by omega) (by omega)) fun A' h2 => by simp [h2]; exact .free rfl
    by_cases q2 : s.kind = 2
    · simp [q2]
      refine rst_rest (s := s) er (ne := 1) (nm := true) (body := false) (els := false) (B := B) (by simp [hce, q2]) (by simp) (by simp) (by simp) (by simp) hE hBo hL (by rw [← hB]; exact mayS_row (by omega) (by omega) (by rw [q2]; rfl) (by omega) (by omega)) fun A' h2 => by simp [h2]; exact .free rfl
    by_cases q3 : s.kind = 3
    · simp [q3]
      refine rst_rest (s := s) er (ne := 2) (nm := true) (body := false) (els := false) (B := B) (by simp [hce, q3]) (by simp) (by simp) (by simp) (by simp) hE hBo hL (by rw [← hB]; exact mayS_row (by omega) (by omega) (by rw [q3]; rfl) (by omega) (by omega)) fun A' h2 => by simp [h2]; exact .free rfl
    by_cases q4 : s.kind = 4
    · simp [q4]
      refine rst_rest (s := s) er (ne := 1) (nm := false) (body := true) (els := true) (B := B) (by simp [hce, q4]) (by simp) (by simp) (by simp) (by simp) hE hBo hL (by rw [← hB]; exact mayS_row (by omega) (by omega) (by rw [q4]; rfl) (by omega) (by omega)) fun A' h2 => by simp [h2]; exact .free rfl
    by_cases q5 : s.kind = 5
    · simp [q5]
      refine rst_rest (s := s) er (ne := 1) (nm := false) (body := true) (els := false) (B := B) (by simp [hce, q5]) (by simp) (by simp) (by simp) (by simp) hE hBo hL (by rw [← hB]; exact mayS_row (by omega) (by omega) (by rw [q5]; rfl) (by omega) (by omega)) fun A' h2 => by simp [h2]; exact .free rfl
    by_cases q6 : s.kind = 6
    · simp [q6]
      refine rst_rest (s := s) er (ne := 0) (nm := true) (body := true) (els := false) (B := B) (by simp [hce, q6]) (by simp) (by simp) (by simp) (by simp) hE hBo hL (by rw [← hB]; exact mayS_row (by omega) (by omega) (by rw [q6]; rfl) (by omega) (by omega)) fun A' h2 => by simp [h2]; exact .free rfl
    by_cases q7 : s.kind = 7
    · simp [q7]
      refine rst_rest (s := s) er (ne := 1) (nm := false) (body := false) (els := false) (B := B) (by simp [hce, q7]) (by simp) (by simp) (by simp) (by simp) hE hBo hL (by rw [← hB]; exact mayS_row (by omega) (by omega) (by rw [q7]; rfl) (by omega) (by omega)) fun A' h2 => by simp [h2]; exact .free rfl
    by_cases q9 : s.kind = 9
    · simp [q9]
      refine rst_rest (s := s) er (ne := 1) (nm := false) (body := false) (els := false) (B := B) (by simp [hce, q9]) (by simp) (by simp) (by simp) (by simp) hE hBo hL (by rw [← hB]; exact mayS_row (by omega) (by omega) (by rw [q9]; rfl) (by omega) (by omega)) fun A' h2 => by simp [h2]; exact .free rfl
    by_cases q8 : s.kind = 8
    · have hB8 : B = (decide (s.e.length ≤ 8) && (b43 s && (someB s.name true && eB s s.e.length false false))) := by
        rw [← hB, mayS_eq, headS_eq, q8, show sRow 8 = ⟨true, -1, false, false⟩ from rfl]
        have e17 : b17 s ⟨true, -1, false, false⟩ = (decide (s.e.length ≤ 8) && someB s.name true) := by
          unfold b17
          simp
        rw [e17]
        unfold b67 eB
        simp only [decide_true, Bool.true_and]
        ac_rfl
      by_cases c8 : (8 : Int) < s.e.length
      · have : ¬ s.e.length ≤ 8 := by omega
        rw [decide_eq_false this] at hB8
        obtain rfl : B = false := by rw [hB8]; rfl
        simp [q8, exprCells_len, c8]
        exact .free rfl
      · have : s.e.length ≤ 8 := by omega
        rw [decide_eq_true this, Bool.true_and] at hB8
        have rest : b43 s = true → ∀ A2 : Nat → AV, A2 1 = .ip s.cells 0 → A2 3 = i64 s.e.length → A2 4 = bl true → A2 5 = bl false → A2 6 = bl false → run Tryd.prog cr [] (fin [.tmp 2] fun r' H' x => View H' r' (bl B)) ⟨A2, noHeap, N⟩ := fun h43 A2 g1 g3 g4 g5 g6 =>
          rst_rest (s := s) er (ne := s.e.length) (nm := true) (body := false) (els := false) (B := B) g1 g3 g4 g5 g6 hE hBo hL (by rw [hB8, h43, decide_eq_true q8]; rfl) fun A' h2 => by simp [h2]; exact .free rfl
        by_cases t0 : s.to = ⟨#[]⟩
        · have h43 : b43 s = !s.new := by simp [b43, noStr, t0]
          cases hn : s.new with
          | true =>
            rw [h43, hn] at hB8
            obtain rfl : B = false := by rw [hB8]; rfl
            simp [q8, exprCells_len, c8, t0, hn]
            exact .free rfl
          | false =>
            simp [q8, exprCells_len, c8, t0, hn]
            exact rest (by rw [h43, hn]; rfl) _ (by simp [hce, q8, t0, hn]) (by simp) (by simp) (by simp) (by simp)
        · have h43 : b43 s = nameB s.to := by simp [b43, noStr, t0, q8]
          simp [q8, exprCells_len, c8, t0]
          refine (p_refName s.to).acall ?_
          cases hn : nameB s.to with
          | true =>
            simp [exprCells_len]
            exact rest (by rw [h43, hn]) _ (by simp [hce, q8]) (by simp) (by simp) (by simp) (by simp)
          | false =>
            rw [h43, hn] at hB8
            obtain rfl : B = false := by rw [hB8]; rfl
            simp
            exact .free rfl
    · have : decide (1 ≤ s.kind ∧ s.kind < 10) = false := decide_eq_false (by omega)
      rw [mayS_eq, headS_eq, this] at hB
      obtain rfl : B = false := by rw [← hB]; rfl
      simp [q1, q2, q3, q4, q5, q6, q7, q8, q9]
      exact .free rfl
end Go.Proofs.YtebopfpgicamiaaDoor
