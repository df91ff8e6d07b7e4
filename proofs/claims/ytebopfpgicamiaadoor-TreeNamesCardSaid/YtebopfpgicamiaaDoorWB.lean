/- tree: which expressions may be, by the reference. -/
import Derived.Test.YtebopfpgicamiaaDoorWA
namespace Go.Proofs.YtebopfpgicamiaaDoor
set_option linter.unusedSimpArgs false
set_option linter.unusedVariables false
open Go Go.Fw
theorem all_take {α : Type} {l : List α} {p : α → Bool} {i : Nat} (hi : i < l.length) (h : (l.take i).all p = true) : (l.take (i + 1)).all p = p l[i] := by
  rw [take_next hi, List.all_append, h]; simp
theorem p_rexprs {k : SK} {l : List ExprV} (hl : l.length ≤ 1000000000) {p : ExprV → Bool} (hg : ∀ e ∈ l, PCall Tryd.prog 20 [.agg e.cells] (bl (p e))) : PCall Tryd.prog 43 [.sl k 5 (exprCells l)] (bl (l.all p)) := by
  refine PCall.of fun N => acall mixed c_bobbinref02_exprs (by simp) ?_
  simp [a_bobbinref02_exprs]
  refine run_loop (fun m s => ∃ j : Nat, j ≤ l.length ∧ m = l.length - j ∧ s.A 0 = .sl k 5 (exprCells l) ∧ s.A 3 = i64 j ∧ (l.take j).all p = true) l.length ?_ ?_
  · exact ⟨0, by omega, by omega, by simp, by simp, by simp⟩
  · rintro m A1 H1 N1 ⟨j, hj, rfl, e0, e3, hp⟩
    simp only at e0 e3 hp
    by_cases hjl : j < l.length
    · have n1 : (j : Int) < l.length := by omega
      have hq : aindex 5 (.sl k 5 (exprCells l)) (i64 (j : Nat)) = some (.ip l[j].cells 0) := aindex_sl (by omega) (by simpa using exprCells_at (List.getElem?_eq_getElem hjl))
      have hla : ∀ X, aload X true 5 (.ip l[j].cells 0) = some (.agg l[j].cells) := fun X => by rw [l[j].cells_eq]; rfl
      have hw : IntKind.i64.wrap ((j : Int) + 1) = ((j + 1 : Nat) : Int) := by rw [wrap_i64 (by omega) (by omega)]; rfl
      have hat := all_take (p := p) hjl hp
      simp [a_bobbinref02_exprsb1, e0, e3, exprCells_len, n1, hq, hla, -aload]
      refine (hg l[j] (List.getElem_mem hjl)).acall ?_
      cases hv : p l[j] with
      | true =>
        simp [e0, e3, hw]
        exact ⟨l.length - (j + 1), by omega, j + 1, by omega, rfl, rfl, by simpa using hat.trans hv⟩
      | false =>
        have : l.all p = false := List.all_eq_false.2 ⟨l[j], List.getElem_mem hjl, by simp [hv]⟩
        rw [this]
        simp
        exact .free rfl
    · have n1 : ¬ (j : Int) < l.length := by omega
      have hje : j = l.length := by omega
      subst hje
      rw [List.take_length] at hp
      rw [hp]
      simp [a_bobbinref02_exprsb1, e0, e3, exprCells_len]
      exact .free rfl
section
variable {A : Nat → AV} {H : AHeap} {N : Nat} {fs : List Fr} {Q : Post} {e : ExprV}
theorem rme_name {c : ACode} (hc : a_rme_name = c) {nm : Bool} (h1 : A 1 = .ip e.cells 0) (h4 : A 4 = bl nm)
    (hk : ∀ A', A' 1 = A 1 → A' 85 = bl (!someB e.name nm) → onward Tryd.prog fs Q .normal ⟨A', H, N⟩) : run Tryd.prog c fs Q ⟨A, H, N⟩ := by
  subst hc
  rw [e.cells_eq] at h1
  cases nm with
  | true =>
    simp [a_rme_name, h1, h4]
    refine (p_refName e.name).acall ?_
    cases hn : nameB e.name with
    | true => simp [h4]; exact hk _ (by simp [h1]) (by simp [someB, hn])
    | false => simp; exact hk _ (by simp [h1]) (by simp [someB, hn])
  | false =>
    by_cases hn : e.name = ⟨#[]⟩
    · simp [a_rme_name, h1, h4, hn]; exact hk _ (by simp [h1]) (by simp [someB, noStr, hn])
    · simp [a_rme_name, h1, h4, hn]; exact hk _ (by simp [h1]) (by simp [someB, noStr, hn])
theorem rme_rest {c : ACode} (hc : a_rme_rest = c) {nm B : Bool} {na : Int} (h1 : A 1 = .ip e.cells 0) (h3 : A 3 = i64 na) (h4 : A 4 = bl nm)
    (hall : PCall Tryd.prog 43 [.sl e.k 5 (exprCells e.args)] (bl (mayEs e.args)))
    (hB : B = (decide ((e.args.length : Int) = na) && ((decide (e.kind = 1 ∨ e.kind = 2) || decide (e.n = 0)) && (someB e.name nm && mayEs e.args))))
    (hk : ∀ A', A' 2 = bl B → onward Tryd.prog fs Q .ret ⟨A', H, N⟩) : run Tryd.prog c fs Q ⟨A, H, N⟩ := by
  subst hc
  obtain ⟨cn, en⟩ : ∃ c, a_rme_name = c := ⟨_, rfl⟩
  have hce := e.cells_eq
  rw [hce] at h1
  have tail : (decide ((e.args.length : Int) = na) && (decide (e.kind = 1 ∨ e.kind = 2) || decide (e.n = 0))) = true → ∀ A2 : Nat → AV, A2 1 = .ip e.cells 0 → A2 4 = bl nm → run Tryd.prog cn (.seq (.cond (.tmp 85) (.seq (.ops [⟨some 2, .val (.val (.lit (.bool false))), none⟩]) .ret) .skip) :: .seq (.seq (.ops [⟨some 86, .fieldAddr 3 (.tmp 1), none⟩, ⟨some 87, .iload false 1 (.tmp 86), none⟩, ⟨some 88, .call (.val (.fn (.func 43) [] [])) [(.tmp 87)], none⟩, ⟨some 2, .val (.tmp 88), none⟩]) .ret) :: fs) Q ⟨A2, H, N⟩ := fun hcond A2 g1 g4 => by
    refine rme_name (e := e) en g1 g4 fun A3 f1 f85 => ?_
    have f1' : A3 1 = .ip e.cells 0 := f1.trans g1
    rw [hce] at f1'
    have hB' : B = (someB e.name nm && mayEs e.args) := by
      rw [hB]
      simp only [Bool.and_eq_true] at hcond
      rw [hcond.1, hcond.2]; rfl
    cases hs : someB e.name nm with
    | false =>
      rw [hs] at f85 hB'
      simp [f85]
      exact hk _ (by simp [hB'])
    | true =>
      rw [hs] at f85 hB'
      simp [f85, f1']
      refine hall.acall ?_
      simp
      exact hk _ (by simp [hB'])
  unfold a_rme_rest
  rw [en]
  by_cases c1 : (e.args.length : Int) = na
  · by_cases k1 : e.kind = 1
    · simp [h1, h3, h4, exprCells_len, c1, k1]
      exact tail (by simp [c1, k1]) _ (by simp [h1, hce]) (by simp [h4])
    · by_cases k2 : e.kind = 2
      · simp [h1, h3, h4, exprCells_len, c1, k1, k2]
        exact tail (by simp [c1, k2]) _ (by simp [h1, hce]) (by simp [h4])
      · by_cases n0 : e.n = 0
        · simp [h1, h3, h4, exprCells_len, c1, k1, k2, n0]
          exact tail (by simp [c1, n0]) _ (by simp [h1, hce]) (by simp [h4])
        · simp [h1, h3, h4, exprCells_len, c1, k1, k2, n0]
          exact hk _ (by simp [hB, k1, k2, n0])
  · simp [h1, h3, h4, exprCells_len, c1]
    exact hk _ (by simp [hB, c1])
end
theorem p_rMayExpr (e : ExprV) : e.Ok → e.sz ≤ 100000000 → PCall Tryd.prog 20 [.agg e.cells] (bl (mayE e)) := by
  induction e using ExprV.ind with
  | h e ih =>
    intro hok hsz
    obtain ⟨⟨k0, k1⟩, ⟨n0, n1⟩, hak⟩ := hok.eq
    have hsz' := hsz
    rw [e.sz_eq] at hsz'
    have hall : PCall Tryd.prog 43 [.sl e.k 5 (exprCells e.args)] (bl (mayEs e.args)) := by
      rw [mayEs_all]
      exact p_rexprs (by have := exprSz_len e.args; omega) fun x hx => ih x hx (hak x hx) (by have := exprSz_mem hx; omega)
    have hce := e.cells_eq
    obtain ⟨B, hB⟩ : ∃ B, mayE e = B := ⟨_, rfl⟩
    rw [hB]
    rw [mayE_eq] at hB
    obtain ⟨cr, er⟩ : ∃ c, a_rme_rest = c := ⟨_, rfl⟩
    refine PCall.of fun N => acall mixed c_bobbinref02_MayExpr (by simp) ?_
    unfold a_bobbinref02_MayExpr
    rw [er, hce]
    by_cases q1 : e.kind = 1
    · rw [q1, show eRow 1 = ⟨0, false, 9223372036854775807⟩ from rfl] at hB
      by_cases c : e.n < 0
      · have : B = false := by rw [← hB]; have : ¬ 0 ≤ e.n := by omega
                               simp [this]
        simp [q1, c, this]
        exact .free rfl
      · simp [q1, c]
        rw [← q1]
        refine rme_rest (e := e) er (nm := false) (na := 0) (B := B) (by simp [hce]) (by simp) (by simp) hall ?_ fun A' h2 => by simp [h2]; exact .free rfl
        have h0 : decide (0 ≤ e.n ∧ e.n ≤ 9223372036854775807) = true := decide_eq_true ⟨by omega, by omega⟩
        rw [← hB, h0]; simp [q1]
    by_cases q2 : e.kind = 2
    · rw [q2, show eRow 2 = ⟨0, false, 1⟩ from rfl] at hB
      by_cases c : e.n = 0
      · simp [q2, c]
        rw [← q2, ← c]
        refine rme_rest (e := e) er (nm := false) (na := 0) (B := B) (by simp [hce, c]) (by simp [c]) (by simp) hall ?_ fun A' h2 => by simp [h2]; exact .free rfl
        rw [← hB, c]; simp [q2]
      · by_cases c2 : e.n = 1
        · simp [q2, c2]
          rw [← q2, ← c2]
          refine rme_rest (e := e) er (nm := false) (na := 0) (B := B) (by simp [hce, c2]) (by simp) (by simp) hall ?_ fun A' h2 => by simp [h2]; exact .free rfl
          rw [← hB, c2]; simp [q2]
        · have h0 : decide (0 ≤ e.n ∧ e.n ≤ 1) = false := decide_eq_false (by omega)
          have : B = false := by rw [← hB, h0]; simp
          simp [q2, c, c2, this]
          exact .free rfl
    have hn0 : ∀ r : EShape, r.most = 0 → decide (0 ≤ e.n ∧ e.n ≤ r.most) = decide (e.n = 0) := fun r hr => by
      rw [hr]
      by_cases c : e.n = 0
      · simp [c]
      · rw [decide_eq_false c]; exact decide_eq_false (by omega)
    by_cases q3 : e.kind = 3
    · rw [q3, show eRow 3 = ⟨0, true, 0⟩ from rfl, hn0 _ rfl] at hB
      simp [q3]
      rw [← q3]
      refine rme_rest (e := e) er (nm := true) (na := 0) (B := B) (by simp [hce]) (by simp) (by simp) hall ?_ fun A' h2 => by simp [h2]; exact .free rfl
      rw [← hB]; simp [q3]
    by_cases q4 : e.kind = 4
    · rw [q4, show eRow 4 = ⟨1, true, 0⟩ from rfl, hn0 _ rfl] at hB
      simp [q4]
      rw [← q4]
      refine rme_rest (e := e) er (nm := true) (na := 1) (B := B) (by simp [hce]) (by simp) (by simp) hall ?_ fun A' h2 => by simp [h2]; exact .free rfl
      rw [← hB]; simp [q4]
    by_cases q5 : e.kind = 5
    · rw [q5, show eRow 5 = ⟨1, false, 0⟩ from rfl, hn0 _ rfl] at hB
      simp [q5]
      rw [← q5]
      refine rme_rest (e := e) er (nm := false) (na := 1) (B := B) (by simp [hce]) (by simp) (by simp) hall ?_ fun A' h2 => by simp [h2]; exact .free rfl
      rw [← hB]; simp [q5]
    by_cases q6 : e.kind = 6
    · rw [q6, show eRow 6 = ⟨1, false, 0⟩ from rfl, hn0 _ rfl] at hB
      simp [q6]
      rw [← q6]
      refine rme_rest (e := e) er (nm := false) (na := 1) (B := B) (by simp [hce]) (by simp) (by simp) hall ?_ fun A' h2 => by simp [h2]; exact .free rfl
      rw [← hB]; simp [q6]
    by_cases q7 : 7 ≤ e.kind ∧ e.kind ≤ 17
    · have hr : eRow e.kind = ⟨2, false, 0⟩ := by
        obtain ⟨kn, hkn⟩ : ∃ kn : Nat, e.kind = (kn : Int) := ⟨e.kind.toNat, by omega⟩
        rw [hkn]
        have : kn = 7 ∨ kn = 8 ∨ kn = 9 ∨ kn = 10 ∨ kn = 11 ∨ kn = 12 ∨ kn = 13 ∨ kn = 14 ∨ kn = 15 ∨ kn = 16 ∨ kn = 17 := by omega
        rcases this with rfl | rfl | rfl | rfl | rfl | rfl | rfl | rfl | rfl | rfl | rfl <;> rfl
      rw [hr, hn0 _ rfl] at hB
      have hk1 : decide (1 ≤ e.kind ∧ e.kind < 18) = true := decide_eq_true ⟨by omega, by omega⟩
      rw [hk1] at hB
      simp [q1, q2, q3, q4, q5, q6, q7]
      refine rme_rest (e := e) er (nm := false) (na := 2) (B := B) (by simp [hce]) (by simp) (by simp) hall ?_ fun A' h2 => by simp [h2]; exact .free rfl
      rw [← hB]; simp [q1, q2]
    · have hk1 : decide (1 ≤ e.kind ∧ e.kind < 18) = false := decide_eq_false (by omega)
      rw [hk1] at hB
      obtain rfl : B = false := by rw [← hB]; rfl
      by_cases q8 : 7 ≤ e.kind
      · have q9 : ¬ e.kind ≤ 17 := by omega
        simp [q1, q2, q3, q4, q5, q6, q8, q9]
        exact .free rfl
      · simp [q1, q2, q3, q4, q5, q6, q8]
        exact .free rfl
end Go.Proofs.YtebopfpgicamiaaDoor
