/- tree: which programs are the same, by the reference. -/
import Derived.Test.YtebopfpgicamiaaDoorWI
namespace Go.Proofs.YtebopfpgicamiaaDoor
set_option linter.unusedSimpArgs false
set_option linter.unusedVariables false
open Go Go.Fw
theorem p_rSame {ka kb : SK} {la lb : List DeclV} (hsz : declSz la ≤ 100000000) : PCall Tryd.prog 18 [.sl ka 6 (declCells la), .sl kb 6 (declCells lb)] (bl (sameP la lb)) := by
  have hll0 := declSz_len la
  rw [← eqF_sameD]
  obtain ⟨c1', ec1⟩ : ∃ c, (.loop a_bobbinref02_Sameb1 : ACode) = c := ⟨_, rfl⟩
  refine PCall.of fun N => acall mixed c_bobbinref02_Same (by simp) ?_
  by_cases hll : la.length = lb.length
  · have hll' : (la.length : Int) = lb.length := by omega
    simp [a_bobbinref02_Same, declCells_len, hll']
    refine run_loop (fun m s => ∃ j : Nat, j ≤ la.length ∧ m = la.length - j ∧ s.A 0 = .sl ka 6 (declCells la) ∧ s.A 1 = .sl kb 6 (declCells lb) ∧ s.A 5 = i64 j ∧ ((la.zip lb).take j).all (fun x => sameD x.1 x.2) = true) la.length ?_ ?_
    · exact ⟨0, by omega, by omega, by simp, by simp, by simp, by simp⟩
    · rintro m A1 H1 N1 ⟨j, hj, rfl, e0, e1, e5, hp⟩
      simp only at e0 e1 e5 hp
      unfold a_bobbinref02_Sameb2
      rw [ec1]
      by_cases hjl : j < la.length
      · have n1 : (j : Int) < la.length := by omega
        have hjb : j < lb.length := by omega
        obtain ⟨x, hx⟩ : ∃ x, la[j] = x := ⟨_, rfl⟩
        obtain ⟨y, hy⟩ : ∃ y, lb[j] = y := ⟨_, rfl⟩
        have hxs := declSz_mem (List.getElem_mem hjl)
        rw [hx] at hxs
        have hse : x.sz = 1 + x.name.size + strSz x.params + stmtSz x.body := rfl
        have hpl := strSz_len x.params
        have hq : aindex 6 (.sl ka 6 (declCells la)) (i64 (j : Nat)) = some (.ip x.cells 0) := by rw [← hx]; exact aindex_sl (by omega) (by simpa using declCells_at (List.getElem?_eq_getElem hjl))
        have hq2 : aindex 6 (.sl kb 6 (declCells lb)) (i64 (j : Nat)) = some (.ip y.cells 0) := by rw [← hy]; exact aindex_sl (by omega) (by simpa using declCells_at (List.getElem?_eq_getElem hjb))
        have ha : x.cells = [u8 x.kind, str x.name, i64 x.n, .sl x.kp 1 (strCells x.params), .sl x.kb 8 (stmtCells x.body), i64 x.pos] := rfl
        have hb : y.cells = [u8 y.kind, str y.name, i64 y.n, .sl y.kp 1 (strCells y.params), .sl y.kb 8 (stmtCells y.body), i64 y.pos] := rfl
        rw [ha] at hq
        rw [hb] at hq2
        have hw : IntKind.i64.wrap ((j : Int) + 1) = ((j + 1 : Nat) : Int) := by rw [wrap_i64 (by omega) (by omega)]; rfl
        have hB := p_rsSs _ x.body rfl (by omega) y.body x.kb y.kb
        have hv := sameD_eq x y
        have no : sameD x y = false → eqF sameD la lb = false := fun h => eqF_false hjl hjb (by rw [hx, hy]; exact h)
        by_cases c1 : x.kind = y.kind
        · by_cases c2 : x.name = y.name
          · by_cases c3 : x.n = y.n
            · by_cases c4 : x.params.length = y.params.length
              · have c4' : (x.params.length : Int) = y.params.length := by omega
                simp [e0, e1, e5, declCells_len, n1, hq, hq2, c1, c2, c3, strCells_len, c4']
                refine hB.acall ?_
                cases h2 : sameSs x.body y.body with
                | false =>
                  rw [no (by rw [hv, h2]; simp)]
                  simp
                  exact .free rfl
                | true =>
                  simp
                  rw [← ec1]
                  refine run_loop (fun m s => ∃ i : Nat, i ≤ x.params.length ∧ m = x.params.length - i ∧ s.A 0 = .sl ka 6 (declCells la) ∧ s.A 1 = .sl kb 6 (declCells lb) ∧ s.A 5 = i64 j ∧ s.A 6 = i64 i ∧ x.params.take i = y.params.take i) x.params.length ?_ ?_
                  · exact ⟨0, by omega, by omega, by simp [e0], by simp [e1], by simp [e5], by simp, by simp⟩
                  · rintro m A2 H2 N2 ⟨i, hi, rfl, f0, f1, f5, f6, hpp⟩
                    simp only at f0 f1 f5 f6 hpp
                    by_cases hil : i < x.params.length
                    · have m1 : (i : Int) < x.params.length := by omega
                      have hib : i < y.params.length := by omega
                      obtain ⟨u, hu⟩ : ∃ u, x.params[i] = u := ⟨_, rfl⟩
                      obtain ⟨v, hvv⟩ : ∃ v, y.params[i] = v := ⟨_, rfl⟩
                      have hr : aindex 1 (.sl x.kp 1 (strCells x.params)) (i64 (i : Nat)) = some (.ip [str u] 0) := by rw [← hu]; exact aindex_sl (by omega) (by simpa using strCells_get (List.getElem?_eq_getElem hil))
                      have hr2 : aindex 1 (.sl y.kp 1 (strCells y.params)) (i64 (i : Nat)) = some (.ip [str v] 0) := by rw [← hvv]; exact aindex_sl (by omega) (by simpa using strCells_get (List.getElem?_eq_getElem hib))
                      have hwi : IntKind.i64.wrap ((i : Int) + 1) = ((i + 1 : Nat) : Int) := by rw [wrap_i64 (by omega) (by omega)]; rfl
                      by_cases huv : u = v
                      · simp [a_bobbinref02_Sameb1, f0, f1, f5, f6, hq, hq2, strCells_len, m1, hr, hr2, huv, hwi]
                        exact ⟨x.params.length - (i + 1), by omega, i + 1, by omega, rfl, rfl, by rw [take_next hil, take_next hib, hpp, hu, hvv, huv]⟩
                      · have hne : x.params ≠ y.params := fun h => huv (by rw [← hu, ← hvv]; simp only [h])
                        rw [no (by rw [hv]; simp [hne])]
                        simp [a_bobbinref02_Sameb1, f0, f1, f5, f6, hq, hq2, strCells_len, m1, hr, hr2, huv]
                        exact .free rfl
                    · have m1 : ¬ (i : Int) < x.params.length := by omega
                      have hie : i = x.params.length := by omega
                      have hpe : x.params = y.params := by rw [hie, List.take_length, c4, List.take_length] at hpp; exact hpp
                      simp [a_bobbinref02_Sameb1, f0, f1, f5, f6, hq, hq2, strCells_len, m1, hw]
                      refine ⟨la.length - (j + 1), by omega, j + 1, by omega, rfl, rfl, ?_⟩
                      simpa using eqF_next hjl hjb hp (by rw [hx, hy, hv]; simp [c1, c2, c3, hpe, h2])
              · have c4' : ¬ (x.params.length : Int) = y.params.length := by omega
                have hne : x.params ≠ y.params := fun h => c4 (by rw [h])
                rw [no (by rw [hv]; simp [hne])]
                simp [e0, e1, e5, declCells_len, n1, hq, hq2, c1, c2, c3, strCells_len, c4']
                exact .free rfl
            · rw [no (by rw [hv]; simp [c3])]
              simp [e0, e1, e5, declCells_len, n1, hq, hq2, c1, c2, c3]
              exact .free rfl
          · rw [no (by rw [hv]; simp [c2])]
            simp [e0, e1, e5, declCells_len, n1, hq, hq2, c1, c2]
            exact .free rfl
        · rw [no (by rw [hv]; simp [c1])]
          simp [e0, e1, e5, declCells_len, n1, hq, hq2, c1]
          exact .free rfl
      · have n1 : ¬ (j : Int) < la.length := by omega
        have hje : j = la.length := by omega
        rw [hje] at hp
        rw [eqF_true hll hp]
        simp [e0, e5, declCells_len, n1]
        exact .free rfl
  · have hll' : ¬ (la.length : Int) = lb.length := by omega
    rw [eqF_len hll]
    simp [a_bobbinref02_Same, declCells_len, hll']
    exact .free rfl
end Go.Proofs.YtebopfpgicamiaaDoor
