/- front: is, works. -/
import Derived.Test.YtmbbklddjkmcmaaE9
namespace Go.Proofs.Ytmbbklddjkmcmaa
set_option linter.unusedSimpArgs false
set_option linter.unusedVariables false
open Go Go.Fw Go.Dm

theorem rows_frV (x : GraphV) (hn : x.g.length ≤ 100) : Rows (frV x.g) (frS x.g) := by
  obtain ⟨w, hw⟩ : ∃ w, w = frS x.g := ⟨_, rfl⟩
  rw [← hw]
  unfold frS at hw
  by_cases hm : mayG x.g = true
  · obtain ⟨hin, h00⟩ := may_in hm
    rw [if_pos hm] at hw
    have hwl : w.length = x.g.length := by rw [hw, frW_len]
    refine ⟨by omega, ?_, fun b l hb => ?_, fun l hl => ?_⟩
    · simp [frV, hm, rowsV_len, hw]
    · have hb2 : (rowsV (frW x.g))[b]? = some [rv l] := by
        rw [hw] at hb
        simp only [rowsV, List.getElem?_map, hb, Option.map_some]; rfl
      simp only [frV, hm, if_true]
      exact aindex_sl (by omega) hb2
    · rw [hw] at hl
      obtain ⟨b, hb, rfl⟩ := List.mem_map.1 hl
      rw [hwl]
      refine ⟨?_, fun v hv => ?_⟩
      · simp only [natI, List.length_map]; exact setL_len
      · obtain ⟨c, rfl, h2⟩ := natI_mem.1 hv
        have := (setL_mem.1 h2).1
        omega
  · rw [if_neg hm] at hw
    subst hw
    exact ⟨by simp, by simp [frV, hm], fun b l h => by simp at h, fun l h => by simp at h⟩

theorem p_is (x y : GraphV) (hx : x.Ok) (hy : y.Ok) (hn : x.g.length ≤ 100) (he : edges x.g ≤ 10000) (heq : frS x.g = y.g.map (·.l)) : PCall Try.prog 29 [x.av, y.av] (bl true) := by
  refine PCall.of fun N => acallF mixed c_bobbinlaw13_is (by simp) fun hF => ?_
  have hR := rows_frV x hn
  have hlen : (frS x.g).length = y.g.length := by rw [heq]; simp
  have hfl := hR.len
  have hyl := y.len
  have hn2 := hR.n
  rw [hlen] at hfl hn2
  simp [a_bobbinlaw13_is]
  refine (p_frOf x hx hn he).acall ?_
  simp [hfl, hyl, -alen]
  refine run_loop (fun k s => ∃ j, j ≤ y.g.length ∧ k = y.g.length - j ∧ s.A 1 = y.av ∧ s.A 5 = frV x.g ∧ s.A 6 = i64 j ∧ s.N = N) y.g.length ?_ ?_
  · exact ⟨0, by omega, by omega, by simp, by simp, by simp, rfl⟩
  · rintro k A H1 N1 ⟨j, hj, rfl, e1, e5, e6, hN1⟩
    simp only at e1 e5 e6 hN1
    subst hN1
    by_cases hjl : j = y.g.length
    · subst hjl
      simp [a_bobbinlaw13_isb1, e1, e5, e6, hfl, -alen]
      exact .free rfl
    · have hlt : j < y.g.length := by omega
      have hr := hy.rows _ (List.getElem_mem hlt)
      have hq := row_at y hy hlt
      have hwj : (frS x.g)[j]? = some y.g[j].l := by rw [heq]; simp [hlt]
      have hfa := hR.at_ j _ hwj
      have wr : IntKind.i64.wrap ((j : Int) + 1) = ((j + 1 : Nat) : Int) := by rw [wrap_i64 (by omega) (by omega)]; rfl
      simp [a_bobbinlaw13_isb1, e1, e5, e6, hfl, hlt, hq, hfa, -alen]
      refine (p_Ints (rv_rd y.g[j].l H1) (hr.rd H1) hr.hl _).mono ?_
      rintro r H2 N2 ⟨rfl, rfl, rfl⟩
      simp [e6, wr]
      exact ⟨y.g.length - (j + 1), by omega, j + 1, by omega, rfl, e1, e5, by simp⟩

/-- A graph of these rows. -/
def rowG (l : List Int) : RowV := ⟨.exact, 1, l⟩
def nilG : RowV := ⟨.nil, 0, []⟩
theorem rowG_ok {l : List Int} (h : l.length ≤ 100) : (rowG l).Ok := ⟨.inl rfl, by show l.length ≤ maxLen; unfold maxLen; omega⟩
theorem nilG_ok : nilG.Ok := ⟨.inr rfl, by simp [nilG]⟩
def exF : GraphV := ⟨.exact, 1, [rowG [1, 2], rowG [3], rowG [3], rowG []]⟩
def exFw : GraphV := ⟨.exact, 1, [nilG, rowG [3], rowG [3], nilG]⟩
def exP : GraphV := ⟨.exact, 1, [rowG [1], rowG [2, 3], rowG [1], rowG []]⟩
def exPw : GraphV := ⟨.exact, 1, [nilG, rowG [1], rowG [1], nilG]⟩
theorem gOk {rs : List RowV} (h : ∀ r ∈ rs, r = nilG ∨ ∃ l, r = rowG l ∧ l.length ≤ 100) (hl : rs.length ≤ 100) : (⟨.exact, 1, rs⟩ : GraphV).Ok :=
  ⟨.inl rfl, by show rs.length ≤ maxLen; unfold maxLen; omega, fun r hr => by
    rcases h r hr with rfl | ⟨l, rfl, h2⟩
    · exact nilG_ok
    · exact rowG_ok h2⟩
theorem exF_ok : exF.Ok := gOk (by simp [rowG, nilG]) (by simp)
theorem exFw_ok : exFw.Ok := gOk (by simp [rowG, nilG]) (by simp)
theorem exP_ok : exP.Ok := gOk (by simp [rowG, nilG]) (by simp)
theorem exPw_ok : exPw.Ok := gOk (by simp [rowG, nilG]) (by simp)
theorem exF_t : okT exF.g = true := by kernel_rfl
theorem exP_t : okT exP.g = true := by kernel_rfl
theorem exF_w : frS exF.g = exFw.g.map (·.l) := (frS_eq exF_t).trans (by kernel_rfl)
theorem exP_w : frS exP.g = exPw.g.map (·.l) := (frS_eq exP_t).trans (by kernel_rfl)
theorem exF_p : natI (plG exF.g [1]) = [3] := by rw [plG_eq exF_t (by kernel_rfl)]; kernel_rfl
theorem exP_p : natI (plG exP.g [2]) = [1] := by rw [plG_eq exP_t (by kernel_rfl)]; kernel_rfl

theorem p_works : PCall Try.prog 28 [] (bl true) := by
  refine PCall.of fun N => acallF mixed c_bobbinlaw13_works (by simp) fun hF => ?_
  have aF : exF.av = .sl .exact 1 [[.sl .exact 1 [[i64 1], [i64 2]]], [.sl .exact 1 [[i64 3]]], [.sl .exact 1 [[i64 3]]], [.sl .exact 1 []]] := rfl
  have aFw : exFw.av = .sl .exact 1 [[.sl .nil 0 []], [.sl .exact 1 [[i64 3]]], [.sl .exact 1 [[i64 3]]], [.sl .nil 0 []]] := rfl
  have aP : exP.av = .sl .exact 1 [[.sl .exact 1 [[i64 1]]], [.sl .exact 1 [[i64 2], [i64 3]]], [.sl .exact 1 [[i64 1]]], [.sl .exact 1 []]] := rfl
  have aPw : exPw.av = .sl .exact 1 [[.sl .nil 0 []], [.sl .exact 1 [[i64 1]]], [.sl .exact 1 [[i64 1]]], [.sl .nil 0 []]] := rfl
  have i1 := p_is exF exFw exF_ok exFw_ok (by simp [exF]) (by simp [exF, edges, rowG, nilG]) exF_w
  have i2 := p_is exP exPw exP_ok exPw_ok (by simp [exP]) (by simp [exP, edges, rowG, nilG]) exP_w
  rw [aF, aFw] at i1
  rw [aP, aPw] at i2
  have q1 := fun (H : AHeap) (N : Nat) => a_Placed (x := exF) (H := H) (N := N) (ls := [1]) (v := .sl .exact 1 [[i64 1]]) exF_ok (by simp [exF]) (by simp [exF, edges, rowG, nilG]) (by simp) (fun H' _ => (RdSl.sl .exact : RdSl H' 1 (intCells [1]) (.sl .exact 1 (intCells [1]))))
  have q2 := fun (H : AHeap) (N : Nat) => a_Placed (x := exP) (H := H) (N := N) (ls := [2]) (v := .sl .exact 1 [[i64 2]]) exP_ok (by simp [exP]) (by simp [exP, edges, rowG, nilG]) (by simp) (fun H' _ => (RdSl.sl .exact : RdSl H' 1 (intCells [2]) (.sl .exact 1 (intCells [2]))))
  rw [aF] at q1
  rw [aP] at q2
  simp [a_bobbinlaw13_works]
  refine i1.acall ?_
  simp
  refine (q1 _ N).mono ?_
  rintro r1 H1 N1 ⟨hs1, _, _⟩
  rw [exF_p] at hs1
  simp
  refine (p_Ints hs1.rd (RdSl.sl .exact : RdSl H1 1 (intCells [3]) (.sl .exact 1 (intCells [3]))) (by simp [maxLen]) N1).mono ?_
  rintro r2 H2 N2 ⟨rfl, rfl, rfl⟩
  simp
  refine i2.acall ?_
  simp
  refine (q2 _ _).mono ?_
  rintro r3 H3 N3 ⟨hs3, _, _⟩
  rw [exP_p] at hs3
  simp
  refine (p_Ints hs3.rd (RdSl.sl .exact : RdSl H3 1 (intCells [1]) (.sl .exact 1 (intCells [1]))) (by simp [maxLen]) N3).mono ?_
  rintro r4 H4 N4 ⟨rfl, rfl, rfl⟩
  simp
  exact .free rfl

end Go.Proofs.Ytmbbklddjkmcmaa
