/- code: the document's answer: which instructions may be. -/
import Derived.Test.YtefejpckppabpaaGreatDoorC9
namespace Go.Proofs.YtefejpckppabpaaGreatDoor
set_option linter.unusedSimpArgs false
set_option linter.unusedVariables false
open Go Go.Fw

section
variable {p : PrgV} {f : FunV} {x : Ins} {o : Nat} {A : Nat → AV} {H : AHeap} {N : Nat} {fs : List Fr} {Q : Post}

theorem aload_ip (H : AHeap) (cs : List AV) (off : Nat) : aload H false 1 (.ip cs off) = cs[off]? := rfl
theorem known_lt {n : Int} : known n = true ↔ 1 ≤ n ∧ n < 14 := by simp [known]

theorem refmay_a (hx : x.Ok) (h5 : A 5 = .ip x.cells 0)
    (hk : known x.op = true → sameIns x (keptIns x) = true → ∀ A', (∀ t ∈ [3, 4, 5], A' t = A t) → onward Tryz.prog fs Q .normal ⟨A', H, N⟩)
    (hr : (known x.op && sameIns x (keptIns x)) = false → ∀ A', A' 6 = bl false → onward Tryz.prog fs Q .ret ⟨A', H, N⟩) : run Tryz.prog a_refmay_a fs Q ⟨A, H, N⟩ := by
  by_cases h1 : x.op < 1
  · simp [a_refmay_a, h5, h1]
    exact hr (by simp [known]; omega) _ (by simp)
  · by_cases h2 : 13 < x.op
    · simp [a_refmay_a, h5, h1, h2]
      exact hr (by simp [known]; omega) _ (by simp)
    · have hkn : known x.op = true := known_lt.2 (by omega)
      simp [a_refmay_a, h5, h1, h2]
      refine (p_kept x).acall ?_
      simp
      refine (p_refSameIns x (keptIns x) hx (kept_ok hx)).acall ?_
      by_cases hs : sameIns x (keptIns x) = true
      · simp [hs]
        exact hk hkn hs _ (by simp)
      · simp [hs]
        exact hr (by simp [hs]) _ (by simp)

/-- The registers that are named, read or written. -/
def regsL (x : Ins) : List Int := readsL x ++ (if (ofR x.op).r = true then [x.r] else [])

theorem refmay_b {lo : Nat} (hl : x.args.length ≤ 999999999990) (h7 : Built H lo 1 (.sl .nil 0 []) (intCells (readsL x)) (A 7)) (h8 : A 8 = i64 (if (ofR x.op).r = true then x.r else 0)) (h9 : A 9 = bl (ofR x.op).r) (hF : Fresh H N) (hlo : lo ≤ N)
    (hk : ∀ A' H' N', (∀ t ∈ [3, 4, 5], A' t = A t) → RdSl H' 1 (intCells (regsL x)) (A' 7) → onward Tryz.prog fs Q .normal ⟨A', H', N'⟩) : run Tryz.prog a_refmay_b fs Q ⟨A, H, N⟩ := by
  have hlen := readsL_len x
  by_cases hr : (ofR x.op).r = true
  · rw [hr] at h9
    rw [if_pos hr] at h8
    obtain ⟨v1, H1, N1, happ1, hB1, hold1, hN1, hF1⟩ := app_ints (l := []) (lo := N) (z := .sl .exact 1 []) (v := .sl .exact 1 []) (H := H) (N := N) (y := A 7) (ns := readsL x) Built.empty hF (Nat.le_refl _) (by rw [h7.src, intCells_len]) (by simp; omega)
    obtain ⟨v2, H2, N2, happ2, hB2, hold2, hN2, hF2⟩ := app_ints (ns := [x.r]) hB1 hF1 hN1 (asrc_one H1 x.r) (by simp; omega)
    simp [a_refmay_b, h8, h9, happ1, happ2, h7.rd.cells, hB1.rd.cells, hB2.rd.cells, -AV.cells]
    refine hk _ _ _ (by simp) ?_
    have := hB2.rd
    simpa [regsL, hr] using this
  · have hr' : (ofR x.op).r = false := by simpa using hr
    rw [hr'] at h9
    simp [a_refmay_b, h9]
    refine hk _ _ _ (by simp) ?_
    have := h7.rd
    simpa [regsL, hr'] using this

theorem refmay_c (hl : x.args.length ≤ 999999999990) (h4 : A 4 = .ip f.cells 0) (h7 : RdSl H 1 (intCells (regsL x)) (A 7))
    (hk : regsOk (regsL x) f.regs = true → ∀ A' N', (∀ t ∈ [3, 4, 5], A' t = A t) → onward Tryz.prog fs Q .normal ⟨A', H, N'⟩)
    (hr : regsOk (regsL x) f.regs = false → ∀ A' N', A' 6 = bl false → onward Tryz.prog fs Q .ret ⟨A', H, N'⟩) : run Tryz.prog a_refmay_c fs Q ⟨A, H, N⟩ := by
  have hm : maxLen = 9223372036854775807 := rfl
  have hlen : (regsL x).length ≤ 1000000000000 := by
    have := readsL_len x
    unfold regsL; split <;> simp <;> omega
  have hL := h7.len
  rw [intCells_len] at hL
  simp [a_refmay_c]
  refine run_loop (fun m s => ∃ j, j ≤ (regsL x).length ∧ m = (regsL x).length - j ∧ (∀ t ∈ [3, 4, 5, 7], s.A t = A t) ∧ s.A 10 = i64 j ∧ s.H = H ∧ regsOk ((regsL x).take j) f.regs = true) (regsL x).length ?_ ?_
  · exact ⟨0, by omega, by omega, by simp, by simp, by simp, rfl⟩
  · rintro m A1 H1 N1 ⟨j, hj, rfl, ht, h10, rfl, hok⟩
    simp only at ht h10
    have e4 := (ht 4 (by simp)).trans h4
    have e7 := ht 7 (by simp)
    rw [← e7] at hL h7
    by_cases hjl : j = (regsL x).length
    · subst hjl
      rw [List.take_length] at hok
      simp [a_bobbinref07_mayInsb1, h10, hL, -alen]
      exact hk hok _ _ fun t htt => by
        have := ht t (by simp at htt ⊢; omega)
        simp at htt
        rcases htt with rfl | rfl | rfl <;> simpa using this
    · have hlt : j < (regsL x).length := by omega
      obtain ⟨q, hq, qq⟩ := h7.at (intCells_sz _) (intCells_at hlt)
      have lq := qq.one
      have hnx := regsOk_take (r := f.regs) hlt
      have hlt' : (j : Int) < ((regsL x).length : Int) := by omega
      simp [a_bobbinref07_mayInsb1, h10, hL, hlt, e4, hq, lq, aload_ip, -alen, -aload]
      refine (p_refwithin _ _).acall ?_
      by_cases hw : within (regsL x)[j] f.regs = true
      · simp [hw, h10]
        refine ⟨(regsL x).length - (j + 1), by omega, j + 1, by omega, rfl, ?_, by rw [wrap_i64 (by omega) (by omega)]; rfl, by rw [hnx, hok, hw]; rfl⟩
        have e3 := ht 3 (by simp)
        have e5 := ht 5 (by simp)
        refine ⟨e3, ?_, e5, e7⟩
        rw [e4, h4]
      · have hw' : within (regsL x)[j] f.regs = false := by simpa using hw
        have hbad : regsOk (regsL x) f.regs = false := by
          simp only [regsOk, List.all_eq_false]
          exact ⟨_, List.getElem_mem hlt, by simp [hw']⟩
        simp [hw']
        exact hr hbad _ _ (by simp)

set_option maxHeartbeats 1000000 in
theorem refmay_d (h3 : A 3 = .ip p.cells 0) (h4 : A 4 = .ip f.cells 0) (h5 : A 5 = .ip x.cells 0)
    (hk : numOk p f (ofR x.op) x = true → ∀ A', onward Tryz.prog fs Q .normal ⟨A', H, N⟩)
    (hr : ∀ A', A' 6 = bl (numOk p f (ofR x.op) x) → onward Tryz.prog fs Q .ret ⟨A', H, N⟩) : run Tryz.prog a_refmay_d fs Q ⟨A, H, N⟩ := by
  by_cases c3 : x.op = 3
  · have hn : (ofR x.op).n = 2 := by rw [ofR_n, c3]; rfl
    by_cases h : x.n = 5
    · simp [a_refmay_d, h5, c3, h]
      exact hr _ (by simp [numOk, hn, h])
    · simp [a_refmay_d, h5, c3, h]
      exact hr _ (by simp [numOk, hn, h])
  · by_cases c4 : x.op = 4
    · have hn : (ofR x.op).n = 3 := by rw [ofR_n, c4]; rfl
      by_cases h : 7 ≤ x.n
      · simp [a_refmay_d, h5, c4, h]
        exact hr _ (by simp [numOk, hn, h])
      · simp [a_refmay_d, h5, c4, h]
        exact hr _ (by simp [numOk, hn, h])
    · by_cases c5 : x.op = 5
      · have hn : (ofR x.op).n = 4 := by rw [ofR_n, c5]; rfl
        simp [a_refmay_d, h3, h5, c5]
        refine (p_refwithin _ _).acall ?_
        simp
        exact hr _ (by simp [numOk, hn])
      · by_cases c6 : x.op = 6
        · have hn : (ofR x.op).n = 4 := by rw [ofR_n, c6]; rfl
          simp [a_refmay_d, h3, h5, c6]
          refine (p_refwithin _ _).acall ?_
          simp
          exact hr _ (by simp [numOk, hn])
        · by_cases c7 : x.op = 7
          · have hn : (ofR x.op).n = 5 := by rw [ofR_n, c7]; rfl
            simp [a_refmay_d, h3, h5, c7]
            refine (p_refwithin _ _).acall ?_
            simp
            exact hr _ (by simp [numOk, hn])
          · by_cases c8 : x.op = 8
            · have hn : (ofR x.op).n = 5 := by rw [ofR_n, c8]; rfl
              simp [a_refmay_d, h3, h5, c8]
              refine (p_refwithin _ _).acall ?_
              simp
              exact hr _ (by simp [numOk, hn])
            · by_cases c11 : x.op = 11
              · have hn : (ofR x.op).n = 7 := by rw [ofR_n, c11]; rfl
                simp [a_refmay_d, h4, h5, c11]
                refine (p_refwithin _ _).acall ?_
                simp
                exact hr _ (by simp [numOk, hn])
              · by_cases c12 : x.op = 12
                · have hn : (ofR x.op).n = 7 := by rw [ofR_n, c12]; rfl
                  simp [a_refmay_d, h4, h5, c12]
                  refine (p_refwithin _ _).acall ?_
                  simp
                  exact hr _ (by simp [numOk, hn])
                · by_cases c10 : x.op = 10
                  · have hn : (ofR x.op).n = 6 := by rw [ofR_n, c10]; rfl
                    by_cases hw : within x.n p.funs.length = true
                    · have hb : 0 ≤ x.n ∧ x.n < p.funs.length := by simpa [within] using hw
                      obtain ⟨g, hg⟩ : ∃ g, p.funs[x.n.toNat]? = some g := ⟨p.funs[x.n.toNat]'(by omega), by simp [show x.n.toNat < p.funs.length by omega]⟩
                      have hge := (List.getElem?_eq_some_iff.1 hg).2
                      have hq := aindex_sl (k := p.fk) (sz := 5) hb.1 (funCells_at hg)
                      simp [a_refmay_d, h3, h5, c10]
                      refine (p_refwithin _ _).acall ?_
                      by_cases ht : g.thread = true
                      · simp [hw, h3, h5, hq, ht]
                        exact hr _ (by simp [numOk, hn, hw, hg, ht])
                      · simp [hw, h3, h5, hq, ht, intCells_len]
                        exact hr _ (by simp [numOk, hn, hw, hg, ht])
                    · simp [a_refmay_d, h3, h5, c10]
                      refine (p_refwithin _ _).acall ?_
                      simp [hw]
                      exact hr _ (by simp [numOk, hn, hw])
                  · have hn : (ofR x.op).n = 0 ∨ (ofR x.op).n = 1 := by
                      rw [ofR_n]; simp only [c3, c4, c5, c6, c7, c8, c10, c11, c12, or_self, if_false]
                      split <;> simp
                    simp [a_refmay_d, h5, c3, c4, c5, c6, c7, c8, c10, c11, c12]
                    exact hk (by rcases hn with hn | hn <;> simp [numOk, hn]) _

theorem p_refmayIns (hx : x.Ok) (hl : x.args.length ≤ 999999999990) : PCall Tryz.prog 62 [.agg p.cells, .agg f.cells, .agg x.cells] (bl (mayB p f x)) := by
  refine PCall.of fun N => acallF mixed c_bobbinref07_mayIns (by simp) fun hF => ?_
  unfold a_bobbinref07_mayIns
  obtain ⟨_, ea⟩ : ∃ c, a_refmay_a = c := ⟨_, rfl⟩
  rw [ea]
  obtain ⟨_, eb⟩ : ∃ c, a_refmay_b = c := ⟨_, rfl⟩
  rw [eb]
  obtain ⟨_, ec⟩ : ∃ c, a_refmay_c = c := ⟨_, rfl⟩
  rw [ec]
  obtain ⟨_, ed⟩ : ∃ c, a_refmay_d = c := ⟨_, rfl⟩
  rw [ed]
  simp
  rw [← ea]
  refine refmay_a hx (by simp) ?_ ?_
  · intro hkn hsame A1 h1
    have e3 : A1 3 = .ip p.cells 0 := (h1 3 (by simp)).trans (by simp)
    have e4 : A1 4 = .ip f.cells 0 := (h1 4 (by simp)).trans (by simp)
    have e5 : A1 5 = .ip x.cells 0 := (h1 5 (by simp)).trans (by simp)
    have hA : mayA p f x = numOk p f (ofR x.op) x := by
      rw [same_kept hkn] at hsame
      simp [mayA, hkn, hsame]
    have hreg : ∀ g, regsOk (regsL x) g = (regsOk (readsL x) g && (!(ofR x.op).r || within x.r g)) := fun g => by
      unfold regsL
      by_cases h : (ofR x.op).r = true
      · simp [h, regsOk]
      · simp [h]
    simp [e5]
    refine (p_refReads hx hl _ _).monoF ?_
    rintro r H' N' ⟨hN', _, hB⟩ hF' _
    simp [e5]
    refine (p_refWrites x).acall ?_
    simp
    rw [← eb]
    refine refmay_b (x := x) (lo := N) hl (by simpa using hB) (by simp) (by simp) hF' (by omega) fun A2 H2 N2 h2 hrd => ?_
    have d3 : A2 3 = .ip p.cells 0 := (h2 3 (by simp)).trans (by simp [e3])
    have d4 : A2 4 = .ip f.cells 0 := (h2 4 (by simp)).trans (by simp [e4])
    have d5 : A2 5 = .ip x.cells 0 := (h2 5 (by simp)).trans (by simp [e5])
    simp
    rw [← ec]
    refine refmay_c (x := x) (f := f) hl d4 hrd ?_ ?_
    · intro hok A3 N3 h3
      simp
      rw [← ed]
      refine refmay_d (p := p) (f := f) (x := x) ((h3 3 (by simp)).trans d3) ((h3 4 (by simp)).trans d4) ((h3 5 (by simp)).trans d5) ?_ ?_
      · intro hn A4
        simp
        rw [hreg] at hok
        simp [mayB, hA, hn, hok]
        exact .free rfl
      · intro A4 h6
        simp [h6]
        rw [hreg] at hok
        simp [mayB, hA, hok]
        exact .free rfl
    · intro hbad A3 N3 h6
      simp [h6]
      rw [hreg] at hbad
      simp [mayB, hbad]
      exact .free rfl
  · intro hbad A1 h6
    simp [h6]
    have : mayA p f x = false := by
      by_cases hkn : known x.op = true
      · rw [same_kept hkn] at hbad
        simp [hkn] at hbad
        simp [mayA, hbad]
      · simp [mayA, hkn]
    simp [mayB, this]
    exact .free rfl

end
end Go.Proofs.YtefejpckppabpaaGreatDoor
