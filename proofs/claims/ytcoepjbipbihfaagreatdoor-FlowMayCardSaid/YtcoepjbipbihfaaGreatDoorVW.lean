/- flow: which graphs and programs of blocks are the same, by the program. -/
import Derived.Test.YtcoepjbipbihfaaGreatDoorV3
import Derived.Test.YtcoepjbipbihfaaGreatDoorKR
import Derived.Test.YtcoepjbipbihfaaGreatDoorNK
import Derived.Test.YtcoepjbipbihfaaGreatDoorM6
namespace Go.Proofs.YtcoepjbipbihfaaGreatDoor
set_option linter.unusedSimpArgs false
set_option linter.unusedVariables false
open Go Go.Fw

theorem p_samePhi {x y : PhiV} (hx : x.Ok) : PCall Tryz.prog 78 [.agg x.cells, .agg y.cells] (bl (samePhi x y)) := by
  have hm : maxLen = 9223372036854775807 := rfl
  have := hx.al
  refine PCall.of fun N => acall mixed c_flow_samePhi (by simp) ?_
  by_cases h1 : x.r = y.r
  · simp [a_flow_samePhi, h1]
    refine (p_Equal_int (la := x.args) (lb := y.args) (.sl _) (.sl _) (by omega) N).mono ?_
    rintro r H' N' ⟨rfl, rfl, rfl⟩
    simp [samePhi, h1]
    exact .free rfl
  · simp [a_flow_samePhi, h1, samePhi]; exact .free rfl

theorem p_sameBlock {x y : BlkV} (hx : x.Ok) (hy : y.Ok) : PCall Tryz.prog 32 [.agg x.cells, .agg y.cells] (bl (sameBlk x y)) := by
  have hm : maxLen = 9223372036854775807 := rfl
  have := hx.pl
  have := hx.cl
  have := hx.gl
  have := hx.tl
  obtain ⟨B, hB⟩ : ∃ B, sameBlk x y = B := ⟨_, rfl⟩
  refine PCall.of fun N => acall mixed c_flow_sameBlock (by simp) ?_
  rw [hB]
  unfold sameBlk at hB
  simp [a_flow_sameBlock]
  refine (p_EqualFunc_Phi (r := samePhi) (by omega) (fun p hp q hq => p_samePhi (hx.ph p hp))).acall ?_
  cases hv : eqvL samePhi x.phis y.phis with
  | false =>
    rw [hv, Bool.false_and] at hB
    simp [← hB]; exact .free rfl
  | true =>
    rw [hv, Bool.true_and] at hB
    simp
    refine (p_EqualFunc_Ins (r := sameIns) (by omega) (fun i hi k hk => p_SameIns i k (hx.al i hi).1 (hy.al k hk).1)).acall ?_
    cases hw : eqvL sameIns x.code y.code with
    | false =>
      rw [hw, Bool.false_and] at hB
      simp [← hB]; exact .free rfl
    | true =>
      rw [hw, Bool.true_and] at hB
      simp
      refine (p_Equal_int (la := x.fro) (lb := y.fro) (.sl _) (.sl _) (by omega) _).mono ?_
      rintro r H' N' ⟨rfl, rfl, rfl⟩
      cases hf : decide (x.fro = y.fro) with
      | false =>
        rw [hf, Bool.false_and] at hB
        simp [← hB]; exact .free rfl
      | true =>
        rw [hf, Bool.true_and] at hB
        simp
        refine (p_Equal_int (la := x.to) (lb := y.to) (.sl _) (.sl _) (by omega) _).mono ?_
        rintro r H' N' ⟨rfl, rfl, rfl⟩
        rw [← hB]
        simp
        exact .free rfl

theorem p_SameGraph {x y : GrV} (hx : x.Ok) (hy : y.Ok) : PCall Tryz.prog 10 [.agg x.cells, .agg y.cells] (bl (sameGr x y)) := by
  have hm : maxLen = 9223372036854775807 := rfl
  have := hx.bl
  refine PCall.of fun N => acall mixed c_flow_SameGraph (by simp) ?_
  obtain ⟨B, hB⟩ : ∃ B, sameGr x y = B := ⟨_, rfl⟩
  rw [hB]
  have no : ¬ (x.name = y.name ∧ x.thread = y.thread ∧ x.params = y.params ∧ x.regs = y.regs) → B = false := fun h => by rw [← hB]; simp only [sameGr, h, decide_false, Bool.false_and]
  by_cases h1 : x.name = y.name
  · by_cases h2 : x.thread = y.thread
    · by_cases h3 : x.params = y.params
      · by_cases h4 : x.regs = y.regs
        · have : B = eqvL sameBlk x.blocks y.blocks := by rw [← hB]; simp only [sameGr, h1, h2, h3, h4, and_self, decide_true, Bool.true_and]
          simp [a_flow_SameGraph, h1, h2, h3, h4]
          refine (p_EqualFunc_Block (r := sameBlk) (by omega) (fun i hi k hk => p_sameBlock (hx.ok i hi) (hy.ok k hk))).acall ?_
          simp [← this]
          exact .free rfl
        · have := no (fun h => h4 h.2.2.2)
          simp [a_flow_SameGraph, h1, h2, h3, h4, this]; exact .free rfl
      · have := no (fun h => h3 h.2.2.1)
        simp [a_flow_SameGraph, h1, h2, h3, this]; exact .free rfl
    · have := no (fun h => h2 h.2.1)
      have h5 : (x.thread == y.thread) = false := by simpa using h2
      simp [a_flow_SameGraph, h1, h2, h5, this]; exact .free rfl
  · have := no (fun h => h1 h.1)
    simp [a_flow_SameGraph, h1, this]; exact .free rfl

theorem p_fSame {p q : FrmV} (hp : p.Ok) (hq : q.Ok) : PCall Tryz.prog 14 [.agg p.cells, .agg q.cells] (bl (sameFrm p q)) := by
  have hmx : maxLen = 9223372036854775807 := rfl
  have := hp.ml
  have := hp.ll
  have := hp.fl
  refine PCall.of fun N => acall mixed c_flow_Same (by simp) ?_
  obtain ⟨B, hB⟩ : ∃ B, sameFrm p q = B := ⟨_, rfl⟩
  rw [hB]
  have hls : ∀ l : List ByteArray, lockCells l = strCells l := fun _ => rfl
  simp [a_flow_Same]
  refine (p_Equal_Mem (la := p.mems) (lb := q.mems) (.sl _) (.sl _) (by omega) N).mono ?_
  rintro r H1 N1 ⟨rfl, rfl, rfl⟩
  by_cases hm : eqvL memE p.mems q.mems = true
  · simp [hm, hls]
    refine (p_Equal_string (la := p.locks) (lb := q.locks) (.sl _) (.sl _) (by omega) _).mono ?_
    rintro r H2 N2 ⟨rfl, rfl, rfl⟩
    by_cases hs : eqvL strE p.locks q.locks = true
    · simp [hs]
      have : B = eqvL sameGr p.funs q.funs := by rw [← hB]; simp only [sameFrm, hm, hs, Bool.true_and]
      refine (p_EqualFunc_Graph (r := sameGr) (by omega) (fun f hf g hg => p_SameGraph (hp.ok f hf) (hq.ok g hg))).acall ?_
      simp [← this]
      exact .free rfl
    · have : B = false := by rw [← hB]; simp [sameFrm, hs]
      simp [hs, this]; exact .free rfl
  · have : B = false := by rw [← hB]; simp [sameFrm, hm]
    simp [hm, this]; exact .free rfl
end Go.Proofs.YtcoepjbipbihfaaGreatDoor

/- flow: which graphs and programs of blocks are the same, by the reference. -/
namespace Go.Proofs.YtcoepjbipbihfaaGreatDoor
set_option linter.unusedSimpArgs false
set_option linter.unusedVariables false
open Go Go.Fw

section
variable {x y : BlkV} {A : Nat → AV} {H : AHeap} {N o u : Nat} {fs : List Fr} {Q : Post}

theorem rsg_p (hll : x.phis.length = y.phis.length) (hx : x.Ok) (h6 : A 6 = .mp o 0) (h7 : A 7 = .mp u 0) (hH : H o = some (.blk x.cells)) (hH2 : H u = some (.blk y.cells))
    (hk : eqvL samePhi x.phis y.phis = true → ∀ A', (∀ t, t ≤ 7 → A' t = A t) → onward Tryz.prog fs Q .normal ⟨A', H, N⟩)
    (hr : eqvL samePhi x.phis y.phis = false → ∀ A', A' 4 = bl false → onward Tryz.prog fs Q .ret ⟨A', H, N⟩) : run Tryz.prog a_rsg_p fs Q ⟨A, H, N⟩ := by
  have hm : maxLen = 9223372036854775807 := rfl
  have hl := hx.pl
  simp [a_rsg_p]
  refine run_loop (fun m s => ∃ j, j ≤ x.phis.length ∧ m = x.phis.length - j ∧ (∀ t, t ≤ 7 → s.A t = A t) ∧ s.A 8 = i64 j ∧ s.H = H ∧ s.N = N ∧ ∀ i (h : i < x.phis.length) (h2 : i < y.phis.length), i < j → samePhi x.phis[i] y.phis[i] = true) x.phis.length ?_ ?_
  · exact ⟨0, by omega, by omega, fun t ht => by (try simp only [upA]); repeat rw [if_neg (by omega)], by simp, rfl, rfl, fun i _ _ hi => by omega⟩
  · rintro m A1 H1 N1 ⟨j, hj, rfl, hA, e8, rfl, rfl, hok⟩
    simp only at hA e8 hH hH2
    have e6 := (hA 6 (by omega)).trans h6
    have e7 := (hA 7 (by omega)).trans h7
    by_cases hjl : j = x.phis.length
    · subst hjl
      have hall := eqvL_iff.2 ⟨hll, fun i h h2 => hok i h h2 h⟩
      simp [a_bobbinref11_SameGraphb2, e6, e7, e8, hH, hH2]
      refine hk hall _ fun t ht => ?_
      refine Eq.trans ?_ (hA t ht)
      (try simp only [upA]); repeat rw [if_neg (by omega)]
    · have hlt : j < x.phis.length := by omega
      have hlt2 : j < y.phis.length := by omega
      obtain ⟨a, ha⟩ : ∃ a, x.phis[j] = a := ⟨_, rfl⟩
      obtain ⟨b, hb⟩ : ∃ b, y.phis[j] = b := ⟨_, rfl⟩
      have hao := hx.ph a (by rw [← ha]; exact List.getElem_mem hlt)
      have hal := hao.al
      have hix : aindex 2 (.sl x.pk 2 (phiCells x.phis)) (i64 j) = some (.ip a.cells 0) := aindex_sl (by omega) (by simp [phiCells, hlt, ha])
      have hiy : aindex 2 (.sl y.pk 2 (phiCells y.phis)) (i64 j) = some (.ip b.cells 0) := aindex_sl (by omega) (by simp [phiCells, hlt2, hb])
      by_cases hr1 : a.r = b.r
      · simp [a_bobbinref11_SameGraphb2, e6, e7, e8, hH, hH2, hlt, hix, hiy, hr1]
        refine (p_rints (la := a.args) (lb := b.args) (.sl _) (.sl _) (by omega) _).mono ?_
        rintro r H2 N2 ⟨rfl, rfl, rfl⟩
        by_cases hs : a.args = b.args
        · simp [hs, e8]
          refine ⟨x.phis.length - (j + 1), by omega, j + 1, by omega, rfl, fun t ht => ?_, by rw [wrap_i64 (by omega) (by omega)]; rfl, fun i h h2 hij => ?_⟩
          · refine Eq.trans ?_ (hA t ht)
            (try simp only [upA]); repeat rw [if_neg (by omega)]
          · by_cases hij2 : i = j
            · subst hij2; rw [ha, hb]; simp [samePhi, hr1, hs]
            · exact hok i h h2 (by omega)
        · have hf := eqvL_bad (r := samePhi) hlt hlt2 (by rw [ha, hb]; simp [samePhi, hr1, hs])
          simp [hs]
          exact hr hf _ (by simp)
      · have hf := eqvL_bad (r := samePhi) hlt hlt2 (by rw [ha, hb]; simp [samePhi, hr1])
        simp [a_bobbinref11_SameGraphb2, e6, e7, e8, hH, hH2, hlt, hix, hiy, hr1]
        exact hr hf _ (by simp)

theorem rsg_c (hll : x.code.length = y.code.length) (hx : x.Ok) (hy : y.Ok) (h6 : A 6 = .mp o 0) (h7 : A 7 = .mp u 0) (hH : H o = some (.blk x.cells)) (hH2 : H u = some (.blk y.cells))
    (hk : eqvL sameIns x.code y.code = true → ∀ A', (∀ t, t ≤ 7 → A' t = A t) → onward Tryz.prog fs Q .normal ⟨A', H, N⟩)
    (hr : eqvL sameIns x.code y.code = false → ∀ A', A' 4 = bl false → onward Tryz.prog fs Q .ret ⟨A', H, N⟩) : run Tryz.prog a_rsg_c fs Q ⟨A, H, N⟩ := by
  have hm : maxLen = 9223372036854775807 := rfl
  have hl := hx.cl
  simp [a_rsg_c]
  refine run_loop (fun m s => ∃ j, j ≤ x.code.length ∧ m = x.code.length - j ∧ (∀ t, t ≤ 7 → s.A t = A t) ∧ s.A 9 = i64 j ∧ s.H = H ∧ s.N = N ∧ ∀ i (h : i < x.code.length) (h2 : i < y.code.length), i < j → sameIns x.code[i] y.code[i] = true) x.code.length ?_ ?_
  · exact ⟨0, by omega, by omega, fun t ht => by (try simp only [upA]); repeat rw [if_neg (by omega)], by simp, rfl, rfl, fun i _ _ hi => by omega⟩
  · rintro m A1 H1 N1 ⟨j, hj, rfl, hA, e8, rfl, rfl, hok⟩
    simp only at hA e8 hH hH2
    have e6 := (hA 6 (by omega)).trans h6
    have e7 := (hA 7 (by omega)).trans h7
    by_cases hjl : j = x.code.length
    · subst hjl
      have hall := eqvL_iff.2 ⟨hll, fun i h h2 => hok i h h2 h⟩
      simp [a_bobbinref11_SameGraphb1, e6, e7, e8, hH, hH2]
      refine hk hall _ fun t ht => ?_
      refine Eq.trans ?_ (hA t ht)
      (try simp only [upA]); repeat rw [if_neg (by omega)]
    · have hlt : j < x.code.length := by omega
      have hlt2 : j < y.code.length := by omega
      obtain ⟨a, ha⟩ : ∃ a, x.code[j] = a := ⟨_, rfl⟩
      obtain ⟨b, hb⟩ : ∃ b, y.code[j] = b := ⟨_, rfl⟩
      have hix : aindex 6 (.sl x.ck 6 (codeCells x.code)) (i64 j) = some (.ip a.cells 0) := aindex_sl (by omega) (by simp [codeCells, hlt, ha])
      have hiy : aindex 6 (.sl y.ck 6 (codeCells y.code)) (i64 j) = some (.ip b.cells 0) := aindex_sl (by omega) (by simp [codeCells, hlt2, hb])
      simp [a_bobbinref11_SameGraphb1, e6, e7, e8, hH, hH2, hlt, hix, hiy]
      refine (p_refSameIns a b (hx.al a (by rw [← ha]; exact List.getElem_mem hlt)).1 (hy.al b (by rw [← hb]; exact List.getElem_mem hlt2)).1).acall ?_
      by_cases hs : sameIns a b = true
      · simp [hs, e8]
        refine ⟨x.code.length - (j + 1), by omega, j + 1, by omega, rfl, fun t ht => ?_, by rw [wrap_i64 (by omega) (by omega)]; rfl, fun i h h2 hij => ?_⟩
        · refine Eq.trans ?_ (hA t ht)
          (try simp only [upA]); repeat rw [if_neg (by omega)]
        · by_cases hij2 : i = j
          · subst hij2; rw [ha, hb]; exact hs
          · exact hok i h h2 (by omega)
      · have hf := eqvL_bad (r := sameIns) hlt hlt2 (by rw [ha, hb]; simpa using hs)
        simp [hs]
        exact hr hf _ (by simp)

theorem rsg_h (hx : x.Ok) (h6 : A 6 = .mp o 0) (h7 : A 7 = .mp u 0) (hH : H o = some (.blk x.cells)) (hH2 : H u = some (.blk y.cells))
    (hk : x.fro = y.fro → x.to = y.to → x.phis.length = y.phis.length → x.code.length = y.code.length → ∀ A', (∀ t, t ≤ 7 → A' t = A t) → onward Tryz.prog fs Q .normal ⟨A', H, N⟩)
    (hr : sameBlk x y = false → ∀ A', A' 4 = bl false → onward Tryz.prog fs Q .ret ⟨A', H, N⟩) : run Tryz.prog a_rsg_h fs Q ⟨A, H, N⟩ := by
  have hm : maxLen = 9223372036854775807 := rfl
  have := hx.gl
  have := hx.tl
  simp [a_rsg_h, h6, h7, hH, hH2]
  refine (p_rints (la := x.fro) (lb := y.fro) (.sl _) (.sl _) (by omega) _).mono ?_
  rintro r H2 N2 ⟨rfl, rfl, rfl⟩
  by_cases hf : x.fro = y.fro
  · simp [hf, h6, h7, hH, hH2]
    refine (p_rints (la := x.to) (lb := y.to) (.sl _) (.sl _) (by omega) _).mono ?_
    rintro r H2 N2 ⟨rfl, rfl, rfl⟩
    by_cases ht : x.to = y.to
    · by_cases hp : x.phis.length = y.phis.length
      · by_cases hc : x.code.length = y.code.length
        · simp [ht, h6, h7, hH, hH2, hp, hc]
          refine hk hf ht hp hc _ fun t htt => ?_
          (try simp only [upA]); repeat rw [if_neg (by omega)]
        · have := hr (by simp only [sameBlk, eqvL_len (r := sameIns) hc, Bool.false_and, Bool.and_false])
          simp [ht, h6, h7, hH, hH2, hp, show ¬ ((x.code.length : Int) = y.code.length) by omega]
          exact this _ (by simp)
      · have := hr (by simp only [sameBlk, eqvL_len (r := samePhi) hp, Bool.false_and, Bool.and_false])
        simp [ht, h6, h7, hH, hH2, show ¬ ((x.phis.length : Int) = y.phis.length) by omega]
        exact this _ (by simp)
    · have := hr (by simp [sameBlk, ht])
      simp [ht]
      exact this _ (by simp)
  · have := hr (by simp [sameBlk, hf])
    simp [hf]
    exact this _ (by simp)
end

theorem p_refSameGraph {x y : GrV} (hx : x.Ok) (hy : y.Ok) : PCall Tryz.prog 11 [.agg x.cells, .agg y.cells] (bl (sameGr x y)) := by
  have hm : maxLen = 9223372036854775807 := rfl
  have hbl := hx.bl
  refine PCall.of fun N => acallF mixed c_bobbinref11_SameGraph (by simp) fun hF => ?_
  obtain ⟨B, hB⟩ : ∃ B, sameGr x y = B := ⟨_, rfl⟩
  rw [hB]
  have no : ¬ (x.name = y.name ∧ x.thread = y.thread ∧ x.params = y.params ∧ x.regs = y.regs) → B = false := fun h => by rw [← hB]; simp only [sameGr, h, decide_false, Bool.false_and]
  by_cases h1 : x.name = y.name
  · by_cases h2 : x.thread = y.thread
    · by_cases h3 : x.params = y.params
      · by_cases h4 : x.regs = y.regs
        · have hBe : B = eqvL sameBlk x.blocks y.blocks := by rw [← hB]; simp only [sameGr, h1, h2, h3, h4, and_self, decide_true, Bool.true_and]
          by_cases hll : x.blocks.length = y.blocks.length
          · simp [a_bobbinref11_SameGraph, h1, h2, h3, h4, hll]
            refine run_loop (fun m s => ∃ j, j ≤ x.blocks.length ∧ m = x.blocks.length - j ∧ s.A 2 = .ip x.cells 0 ∧ s.A 3 = .ip y.cells 0 ∧ s.A 5 = i64 j ∧ Fresh s.H s.N ∧ ∀ i (h : i < x.blocks.length) (h2 : i < y.blocks.length), i < j → sameBlk x.blocks[i] y.blocks[i] = true) x.blocks.length ?_ ?_
            · exact ⟨0, by omega, by omega, by simp, by simp, by simp, by simpa using hF, fun i _ _ hi => by omega⟩
            · rintro m A1 H1 N1 ⟨j, hj, rfl, e2, e3, e5, hF1, hok⟩
              simp only at e2 e3 e5 hF1
              by_cases hjl : j = x.blocks.length
              · subst hjl
                have : B = true := by rw [hBe]; exact eqvL_iff.2 ⟨hll, fun i h h2 => hok i h h2 h⟩
                simp [a_bobbinref11_SameGraphb3, e2, e5, this]
                exact .free rfl
              · have hlt : j < x.blocks.length := by omega
                have hlt2 : j < y.blocks.length := by omega
                obtain ⟨a, ha⟩ : ∃ a, x.blocks[j] = a := ⟨_, rfl⟩
                obtain ⟨b, hb⟩ : ∃ b, y.blocks[j] = b := ⟨_, rfl⟩
                have hao := hx.ok a (by rw [← ha]; exact List.getElem_mem hlt)
                have hbo := hy.ok b (by rw [← hb]; exact List.getElem_mem hlt2)
                have hix : aindex 4 (.sl x.k 4 (blkCells x.blocks)) (i64 j) = some (.ip a.cells 0) := aindex_sl (by omega) (by simp [blkCells, hlt, ha])
                have hiy : aindex 4 (.sl y.k 4 (blkCells y.blocks)) (i64 j) = some (.ip b.cells 0) := aindex_sl (by omega) (by simp [blkCells, hlt2, hb])
                have hsx : ∀ z : BlkV, splice 0 z.cells [AV.sl .nil 0 [], AV.sl .nil 0 [], AV.sl .nil 0 [], AV.sl .nil 0 []] = z.cells := fun z => splice_full (by simp)
                have bad : sameBlk a b = false → B = false := fun h => by rw [hBe]; exact eqvL_bad hlt hlt2 (by rw [ha, hb]; exact h)
                unfold a_bobbinref11_SameGraphb3
                obtain ⟨_, eh⟩ : ∃ c, a_rsg_h = c := ⟨_, rfl⟩
                rw [eh]
                obtain ⟨_, ep⟩ : ∃ c, a_rsg_p = c := ⟨_, rfl⟩
                rw [ep]
                obtain ⟨_, ec⟩ : ∃ c, a_rsg_c = c := ⟨_, rfl⟩
                rw [ec]
                simp [e2, e3, e5, hlt, hix, hiy, hsx]
                rw [← eh]
                refine rsg_h (x := a) (y := b) (o := N1) (u := N1 + 1) hao (by simp) (by simp) (by simp [show N1 ≠ N1 + 1 by omega]) (by simp) (fun hf ht hp hc A2 hA2 => ?_) (fun hh A2 h4 => ?_)
                · have g2 := hA2 2 (by omega)
                  have g3 := hA2 3 (by omega)
                  have g5 := hA2 5 (by omega)
                  have g6 := hA2 6 (by omega)
                  have g7 := hA2 7 (by omega)
                  simp [e2, e3, e5] at g2 g3 g5 g6 g7
                  simp
                  rw [← ep]
                  refine rsg_p (x := a) (y := b) (o := N1) (u := N1 + 1) hp hao g6 g7 (by simp [show N1 ≠ N1 + 1 by omega]) (by simp) (fun hph A3 hA3 => ?_) (fun hph A3 h4 => ?_)
                  · simp
                    rw [← ec]
                    refine rsg_c (x := a) (y := b) (o := N1) (u := N1 + 1) hc hao hbo ((hA3 6 (by omega)).trans g6) ((hA3 7 (by omega)).trans g7) (by simp [show N1 ≠ N1 + 1 by omega]) (by simp) (fun hcc A4 hA4 => ?_) (fun hcc A4 h4 => ?_)
                    · have k2 := (hA4 2 (by omega)).trans ((hA3 2 (by omega)).trans g2)
                      have k3 := (hA4 3 (by omega)).trans ((hA3 3 (by omega)).trans g3)
                      have k5 := (hA4 5 (by omega)).trans ((hA3 5 (by omega)).trans g5)
                      simp [k2, k3, k5]
                      refine ⟨x.blocks.length - (j + 1), by omega, j + 1, by omega, rfl, by rw [wrap_i64 (by omega) (by omega)]; rfl, (hF1.set _).set _, fun i h h2 hij => ?_⟩
                      by_cases hij2 : i = j
                      · subst hij2
                        rw [ha, hb]
                        simp [sameBlk, hph, hcc, hf, ht]
                      · exact hok i h h2 (by omega)
                    · have : B = false := bad (by simp [sameBlk, hcc])
                      simp [h4, this]
                      exact .free rfl
                  · have : B = false := bad (by simp [sameBlk, hph])
                    simp [h4, this]
                    exact .free rfl
                · have : B = false := bad hh
                  simp [h4, this]
                  exact .free rfl
          · have : B = false := by rw [hBe]; exact eqvL_len hll
            simp [a_bobbinref11_SameGraph, h1, h2, h3, h4, show ¬ ((x.blocks.length : Int) = y.blocks.length) by omega, this]
            exact .free rfl
        · have := no (fun h => h4 h.2.2.2)
          simp [a_bobbinref11_SameGraph, h1, h2, h3, h4, this]; exact .free rfl
      · have := no (fun h => h3 h.2.2.1)
        simp [a_bobbinref11_SameGraph, h1, h2, h3, this]; exact .free rfl
    · have := no (fun h => h2 h.2.1)
      have h5 : (x.thread == y.thread) = false := by simpa using h2
      simp [a_bobbinref11_SameGraph, h1, h2, h5, this]; exact .free rfl
  · have := no (fun h => h1 h.1)
    simp [a_bobbinref11_SameGraph, h1, this]; exact .free rfl

theorem p_rfSame {p q : FrmV} (hp : p.Ok) (hq : q.Ok) : PCall Tryz.prog 15 [.agg p.cells, .agg q.cells] (bl (sameFrm p q)) := by
  have hmx : maxLen = 9223372036854775807 := rfl
  have := hp.ml
  have := hp.ll
  have hfl := hp.fl
  have := hq.ml
  have := hq.ll
  refine PCall.of fun N => acallF mixed c_bobbinref11_Same (by simp) fun hF => ?_
  obtain ⟨B, hB⟩ : ∃ B, sameFrm p q = B := ⟨_, rfl⟩
  rw [hB]
  have hc1 : (⟨p.mmk, p.lk, .nil, p.mems, p.locks, []⟩ : PrgV).Cmp := ⟨by simp only; omega, by simp only; omega, by simp, by simp, by simp⟩
  have hc2 : (⟨q.mmk, q.lk, .nil, q.mems, q.locks, []⟩ : PrgV).Cmp := ⟨by simp only; omega, by simp only; omega, by simp, by simp, by simp⟩
  have hP : PCall Tryz.prog 43 [.agg [.sl p.mmk 3 (memCells p.mems), .sl p.lk 1 (lockCells p.locks), .sl .nil 0 []], .agg [.sl q.mmk 3 (memCells q.mems), .sl q.lk 1 (lockCells q.locks), .sl .nil 0 []]] (bl (eqvL memE p.mems q.mems && eqvL strE p.locks q.locks)) := by
    have h := (p_refSame hc1 hc2).nrm (args := [.agg [.sl p.mmk 3 (memCells p.mems), .sl p.lk 1 (lockCells p.locks), .sl .nil 0 []], .agg [.sl q.mmk 3 (memCells q.mems), .sl q.lk 1 (lockCells q.locks), .sl .nil 0 []]]) rfl
    have he : samePrg ⟨p.mmk, p.lk, .nil, p.mems, p.locks, []⟩ ⟨q.mmk, q.lk, .nil, q.mems, q.locks, []⟩ = (eqvL memE p.mems q.mems && eqvL strE p.locks q.locks) := by
      simp only [samePrg]
      rw [show eqvL sameFun [] [] = true from rfl, Bool.and_true]
    rw [he] at h
    exact h
  unfold a_bobbinref11_Same
  simp
  refine hP.acall ?_
  have hBe : B = ((eqvL memE p.mems q.mems && eqvL strE p.locks q.locks) && eqvL sameGr p.funs q.funs) := by rw [← hB]; simp only [sameFrm, Bool.and_assoc]
  obtain ⟨C, hC⟩ : ∃ C, (eqvL memE p.mems q.mems && eqvL strE p.locks q.locks) = C := ⟨_, rfl⟩
  rw [hC] at hBe ⊢
  cases C with
  | false =>
    rw [Bool.false_and] at hBe
    simp [hBe]
    exact .free rfl
  | true =>
    rw [Bool.true_and] at hBe
    by_cases hll : p.funs.length = q.funs.length
    · simp [hll]
      refine run_loop (fun m s => ∃ j, j ≤ p.funs.length ∧ m = p.funs.length - j ∧ s.A 2 = .ip p.cells 0 ∧ s.A 3 = .ip q.cells 0 ∧ s.A 5 = i64 j ∧ ∀ i (h : i < p.funs.length) (h2 : i < q.funs.length), i < j → sameGr p.funs[i] q.funs[i] = true) p.funs.length ?_ ?_
      · exact ⟨0, by omega, by omega, by simp, by simp, by simp, fun i _ _ hi => by omega⟩
      · rintro m A1 H1 N1 ⟨j, hj, rfl, e2, e3, e5, hok⟩
        simp only at e2 e3 e5
        by_cases hjl : j = p.funs.length
        · subst hjl
          have : B = true := by rw [hBe]; exact eqvL_iff.2 ⟨hll, fun i h h2 => hok i h h2 h⟩
          simp [a_bobbinref11_Sameb1, e2, e5, this]
          exact .free rfl
        · have hlt : j < p.funs.length := by omega
          have hlt2 : j < q.funs.length := by omega
          obtain ⟨a, ha⟩ : ∃ a, p.funs[j] = a := ⟨_, rfl⟩
          obtain ⟨b, hb⟩ : ∃ b, q.funs[j] = b := ⟨_, rfl⟩
          have hao := hp.ok a (by rw [← ha]; exact List.getElem_mem hlt)
          have hbo := hq.ok b (by rw [← hb]; exact List.getElem_mem hlt2)
          have hix : aindex 5 (.sl p.fk 5 (grCells p.funs)) (i64 j) = some (.ip a.cells 0) := aindex_sl (by omega) (by simp [grCells, hlt, ha])
          have hiy : aindex 5 (.sl q.fk 5 (grCells q.funs)) (i64 j) = some (.ip b.cells 0) := aindex_sl (by omega) (by simp [grCells, hlt2, hb])
          simp [a_bobbinref11_Sameb1, e2, e3, e5, hlt, hix, hiy]
          refine (p_refSameGraph hao hbo).acall ?_
          cases hv : sameGr a b with
          | true =>
            simp [e2, e3, e5]
            refine ⟨p.funs.length - (j + 1), by omega, j + 1, by omega, rfl, by rw [wrap_i64 (by omega) (by omega)]; rfl, fun i h h2 hij => ?_⟩
            by_cases hij2 : i = j
            · subst hij2; rw [ha, hb]; exact hv
            · exact hok i h h2 (by omega)
          | false =>
            have : B = false := by rw [hBe]; exact eqvL_bad hlt hlt2 (by rw [ha, hb]; exact hv)
            simp [this]
            exact .free rfl
    · have : B = false := by rw [hBe]; exact eqvL_len hll
      simp [show ¬ ((p.funs.length : Int) = q.funs.length) by omega, this]
      exact .free rfl
end Go.Proofs.YtcoepjbipbihfaaGreatDoor

/- flow: which instructions may be in a graph, by the program. -/
namespace Go.Proofs.YtcoepjbipbihfaaGreatDoor
set_option linter.unusedSimpArgs false
set_option linter.unusedVariables false
open Go Go.Fw
/-- A call that only makes memory: what it is handed may be told as values, and nothing is lost. -/
theorem PCall.seen {P : Program} {f : FuncId} {args args' : List AV} {x : Value} {H : AHeap} {N : Nat} {Q : AV → AHeap → Nat → Prop} (h : PCall P f args' (.lit x))
    (hl : args.length = args'.length) (hv : ∀ (i : Nat) (a b : AV), args[i]? = some a → args'[i]? = some b → a = b ∨ View H a b) (hq : Q (.lit x) H N) : ACall P f args H N Q := by
  refine ⟨h.1, fun e vs hH hN hvl hr => ?_⟩
  have hK' := hrep_still (K := noHeap) (F := H) hH (fun id o ho => by cases ho) (fun _ _ h => h) (fun id o ho => by cases ho)
  refine (h.2 (e.still H e.ρ e.N) vs ⟨hK'.imm, hK'.gl⟩ (hvl.trans hl) (fun i c v hc hv' => ?_)).mono ?_
  · have hi : i < args'.length := (List.getElem?_eq_some_iff.1 hc).1
    have ha : args[i]? = some (args[i]'(by omega)) := by simp [show i < args.length by omega]
    have hrep := hr i _ v ha hv'
    rcases hv i _ c ha hc with h1 | h1
    · rw [← h1]; exact hrep.ext ext_still
    · exact h1.rep hH hrep _ _
  · rintro y w' ⟨v, e2, rfl, rfl, hrep, hp⟩
    cases hrep
    have hp' : PTr e { w := e2.w, I := e.I, ρ := e.ρ, N := e.N } := ⟨rfl, rfl, hp.old, fun _ h => h, fun _ h => .inl h, hp.size, hp.os, hp.tape, hp.output⟩
    exact ⟨x, { w := e2.w, I := e.I, ρ := e.ρ, N := e.N }, .lit x, H, rfl, rfl, by rw [← hN] at hq; exact hq, .lit x, hp'.hrep hH, hp'.tr hH⟩
/-- All arguments are seen. -/
theorem views {H : AHeap} {xs bs : List AV} (h : ViewL H xs bs) : ∀ (i : Nat) (a b : AV), xs[i]? = some a → bs[i]? = some b → a = b ∨ View H a b := fun i a b ha hb => .inr (h.2 i a b ha hb)

theorem freeL_flat : ∀ {es : List (List AV)}, freeLL es = true → freeL es.flatten = true
  | [], _ => rfl
  | a :: r, h => by
    simp only [freeLL, Bool.and_eq_true] at h
    have app : ∀ (a b : List AV), freeL a = true → freeL b = true → freeL (a ++ b) = true := fun a b ha hb => by
      induction a with
      | nil => exact hb
      | cons c a ih => simp only [List.cons_append, freeL, Bool.and_eq_true] at ha ⊢; exact ⟨ha.1, ih ha.2⟩
    exact app _ _ h.1 (freeL_flat h.2)
theorem view_flat {H : AHeap} {o1 sz : Nat} {es : List (List AV)} (hs : ∀ x ∈ es, x.length = sz) (hf : freeLL es = true) {n : Nat} (hn : es.length = n) (ho : H o1 = some (.blk es.flatten)) : View H (.ms o1 0 n sz) (.sl .any sz es) := by
  have h := View.ms (H := H) (id := o1) (off := 0) (len := n) (sz := sz) (cs := es.flatten) (ds := es.flatten) ho (by rw [flatten_len hs, hn]; omega) rfl (fun i c d hc hd => by
    rw [hc] at hd
    cases hd
    exact .free (freeL_get (freeL_flat hf) hc))
  rw [List.drop_zero, ← hn, Go.Fw.chunks_flatten hs] at h
  rw [← hn]
  exact h
theorem Ins.fr (x : Ins) : (AV.agg x.cells).free = true := by simp [AV.free, Ins.cells, freeL, intCells_free]

theorem p_ends (op : Int) : PCall Tryz.prog 65 [u8 op] (bl (endsB op)) := by
  refine PCall.of fun N => acall mixed c_flow_ends (by simp) ?_
  by_cases h1 : op = 11
  · simp [a_flow_ends, h1, endsB]; exact .free rfl
  · by_cases h2 : op = 12
    · simp [a_flow_ends, h1, h2, endsB]; exact .free rfl
    · by_cases h3 : op = 13
      · simp [a_flow_ends, h1, h2, h3, endsB]; exact .free rfl
      · simp [a_flow_ends, h1, h2, h3, endsB]; exact .free rfl

def memZ : List AV := [str ⟨#[]⟩, i64 0, i64 0]
def lckZ : List AV := [str ⟨#[]⟩]
def nil3 : List AV := [.sl .nil 0 [], .sl .nil 0 [], .sl .nil 0 []]
def oneCode : AV := .sl .exact 6 [[u8 0, i64 0, i64 0, i64 0, i64 0, .sl .nil 0 []]]
def funs2 (regs : Int) (k : Nat) : AV := .sl .exact 5 [[str ⟨#[]⟩, bl false, i64 0, i64 regs, oneCode], [str ⟨#[]⟩, bl false, i64 k, i64 0, oneCode]]
/-- The program that is asked, in whatever row its parts were made. -/
structure OneD (o : Nat) (y : Ins) (regs : Int) (L : Nat → Bool) (A : Nat → AV) (H : AHeap) (N : Nat) : Prop where
  F : Fresh H N
  box : H o = some (.blk y.cells)
  a2 : A 2 = .mp o 0
  a38 : A 38 = .agg [str ⟨#[]⟩, bl false, i64 0, i64 regs, oneCode]
  a39 : A 39 = .mp o 5
  a42 : A 42 = oneCode
  d0 : L 0 = true → ∃ k, A 34 = .ms k 0 1 3 ∧ H k = some (.blk memZ)
  d1 : L 1 = true → ∃ k, A 35 = .ms k 0 1 1 ∧ H k = some (.blk lckZ)
  d6 : L 6 = true → A 40 = .sl y.k y.z (intCells y.args)
  d7 : L 7 = true → A 41 = i64 y.args.length
  d9 : L 9 = true → A 43 = .agg [str ⟨#[]⟩, bl false, i64 y.args.length, i64 0, oneCode]
  d10 : L 10 = true → A 44 = funs2 regs y.args.length
  d11 : L 11 = true → A 45 = .agg [A 34, A 35, A 44]
  d11a : L 11 = true → L 0 = true ∧ L 1 = true ∧ L 10 = true
  d12 : L 12 = true → ∃ k, A 6 = .mp k 0 ∧ H k = some (.blk nil3)
theorem dk {L : Nat → Bool} {a b : Nat} (h : (L a || a == b) = true) (hn : a ≠ b) : L a = true := by
  simpa [hn] using h
theorem OneD.keep {o : Nat} {y : Ins} {regs : Int} {L : Nat → Bool} {A : Nat → AV} {H H' : AHeap} {N N' : Nat} (hI : OneD o y regs L A H N) (hF : Fresh H' N') (hk : ∀ j, j < N → H' j = H j) : OneD o y regs L A H' N' where
  F := hF
  box := (hk o (hI.F.lt hI.box)).trans hI.box
  a2 := hI.a2
  a38 := hI.a38
  a39 := hI.a39
  a42 := hI.a42
  d0 := fun h => by obtain ⟨k, h1, h2⟩ := hI.d0 h; exact ⟨k, h1, (hk k (hI.F.lt h2)).trans h2⟩
  d1 := fun h => by obtain ⟨k, h1, h2⟩ := hI.d1 h; exact ⟨k, h1, (hk k (hI.F.lt h2)).trans h2⟩
  d6 := hI.d6
  d7 := hI.d7
  d9 := hI.d9
  d10 := hI.d10
  d11 := hI.d11
  d11a := hI.d11a
  d12 := fun h => by obtain ⟨k, h1, h2⟩ := hI.d12 h; exact ⟨k, h1, (hk k (hI.F.lt h2)).trans h2⟩
theorem OneD.put {o : Nat} {y : Ins} {regs : Int} {L : Nat → Bool} {A : Nat → AV} {H : AHeap} {N : Nat} (hI : OneD o y regs L A H N) {t k : Nat} {v : AV}
    (hp : (k = 0 ∧ t = 34) ∨ (k = 1 ∧ t = 35) ∨ (k = 6 ∧ t = 40) ∨ (k = 7 ∧ t = 41) ∨ (k = 9 ∧ t = 43) ∨ (k = 10 ∧ t = 44) ∨ (k = 11 ∧ t = 45) ∨ (k = 12 ∧ t = 6)) (hL : L k = false)
    (h0 : k = 0 → ∃ i, v = .ms i 0 1 3 ∧ H i = some (.blk memZ)) (h1 : k = 1 → ∃ i, v = .ms i 0 1 1 ∧ H i = some (.blk lckZ)) (h6 : k = 6 → v = .sl y.k y.z (intCells y.args)) (h7 : k = 7 → v = i64 y.args.length)
    (h9 : k = 9 → v = .agg [str ⟨#[]⟩, bl false, i64 y.args.length, i64 0, oneCode]) (h10 : k = 10 → v = funs2 regs y.args.length) (h11 : k = 11 → v = .agg [A 34, A 35, A 44] ∧ L 0 = true ∧ L 1 = true ∧ L 10 = true) (h12 : k = 12 → ∃ i, v = .mp i 0 ∧ H i = some (.blk nil3)) :
    OneD o y regs (fun j => L j || j == k) (upA A t v) H N := by
  rcases hp with ⟨hk0, ht0⟩ | ⟨hk0, ht0⟩ | ⟨hk0, ht0⟩ | ⟨hk0, ht0⟩ | ⟨hk0, ht0⟩ | ⟨hk0, ht0⟩ | ⟨hk0, ht0⟩ | ⟨hk0, ht0⟩
  all_goals
    have hne : ∀ s, s ≠ 34 → s ≠ 35 → s ≠ 40 → s ≠ 41 → s ≠ 43 → s ≠ 44 → s ≠ 45 → s ≠ 6 → upA A t v s = A s := fun s _ _ _ _ _ _ _ _ => by rw [upA_at, if_neg (by omega)]
    have up : ∀ s, s ≠ t → upA A t v s = A s := fun s hs => by rw [upA_at, if_neg hs]
    have self : upA A t v t = v := by rw [upA_at, if_pos rfl]
    have h11n : L 11 = true → k ≠ 0 ∧ k ≠ 1 ∧ k ≠ 10 := fun h => by
      obtain ⟨a, b, c⟩ := hI.d11a h
      refine ⟨fun hk => ?_, fun hk => ?_, fun hk => ?_⟩
      · first | omega | (rw [← hk, hL] at a; cases a)
      · first | omega | (rw [← hk, hL] at b; cases b)
      · first | omega | (rw [← hk, hL] at c; cases c)
    refine ⟨hI.F, hI.box, (hne 2 (by omega) (by omega) (by omega) (by omega) (by omega) (by omega) (by omega) (by omega)).trans hI.a2, (hne 38 (by omega) (by omega) (by omega) (by omega) (by omega) (by omega) (by omega) (by omega)).trans hI.a38,
      (hne 39 (by omega) (by omega) (by omega) (by omega) (by omega) (by omega) (by omega) (by omega)).trans hI.a39, (hne 42 (by omega) (by omega) (by omega) (by omega) (by omega) (by omega) (by omega) (by omega)).trans hI.a42,
      fun h => ?_, fun h => ?_, fun h => ?_, fun h => ?_, fun h => ?_, fun h => ?_, fun h => ?_, fun h => ?_, fun h => ?_⟩
    · by_cases hk : k = 0
      · rw [show (34 : Nat) = t by omega, self]; exact h0 hk
      · rw [up 34 (by omega)]; exact hI.d0 (dk h (by omega))
    · by_cases hk : k = 1
      · rw [show (35 : Nat) = t by omega, self]; exact h1 hk
      · rw [up 35 (by omega)]; exact hI.d1 (dk h (by omega))
    · by_cases hk : k = 6
      · rw [show (40 : Nat) = t by omega, self]; exact h6 hk
      · rw [up 40 (by omega)]; exact hI.d6 (dk h (by omega))
    · by_cases hk : k = 7
      · rw [show (41 : Nat) = t by omega, self]; exact h7 hk
      · rw [up 41 (by omega)]; exact hI.d7 (dk h (by omega))
    · by_cases hk : k = 9
      · rw [show (43 : Nat) = t by omega, self]; exact h9 hk
      · rw [up 43 (by omega)]; exact hI.d9 (dk h (by omega))
    · by_cases hk : k = 10
      · rw [show (44 : Nat) = t by omega, self]; exact h10 hk
      · rw [up 44 (by omega)]; exact hI.d10 (dk h (by omega))
    · by_cases hk : k = 11
      · have ht : t = 45 := by omega
        rw [up 34 (by omega), up 35 (by omega), up 44 (by omega), show (45 : Nat) = t by omega, self]; exact (h11 hk).1
      · have hl := dk h (by omega)
        obtain ⟨n0, n1, n10⟩ := h11n hl
        rw [up 34 (by omega), up 35 (by omega), up 44 (by omega), up 45 (by omega)]; exact hI.d11 hl
    · by_cases hk : k = 11
      · obtain ⟨_, a, b, c⟩ := h11 hk
        simp [a, b, c]
      · obtain ⟨a, b, c⟩ := hI.d11a (dk h (by omega))
        simp [a, b, c]
    · by_cases hk : k = 12
      · rw [show (6 : Nat) = t by omega, self]; exact h12 hk
      · rw [up 6 (by omega)]; exact hI.d12 (dk h (by omega))

theorem mi_rest {y : Ins} {regs : Int} {A : Nat → AV} {H : AHeap} {N o : Nat} {B : Bool} (hy : y.Ok) (hl : y.args.length ≤ 8) (hB : mayB (onePrg regs y.args.length) (oneFun regs) y = B) (hF : Fresh H N)
    (h1 : A 1 = i64 regs) (h2 : A 2 = .mp o 0) (ho : H o = some (.blk y.cells)) :
    run Tryz.prog a_mi_rest [] (fin [.tmp 4] fun r' H' x => View H' r' (bl B)) ⟨A, H, N⟩ := by
  have hlen : alen 1 (.sl y.k y.z (intCells y.args)) = some (y.args.length : Int) := by simp [alen, intCells_len]
  simp [a_mi_rest, h1, h2]
  refine run_draw (fun L s => OneD o y regs L s.A s.H s.N) ?_ ?_ ?_
  · refine ⟨hF, ho, ?_, ?_, ?_, ?_, (fun h => by cases h), (fun h => by cases h), (fun h => by cases h), (fun h => by cases h), (fun h => by cases h), (fun h => by cases h), (fun h => by cases h), (fun h => by cases h), (fun h => by cases h)⟩ <;> simp [h2, oneCode]
  · rintro x hx L A1 H1 N1 ⟨hd1, hd2, hd3⟩ hI
    replace hI : OneD o y regs L A1 H1 N1 := hI
    simp only [List.mem_cons, List.not_mem_nil, or_false] at hx
    have hnone : H1 N1 = none := hI.F N1 (Nat.le_refl _)
    have hold : ∀ (x : AObj) j, j < N1 → (H1.set N1 x) j = H1 j := fun x j hj => by simp only [AHeap.set]; rw [if_neg (by omega)]
    rcases hx with rfl | rfl | rfl | rfl | rfl | rfl | rfl | rfl
    · simp [amake]
      refine (hI.keep (hI.F.set _) (hold _)).put (k := 0) (t := 34) (by omega) hd1 ?_ ?_ ?_ ?_ ?_ ?_ ?_ ?_ <;> intro hk <;> first | omega | exact ⟨N1, rfl, by simp [memZ]⟩
    · simp [amake]
      refine (hI.keep (hI.F.set _) (hold _)).put (k := 1) (t := 35) (by omega) hd1 ?_ ?_ ?_ ?_ ?_ ?_ ?_ ?_ <;> intro hk <;> first | omega | exact ⟨N1, rfl, by simp [lckZ]⟩
    · simp [hI.a39, hI.box]
      refine hI.put (k := 6) (t := 40) (by omega) hd1 ?_ ?_ ?_ ?_ ?_ ?_ ?_ ?_ <;> intro hk <;> first | omega | rfl
    · have e40 := hI.d6 (hd2 6 (by simp))
      simp [e40, intCells_len]
      refine hI.put (k := 7) (t := 41) (by omega) hd1 ?_ ?_ ?_ ?_ ?_ ?_ ?_ ?_ <;> intro hk <;> first | omega | rfl
    · have e41 := hI.d7 (hd2 7 (by simp))
      simp [e41, hI.a42, oneCode]
      refine hI.put (k := 9) (t := 43) (by omega) hd1 ?_ ?_ ?_ ?_ ?_ ?_ ?_ ?_ <;> intro hk <;> first | omega | rfl
    · have e43 := hI.d9 (hd2 9 (by simp))
      simp [e43, hI.a38]
      refine hI.put (k := 10) (t := 44) (by omega) hd1 ?_ ?_ ?_ ?_ ?_ ?_ ?_ ?_ <;> intro hk <;> first | omega | rfl
    · have l0 := hd2 0 (by simp)
      have l1 := hd2 1 (by simp)
      have l10 := hd2 10 (by simp)
      obtain ⟨k0, e34, _⟩ := hI.d0 l0
      obtain ⟨k1, e35, _⟩ := hI.d1 l1
      have e44 := hI.d10 l10
      simp [e34, e35, e44, funs2]
      refine hI.put (k := 11) (t := 45) (by omega) hd1 ?_ ?_ ?_ ?_ ?_ ?_ ?_ ?_ <;> intro hk <;> first | omega | exact ⟨by rw [e34, e35, e44]; rfl, l0, l1, l10⟩
    · simp
      refine (hI.keep (hI.F.set _) (hold _)).put (k := 12) (t := 6) (by omega) hd1 ?_ ?_ ?_ ?_ ?_ ?_ ?_ ?_ <;> intro hk <;> first | omega | exact ⟨N1, rfl, by simp [nil3]⟩
  · intro L A1 H1 N1 hall hI
    replace hI : OneD o y regs L A1 H1 N1 := hI
    simp only [List.mem_cons, forall_eq_or_imp] at hall
    obtain ⟨l0, l1, l6, l7, l9, l10, l11, l12, _⟩ := hall
    obtain ⟨k0, e34, m0⟩ := hI.d0 l0
    obtain ⟨k1, e35, m1⟩ := hI.d1 l1
    obtain ⟨k2, e6, m2⟩ := hI.d12 l12
    have e44 := hI.d10 l10
    have e45 := hI.d11 l11
    rw [e34, e35, e44] at e45
    have n0 : k0 ≠ k2 := fun h => by subst h; rw [m0] at m2; cases m2
    have n1 : k1 ≠ k2 := fun h => by subst h; rw [m1] at m2; cases m2
    have no : o ≠ k2 := fun h => by subst h; rw [hI.box] at m2; cases m2
    have hs : splice 0 [AV.ms k0 0 1 3, AV.ms k1 0 1 1, funs2 regs y.args.length] nil3 = [AV.ms k0 0 1 3, AV.ms k1 0 1 1, funs2 regs y.args.length] := rfl
    simp [e6, e45, m2, hI.a2, hI.box, no, hs, nil3]
    have hP := p_MayIns (p := ⟨.any, .any, .exact, [⟨emp, 0, 0⟩], [emp], [⟨emp, false, 0, regs, .exact, [zIns]⟩, ⟨emp, false, y.args.length, 0, .exact, [zIns]⟩]⟩) (n := 0) hy (by omega)
    have hans : (within 0 (2 : Nat) && mayB ⟨.any, .any, .exact, [⟨emp, 0, 0⟩], [emp], [⟨emp, false, 0, regs, .exact, [zIns]⟩, ⟨emp, false, y.args.length, 0, .exact, [zIns]⟩]⟩ ⟨emp, false, 0, regs, .exact, [zIns]⟩ y) = B := by
      rw [show within 0 ((2 : Nat) : Int) = true from rfl, Bool.true_and, ← hB]
      exact mayB_congr rfl rfl rfl rfl rfl
    have hP2 : PCall Tryz.prog 37 [.agg [.sl .any 3 [memZ], .sl .any 1 [lckZ], funs2 regs y.args.length], i64 0, .agg y.cells] (bl B) := by
      rw [← hans]
      exact hP
    refine PCall.seen hP2 rfl (views (.cons (.agg' (.cons (view_flat (es := [memZ]) (by simp [memZ]) rfl rfl ?_) (.cons (view_flat (es := [lckZ]) (by simp [lckZ]) rfl rfl ?_) (.cons (.free rfl) .nil)))) (.cons (.free rfl) (.cons (.free y.fr) .nil)))) ?_
    · simp only [AHeap.set]; rw [if_neg n0]; exact m0
    · simp only [AHeap.set]; rw [if_neg n1]; exact m1
    · simp
      exact .free rfl
theorem p_mayInsF {x : Ins} {regs : Int} (hx : x.Ok) : PCall Tryz.prog 64 [.agg x.cells, i64 regs] (bl (insB regs x)) := by
  refine PCall.of fun N => acallF mixed c_flow_mayIns (by simp) fun hF => ?_
  by_cases h0 : (x.n < 0 ∧ ¬ x.op = 1) ∨ 8 < x.args.length
  · have hB : insB regs x = false := by unfold insB; rw [decide_eq_true h0]; rfl
    rw [hB]
    by_cases h1 : x.n < 0
    · by_cases h2 : x.op = 1
      · have h8 : 8 < x.args.length := by omega
        have h8' : (8 : Int) < x.args.length := by omega
        simp [a_flow_mayIns, h1, h2, intCells_len, h8']
        exact .free rfl
      · simp [a_flow_mayIns, h1, h2]
        exact .free rfl
    · have h8' : (8 : Int) < x.args.length := by omega
      simp [a_flow_mayIns, h1, intCells_len, h8']
      exact .free rfl
  · have hB : insB regs x = mayB (onePrg regs x.args.length) (oneFun regs) (nAsk x) := by unfold insB; rw [decide_eq_false h0]; simp
    rw [hB]
    have hyo : (nAsk x).Ok := ⟨hx.op0, hx.op1, hx.len, hx.hz⟩
    have h8 : ¬ (8 : Int) < x.args.length := by omega
    have h8' : (nAsk x).args.length ≤ 8 := by show x.args.length ≤ 8; omega
    have key : ∀ (A : Nat → AV) (H : AHeap) (y : Ins), nAsk x = y → Fresh H (N + 1) → A 1 = i64 regs → A 2 = .mp N 0 → H N = some (.blk y.cells) → run Tryz.prog a_mi_rest [] (fin [.tmp 4] fun r' H' z => View H' r' (bl (mayB (onePrg regs x.args.length) (oneFun regs) (nAsk x)))) ⟨A, H, N + 1⟩ := fun A H y hy hF1 h1 h2 h3 => by
      subst hy
      exact mi_rest hyo h8' rfl hF1 h1 h2 h3
    unfold a_flow_mayIns
    obtain ⟨_, er⟩ : ∃ c, a_mi_rest = c := ⟨_, rfl⟩
    rw [er]
    have fin1 : ∀ (cs : List AV), Fresh (noHeap.set N (.blk cs)) (N + 1) := fun cs => hF.set _
    have q1 : (x.op = 5 ∨ x.op = 6 ∨ x.op = 7 ∨ x.op = 8) ∨ x.op = 10 ∨ ¬ (x.op = 5 ∨ x.op = 6 ∨ x.op = 7 ∨ x.op = 8 ∨ x.op = 10) := by omega
    have hnb : x.n < 0 → x.op = 1 := fun h => by
      by_cases h1 : x.op = 1
      · exact h1
      · exact absurd (.inl ⟨h, h1⟩) h0
    rcases q1 with hop | hop | hop
    · have hn : ¬ x.n < 0 := fun h => by have := hnb h; omega
      have hna : nAsk x = {x with n := 0} := by unfold nAsk; rw [if_pos hop]
      rcases hop with hop | hop | hop | hop <;>
      · simp [hn, hop, intCells_len, h8, splice_one]
        rw [← er]
        refine key _ _ {x with n := 0} hna ?_ ?_ ?_ ?_ <;> simp [fin1, Ins.cells, hop]
    · have hn : ¬ x.n < 0 ∨ x.n < 0 := by omega
      have hn : ¬ x.n < 0 := fun h => by have := hnb h; omega
      have hna : nAsk x = {x with n := 1} := by unfold nAsk; rw [if_neg (by omega), if_pos hop]
      simp [hn, hop, intCells_len, h8, splice_one]
      rw [← er]
      refine key _ _ {x with n := 1} hna ?_ ?_ ?_ ?_ <;> simp [fin1, Ins.cells, hop]
    · have hna : nAsk x = x := by unfold nAsk; rw [if_neg (by omega), if_neg (by omega)]
      by_cases hn : x.n < 0
      · have h1 := hnb hn
        simp [hn, h1, intCells_len, h8, splice_one]
        rw [← er]
        refine key _ _ x hna ?_ ?_ ?_ ?_ <;> simp [fin1]
      · simp [hn, show ¬ x.op = 5 by omega, show ¬ x.op = 6 by omega, show ¬ x.op = 7 by omega, show ¬ x.op = 8 by omega, show ¬ x.op = 10 by omega, intCells_len, h8, splice_one]
        rw [← er]
        refine key _ _ x hna ?_ ?_ ?_ ?_ <;> simp [fin1]
end Go.Proofs.YtcoepjbipbihfaaGreatDoor
