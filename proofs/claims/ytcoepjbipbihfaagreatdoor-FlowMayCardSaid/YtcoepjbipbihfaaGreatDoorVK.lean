/- flow: the law FlowMay. -/
import Derived.Test.YtcoepjbipbihfaaGreatDoorVZ
import Derived.Test.YtcoepjbipbihfaaGreatDoorKL
import Derived.Test.YtcoepjbipbihfaaGreatDoorVA
namespace Go.Proofs.YtcoepjbipbihfaaGreatDoor
set_option linter.unusedSimpArgs false
set_option linter.unusedVariables false
open Go Go.Fw

section
variable {b : BlkV} {o : Nat} {n : Int} {A : Nat → AV} {H : AHeap} {N : Nat} {fs : List Fr} {Q : Post}
theorem large_p (hb : b.Ok) (hn0 : 0 ≤ n) (hn1 : n ≤ 1125899906842624) (h3 : A 3 = i64 n) (h5 : A 5 = .mp o 0) (ho : H o = some (.blk b.cells)) (h6 : A 6 = i64 0)
    (hk : ∀ A' n', n ≤ n' → n' ≤ 1125899906842624 → A' 1 = A 1 → A' 4 = A 4 → A' 5 = A 5 → A' 3 = i64 n' → onward Tryz.prog fs Q (.exit 2) ⟨A', H, N⟩) : run Tryz.prog (.loop a_bobbinlaw11_largeb2) fs Q ⟨A, H, N⟩ := by
  have hpl := hb.pl
  refine run_loop (fun m s => ∃ (j : Nat) (n' : Int), n ≤ n' ∧ n' ≤ 1125899906842624 ∧ j ≤ b.phis.length ∧ m = b.phis.length - j ∧ s.A 1 = A 1 ∧ s.A 4 = A 4 ∧ s.A 5 = .mp o 0 ∧ s.A 3 = i64 n' ∧ s.A 6 = i64 j ∧ s.H = H ∧ s.N = N) b.phis.length ?_ ?_
  · exact ⟨0, n, by omega, by omega, by omega, by omega, rfl, rfl, h5, h3, h6, rfl, rfl⟩
  · rintro m A1 H1 N1 ⟨j, n', hg1, hg2, hj, rfl, e1, e4, e5, e3, e6, eH, eN⟩
    simp only at e1 e4 e5 e3 e6 eH eN
    subst eH; subst eN
    have hw : IntKind.i64.wrap ((j : Int) + 1) = ((j + 1 : Nat) : Int) := by
      by_cases hl : j ≤ b.phis.length
      · rw [wrap_i64 (by omega) (by omega)]; rfl
      · omega
    by_cases hje : j = b.phis.length
    · simp [a_bobbinlaw11_largeb2, e3, e5, e6, ho, hje]
      exact hk _ n' hg1 hg2 (by simp [e1]) (by simp [e4]) (by simp [e5, h5]) (by simp [e3])
    · have hlt : j < b.phis.length := by omega
      by_cases hn : n' < 1500
      · obtain ⟨p, hp⟩ : ∃ p, b.phis[j] = p := ⟨_, rfl⟩
        have hpa := (hb.ph p (by rw [← hp]; exact List.getElem_mem hlt)).al
        have hix : aindex 2 (.sl b.pk 2 (phiCells b.phis)) (i64 (j : Nat)) = some (.ip p.cells 0) := aindex_sl (by omega) (by simp [phiCells, hlt, hp])
        have hw1 : IntKind.i64.wrap (n' + 1) = n' + 1 := by rw [wrap_i64 (by omega) (by omega)]
        have hw2 : IntKind.i64.wrap (n' + 1 + (p.args.length : Int)) = n' + 1 + p.args.length := by rw [wrap_i64 (by omega) (by omega)]
        simp [a_bobbinlaw11_largeb2, e1, e4, e3, e5, e6, ho, hlt, hn, hix, intCells_len, hw1, hw2, hw]
        exact ⟨b.phis.length - (j + 1), by omega, j + 1, _, by omega, by omega, by omega, rfl, rfl, rfl⟩
      · simp [a_bobbinlaw11_largeb2, e3, e5, e6, ho, hlt, hn]
        exact hk _ n' hg1 hg2 (by simp [e1]) (by simp [e4]) (by simp [e5, h5]) (by simp [e3])

theorem large_c (hb : b.Ok) (hn0 : 0 ≤ n) (hn1 : n ≤ 1125899906842624) (h3 : A 3 = i64 n) (h5 : A 5 = .mp o 0) (ho : H o = some (.blk b.cells)) (h7 : A 7 = i64 0)
    (hk : ∀ A' n', n ≤ n' → n' ≤ 1125899906842624 → (n' < 1500 → ∀ x ∈ b.code, x.args.length ≤ 1500) → A' 1 = A 1 → A' 4 = A 4 → A' 3 = i64 n' → onward Tryz.prog fs Q (.exit 4) ⟨A', H, N⟩) : run Tryz.prog (.loop a_bobbinlaw11_largeb1) fs Q ⟨A, H, N⟩ := by
  have hcl := hb.cl
  refine run_loop (fun m s => ∃ (j : Nat) (n' : Int), n ≤ n' ∧ n' ≤ 1125899906842624 ∧ j ≤ b.code.length ∧ m = b.code.length - j ∧ s.A 1 = A 1 ∧ s.A 4 = A 4 ∧ s.A 5 = .mp o 0 ∧ s.A 3 = i64 n' ∧ s.A 7 = i64 j ∧ s.H = H ∧ s.N = N ∧ (n' < 1500 → ∀ i (hi : i < b.code.length), i < j → b.code[i].args.length ≤ 1500)) b.code.length ?_ ?_
  · exact ⟨0, n, by omega, by omega, by omega, by omega, rfl, rfl, h5, h3, h7, rfl, rfl, fun _ i _ h => by omega⟩
  · rintro m A1 H1 N1 ⟨j, n', hg1, hg2, hj, rfl, e1, e4, e5, e3, e7, eH, eN, hsm⟩
    simp only at e1 e4 e5 e3 e7 eH eN
    subst eH; subst eN
    have hw : IntKind.i64.wrap ((j : Int) + 1) = ((j + 1 : Nat) : Int) := by rw [wrap_i64 (by omega) (by omega)]; rfl
    by_cases hje : j = b.code.length
    · simp [a_bobbinlaw11_largeb1, e3, e5, e7, ho, hje]
      refine hk _ n' hg1 hg2 (fun hn x hx => ?_) (by simp [e1]) (by simp [e4]) (by simp [e3])
      obtain ⟨i, hi, rfl⟩ := List.getElem_of_mem hx
      exact hsm hn i hi (by omega)
    · have hlt : j < b.code.length := by omega
      by_cases hn : n' < 1500
      · obtain ⟨x, hx⟩ : ∃ x, b.code[j] = x := ⟨_, rfl⟩
        have hxa := (hb.al x (by rw [← hx]; exact List.getElem_mem hlt)).2
        have hix : aindex 6 (.sl b.ck 6 (codeCells b.code)) (i64 (j : Nat)) = some (.ip x.cells 0) := aindex_sl (by omega) (by simp [codeCells, hlt, hx])
        have hw1 : IntKind.i64.wrap (n' + (x.args.length : Int)) = n' + x.args.length := by rw [wrap_i64 (by omega) (by omega)]
        simp [a_bobbinlaw11_largeb1, e1, e4, e3, e5, e7, ho, hlt, hn, hix, intCells_len, hw1, hw]
        refine ⟨b.code.length - (j + 1), by omega, j + 1, n' + x.args.length, by omega, by omega, by omega, rfl, rfl, rfl, fun hn2 i hi hij => ?_⟩
        by_cases hij2 : i = j
        · subst hij2; rw [hx]; omega
        · exact hsm hn i hi (by omega)
      · simp [a_bobbinlaw11_largeb1, e3, e5, e7, ho, hlt, hn]
        exact hk _ n' hg1 hg2 (fun h => absurd h hn) (by simp [e1]) (by simp [e4]) (by simp [e3])
end

theorem a_large11 {g : GrV} (hg : g.Ok) (H : AHeap) (N : Nat) : ACall Tryz.prog 7 [.agg g.cells] H N (fun r _ _ => ∃ b, r = bl b ∧ (b = false → FewG g)) := by
  have hbl := hg.bl
  refine acall mixed c_bobbinlaw11_large (by simp) ?_
  unfold a_bobbinlaw11_large
  obtain ⟨_, e3⟩ : ∃ c, a_bobbinlaw11_largeb3 = c := ⟨_, rfl⟩
  rw [e3]
  simp
  rw [← e3]
  refine run_loop (fun m s => ∃ (j : Nat) (n : Int), 0 ≤ n ∧ n ≤ 1125899906842624 ∧ j ≤ g.blocks.length ∧ m = g.blocks.length - j ∧ s.A 1 = .ip g.cells 0 ∧ s.A 3 = i64 n ∧ s.A 4 = i64 j ∧ (n < 1500 → ∀ i (hi : i < g.blocks.length), i < j → ∀ x ∈ g.blocks[i].code, x.args.length ≤ 1500)) g.blocks.length ?_ ?_
  · exact ⟨0, 0, by omega, by omega, by omega, by omega, by simp, by simp, by simp, fun _ i _ h => by omega⟩
  · rintro m A1 H1 N1 ⟨j, n, hn0, hn1, hj, rfl, e1, e3', e4, hsm⟩
    simp only at e1 e3' e4
    have hw : IntKind.i64.wrap ((j : Int) + 1) = ((j + 1 : Nat) : Int) := by rw [wrap_i64 (by omega) (by omega)]; rfl
    by_cases hje : j = g.blocks.length
    · by_cases hn : 1500 ≤ n
      · simp [a_bobbinlaw11_largeb3, e1, e3', e4, hje, hn]
      · simp [a_bobbinlaw11_largeb3, e1, e3', e4, hje, hn]
        intro b hb x hx
        obtain ⟨i, hi, rfl⟩ := List.getElem_of_mem hb
        exact hsm (by omega) i hi (by omega) x hx
    · have hlt : j < g.blocks.length := by omega
      by_cases hn : n < 1500
      · obtain ⟨b, hb⟩ : ∃ b, g.blocks[j] = b := ⟨_, rfl⟩
        have hbo := hg.ok b (by rw [← hb]; exact List.getElem_mem hlt)
        have := hbo.gl
        have := hbo.tl
        have := hbo.cl
        have hix : aindex 4 (.sl g.k 4 (blkCells g.blocks)) (i64 (j : Nat)) = some (.ip b.cells 0) := aindex_sl (by omega) (by simp [blkCells, hlt, hb])
        have hsx : splice 0 b.cells [AV.sl .nil 0 [], AV.sl .nil 0 [], AV.sl .nil 0 [], AV.sl .nil 0 []] = b.cells := splice_full (by simp)
        have hw1 : IntKind.i64.wrap (n + 2) = n + 2 := by rw [wrap_i64 (by omega) (by omega)]
        have hw2 : IntKind.i64.wrap (n + 2 + (b.fro.length : Int)) = n + 2 + b.fro.length := by rw [wrap_i64 (by omega) (by omega)]
        have hw3 : IntKind.i64.wrap (n + 2 + (b.fro.length : Int) + (b.to.length : Int)) = n + 2 + b.fro.length + b.to.length := by rw [wrap_i64 (by omega) (by omega)]
        have hw4 : IntKind.i64.wrap (n + 2 + (b.fro.length : Int) + (b.to.length : Int) + (b.code.length : Int)) = n + 2 + b.fro.length + b.to.length + b.code.length := by rw [wrap_i64 (by omega) (by omega)]
        unfold a_bobbinlaw11_largeb3
        obtain ⟨_, f1⟩ : ∃ c, a_bobbinlaw11_largeb1 = c := ⟨_, rfl⟩
        rw [f1]
        obtain ⟨_, f2⟩ : ∃ c, a_bobbinlaw11_largeb2 = c := ⟨_, rfl⟩
        rw [f2]
        simp [e1, e3', e4, hlt, hn, hix, hsx, intCells_len, hw1, hw2, hw3, hw4]
        rw [← f2]
        refine large_p (b := b) (o := N1) (n := n + 2 + b.fro.length + b.to.length + b.code.length) hbo (by omega) (by omega) (by simp) (by simp) (by simp) (by simp) (fun A2 n2 q1 q2 g1 g4 g5 g3 => ?_)
        simp [e1, e4] at g1 g4 g5
        simp
        rw [← f1]
        refine large_c (b := b) (o := N1) (n := n2) hbo (by omega) (by omega) (by simp [g3]) (by simp [g5]) (by simp) (by simp) (fun A3 n3 q3 q4 hs3 k1 k4 k3 => ?_)
        simp [g1, g4] at k1 k4
        simp [k1, k4, k3, hw]
        refine ⟨g.blocks.length - (j + 1), by omega, j + 1, n3, by omega, by omega, by omega, rfl, rfl, rfl, fun hn3 i hi hij => ?_⟩
        by_cases hij2 : i = j
        · subst hij2; rw [hb]; exact hs3 hn3
        · exact hsm (by omega) i hi (by omega)
      · simp [a_bobbinlaw11_largeb3, e1, e3', e4, hlt, hn, show (1500 : Int) ≤ n by omega]

theorem eqvL_refl {α : Type} {r : α → α → Bool} (h : ∀ x, r x x = true) (l : List α) : eqvL r l l = true := eqvL_iff.2 ⟨rfl, fun i _ _ => h _⟩
theorem sameBlk_refl (x : BlkV) : sameBlk x x = true := by
  unfold sameBlk
  rw [eqvL_refl (r := samePhi) (fun p => by simp [samePhi]), eqvL_refl (r := sameIns) (fun p => by simp [sameIns])]
  simp
theorem sameGr_refl (x : GrV) : sameGr x x = true := by
  unfold sameGr
  rw [eqvL_refl (r := sameBlk) sameBlk_refl]
  simp

section
variable {f : FrmV} {A : Nat → AV} {H : AHeap} {N : Nat} {fs : List Fr} {Q : Post}
theorem law_b3 (hf : f.Ok) (h2 : A 2 = .ip f.cells 0) (h5 : A 5 = i64 0)
    (hk : (∀ g ∈ f.funs, FewG g) → ∀ A' H' N', A' 2 = A 2 → A' 3 = A 3 → onward Tryz.prog fs Q (.exit 0) ⟨A', H', N'⟩)
    (hr : ∀ A' H' N', A' 4 = bl true → onward Tryz.prog fs Q .ret ⟨A', H', N'⟩) : run Tryz.prog (.loop a_bobbinlaw11_FlowMayb3) fs Q ⟨A, H, N⟩ := by
  have hfl := hf.fl
  refine run_loop (fun m s => ∃ j, j ≤ f.funs.length ∧ m = f.funs.length - j ∧ s.A 2 = .ip f.cells 0 ∧ s.A 3 = A 3 ∧ s.A 5 = i64 j ∧ ∀ i (hi : i < f.funs.length), i < j → FewG f.funs[i]) f.funs.length ?_ ?_
  · exact ⟨0, by omega, by omega, h2, rfl, h5, fun i _ h => by omega⟩
  · rintro m A1 H1 N1 ⟨j, hj, rfl, e2, e3, e5, hok⟩
    simp only at e2 e3 e5
    have hw : IntKind.i64.wrap ((j : Int) + 1) = ((j + 1 : Nat) : Int) := by rw [wrap_i64 (by omega) (by omega)]; rfl
    by_cases hje : j = f.funs.length
    · subst hje
      simp [a_bobbinlaw11_FlowMayb3, e2, e5]
      refine hk (fun g hg => ?_) _ _ _ (by simp [e2, h2]) (by simp [e3])
      obtain ⟨i, hi, rfl⟩ := List.getElem_of_mem hg
      exact hok i hi hi
    · have hlt : j < f.funs.length := by omega
      obtain ⟨g, hg⟩ : ∃ g, f.funs[j] = g := ⟨_, rfl⟩
      have hgo := hf.ok g (by rw [← hg]; exact List.getElem_mem hlt)
      have hix : aindex 5 (.sl f.fk 5 (grCells f.funs)) (i64 (j : Nat)) = some (.ip g.cells 0) := aindex_sl (by omega) (by simp [grCells, hlt, hg])
      simp [a_bobbinlaw11_FlowMayb3, e2, e5, hlt, hix]
      refine (a_large11 hgo H1 N1).mono ?_
      rintro r H2 N2 ⟨c, rfl, hc⟩
      cases c with
      | true =>
        simp
        exact hr _ _ _ (by simp)
      | false =>
        simp [e2, e3, e5, hw]
        refine ⟨f.funs.length - (j + 1), by omega, j + 1, by omega, rfl, rfl, fun i hi hij => ?_⟩
        by_cases hij2 : i = j
        · subst hij2; rw [hg]; exact hc rfl
        · exact hok i hi (by omega)
theorem law_b2 (hf : f.Ok) (h3 : A 3 = .ip f.cells 0) (h6 : A 6 = i64 0)
    (hk : (∀ g ∈ f.funs, FewG g) → ∀ A' H' N', A' 2 = A 2 → A' 3 = A 3 → onward Tryz.prog fs Q (.exit 2) ⟨A', H', N'⟩)
    (hr : ∀ A' H' N', A' 4 = bl true → onward Tryz.prog fs Q .ret ⟨A', H', N'⟩) : run Tryz.prog (.loop a_bobbinlaw11_FlowMayb2) fs Q ⟨A, H, N⟩ := by
  have hfl := hf.fl
  refine run_loop (fun m s => ∃ j, j ≤ f.funs.length ∧ m = f.funs.length - j ∧ s.A 3 = .ip f.cells 0 ∧ s.A 2 = A 2 ∧ s.A 6 = i64 j ∧ ∀ i (hi : i < f.funs.length), i < j → FewG f.funs[i]) f.funs.length ?_ ?_
  · exact ⟨0, by omega, by omega, h3, rfl, h6, fun i _ h => by omega⟩
  · rintro m A1 H1 N1 ⟨j, hj, rfl, e3, e2, e6, hok⟩
    simp only at e2 e3 e6
    have hw : IntKind.i64.wrap ((j : Int) + 1) = ((j + 1 : Nat) : Int) := by rw [wrap_i64 (by omega) (by omega)]; rfl
    by_cases hje : j = f.funs.length
    · subst hje
      simp [a_bobbinlaw11_FlowMayb2, e3, e6]
      refine hk (fun g hg => ?_) _ _ _ (by simp [e2]) (by simp [e3, h3])
      obtain ⟨i, hi, rfl⟩ := List.getElem_of_mem hg
      exact hok i hi hi
    · have hlt : j < f.funs.length := by omega
      obtain ⟨g, hg⟩ : ∃ g, f.funs[j] = g := ⟨_, rfl⟩
      have hgo := hf.ok g (by rw [← hg]; exact List.getElem_mem hlt)
      have hix : aindex 5 (.sl f.fk 5 (grCells f.funs)) (i64 (j : Nat)) = some (.ip g.cells 0) := aindex_sl (by omega) (by simp [grCells, hlt, hg])
      simp [a_bobbinlaw11_FlowMayb2, e3, e6, hlt, hix]
      refine (a_large11 hgo H1 N1).mono ?_
      rintro r H2 N2 ⟨c, rfl, hc⟩
      cases c with
      | true =>
        simp
        exact hr _ _ _ (by simp)
      | false =>
        simp [e2, e3, e6, hw]
        refine ⟨f.funs.length - (j + 1), by omega, j + 1, by omega, rfl, rfl, fun i hi hij => ?_⟩
        by_cases hij2 : i = j
        · subst hij2; rw [hg]; exact hc rfl
        · exact hok i hi (by omega)
theorem law_b1 {q : FrmV} (hf : f.Ok) (hq : q.Ok) (hfew : ∀ g ∈ f.funs, FewG g) (h2 : A 2 = .ip f.cells 0) (h3 : A 3 = .ip q.cells 0) (h7 : A 7 = i64 0)
    (hk : ∀ A' H' N', A' 2 = A 2 → A' 3 = A 3 → onward Tryz.prog fs Q (.exit 4) ⟨A', H', N'⟩) : run Tryz.prog (.loop a_bobbinlaw11_FlowMayb1) fs Q ⟨A, H, N⟩ := by
  have hfl := hf.fl
  have hql := hq.fl
  refine run_loop (fun m s => ∃ j, j ≤ f.funs.length ∧ m = f.funs.length - j ∧ s.A 2 = .ip f.cells 0 ∧ s.A 3 = .ip q.cells 0 ∧ s.A 7 = i64 j) f.funs.length ?_ ?_
  · exact ⟨0, by omega, by omega, h2, h3, h7⟩
  · rintro m A1 H1 N1 ⟨j, hj, rfl, e2, e3, e7⟩
    simp only at e2 e3 e7
    have hw : IntKind.i64.wrap ((j : Int) + 1) = ((j + 1 : Nat) : Int) := by rw [wrap_i64 (by omega) (by omega)]; rfl
    by_cases hje : j = f.funs.length
    · subst hje
      simp [a_bobbinlaw11_FlowMayb1, e2, e7]
      exact hk _ _ _ (by simp [e2, h2]) (by simp [e3, h3])
    · have hlt : j < f.funs.length := by omega
      obtain ⟨g, hg⟩ : ∃ g, f.funs[j] = g := ⟨_, rfl⟩
      have hgm : g ∈ f.funs := by rw [← hg]; exact List.getElem_mem hlt
      have hgo := hf.ok g hgm
      have hix : aindex 5 (.sl f.fk 5 (grCells f.funs)) (i64 (j : Nat)) = some (.ip g.cells 0) := aindex_sl (by omega) (by simp [grCells, hlt, hg])
      simp [a_bobbinlaw11_FlowMayb1, e2, e3, e7, hlt, hix]
      refine ⟨_, p_May_g hgo, ?_⟩
      simp [e2, e7, hix]
      refine ⟨_, p_rMay_g hgo (hfew g hgm), ?_⟩
      simp [e2, e7, hix]
      refine ⟨_, p_SameGraph hgo hgo, ?_⟩
      simp [sameGr_refl, e2, e3, e7, hix]
      by_cases hjq : j < q.funs.length
      · obtain ⟨h, hh⟩ : ∃ h, q.funs[j] = h := ⟨_, rfl⟩
        have hho := hq.ok h (by rw [← hh]; exact List.getElem_mem hjq)
        have hix2 : aindex 5 (.sl q.fk 5 (grCells q.funs)) (i64 (j : Nat)) = some (.ip h.cells 0) := aindex_sl (by omega) (by simp [grCells, hjq, hh])
        simp [hjq, e2, e3, e7, hix, hix2]
        refine ⟨_, p_SameGraph hgo hho, ?_⟩
        simp [e2, e3, e7, hix, hix2]
        refine ⟨_, p_refSameGraph hgo hho, ?_⟩
        simp [e2, e3, e7, hw]
        exact ⟨f.funs.length - (j + 1), by omega, j + 1, by omega, rfl, rfl⟩
      · simp [hjq, e2, e3, e7, hw]
        exact ⟨f.funs.length - (j + 1), by omega, j + 1, by omega, rfl, rfl⟩
end

theorem p_FlowMay {f q : FrmV} (hf : f.Ok) (hq : q.Ok) (H : AHeap) (N : Nat) : ACall Tryz.prog 3 [.agg f.cells, .agg q.cells] H N (fun r _ _ => r = bl true) := by
  have f1 := hf.fl
  have f2 := hf.ml
  have f3 := hf.ll
  have q1 := hq.fl
  have q2 := hq.ml
  have q3 := hq.ll
  refine acall mixed c_bobbinlaw11_FlowMay (by simp) ?_
  have hw1 : IntKind.i64.wrap ((f.funs.length : Int) + q.funs.length) = (f.funs.length : Int) + q.funs.length := wrap_i64 (by omega) (by omega)
  have hw2 : IntKind.i64.wrap ((f.mems.length : Int) + f.locks.length) = (f.mems.length : Int) + f.locks.length := wrap_i64 (by omega) (by omega)
  have hw3 : IntKind.i64.wrap ((f.mems.length : Int) + f.locks.length + q.mems.length) = (f.mems.length : Int) + f.locks.length + q.mems.length := wrap_i64 (by omega) (by omega)
  have hw4 : IntKind.i64.wrap ((f.mems.length : Int) + f.locks.length + q.mems.length + q.locks.length) = (f.mems.length : Int) + f.locks.length + q.mems.length + q.locks.length := wrap_i64 (by omega) (by omega)
  unfold a_bobbinlaw11_FlowMay
  obtain ⟨_, e1⟩ : ∃ c, a_bobbinlaw11_FlowMayb1 = c := ⟨_, rfl⟩
  rw [e1]
  obtain ⟨_, e2⟩ : ∃ c, a_bobbinlaw11_FlowMayb2 = c := ⟨_, rfl⟩
  rw [e2]
  obtain ⟨_, e3⟩ : ∃ c, a_bobbinlaw11_FlowMayb3 = c := ⟨_, rfl⟩
  rw [e3]
  by_cases c1 : (20 : Int) < (f.funs.length : Int) + q.funs.length
  · simp [hw1, c1]
  by_cases c2 : (300 : Int) < (f.mems.length : Int) + f.locks.length + q.mems.length + q.locks.length
  · simp [hw1, c1, hw2, hw3, hw4, c2]
  simp [hw1, c1, hw2, hw3, hw4, c2]
  rw [← e3]
  refine law_b3 (f := f) hf (by simp) (by simp) (fun hfew A1 H1 N1 g2 g3 => ?_) (fun A1 H1 N1 h4 => by simp [h4])
  simp at g2 g3
  simp
  rw [← e2]
  refine law_b2 (f := q) hq (by simp [g3]) (by simp) (fun hfew2 A2 H2 N2 k2 k3 => ?_) (fun A1 H1 N1 h4 => by simp [h4])
  simp [g2, g3] at k2 k3
  simp
  rw [← e1]
  refine law_b1 (f := f) (q := q) hf hq hfew (by simp [k2]) (by simp [k3]) (by simp) (fun A3 H3 N3 m2 m3 => ?_)
  simp [k2, k3] at m2 m3
  simp [m2, m3]
  refine (p_MayForm hf (by omega) hfew).acall ?_
  simp
  refine (p_rMayForm hf (by omega) hfew).acall ?_
  simp [m2, m3]
  refine (p_fSame hf hq).acall ?_
  simp
  refine (p_rfSame hf hq).acall ?_
  simp
end Go.Proofs.YtcoepjbipbihfaaGreatDoor
