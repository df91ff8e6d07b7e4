/- front: FrontBehind. -/
import Derived.Test.YtmbbklddjkmcmaaEC
namespace Go.Proofs.Ytmbbklddjkmcmaa
set_option linter.unusedSimpArgs false
set_option linter.unusedVariables false
open Go Go.Fw Go.Dm

section
variable {g : List RowV} {r : RowV}

theorem edge_app {a c : Nat} (ha : a < g.length) : Edge (g ++ [r]) a c ↔ Edge g a c := by
  unfold Edge
  rw [List.getElem?_append_left ha]
theorem edge_le {a c : Nat} (hin : InG g) (h : Edge (g ++ [r]) a c) (ha : a < g.length) : c < g.length := by
  obtain ⟨r', h1, h2⟩ := (edge_app ha).1 h
  have := hin r' (List.mem_of_getElem? h1) _ h2
  omega
theorem rch_app (hin : InG g) (h0 : 0 < g.length) {b : Nat} : Rch (Edge (g ++ [r])) b ↔ Rch (Edge g) b := by
  constructor
  · intro h
    have : b < g.length ∧ Rch (Edge g) b := by
      induction h with
      | zero => exact ⟨h0, .zero⟩
      | step h1 h2 ih => exact ⟨edge_le hin h2 ih.1, .step ih.2 ((edge_app ih.1).1 h2)⟩
    exact this.2
  · intro h
    induction h with
    | zero => exact .zero
    | step h1 h2 ih => exact .step ih ((edge_app (rch_lt hin h0 h1)).2 h2)
theorem av_app (hin : InG g) (h0 : 0 < g.length) {c b : Nat} : Av (Edge (g ++ [r])) c b ↔ Av (Edge g) c b := by
  constructor
  · intro h
    have : b < g.length ∧ Av (Edge g) c b := by
      induction h with
      | zero h => exact ⟨h0, .zero h⟩
      | step h1 h2 h3 ih => exact ⟨edge_le hin h2 ih.1, .step ih.2 ((edge_app ih.1).1 h2) h3⟩
    exact this.2
  · intro h
    induction h with
    | zero h => exact .zero h
    | step h1 h2 h3 ih => exact .step ih ((edge_app (rch_lt hin h0 h1.rch)).2 h2) h3
theorem frG_app (hin : InG g) (h0 : 0 < g.length) {b c : Nat} : FrG (Edge (g ++ [r])) b c ↔ FrG (Edge g) b c := by
  unfold FrG
  constructor
  · rintro ⟨⟨p, h1, h2, h3⟩, h4⟩
    have hp := (rch_app hin h0).1 h2
    refine ⟨⟨p, (edge_app (rch_lt hin h0 hp)).1 h1, hp, fun h => h3 ((av_app hin h0).2 h)⟩, h4.imp (fun h => h) (av_app hin h0).1⟩
  · rintro ⟨⟨p, h1, h2, h3⟩, h4⟩
    refine ⟨⟨p, (edge_app (rch_lt hin h0 h2)).2 h1, (rch_app hin h0).2 h2, fun h => h3 ((av_app hin h0).1 h)⟩, h4.imp (fun h => h) (av_app hin h0).2⟩
theorem setL_succ {n : Nat} {S : Nat → Prop} (h : ¬ S n) : setL (n + 1) S = setL n S := by
  unfold setL
  rw [List.range_succ, List.filter_append]
  simp [h]
theorem frW_app (hin : InG g) (h0 : 0 < g.length) : frW (g ++ [r]) = frW g ++ [[]] := by
  unfold frW
  rw [List.length_append, List.length_singleton, List.range_succ, List.map_append]
  have key : ∀ b, frG (g ++ [r]) b = frG g b := fun b => by
    unfold frG
    rw [List.length_append, List.length_singleton, setL_succ fun h => by
      have := (frG_in hin h0 _ _ ((frG_app hin h0).1 h)).2
      omega]
    exact setL_congr fun c _ => frG_app hin h0
  have hlast : frG g g.length = [] := by
    apply List.eq_nil_iff_forall_not_mem.2
    intro c hc
    have := (frG_in hin h0 _ _ (setL_mem.1 hc).2).1
    omega
  simp only [key, List.map_cons, List.map_nil, hlast]
  rfl
theorem may_of (hin : ∀ r ∈ g, ∀ v ∈ r.l, 0 ≤ v ∧ v < (g.length : Int)) (h0 : 0 < g.length) (hn : g.length ≤ 100) : mayG g = true := by
  simp [mayG]
  refine ⟨by omega, by omega, fun r hr v hv => ?_⟩
  have := hin r hr v hv
  simp [outG]
  omega
end

section
variable {x : GraphV} {r : RowV} {A : Nat → AV} {H : AHeap} {N : Nat} {fs : List Fr} {Q : Post}

/-- A row is in range, or the law is done. -/
structure BhI (A0 : Nat → AV) (H0 : AHeap) (N0 n i : Nat) (l : List Int) (k : Nat) (s : St) : Prop where
  ex : ∃ j, k = l.length - j ∧ j ≤ l.length ∧ (∀ t ∈ [0, 1, 5], s.A t = A0 t) ∧ s.A 6 = i64 j ∧ s.H = H0 ∧ s.N = N0 ∧ ∀ v ∈ l.take j, 0 ≤ v ∧ v < (n : Int)
theorem behind_row (hx : x.Ok) {i : Nat} (hi : i < x.g.length) (hrl : x.g[i].l.length ≤ 60) (h0 : A 0 = x.av) (h5 : A 5 = i64 i) (h6 : A 6 = i64 0)
    (hret : ∀ A' : Nat → AV, A' 4 = bl true → onward Try.prog fs Q .ret ⟨A', H, N⟩)
    (hk : ∀ A' : Nat → AV, (∀ t ∈ [0, 1, 5], A' t = A t) → (∀ v ∈ x.g[i].l, 0 ≤ v ∧ v < (x.g.length : Int)) → onward Try.prog fs Q (.exit 2) ⟨A', H, N⟩) : run Try.prog (.loop a_bobbinlaw13_FrontBehindb4) fs Q ⟨A, H, N⟩ := by
  have hxl := x.len
  have hr := hx.rows _ (List.getElem_mem hi)
  have hq := row_at x hx hi
  have hla := row_alen _ hr
  refine run_loop (BhI A H N x.g.length i x.g[i].l) x.g[i].l.length ?_ ?_
  · exact ⟨0, by omega, by omega, by simp, h6, rfl, rfl, by simp⟩
  · rintro k A1 H1 N1 ⟨j, hk', hj, hA, e6, hH, hN, hin⟩
    simp only at hA e6 hH hN
    subst hH; subst hN
    have hA' := hA
    simp at hA'
    obtain ⟨g0, g1, g5⟩ := hA'
    rw [h0] at g0
    rw [h5] at g5
    by_cases hjl : j = x.g[i].l.length
    · subst hjl
      rw [List.take_length] at hin
      simp [a_bobbinlaw13_FrontBehindb4, g0, g5, e6, hq, hla, -alen]
      exact hk _ (by simp [g0, g1, g5, h0, h5]) hin
    · have hlt : j < x.g[i].l.length := by omega
      have hc := cell_at _ hr hlt
      have wr : IntKind.i64.wrap ((j : Int) + 1) = ((j + 1 : Nat) : Int) := by rw [wrap_i64 (by omega) (by omega)]; rfl
      by_cases hv0 : x.g[i].l[j] < 0
      · simp [a_bobbinlaw13_FrontBehindb4, g0, g5, e6, hq, hla, hlt, hc, hv0, -alen]
        exact hret _ (by simp)
      · by_cases hv1 : (x.g.length : Int) ≤ x.g[i].l[j]
        · simp [a_bobbinlaw13_FrontBehindb4, g0, g5, e6, hq, hla, hlt, hc, hv0, hv1, hxl, -alen]
          exact hret _ (by simp)
        · simp [a_bobbinlaw13_FrontBehindb4, g0, g5, e6, hq, hla, hlt, hc, hv0, hv1, hxl, wr, -alen]
          refine ⟨x.g[i].l.length - (j + 1), by omega, ⟨j + 1, rfl, by omega, by simp [g0, g1, g5, h0, h5], by simp, rfl, rfl, fun v hv => ?_⟩⟩
          rw [Go.Fw.take_next hlt, List.mem_append, List.mem_singleton] at hv
          rcases hv with h | rfl
          · exact hin v h
          · omega

structure BhG (A0 : Nat → AV) (H0 : AHeap) (N0 : Nat) (g : List RowV) (k : Nat) (s : St) : Prop where
  ex : ∃ j, k = g.length - j ∧ j ≤ g.length ∧ (∀ t ∈ [0, 1], s.A t = A0 t) ∧ s.A 5 = i64 j ∧ s.H = H0 ∧ s.N = N0 ∧ ∀ (i : Nat) (r : RowV), i < j → g[i]? = some r → r.l.length ≤ 60 ∧ ∀ v ∈ r.l, 0 ≤ v ∧ v < (g.length : Int)
theorem behind_rows (hx : x.Ok) (hn : x.g.length ≤ 60) (h0 : A 0 = x.av) (h5 : A 5 = i64 0)
    (hret : ∀ A' : Nat → AV, A' 4 = bl true → onward Try.prog fs Q .ret ⟨A', H, N⟩)
    (hret2 : ∀ A' : Nat → AV, A' 4 = bl true → onward Try.prog fs Q .ret ⟨A', H, N⟩)
    (hk : ∀ A' : Nat → AV, (∀ t ∈ [0, 1], A' t = A t) → (∀ r ∈ x.g, r.l.length ≤ 60 ∧ ∀ v ∈ r.l, 0 ≤ v ∧ v < (x.g.length : Int)) → onward Try.prog fs Q (.exit 0) ⟨A', H, N⟩) : run Try.prog (.loop a_bobbinlaw13_FrontBehindb5) fs Q ⟨A, H, N⟩ := by
  have hxl := x.len
  refine run_loop (BhG A H N x.g) x.g.length ?_ ?_
  · exact ⟨0, by omega, by omega, by simp, h5, rfl, rfl, fun i r hi => by omega⟩
  · rintro k A1 H1 N1 ⟨j, hk', hj, hA, e5, hH, hN, hs⟩
    simp only at hA e5 hH hN
    subst hH; subst hN
    have hA' := hA
    simp at hA'
    obtain ⟨g0, g1⟩ := hA'
    rw [h0] at g0
    by_cases hjl : j = x.g.length
    · subst hjl
      simp [a_bobbinlaw13_FrontBehindb5, g0, e5, hxl, -alen]
      refine hk _ (by simp [g0, g1, h0]) fun r' hr' => ?_
      obtain ⟨i, hi, rfl⟩ := List.getElem_of_mem hr'
      exact hs i _ hi (List.getElem?_eq_getElem hi)
    · have hlt : j < x.g.length := by omega
      have hr := hx.rows _ (List.getElem_mem hlt)
      have hq := row_at x hx hlt
      have hla := row_alen _ hr
      have wr : IntKind.i64.wrap ((j : Int) + 1) = ((j + 1 : Nat) : Int) := by rw [wrap_i64 (by omega) (by omega)]; rfl
      by_cases hlong : x.g[j].l.length ≤ 60
      · simp [a_bobbinlaw13_FrontBehindb5, g0, e5, hxl, hlt, hq, hla, show ¬ (60 : Int) < x.g[j].l.length by omega, -alen]
        refine behind_row hx hlt hlong ?_ ?_ ?_ (fun A' h4 => ?_) fun A2 hA2 hin => ?_
        · simp [g0]
        · simp [e5]
        · simp
        · simp
          exact hret _ h4
        · simp at hA2
          obtain ⟨k0, k1, k5⟩ := hA2
          simp [k5, e5, wr]
          refine ⟨x.g.length - (j + 1), by omega, ⟨j + 1, rfl, by omega, by simp [k0, k1, g0, g1, h0], by simp, rfl, rfl, fun i r' hi hr' => ?_⟩⟩
          by_cases hij : i = j
          · subst hij
            rw [List.getElem?_eq_getElem hlt] at hr'; cases hr'
            exact ⟨hlong, hin⟩
          · exact hs i r' (by omega) hr'
      · simp [a_bobbinlaw13_FrontBehindb5, g0, e5, hxl, hlt, hq, hla, show (60 : Int) < x.g[j].l.length by omega, -alen]
        exact hret2 _ (by simp)

structure BhM (A0 : Nat → AV) (H0 : AHeap) (N0 n : Nat) (l : List Int) (k : Nat) (s : St) : Prop where
  ex : ∃ j, k = l.length - j ∧ j ≤ l.length ∧ (∀ t ∈ [0, 1], s.A t = A0 t) ∧ s.A 7 = i64 j ∧ s.H = H0 ∧ s.N = N0 ∧ ∀ v ∈ l.take j, 0 ≤ v ∧ v ≤ (n : Int)
theorem behind_more (hr : r.Ok) (hrl : r.l.length ≤ 60) (h0 : A 0 = x.av) (h1 : A 1 = r.av) (h7 : A 7 = i64 0)
    (hret : ∀ A' : Nat → AV, A' 4 = bl true → onward Try.prog fs Q .ret ⟨A', H, N⟩)
    (hk : ∀ A' : Nat → AV, (∀ t ∈ [0, 1], A' t = A t) → (∀ v ∈ r.l, 0 ≤ v ∧ v ≤ (x.g.length : Int)) → onward Try.prog fs Q (.exit 4) ⟨A', H, N⟩) : run Try.prog (.loop a_bobbinlaw13_FrontBehindb3) fs Q ⟨A, H, N⟩ := by
  have hxl := x.len
  have hla := row_alen _ hr
  refine run_loop (BhM A H N x.g.length r.l) r.l.length ?_ ?_
  · exact ⟨0, by omega, by omega, by simp, h7, rfl, rfl, by simp⟩
  · rintro k A1 H1 N1 ⟨j, hk', hj, hA, e7, hH, hN, hin⟩
    simp only at hA e7 hH hN
    subst hH; subst hN
    have hA' := hA
    simp at hA'
    obtain ⟨g0, g1⟩ := hA'
    rw [h0] at g0
    rw [h1] at g1
    by_cases hjl : j = r.l.length
    · subst hjl
      rw [List.take_length] at hin
      simp [a_bobbinlaw13_FrontBehindb3, g1, e7, hla, -alen]
      exact hk _ (by simp [g0, g1, h0, h1]) hin
    · have hlt : j < r.l.length := by omega
      have hc := cell_at _ hr hlt
      have wr : IntKind.i64.wrap ((j : Int) + 1) = ((j + 1 : Nat) : Int) := by rw [wrap_i64 (by omega) (by omega)]; rfl
      by_cases hv0 : r.l[j] < 0
      · simp [a_bobbinlaw13_FrontBehindb3, g0, g1, e7, hla, hlt, hc, hv0, -alen]
        exact hret _ (by simp)
      · by_cases hv1 : (x.g.length : Int) < r.l[j]
        · simp [a_bobbinlaw13_FrontBehindb3, g0, g1, e7, hla, hlt, hc, hv0, hv1, hxl, -alen]
          exact hret _ (by simp)
        · simp [a_bobbinlaw13_FrontBehindb3, g0, g1, e7, hla, hlt, hc, hv0, hv1, hxl, wr, -alen]
          refine ⟨r.l.length - (j + 1), by omega, ⟨j + 1, rfl, by omega, by simp [g0, g1, h0, h1], by simp, rfl, rfl, fun v hv => ?_⟩⟩
          rw [Go.Fw.take_next hlt, List.mem_append, List.mem_singleton] at hv
          rcases hv with h | rfl
          · exact hin v h
          · omega

/-- Two rows are the same. -/
theorem behind_same {w w' : List (List Int)} {va vb : AV} {i : Nat} {l : List Int} (hA : Rows va w) (hB : Rows vb w') (h1 : w[i]? = some l) (h2 : w'[i]? = some l) (hl : l.length ≤ 100) (h8 : A 8 = va) (h9 : A 9 = vb) (h10 : A 10 = i64 i) (h11 : A 11 = i64 0)
    (hk : ∀ A' : Nat → AV, (∀ t ∈ [8, 9, 10], A' t = A t) → onward Try.prog fs Q (.exit 8) ⟨A', H, N⟩) : run Try.prog (.loop a_bobbinlaw13_FrontBehindb1) fs Q ⟨A, H, N⟩ := by
  have ha := hA.at_ i l h1
  have hb := hB.at_ i l h2
  have hl2 := rv_len l
  refine run_loop (fun k s => ∃ j, k = l.length - j ∧ j ≤ l.length ∧ (∀ t ∈ [8, 9, 10], s.A t = A t) ∧ s.A 11 = i64 j ∧ s.H = H ∧ s.N = N) l.length ?_ ?_
  · exact ⟨0, by omega, by omega, by simp, h11, rfl, rfl⟩
  · rintro k A1 H1 N1 ⟨j, hk', hj, hA1, e11, hH, hN⟩
    simp only at hA1 e11 hH hN
    subst hH; subst hN
    have hA' := hA1
    simp at hA'
    obtain ⟨g8, g9, g10⟩ := hA'
    rw [h8] at g8
    rw [h9] at g9
    rw [h10] at g10
    have lr : aload H1 false 1 (.ip [rv l] 0) = some (rv l) := rfl
    by_cases hjl : j = l.length
    · subst hjl
      simp [a_bobbinlaw13_FrontBehindb1, g8, g10, e11, ha, lr, hl2, -alen, -aload]
      exact hk _ (by simp [g8, g9, g10, h8, h9, h10])
    · have hlt : j < l.length := by omega
      obtain ⟨p, hp, pp⟩ := (rv_rd l H1).at (intCells_sz l) (intCells_at hlt)
      have lp := pp.one
      have wr : IntKind.i64.wrap ((j : Int) + 1) = ((j + 1 : Nat) : Int) := by rw [wrap_i64 (by omega) (by omega)]; rfl
      simp [a_bobbinlaw13_FrontBehindb1, g8, g9, g10, e11, ha, hb, lr, hl2, hlt, hp, lp, wr, -alen, -aload]
      exact ⟨l.length - (j + 1), by omega, j + 1, rfl, by omega, by simp [g8, g9, g10, h8, h9, h10], by simp⟩

theorem behind_all {w w' : List (List Int)} {va vb : AV} (hA : Rows va w) (hB : Rows vb w') (hw : w' = w ++ [[]]) (h8 : A 8 = va) (h9 : A 9 = vb) (h10 : A 10 = i64 0)
    (hk : ∀ A' : Nat → AV, onward Try.prog fs Q (.exit 6) ⟨A', H, N⟩) : run Try.prog (.loop a_bobbinlaw13_FrontBehindb2) fs Q ⟨A, H, N⟩ := by
  have hla := hA.len
  have hwn := hA.n
  refine run_loop (fun k s => ∃ j, k = w.length - j ∧ j ≤ w.length ∧ s.A 8 = va ∧ s.A 9 = vb ∧ s.A 10 = i64 j ∧ s.H = H ∧ s.N = N) w.length ?_ ?_
  · exact ⟨0, by omega, by omega, h8, h9, h10, rfl, rfl⟩
  · rintro k A1 H1 N1 ⟨j, hk', hj, e8, e9, e10, hH, hN⟩
    simp only at e8 e9 e10 hH hN
    subst hH; subst hN
    by_cases hjl : j = w.length
    · subst hjl
      simp [a_bobbinlaw13_FrontBehindb2, e8, e10, hla, -alen]
      exact hk _
    · have hlt : j < w.length := by omega
      have h1 : w[j]? = some w[j] := List.getElem?_eq_getElem hlt
      have h2 : w'[j]? = some w[j] := by rw [hw, List.getElem?_append_left hlt, h1]
      have ha := hA.at_ j _ h1
      have hb := hB.at_ j _ h2
      have hl2 := rv_len w[j]
      have hok := (hA.ok _ (List.getElem_mem hlt)).1
      have lr : aload H1 false 1 (.ip [rv w[j]] 0) = some (rv w[j]) := rfl
      have wr : IntKind.i64.wrap ((j : Int) + 1) = ((j + 1 : Nat) : Int) := by rw [wrap_i64 (by omega) (by omega)]; rfl
      simp [a_bobbinlaw13_FrontBehindb2, e8, e9, e10, hla, hlt, ha, hb, lr, hl2, -alen, -aload]
      refine behind_same hA hB h1 h2 (by omega) ?_ ?_ ?_ ?_ fun A2 hA2 => ?_
      · simp [e8]
      · simp [e9]
      · simp [e10]
      · simp
      simp at hA2
      obtain ⟨k8, k9, k10⟩ := hA2
      simp [k10, e10, wr]
      exact ⟨w.length - (j + 1), by omega, j + 1, rfl, by omega, by simp [k8, e8], by simp [k9, e9], by simp⟩

theorem p_FrontBehind (x : GraphV) (hx : x.Ok) (r : RowV) (hr : r.Ok) (H : AHeap) (N : Nat) : ACall Try.prog 12 [x.av, r.av] H N (fun r _ _ => r = bl true) := by
  refine acallF mixed c_bobbinlaw13_FrontBehind (by simp) fun hF => ?_
  have hxl := x.len
  have hrl := row_alen r hr
  simp [a_bobbinlaw13_FrontBehind]
  refine p_works.acall ?_
  by_cases hn : x.g.length ≤ 60
  rotate_left
  · simp [hxl, show (60 : Int) < x.g.length by omega, -alen]
    refine p_works.acall ?_
    simp
  by_cases h00 : x.g.length = 0
  · simp [hxl, h00, -alen]
    refine p_works.acall ?_
    simp
  by_cases hl : r.l.length ≤ 60
  rotate_left
  · simp [hxl, hrl, h00, show ¬ (60 : Int) < x.g.length by omega, show (60 : Int) < r.l.length by omega, -alen]
    refine p_works.acall ?_
    simp
  simp [hxl, hrl, h00, show ¬ (60 : Int) < x.g.length by omega, show ¬ (60 : Int) < r.l.length by omega, -alen]
  refine behind_rows hx hn (by simp) (by simp) (fun A' h6 => by simp [h6]) (fun A' h6 => by simp [h6]) fun A1 hA1 hsh => ?_
  have hA1' := hA1
  simp at hA1'
  obtain ⟨g0, g1⟩ := hA1'
  simp
  refine behind_more (x := x) (r := r) hr hl (by simp [g0]) (by simp [g1]) (by simp) (fun A' h6 => by simp [h6]) fun A2 hA2 hmo => ?_
  have hA2' := hA2
  simp at hA2'
  obtain ⟨k0, k1⟩ := hA2'
  rw [g0] at k0
  rw [g1] at k1
  have h0p : 0 < x.g.length := by omega
  have he := edges_short (fun r hr => (hsh r hr).1)
  have he2 : edges x.g ≤ 3600 := by
    have : 60 * x.g.length ≤ 60 * 60 := Nat.mul_le_mul_left _ hn
    omega
  have hm := may_of (fun r hr => (hsh r hr).2) h0p (by omega)
  simp [k0]
  refine (p_frOf x hx (by omega) (by omega)).acall ?_
  obtain ⟨hin, _⟩ := may_in hm
  have hlim : 1000000 ≤ lim := by unfold lim; decide
  have hsx : asrc H 1 x.av = some ((gCells x.g).flatten, (gCells x.g).length) := by
    show asrc H 1 (.sl x.k x.z (gCells x.g)) = _
    have hz : x.z = 1 ∨ gCells x.g = [] := hx.hz.imp (fun h => h) fun h => by rw [h]; rfl
    simp only [asrc]
    rw [if_pos hz]
  obtain ⟨v1, H1, N1, ap1, hB1, low1, hN1, hF1⟩ := Built.append (bytes := 24) (Built.empty : Built H N 1 (.sl .exact 1 []) [] (.sl .exact 1 [])) hF (Nat.le_refl _) hsx (gCells_sz _) (by rw [gCells_len]; simp; omega) (by rw [gCells_len]; simp; omega)
  rw [List.nil_append] at hB1
  obtain ⟨v2, H2, N2, ap2, hB2, low2, hN2, hF2⟩ := hB1.append (bytes := 24) (ns := [[r.av]]) (y := .sl .exact 1 [[r.av]]) hF1 hN1 rfl (by simp) (by rw [gCells_len]; simp; omega) (by rw [gCells_len]; simp; omega)
  have hgc : gCells x.g ++ [[r.av]] = gCells (x.g ++ [r]) := by simp [gCells]
  rw [hgc] at hB2
  have hv2 : View H2 v2 (GraphV.av ⟨.any, 1, x.g ++ [r]⟩) := by
    have h1 := hB2.view (gCells_free _)
    have h2 : bsl (.sl .exact 1 []) 1 (gCells (x.g ++ [r])) = GraphV.av ⟨.any, 1, x.g ++ [r]⟩ := by
      cases h : x.g with
      | nil => rfl
      | cons a l => rfl
    rw [h2] at h1
    exact h1
  have hy : (⟨.any, 1, x.g ++ [r]⟩ : GraphV).Ok := ⟨.inl rfl, by
    show (x.g ++ [r]).length ≤ maxLen
    unfold maxLen
    simp; omega, fun r' hr' => by
    rcases List.mem_append.1 hr' with h | h
    · exact hx.rows _ h
    · rw [List.mem_singleton.1 h]; exact hr⟩
  have hyn : (x.g ++ [r]).length ≤ 100 := by simp; omega
  have hye : edges (x.g ++ [r]) ≤ 10000 := by
    simp [edges] at he2 ⊢
    omega
  have hym : mayG (x.g ++ [r]) = true := may_of (fun r' hr' v hv => by
    rw [List.length_append, List.length_singleton]
    rcases List.mem_append.1 hr' with h | h
    · have := (hsh _ h).2 v hv; omega
    · rw [List.mem_singleton.1 h] at hv
      have := hmo v hv; omega) (by simp) hyn
  have hRx := rows_frV x (by omega)
  have hRy := rows_frV ⟨.any, 1, x.g ++ [r]⟩ hyn
  have hsx2 : frS x.g = frW x.g := by simp [frS, hm]
  have hsy2 : frS (x.g ++ [r]) = frW x.g ++ [[]] := by simp only [frS, hym, if_true]; exact frW_app hin h0p
  rw [hsx2] at hRx
  have hRy' : Rows (frV (x.g ++ [r])) (frW x.g ++ [[]]) := by rw [← hsy2]; exact hRy
  simp [k0, k1, ap1, ap2, r.cells, -AV.cells]
  refine (ACall.still (args := [v2]) (args' := [GraphV.av ⟨.any, 1, x.g ++ [r]⟩]) ((p_frOf ⟨.any, 1, x.g ++ [r]⟩ hy hyn hye).acall (Q := fun r' _ _ => r' = frV (x.g ++ [r])) rfl) rfl ?_).mono ?_
  · intro i a b ha hb
    cases i with
    | zero => simp at ha hb; subst ha; subst hb; exact .inr hv2
    | succ i => simp at ha
  rintro r' H3 N3 rfl
  have hlx := hRx.len
  have hly := hRy'.len
  rw [frW_len] at hlx
  rw [List.length_append, List.length_singleton, frW_len] at hly
  have hlast := hRy'.at_ x.g.length [] (by rw [List.getElem?_append_right (by rw [frW_len]; omega), frW_len]; simp)
  have lr : aload H3 false 1 (.ip [rv []] 0) = some (rv []) := rfl
  have hl0 : alen 1 (rv []) = some 0 := rfl
  have wn : IntKind.i64.wrap ((x.g.length : Int) + 1) = (x.g.length : Int) + 1 := wrap_i64 (by omega) (by omega)
  simp [k0, hxl, hlx, hly, hlast, lr, hl0, wn, -alen, -aload]
  refine behind_all hRx hRy' rfl ?_ ?_ ?_ fun A' => ?_
  · simp
  · simp
  · simp
  simp
end

end Go.Proofs.Ytmbbklddjkmcmaa
