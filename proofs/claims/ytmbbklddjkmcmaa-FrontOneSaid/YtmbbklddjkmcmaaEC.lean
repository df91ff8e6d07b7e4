/- front: FrontSet. -/
import Derived.Test.YtmbbklddjkmcmaaEA
import Derived.Test.YtmbbklddjkmcmaaB6
namespace Go.Proofs.Ytmbbklddjkmcmaa
set_option linter.unusedSimpArgs false
set_option linter.unusedVariables false
open Go Go.Fw Go.Dm

end Go.Proofs.Ytmbbklddjkmcmaa
namespace Go.Fw
set_option linter.unusedSimpArgs false
set_option linter.unusedVariables false
open Go
set_option linter.unusedSectionVars false
variable [Globals]
theorem RdSl.later {H H' : AHeap} {N sz : Nat} {es : List (List AV)} {v : AV} (h : RdSl H sz es v) (hF : Fresh H N) (hk : ∀ i, i < N → H' i = H i) : RdSl H' sz es v := by
  rcases h with h | ⟨id, off, ds, h1, h2⟩
  · exact .inl h
  · refine .inr ⟨id, off, ds, h1, h2.imp (fun h => h) fun ⟨h3, h4⟩ => ⟨?_, h4⟩⟩
    rw [hk id (hF.lt h3)]
    exact h3
end Go.Fw
namespace Go.Proofs.Ytmbbklddjkmcmaa
set_option linter.unusedSimpArgs false
set_option linter.unusedVariables false
open Go Go.Fw Go.Dm

theorem SlAt.later {H H' : AHeap} {N : Nat} {v : AV} {l : List Int} (h : SlAt H v l) (hF : Fresh H N) (hk : ∀ i, i < N → H' i = H i) : SlAt H' v l := by
  rcases h with h | ⟨h0, i, z, h1, h2⟩
  · exact .inl h
  · exact .inr ⟨h0, i, z, h1, by rw [hk i (hF.lt h2)]; exact h2⟩
theorem SlAt.src {H : AHeap} {v : AV} {l : List Int} (h : SlAt H v l) : asrc H 1 v = some ((intCells l).flatten, (intCells l).length) := by
  rcases h with ⟨rfl, rfl⟩ | ⟨h0, i, z, rfl, h2⟩
  · rfl
  · simp [asrc, h2, intCells_flat, intCells_len]
theorem rsrc {r : RowV} (hr : r.Ok) (H : AHeap) : asrc H 1 r.av = some ((intCells r.l).flatten, (intCells r.l).length) := by
  rw [intCells_len]
  exact src_row hr.hz H

theorem setL_congr {n : Nat} {S S' : Nat → Prop} (h : ∀ c, c < n → (S c ↔ S' c)) : setL n S = setL n S' := by
  unfold setL
  apply List.filter_congr
  intro c hc
  have := h c (List.mem_range.1 hc)
  by_cases hs : S c
  · simp [hs, this.1 hs]
  · have h' : ¬ S' c := fun h => hs (this.2 h)
    simp [hs, h']

/-- Placed hangs on the blocks of the set alone. -/
theorem plG_congr {g : List RowV} {l l' : List Int} (h : ∀ b : Nat, b < g.length → ((b : Int) ∈ l ↔ (b : Int) ∈ l')) : plG g l = plG g l' := by
  unfold plG
  by_cases hm : mayG g = true
  · obtain ⟨hin, h00⟩ := may_in hm
    rw [if_pos hm, if_pos hm]
    have key : ∀ {l l' : List Int} {c : Nat}, (∀ b : Nat, b < g.length → ((b : Int) ∈ l ↔ (b : Int) ∈ l')) → Pl (FrG (Edge g)) (fun b => (b : Int) ∈ l) c → Pl (FrG (Edge g)) (fun b => (b : Int) ∈ l') c := fun h hc => by
      induction hc with
      | base h1 h2 => exact .base ((h _ (frG_in hin h00 _ _ h2).1).1 h1) h2
      | step _ h2 ih => exact .step ih h2
    exact setL_congr fun c _ => ⟨key h, key fun b hb => (h b hb).symm⟩
  · rw [if_neg hm, if_neg hm]

theorem plG_lt {g : List RowV} {l : List Int} : (plG g l).Pairwise (· < ·) := by
  unfold plG
  split
  · exact setL_lt
  · exact List.Pairwise.nil
theorem plG_in {g : List RowV} {l : List Int} {v : Int} (h : v ∈ natI (plG g l)) : 0 ≤ v ∧ v < (g.length : Int) := by
  obtain ⟨c, rfl, h2⟩ := natI_mem.1 h
  unfold plG at h2
  split at h2
  · have := (setL_mem.1 h2).1
    omega
  · simp at h2

theorem edges_short {g : List RowV} {n : Nat} (h : ∀ r ∈ g, r.l.length ≤ n) : edges g ≤ n * g.length := by
  induction g with
  | nil => simp [edges]
  | cons r g ih =>
    have h1 := h r (by simp)
    have h2 := ih fun r hr => h r (by simp [hr])
    simp only [edges, List.map_cons, List.sum_cons, List.length_cons, Nat.mul_succ] at h2 ⊢
    omega

section
variable {x : GraphV} {r : RowV} {A : Nat → AV} {H : AHeap} {N : Nat} {fs : List Fr} {Q : Post}

/-- The rows are not long, or the law is done. -/
theorem set_short (hx : x.Ok) (hn : x.g.length ≤ 60) (h0 : A 0 = x.av) (h7 : A 7 = i64 0)
    (hret : ∀ A' : Nat → AV, A' 6 = bl true → onward Try.prog fs Q .ret ⟨A', H, N⟩)
    (hk : ∀ A' : Nat → AV, (∀ t ∈ [0, 1, 2], A' t = A t) → (∀ r ∈ x.g, r.l.length ≤ 60) → onward Try.prog fs Q (.exit 0) ⟨A', H, N⟩) : run Try.prog (.loop a_bobbinlaw13_FrontSetb3) fs Q ⟨A, H, N⟩ := by
  have hl := x.len
  refine run_loop (fun k s => ∃ j, k = x.g.length - j ∧ j ≤ x.g.length ∧ (∀ t ∈ [0, 1, 2], s.A t = A t) ∧ s.A 7 = i64 j ∧ s.H = H ∧ s.N = N ∧ ∀ (i : Nat) (r : RowV), i < j → x.g[i]? = some r → r.l.length ≤ 60) x.g.length ?_ ?_
  · exact ⟨0, by omega, by omega, by simp, h7, rfl, rfl, fun i r hi => by omega⟩
  · rintro k A1 H1 N1 ⟨j, hk', hj, hA, e7, hH, hN, hs⟩
    simp only at hA e7 hH hN
    subst hH; subst hN
    have hA' := hA
    simp at hA'
    obtain ⟨g0, g1, g2⟩ := hA'
    rw [h0] at g0
    by_cases hjl : j = x.g.length
    · subst hjl
      simp [a_bobbinlaw13_FrontSetb3, g0, e7, hl, -alen]
      refine hk _ (by simp [g1, g2, g0, h0]) fun r hr => ?_
      obtain ⟨i, hi, rfl⟩ := List.getElem_of_mem hr
      exact hs i _ hi (List.getElem?_eq_getElem hi)
    · have hlt : j < x.g.length := by omega
      have hr := hx.rows _ (List.getElem_mem hlt)
      have hq := row_at x hx hlt
      have hrl := row_alen _ hr
      have wr : IntKind.i64.wrap ((j : Int) + 1) = ((j + 1 : Nat) : Int) := by rw [wrap_i64 (by omega) (by omega)]; rfl
      by_cases hlong : x.g[j].l.length ≤ 60
      · simp [a_bobbinlaw13_FrontSetb3, g0, e7, hl, hlt, hq, hrl, show ¬ (60 : Int) < x.g[j].l.length by omega, wr, -alen]
        refine ⟨x.g.length - (j + 1), by omega, j + 1, rfl, by omega, by simp [g0, g1, g2, h0], by simp, fun i r' hi hr' => ?_⟩
        by_cases hij : i = j
        · subst hij
          rw [List.getElem?_eq_getElem hlt] at hr'; cases hr'
          exact hlong
        · exact hs i r' (by omega) hr'
      · simp [a_bobbinlaw13_FrontSetb3, g0, e7, hl, hlt, hq, hrl, show (60 : Int) < x.g[j].l.length by omega, wr, -alen]
        exact hret _ (by simp)

/-- The set, from behind. -/
structure SbI (l : List Int) (A0 : Nat → AV) (N0 k : Nat) (s : St) : Prop where
  ex : ∃ v, k ≤ l.length ∧ (∀ t ∈ [0, 1, 2], s.A t = A0 t) ∧ s.A 8 = v ∧ s.A 9 = i64 ((k : Int) - 1) ∧ Fresh s.H s.N ∧ N0 ≤ s.N ∧ Built s.H N0 1 (.sl .nil 0 []) (intCells (l.drop k).reverse) v

theorem set_back (hr : r.Ok) (hl : r.l.length ≤ 60) (h1 : A 1 = r.av) (h8 : A 8 = .sl .nil 0 []) (h9 : A 9 = i64 ((r.l.length : Int) - 1)) (hF : Fresh H N)
    (hk : ∀ (A' : Nat → AV) (H' : AHeap) (N' : Nat) (v : AV), (∀ t ∈ [0, 1, 2], A' t = A t) → A' 8 = v → Fresh H' N' → N ≤ N' → Built H' N 1 (.sl .nil 0 []) (intCells r.l.reverse) v → onward Try.prog fs Q (.exit 2) ⟨A', H', N'⟩) : run Try.prog (.loop a_bobbinlaw13_FrontSetb2) fs Q ⟨A, H, N⟩ := by
  refine run_loop (SbI r.l A N) r.l.length ?_ ?_
  · exact ⟨.sl .nil 0 [], by omega, by simp, h8, h9, hF, Nat.le_refl _, by simp; exact .nil⟩
  · rintro k A1 H1 N1 ⟨v, hkl, hA, e8, e9, hF1, hN1, hB⟩
    simp only at hA e8 e9 hF1 hN1 hB
    have hA' := hA
    simp at hA'
    obtain ⟨g0, g1, g2⟩ := hA'
    rw [h1] at g1
    cases k with
    | zero =>
      simp at hB
      simp [a_bobbinlaw13_FrontSetb2, e9]
      exact hk _ _ _ v (by simp [g0, g1, g2, h1]) (by simp [e8]) hF1 hN1 (by simpa using hB)
    | succ k =>
      have hlt : k < r.l.length := by omega
      obtain ⟨p, hp, pp⟩ := (hr.rd H1).at (intCells_sz r.l) (intCells_at hlt)
      have lp := pp.one
      have hlim : 1000000 ≤ lim := by unfold lim; decide
      obtain ⟨v2, H2, N2, hap, hB2, hlow, hN2, hF2⟩ := hB.push (bytes := 8) (x := [i64 r.l[k]]) (k := .exact) hF1 hN1 rfl (by simp [intCells_len]; omega) (by simp [intCells_len]; omega)
      have hB3 : Built H2 N 1 (.sl .nil 0 []) (intCells (r.l.drop k).reverse) v2 := by
        have : (r.l.drop k).reverse = (r.l.drop (k + 1)).reverse ++ [r.l[k]] := by
          rw [← List.getElem_cons_drop (h := hlt), List.reverse_cons]
        rw [this, intCells_app]
        exact hB2
      have e1 : (((k + 1 : Nat) : Int) - 1) = (k : Int) := by omega
      rw [e1] at e9
      have wr : IntKind.i64.wrap ((k : Int) - 1) = (k : Int) - 1 := wrap_i64 (by omega) (by omega)
      simp [a_bobbinlaw13_FrontSetb2, g1, e8, e9, hp, lp, hap, wr, -aload]
      exact ⟨k, by omega, ⟨v2, by omega, by simp [g0, g1, g2, h1], by simp, by simp, hF2, by show N ≤ N2; omega, hB3⟩⟩

/-- The two rows are one, that rises. -/
theorem set_cmp {l : List Int} {va vb : AV} (hl : x.g.length ≤ 60) (hlen : l.length ≤ 60) (ha : RdSl H 1 (intCells l) va) (hb : RdSl H 1 (intCells l) vb) (hin : ∀ v ∈ l, 0 ≤ v ∧ v < (x.g.length : Int)) (hup : l.Pairwise (· < ·)) (h0 : A 0 = x.av) (h10 : A 10 = va) (h11 : A 11 = vb) (h12 : A 12 = i64 0)
    (hk : ∀ (A' : Nat → AV), onward Try.prog fs Q (.exit 4) ⟨A', H, N⟩) : run Try.prog (.loop a_bobbinlaw13_FrontSetb1) fs Q ⟨A, H, N⟩ := by
  have hxl := x.len
  have hal := ha.len
  rw [intCells_len] at hal
  refine run_loop (fun k s => ∃ j, k = l.length - j ∧ j ≤ l.length ∧ s.A 0 = x.av ∧ s.A 10 = va ∧ s.A 11 = vb ∧ s.A 12 = i64 j ∧ s.H = H ∧ s.N = N) l.length ?_ ?_
  · exact ⟨0, by omega, by omega, h0, h10, h11, h12, rfl, rfl⟩
  · rintro k A1 H1 N1 ⟨j, hk', hj, e0, e10, e11, e12, hH, hN⟩
    simp only at e0 e10 e11 e12 hH hN
    subst hH; subst hN
    by_cases hjl : j = l.length
    · subst hjl
      simp [a_bobbinlaw13_FrontSetb1, e10, e12, hal, -alen]
      exact hk _
    · have hlt : j < l.length := by omega
      obtain ⟨p, hp, pp⟩ := ha.at (intCells_sz l) (intCells_at hlt)
      obtain ⟨q, hq, qq⟩ := hb.at (intCells_sz l) (intCells_at hlt)
      have lp := pp.one
      have lq := qq.one
      have hv := hin _ (List.getElem_mem hlt)
      have hv1 : ¬ l[j] < 0 := by omega
      have hv2 : ¬ (x.g.length : Int) ≤ l[j] := by omega
      have wr : IntKind.i64.wrap ((j : Int) + 1) = ((j + 1 : Nat) : Int) := by rw [wrap_i64 (by omega) (by omega)]; rfl
      by_cases hz : 0 < j
      · obtain ⟨m, hm⟩ : ∃ m, j = m + 1 := ⟨j - 1, by omega⟩
        have hml : m < l.length := by omega
        obtain ⟨o, ho, oo⟩ := ha.at (intCells_sz l) (intCells_at hml)
        have lo := oo.one
        have hmj : l[m] < l[j] := List.pairwise_iff_getElem.1 hup m j hml hlt (by omega)
        have wm : IntKind.i64.wrap ((j : Int) - 1) = (m : Int) := by rw [wrap_i64 (by omega) (by omega)]; omega
        simp [a_bobbinlaw13_FrontSetb1, e0, e10, e11, e12, hal, hxl, hlt, hp, hq, ho, lp, lq, lo, hv1, hv2, hz, wr, wm, show ¬ l[j] ≤ l[m] by omega, -aload, -alen]
        exact ⟨l.length - (j + 1), by omega, j + 1, rfl, by omega, by simp⟩
      · simp [a_bobbinlaw13_FrontSetb1, e0, e10, e11, e12, hal, hxl, hlt, hp, hq, lp, lq, hv1, hv2, hz, wr, -aload, -alen]
        exact ⟨l.length - (j + 1), by omega, j + 1, rfl, by omega, by simp⟩

theorem u64_nonneg (n : Int) : 0 ≤ IntKind.u64.wrap n := by
  unfold IntKind.wrap
  exact Int.emod_nonneg _ (by decide)

theorem p_FrontSet (x : GraphV) (hx : x.Ok) (r : RowV) (hr : r.Ok) (n : Int) (H : AHeap) (N : Nat) : ACall Try.prog 11 [x.av, r.av, i64 n] H N (fun r _ _ => r = bl true) := by
  refine acallF mixed c_bobbinlaw13_FrontSet (by simp) fun hF => ?_
  have hxl := x.len
  have hrl := row_alen r hr
  simp [a_bobbinlaw13_FrontSet]
  refine p_works.acall ?_
  by_cases hn : x.g.length ≤ 60
  rotate_left
  · simp [hxl, show (60 : Int) < x.g.length by omega, -alen]
    refine p_works.acall ?_
    simp
  by_cases hl : r.l.length ≤ 60
  rotate_left
  · simp [hxl, hrl, show ¬ (60 : Int) < x.g.length by omega, show (60 : Int) < r.l.length by omega, -alen]
    refine p_works.acall ?_
    simp
  simp [hxl, hrl, show ¬ (60 : Int) < x.g.length by omega, show ¬ (60 : Int) < r.l.length by omega, -alen]
  refine set_short hx hn (by simp) (by simp) (fun A' h6 => by simp [h6]) fun A1 hA1 hsh => ?_
  have hA1' := hA1
  simp at hA1'
  obtain ⟨g0, g1, g2⟩ := hA1'
  have he := edges_short hsh
  have he2 : edges x.g ≤ 10000 := by
    have : 60 * x.g.length ≤ 60 * 60 := Nat.mul_le_mul_left _ hn
    omega
  have wr0 : IntKind.i64.wrap ((r.l.length : Int) - 1) = (r.l.length : Int) - 1 := wrap_i64 (by omega) (by omega)
  simp [g1, hrl, wr0, -alen]
  refine set_back (r := r) hr hl ?_ ?_ ?_ hF ?_
  · simp [g1]
  · simp
  · simp
  intro A2 H2 N2 v8 hA2 e8 hF2 hN2 hB2
  have hA2' := hA2
  simp at hA2'
  obtain ⟨k0, k1, k2⟩ := hA2'
  rw [g0] at k0
  rw [g1] at k1
  rw [g2] at k2
  simp [k0, k1]
  refine (a_Placed (ls := r.l) (v := r.av) hx (by omega) he2 (by omega) (fun H' _ => hr.rd H')).monoF ?_
  rintro ra H3 N3 ⟨hsa, hlow3, hN3⟩ hF3 _
  have hB3 : asrc H3 1 v8 = some ((intCells r.l.reverse).flatten, (intCells r.l.reverse).length) := by
    have : Built H3 N 1 (.sl .nil 0 []) (intCells r.l.reverse) v8 := built_later hB2 hF2 hlow3
    exact this.src
  have hlim : 1000000 ≤ lim := by unfold lim; decide
  obtain ⟨v4, H4, N4, ap4, hB4, low4, hN4, hF4⟩ := Built.append (bytes := 8) (Built.empty : Built H3 N3 1 (.sl .exact 1 []) [] (.sl .exact 1 [])) hF3 (Nat.le_refl _) hB3 (intCells_sz _) (by simp [intCells_len]; omega) (by simp [intCells_len]; omega)
  have hsr4 := rsrc hr H4
  obtain ⟨v5, H5, N5, ap5, hB5, low5, hN5, hF5⟩ := hB4.append (bytes := 8) hF4 hN4 hsr4 (intCells_sz _) (by simp [intCells_len]; omega) (by simp [intCells_len]; omega)
  simp [k0, k1, k2, e8, ap4, ap5, hxl, -alen]
  obtain ⟨m, hm, hm0, hm1⟩ : ∃ m, (IntKind.u64.wrap n).tmod 1000 = m ∧ 0 ≤ m ∧ m < 1000 := by
    have h0 : 0 ≤ IntKind.u64.wrap n := u64_nonneg n
    exact ⟨_, rfl, Int.tmod_nonneg _ h0, Int.tmod_lt_of_pos _ (by omega)⟩
  have w1 : IntKind.i64.wrap m = m := wrap_i64 (by omega) (by omega)
  have w2 : IntKind.i64.wrap ((x.g.length : Int) + m) = (x.g.length : Int) + m := wrap_i64 (by omega) (by omega)
  have w3 : IntKind.i64.wrap (-1 - m) = -1 - m := wrap_i64 (by omega) (by omega)
  rw [hm, w1, w2, w3]
  have hs6 : asrc H5 1 (.sl .exact 1 [[i64 ((x.g.length : Int) + m)], [i64 (-1 - m)]]) = some ((intCells [(x.g.length : Int) + m, -1 - m]).flatten, (intCells [(x.g.length : Int) + m, -1 - m]).length) := rfl
  obtain ⟨v6, H6, N6, ap6, hB6, low6, hN6, hF6⟩ := hB5.append (bytes := 8) hF5 (by omega) hs6 (intCells_sz _) (by simp [intCells_len]; omega) (by simp [intCells_len]; omega)
  simp [ap6]
  have hls : ([] ++ intCells r.l.reverse ++ intCells r.l ++ intCells [(x.g.length : Int) + m, -1 - m]) = intCells (r.l.reverse ++ r.l ++ [(x.g.length : Int) + m, -1 - m]) := by
    rw [intCells_app, intCells_app]; rfl
  rw [hls] at hB6
  have low : ∀ i, i < N3 → H6 i = H3 i := fun i hi => (low6 i hi).trans ((low5 i hi).trans (low4 i hi))
  refine (a_Placed (ls := r.l.reverse ++ r.l ++ [(x.g.length : Int) + m, -1 - m]) (v := v6) hx (by omega) he2 (by simp; omega) (fun H' hk => hB6.rd.later hF6 hk)).mono ?_
  rintro rb H7 N7 ⟨hsb, hlow7, hN7⟩
  have heq : plG x.g (r.l.reverse ++ r.l ++ [(x.g.length : Int) + m, -1 - m]) = plG x.g r.l := by
    refine plG_congr fun b hb => ?_
    simp only [List.mem_append, List.mem_reverse, List.mem_cons, List.not_mem_nil, or_false]
    constructor
    · rintro ((h | h) | h | h)
      · exact h
      · exact h
      · omega
      · omega
    · exact fun h => .inl (.inl h)
  rw [heq] at hsb
  have hsa7 : SlAt H7 ra (natI (plG x.g r.l)) := (hsa.later hF3 low).later hF6 hlow7
  have hla := hsa7.rd.len
  have hlb := hsb.rd.len
  rw [intCells_len] at hla hlb
  have hpl : (natI (plG x.g r.l)).length ≤ 60 := by
    simp only [natI, List.length_map]
    unfold plG
    split
    · have := setL_len (n := x.g.length) (S := Pl (FrG (Edge x.g)) fun b => (b : Int) ∈ r.l)
      omega
    · simp
  simp [hla, hlb, -alen]
  refine set_cmp (x := x) hn hpl hsa7.rd hsb.rd (fun v hv => plG_in hv) (natI_lt plG_lt) ?_ ?_ ?_ ?_ ?_
  · simp [k0]
  · simp
  · simp
  · simp
  intro A'
  simp
end

end Go.Proofs.Ytmbbklddjkmcmaa
