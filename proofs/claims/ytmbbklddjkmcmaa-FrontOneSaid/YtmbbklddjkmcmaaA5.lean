/- dom: the blocks from which one comes. -/
import Derived.Test.YtmbbklddjkmcmaaA4
import Derived.Test.YtmbbklddjkmcmaaM5
namespace Go.Proofs.Ytmbbklddjkmcmaa
set_option linter.unusedSimpArgs false
set_option linter.unusedVariables false
open Go Go.Fw Go.Dm

/-- How many ways a graph has. -/
def edges (g : List RowV) : Nat := (g.map fun r => r.l.length).sum

theorem edges_take {g : List RowV} {b : Nat} (h : b < g.length) : edges (g.take (b + 1)) = edges (g.take b) + g[b].l.length := by
  rw [take_next h]; simp only [edges, List.map_append, List.sum_append, List.map_cons, List.map_nil, List.sum_cons, List.sum_nil, Nat.add_zero]
theorem edges_le (g : List RowV) (b : Nat) : edges (g.take b) ≤ edges g := by
  have : edges g = edges (g.take b) + edges (g.drop b) := by
    unfold edges
    rw [← List.sum_append, ← List.map_append, List.take_append_drop]
  omega

/-- What is known of the rows. -/
structure FromOk (g : List RowV) (w : List (List Int)) : Prop where
  len : w.length = g.length
  mem : ∀ (c : Nat) (l : List Int), w[c]? = some l → ∀ v, v ∈ l ↔ ∃ a : Nat, v = a ∧ Edge g a c
  short : ∀ l ∈ w, l.length ≤ edges g

/-- While the rows are built: all of the blocks ahead of b, and j ways of b. -/
structure FromAt (g : List RowV) (w : List (List Int)) (b j : Nat) : Prop where
  len : w.length = g.length
  mem : ∀ (c : Nat) (l : List Int), w[c]? = some l → ∀ v, v ∈ l ↔ ((∃ a : Nat, a < b ∧ v = a ∧ Edge g a c) ∨ (v = b ∧ ∃ i r, i < j ∧ g[b]? = some r ∧ r.l[i]? = some (c : Int)))
  short : ∀ l ∈ w, l.length ≤ edges (g.take b) + j

theorem FromAt.push {g : List RowV} {w : List (List Int)} {b j c : Nat} {l : List Int} {r : RowV} (h : FromAt g w b j) (hr : g[b]? = some r) (hj : r.l[j]? = some (c : Int)) (hc : w[c]? = some l) : FromAt g (w.set c (l ++ [(b : Int)])) b (j + 1) := by
  have hcw : c < w.length := (List.getElem?_eq_some_iff.1 hc).1
  refine ⟨by simp [h.len], fun c' l' hl' v => ?_, fun l' hl' => ?_⟩
  · rw [List.getElem?_set] at hl'
    by_cases hcc : c = c'
    · subst hcc
      rw [if_pos rfl, if_pos hcw] at hl'
      cases hl'
      rw [List.mem_append, List.mem_singleton, h.mem c l hc v]
      constructor
      · rintro ((h1 | ⟨rfl, i, r', h1, h2, h3⟩) | rfl)
        · exact .inl h1
        · exact .inr ⟨rfl, i, r', by omega, h2, h3⟩
        · exact .inr ⟨rfl, j, r, by omega, hr, hj⟩
      · rintro (h1 | ⟨rfl, i, r', h1, h2, h3⟩)
        · exact .inl (.inl h1)
        · exact .inr rfl
    · rw [if_neg hcc] at hl'
      rw [h.mem c' l' hl' v]
      constructor
      · rintro (h1 | ⟨rfl, i, r', h1, h2, h3⟩)
        · exact .inl h1
        · exact .inr ⟨rfl, i, r', by omega, h2, h3⟩
      · rintro (h1 | ⟨rfl, i, r', h1, h2, h3⟩)
        · exact .inl h1
        · rw [hr] at h2; cases h2
          by_cases hij : i = j
          · subst hij; rw [hj] at h3
            have : c = c' := by have := Option.some.inj h3; omega
            exact absurd this hcc
          · exact .inr ⟨rfl, i, r, by omega, hr, h3⟩
  · rcases List.mem_or_eq_of_mem_set hl' with h1 | h1
    · have := h.short l' h1; omega
    · have := h.short l (List.mem_of_getElem? hc)
      subst h1; simp; omega

theorem FromAt.next {g : List RowV} {w : List (List Int)} {b : Nat} (hb : b < g.length) (h : FromAt g w b g[b].l.length) : FromAt g w (b + 1) 0 := by
  refine ⟨h.len, fun c l hl v => ?_, fun l hl => ?_⟩
  · rw [h.mem c l hl v]
    constructor
    · rintro (⟨a, h1, h2, h3⟩ | ⟨rfl, i, r, h1, h2, h3⟩)
      · exact .inl ⟨a, by omega, h2, h3⟩
      · exact .inl ⟨b, by omega, rfl, r, h2, List.mem_of_getElem? h3⟩
    · rintro (⟨a, h1, rfl, h3⟩ | ⟨_, i, _, h1, _⟩)
      · by_cases hab : a = b
        · subst hab
          obtain ⟨r, h4, h5⟩ := h3
          have hrb : g[a]? = some g[a] := List.getElem?_eq_getElem hb
          rw [hrb] at h4; cases h4
          obtain ⟨i, hi, hic⟩ := List.getElem_of_mem h5
          exact .inr ⟨rfl, i, g[a], hi, hrb, by rw [List.getElem?_eq_getElem hi, hic]⟩
        · exact .inl ⟨a, by omega, rfl, h3⟩
      · omega
  · have := h.short l hl
    rw [edges_take hb]; omega

theorem FromAt.done {g : List RowV} {w : List (List Int)} (h : FromAt g w g.length 0) : FromOk g w := by
  refine ⟨h.len, fun c l hl v => ?_, fun l hl => ?_⟩
  · rw [h.mem c l hl v]
    constructor
    · rintro (⟨a, _, h2, h3⟩ | ⟨_, i, _, h1, _⟩)
      · exact ⟨a, h2, h3⟩
      · omega
    · rintro ⟨a, h1, h2⟩
      obtain ⟨r, h3, h4⟩ := h2
      exact .inl ⟨a, (List.getElem?_eq_some_iff.1 h3).1, h1, r, h3, h4⟩
  · have := h.short l hl
    rw [List.take_length] at this; omega

theorem p_from (x : GraphV) (hx : x.Ok) (hin : InG x.g) (h0 : 0 < x.g.length) (hn : x.g.length ≤ 32768) (he : edges x.g ≤ 1000000000) :
    PCallS Try.prog 40 [x.av] (fun r => ∃ w, r = .sl .any 1 (rowsV w) ∧ FromOk x.g w) := by
  have hmx : maxLen = 9223372036854775807 := rfl
  refine PCallS.of fun N => acallF mixed c_dom_from (by simp) fun hF => ?_
  have hl := x.len
  have hmk : amake 1 24 [.sl .nil 0 []] (i64 x.g.length) (i64 x.g.length) = some (x.g.length, x.g.length) := by
    simp [amake]; omega
  obtain ⟨M, hM⟩ : ∃ M, M = List.replicate x.g.length (AV.sl .nil 0 []) := ⟨_, rfl⟩
  have hrep : (List.replicate x.g.length [AV.sl .nil 0 []]).flatten = M := by rw [hM]; simp
  simp [a_dom_from, hl, hmk, hrep, -alen]
  refine run_loop (fun k s => ∃ (b : Nat) (w : List (List Int)) (cs : List AV), b ≤ x.g.length ∧ k = x.g.length - b ∧ s.A 3 = .ms N 0 x.g.length 1 ∧ s.A 11 = x.av ∧ s.A 12 = i64 x.g.length ∧ s.A 13 = i64 b ∧ N + 1 ≤ s.N ∧ Fresh s.H s.N ∧
      RowsAt s.H (N + 1) N w cs ∧ FromAt x.g w b 0) x.g.length ?_ ?_
  · refine ⟨0, List.replicate x.g.length [], M, by omega, by omega, by simp, by simp, by simp, by simp, Nat.le_refl _, hF.set _, ?_, ⟨by simp, fun c l hl v => ?_, fun l hl => ?_⟩⟩
    · rw [hM]; exact RowsAt.start _ (by simp) (by omega)
    · rw [List.eq_of_mem_replicate (List.mem_of_getElem? hl)]
      simp
    · rw [List.eq_of_mem_replicate hl]; simp
  · rintro k A H1 N1 ⟨b, w, cs, hb, rfl, h3, h11, h12, h13, hN1, hF1, hR, hA⟩
    simp only at h3 h11 h12 h13 hN1 hF1 hR
    by_cases hbl : b = x.g.length
    · subst hbl
      simp [a_dom_fromb2, h3, h12, h13]
      have := hR.view
      rw [hA.len] at this
      exact ⟨_, this, w, rfl, hA.done⟩
    · have hlt : b < x.g.length := by omega
      have hr := hx.rows _ (List.getElem_mem hlt)
      have hrll := hr.hl
      have hrb : x.g[b]? = some x.g[b] := List.getElem?_eq_getElem hlt
      obtain ⟨q, hq, qq⟩ := (hx.rd noHeap).at (gCells_sz _) (gCells_at hlt)
      have hxq : q = .ip [x.g[b].av] 0 := by
        rcases qq with rfl | ⟨id, off, ds, rfl, h1, _⟩
        · rfl
        · cases h1
      subst hxq
      have hrlen := (hr.rd noHeap).len
      rw [intCells_len] at hrlen
      simp [a_dom_fromb2, h11, h12, h13, hlt, hq, hrlen, -alen]
      refine run_loop (fun k s => ∃ (j : Nat) (w : List (List Int)) (cs : List AV), j ≤ x.g[b].l.length ∧ k = x.g[b].l.length - j ∧ s.A 3 = .ms N 0 x.g.length 1 ∧ s.A 4 = i64 b ∧ s.A 11 = x.av ∧ s.A 12 = i64 x.g.length ∧ s.A 13 = i64 b ∧ s.A 18 = x.g[b].av ∧ s.A 19 = i64 x.g[b].l.length ∧ s.A 20 = i64 j ∧
          N + 1 ≤ s.N ∧ Fresh s.H s.N ∧ RowsAt s.H (N + 1) N w cs ∧ FromAt x.g w b j) x.g[b].l.length ?_ ?_
      · exact ⟨0, w, cs, by omega, by omega, by simp [h3], by simp, by simp [h11], by simp [h12], by simp [h13], by simp, by simp, by simp, hN1, hF1, hR, hA⟩
      · rintro k A2 H2 N2 ⟨j, w2, cs2, hj, rfl, g3, g4, g11, g12, g13, g18, g19, g20, hN2, hF2, hR2, hA2⟩
        simp only at g3 g4 g11 g12 g13 g18 g19 g20 hN2 hF2 hR2
        by_cases hjl : j = x.g[b].l.length
        · subst hjl
          simp [a_dom_fromb1, g19, g20, g13]
          exact ⟨x.g.length - (b + 1), by omega, b + 1, by omega, rfl, g3, g11, g12, by rw [wrap_i64 (by omega) (by omega)]; rfl, hN2, hF2, w2, ⟨cs2, hR2⟩, hA2.next hlt⟩
        · have hjlt : j < x.g[b].l.length := by omega
          obtain ⟨c, hc⟩ : ∃ c : Nat, x.g[b].l[j] = (c : Int) := ⟨x.g[b].l[j].toNat, by have := hin _ (List.getElem_mem hlt) _ (List.getElem_mem hjlt); omega⟩
          have hcg : c < x.g.length := by have := hin _ (List.getElem_mem hlt) _ (List.getElem_mem hjlt); omega
          obtain ⟨q2, hq2, qq2⟩ := (hr.rd noHeap).at (intCells_sz _) (intCells_at hjlt)
          have hxq2 : q2 = .ip [i64 c] 0 := by
            rcases qq2 with rfl | ⟨id, off, ds, rfl, h1, _⟩
            · rw [hc]
            · cases h1
          subst hxq2
          have hjc : x.g[b].l[j]? = some (c : Int) := by rw [List.getElem?_eq_getElem hjlt, hc]
          have hcw : c < w2.length := by rw [hA2.len]; exact hcg
          have hwc : w2[c]? = some w2[c] := List.getElem?_eq_getElem hcw
          have hix : aindex 1 (.ms N 0 x.g.length 1) (i64 c) = some (.mp N c) := by simp [aindex, hcg]
          have hshort : w2[c].length ≤ 1000000000 := by
            have h1 := hA2.short _ (List.getElem_mem hcw)
            have h2 := edges_take hlt
            have h3 := edges_le x.g (b + 1)
            omega
          obtain ⟨a, H3, hca, hac, happ, hH3, hlow, hF3, hR3⟩ := hR2.push hF2 hN2 hwc (by omega) (b : Int)
          have hat := hR2.at_
          have hcl : c + 1 ≤ cs2.length := by rw [hR2.len]; omega
          simp [a_dom_fromb1, g3, g4, g18, g19, g20, hjlt, hq2, hix, hat, hca, happ, hH3, hcl]
          exact ⟨x.g[b].l.length - (j + 1), by omega, j + 1, by omega, rfl, g11, g12, g13, by rw [wrap_i64 (by omega) (by omega)]; rfl, by omega, (fun i hi => by simp [show i ≠ N by omega, hF3 i hi]), _, ⟨_, hR3⟩, hA2.push hrb hjc hwc⟩

end Go.Proofs.Ytmbbklddjkmcmaa
