/- front: all the ways, one behind the other. -/
import Derived.Test.YtmbbklddjkmcmaaE1
namespace Go.Proofs.Ytmbbklddjkmcmaa
set_option linter.unusedSimpArgs false
set_option linter.unusedVariables false
open Go Go.Fw Go.Dm

section
variable {x : GraphV} {g : List RowV} {L : List Int} {bs : List Nat} {A : Nat → AV} {H : AHeap} {N : Nat} {fs : List Fr} {Q : Post}

theorem FrW.congr {w : List (List Int)} {S S' : Nat → Nat → Nat → Prop} {m m' : Nat} (h : FrW g L bs w S m) (hS : ∀ b c p, S' b c p ↔ S b c p) (hm : m ≤ m') : FrW g L bs w S' m' :=
  ⟨h.len, fun b l hb v => by
    rw [h.mem b l hb v]
    exact ⟨fun ⟨c, h1, p, h2⟩ => ⟨c, h1, p, (hS _ _ _).2 h2⟩, fun ⟨c, h1, p, h2⟩ => ⟨c, h1, p, (hS _ _ _).1 h2⟩⟩, fun l hl => Nat.le_trans (h.short l hl) hm⟩

/-- The heap between two ways. -/
structure FrZ (H : AHeap) (N T o : Nat) (tv : AV) (w : List (List Int)) (cs : List AV) : Prop where
  f : Fresh H N
  t : H T = some (.blk [tv])
  rows : RowsAt H (o + 1) o w cs
  To : T < o

theorem FrH.out {T o cb : Nat} {tv : AV} {c : Int} {w : List (List Int)} {cs : List AV} (h : FrH H N T o cb tv c w cs) : FrZ H N T o tv w cs := ⟨h.f, h.t, h.rows, h.To⟩
theorem FrZ.box {T o : Nat} {tv : AV} {w : List (List Int)} {cs : List AV} (h : FrZ H N T o tv w cs) (c : Int) : FrH (H.set N (.blk [i64 c])) (N + 1) T o N tv c w cs := by
  have hoN := h.f.lt h.rows.at_
  have hTo := h.To
  refine ⟨h.f.set _, ?_, by simp, h.rows.alloc h.f _, hTo, hoN, fun k n hk => ?_⟩
  · simp [show T ≠ N by omega, h.t]
  · have hkl := (List.getElem?_eq_some_iff.1 hk).1
    rw [h.rows.len] at hkl
    obtain ⟨_, ⟨_, h2, _⟩ | ⟨_, i, _, h2, h3⟩⟩ := h.rows.row k _ _ (List.getElem?_eq_getElem hkl) hk
    · cases h2
    · cases h2
      have := h.f.lt h3
      omega

/-- The ways that have been gone: all from blocks ahead of p, and j from p. -/
def WayP (g : List RowV) (p j : Nat) (c' p' : Nat) : Prop := (p' < p ∧ Edge g p' c') ∨ (p' = p ∧ ∃ i r, i < j ∧ g[p]? = some r ∧ r.l[i]? = some (c' : Int))
def WayS (g : List RowV) (L : List Int) (bs : List Nat) (p j : Nat) (b' c' p' : Nat) : Prop := DfW (Edge g) L bs b' c' p' ∧ WayP g p j c' p'

theorem way_next {p j c : Nat} {r : RowV} (hr : g[p]? = some r) (hc : r.l[j]? = some (c : Int)) (b' c' p' : Nat) : WayS g L bs p (j + 1) b' c' p' ↔ WayS g L bs p j b' c' p' ∨ (c' = c ∧ p' = p ∧ DfW (Edge g) L bs b' c p) := by
  unfold WayS WayP
  constructor
  · rintro ⟨h1, h2 | ⟨rfl, i, r', hi, hr', hc'⟩⟩
    · exact .inl ⟨h1, .inl h2⟩
    · by_cases hij : i = j
      · subst hij
        rw [hr] at hr'; cases hr'
        rw [hc] at hc'
        have : c = c' := by have := Option.some.inj hc'; omega
        subst this
        exact .inr ⟨rfl, rfl, h1⟩
      · exact .inl ⟨h1, .inr ⟨rfl, i, r', by omega, hr', hc'⟩⟩
  · rintro (⟨h1, h2 | ⟨h2, i, r', hi, hr', hc'⟩⟩ | ⟨rfl, rfl, h1⟩)
    · exact ⟨h1, .inl h2⟩
    · exact ⟨h1, .inr ⟨h2, i, r', by omega, hr', hc'⟩⟩
    · exact ⟨h1, .inr ⟨rfl, j, r, by omega, hr, hc⟩⟩

theorem way_row {p : Nat} {r : RowV} (hr : g[p]? = some r) (b' c' p' : Nat) : WayS g L bs (p + 1) 0 b' c' p' ↔ WayS g L bs p r.l.length b' c' p' := by
  unfold WayS WayP
  constructor
  · rintro ⟨h1, ⟨h2, h3⟩ | ⟨_, i, _, hi, _⟩⟩
    · by_cases hp : p' = p
      · subst hp
        obtain ⟨r', h4, h5⟩ := h3
        rw [hr] at h4; cases h4
        obtain ⟨i, hi, hic⟩ := List.getElem_of_mem h5
        exact ⟨h1, .inr ⟨rfl, i, r, hi, hr, by rw [List.getElem?_eq_getElem hi, hic]⟩⟩
      · exact ⟨h1, .inl ⟨by omega, h3⟩⟩
    · omega
  · rintro ⟨h1, ⟨h2, h3⟩ | ⟨rfl, i, r', hi, hr', hc⟩⟩
    · exact ⟨h1, .inl ⟨by omega, h3⟩⟩
    · exact ⟨h1, .inl ⟨by omega, r', hr', List.mem_of_getElem? hc⟩⟩

theorem way_end (b' c' p' : Nat) : WayS g L bs g.length 0 b' c' p' ↔ DfW (Edge g) L bs b' c' p' ∧ Edge g p' c' := by
  unfold WayS WayP
  constructor
  · rintro ⟨h1, ⟨_, h3⟩ | ⟨_, i, _, hi, _⟩⟩
    · exact ⟨h1, h3⟩
    · omega
  · rintro ⟨h1, h2⟩
    refine ⟨h1, .inl ⟨?_, h2⟩⟩
    obtain ⟨r, h3, _⟩ := h2
    exact (List.getElem?_eq_some_iff.1 h3).1

/-- Over the ways from one block. -/
structure FwJr (g : List RowV) (L : List Int) (bs : List Nat) (p T o : Nat) (tv : AV) (K : Nat) (A0 : Nat → AV) (k : Nat) (s : St) : Prop where
  ex : ∃ (j : Nat) (w : List (List Int)) (cs : List AV), k = K - j ∧ j ≤ K ∧ (∀ t ∈ [0, 3, 5, 6, 23, 24, 30, 31], s.A t = A0 t) ∧ s.A 32 = i64 j ∧ FrZ s.H s.N T o tv w cs ∧ FrW g L bs w (WayS g L bs p j) (edges (g.take p) + j)

theorem fr_ways {r : RowV} (hr : r.Ok) (hn : g.length ≤ 100) (he : edges g ≤ 10000) (hT : TreeOk g L bs) (hin : InG g) {p T o : Nat} {w : List (List Int)} {cs : List AV} (hp : g[p]? = some r)
    (h3 : A 3 = .mp T 0) (h5 : A 5 = .ms o 0 g.length 1) (h6 : A 6 = i64 p) (h30 : A 30 = r.av) (h31 : A 31 = i64 r.l.length) (h32 : A 32 = i64 0) (hZ : FrZ H N T o (treeV g.length L bs) w cs) (hW : FrW g L bs w (WayS g L bs p 0) (edges (g.take p)))
    (hk : ∀ (A' : Nat → AV) (H' : AHeap) (N' : Nat) (w' : List (List Int)) (cs' : List AV), (∀ t ∈ [0, 3, 5, 6, 23, 24, 30, 31], A' t = A t) → FrZ H' N' T o (treeV g.length L bs) w' cs' → FrW g L bs w' (WayS g L bs (p + 1) 0) (edges (g.take (p + 1))) →
      onward Try.prog fs Q (.exit 2) ⟨A', H', N'⟩) : run Try.prog (.loop a_front_Ofb3) fs Q ⟨A, H, N⟩ := by
  have hpl := (List.getElem?_eq_some_iff.1 hp).1
  have hpr := (List.getElem?_eq_some_iff.1 hp).2
  have hex := edges_take hpl
  rw [hpr] at hex
  have hel := edges_le g (p + 1)
  obtain ⟨K, hK⟩ : ∃ K, K = r.l.length := ⟨_, rfl⟩
  refine run_loop (FwJr g L bs p T o (treeV g.length L bs) K A) K ?_ ?_
  · exact ⟨0, w, cs, by omega, by omega, by simp, h32, hZ, hW⟩
  · rintro k A1 H1 N1 ⟨j, w1, cs1, hk', hj, hA, e32, hZ1, hW1⟩
    simp only at hA e32 hZ1
    have hA' := hA
    simp at hA'
    obtain ⟨g0, g3, g5, g6, g23, g24, g30, g31⟩ := hA'
    rw [h3] at g3
    rw [h5] at g5
    rw [h6] at g6
    rw [h30] at g30
    rw [h31] at g31
    by_cases hjl : j = r.l.length
    · subst hjl
      simp [a_front_Ofb3, g31, e32]
      refine hk _ _ _ w1 cs1 (by simpa [g31] using hA) hZ1 ?_
      rw [hex]
      exact hW1.congr (fun b' c' p' => way_row hp b' c' p') (Nat.le_refl _)
    · have hlt : j < r.l.length := by omega
      have hq := cell_at r hr hlt
      have hcin := hin r (List.mem_of_getElem? hp) _ (List.getElem_mem hlt)
      obtain ⟨c, hc⟩ : ∃ c : Nat, r.l[j] = (c : Int) := ⟨(r.l[j]).toNat, by omega⟩
      rw [hc] at hq
      have hjc : r.l[j]? = some (c : Int) := by rw [List.getElem?_eq_getElem hlt, hc]
      have wr : IntKind.i64.wrap ((j : Int) + 1) = ((j + 1 : Nat) : Int) := by rw [wrap_i64 (by omega) (by omega)]; rfl
      have hB := hZ1.box (c : Int)
      have fin : ∀ (A' : Nat → AV) (H' : AHeap) (N' : Nat) (w' : List (List Int)) (cs' : List AV), (∀ t ∈ [0, 3, 5, 6, 23, 24, 30, 31], A' t = A t) → A' 32 = i64 (j + 1 : Nat) → FrZ H' N' T o (treeV g.length L bs) w' cs' → FrW g L bs w' (fun b' c' p' => WayS g L bs p j b' c' p' ∨ (c' = c ∧ p' = p ∧ DfW (Edge g) L bs b' c p)) (edges (g.take p) + j + 1) →
          ∃ m, m < k ∧ FwJr g L bs p T o (treeV g.length L bs) K A m ⟨A', H', N'⟩ := fun A' H' N' w' cs' k0 k32 hZ' hW' =>
        ⟨K - (j + 1), by omega, ⟨j + 1, w', cs', rfl, by omega, k0, k32, hZ', hW'.congr (fun b' c' p' => way_next hp hjc b' c' p') (by omega)⟩⟩
      by_cases hrp : Rch (Edge g) p
      · obtain ⟨l, hl⟩ := hT.ups _ (Nat.le_refl _) hrp
        simp [a_front_Ofb3, g3, g6, g30, g31, e32, hlt, hq]
        refine fr_up (g := g) (l := l) (c := c) (p := p) (T := T) (o := o) (cb := N1) hn hT hrp hl (by omega : edges (g.take p) + j ≤ 100000) ?_ ?_ ?_ ?_ ?_ ?_ hB hW1 ?_
        · simp [g3]
        · simp [g5]
        · simp [g6]
        · simp
        · simp [sfn, g3]
        · simp
        intro A2 H2 N2 w2 cs2 hA2 hH2 hW2
        simp at hA2
        simp [hA2, e32, wr]
        refine fin _ _ _ w2 cs2 ?_ ?_ hH2.out hW2
        · simp [hA2, g0, g3, g5, g6, g23, g24, g30, g31, h3, h5, h6, h30, h31]
        · simp
      · have hno : rchI bs (p : Int) = false := by
          cases hq2 : rchI bs (p : Int) with
          | false => rfl
          | true => exact absurd (by simpa using ((rch_iff hT).1 hq2).2) hrp
        have lt2 : aload (H1.set N1 (.blk [i64 c])) false 1 (.mp T 0) = some (treeV g.length L bs) := by
          have := hB.t
          simp only [aload, this, apart]
          rfl
        simp [a_front_Ofb3, g3, g6, g30, g31, e32, hlt, hq]
        refine run_loop (fun (_ : Nat) s => (∀ t ∈ [0, 3, 5, 6, 23, 24, 30, 31, 32], s.A t = A1 t) ∧ s.H = H1.set N1 (.blk [i64 c]) ∧ s.N = N1 + 1) 0 ⟨by simp [g3, g6, g30, g31, e32], rfl, rfl⟩ ?_
        rintro k2 A2 H2 N2 ⟨hA2, hHe, hNe⟩
        simp only at hA2 hHe hNe
        subst hHe hNe
        simp at hA2
        simp [a_front_Ofb2, hA2, g3, g6, lt2, -aload]
        refine (p_Reached hT _).acall ?_
        simp [hno, hA2, e32, wr]
        refine fin _ _ _ w1 cs1 ?_ ?_ hB.out (hW1.congr (fun b' c' p' => ?_) (by omega))
        · simp [hA2, g0, g3, g5, g6, g23, g24, g30, g31, h3, h5, h6, h30, h31]
        · simp
        · constructor
          · rintro (h | ⟨_, _, h⟩)
            · exact h
            · exact absurd h.1 hrp
          · exact .inl

end
end Go.Proofs.Ytmbbklddjkmcmaa
