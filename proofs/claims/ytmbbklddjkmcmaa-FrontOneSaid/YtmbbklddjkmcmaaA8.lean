/- dom: a round's step: what lies above all from which one comes. -/
import Derived.Test.YtmbbklddjkmcmaaA7
namespace Go.Proofs.Ytmbbklddjkmcmaa
set_option linter.unusedSimpArgs false
set_option linter.unusedVariables false
open Go Go.Fw Go.Dm

/-- All that a tree being made is known to be. -/
structure Mk (g : List RowV) (bs : List Nat) (pr : Nat → Nat) (L P : List Int) : Prop where
  row : RowOk g bs
  ord : Dm.Ord (Edge g) (fun b => bs.idxOf b) pr
  ll : L.length = g.length
  lp : P.length = g.length
  p : ∀ x : Nat, Rch (Edge g) x → P[x]? = some ((bs.idxOf x : Nat) : Int)
  pn : ∀ x : Nat, x < g.length → ¬ Rch (Edge g) x → P[x]? = some (-1)
  l : ∀ (x : Nat) (v : Int), L[x]? = some v → v = -1 ∨ 0 ≤ v

theorem Mk.none {g : List RowV} {bs : List Nat} {pr : Nat → Nat} {L P : List Int} (h : Mk g bs pr L P) {x : Nat} (hx : x < g.length) : L[x]? = some (-1) ∨ ∃ d : Nat, L[x]? = some (d : Int) ∧ nxOf L x = some d := by
  have hl : x < L.length := by rw [h.ll]; exact hx
  have hg : L[x]? = some L[x] := List.getElem?_eq_getElem hl
  rcases h.l x _ hg with h1 | h1
  · left; rw [hg, h1]
  · right
    refine ⟨L[x].toNat, by rw [hg]; congr 1; omega, ?_⟩
    unfold nxOf; rw [hg]; simp [h1]
theorem nxOf_minus {L : List Int} {x : Nat} (h : L[x]? = some (-1)) : nxOf L x = none := by unfold nxOf; rw [h]; simp

section
variable {g : List RowV} {bs : List Nat} {pr : Nat → Nat} {L P : List Int} {H : AHeap} {t ni qi b : Nat} {w : List (List Int)} {A : Nat → AV} {N : Nat} {fs : List Fr} {Q : Post}

/-- What j of the ways to b come to. -/
def WaysAt (E : Nat → Nat → Prop) (nx : Nat → Option Nat) (l : List Int) (j : Nat) (v : Int) : Prop :=
  (v = -1 ∧ ∀ i (p : Nat), i < j → l[i]? = some (p : Int) → ¬ (Rch E p ∧ Dfd nx p)) ∨
  ∃ m : Nat, v = m ∧ Rch E m ∧ Dfd nx m ∧ ∀ c, Up nx c m ↔ ∀ i (p : Nat), i < j → l[i]? = some (p : Int) → Rch E p → Dfd nx p → Up nx c p

theorem WaysAt.skip {E : Nat → Nat → Prop} {nx : Nat → Option Nat} {l : List Int} {j : Nat} {v : Int} {p : Nat} (h : WaysAt E nx l j v) (hp : l[j]? = some (p : Int)) (hno : ¬ (Rch E p ∧ Dfd nx p)) : WaysAt E nx l (j + 1) v := by
  have same : ∀ {i q : Nat}, i < j + 1 → l[i]? = some (q : Int) → i < j ∨ q = p := fun {i q} hi hq => by
    by_cases hij : i = j
    · subst hij; rw [hp] at hq; right; have := Option.some.inj hq; omega
    · left; omega
  rcases h with ⟨h1, h2⟩ | ⟨m, h1, h2, h3, h4⟩
  · refine .inl ⟨h1, fun i q hi hq => ?_⟩
    rcases same hi hq with h | rfl
    · exact h2 i q h hq
    · exact hno
  · refine .inr ⟨m, h1, h2, h3, fun c => ?_⟩
    rw [h4 c]
    constructor
    · intro hh i q hi hq hr hd
      rcases same hi hq with h | rfl
      · exact hh i q h hq hr hd
      · exact absurd ⟨hr, hd⟩ hno
    · intro hh i q hi hq hr hd
      exact hh i q (by omega) hq hr hd

theorem WaysAt.first {E : Nat → Nat → Prop} {nx : Nat → Option Nat} {l : List Int} {j : Nat} {p : Nat} (h : WaysAt E nx l j (-1)) (hp : l[j]? = some (p : Int)) (hr : Rch E p) (hd : Dfd nx p) : WaysAt E nx l (j + 1) p := by
  rcases h with ⟨_, h2⟩ | ⟨m, h1, _⟩
  · refine .inr ⟨p, rfl, hr, hd, fun c => ?_⟩
    constructor
    · intro hh i q hi hq hr' hd'
      by_cases hij : i = j
      · subst hij; rw [hp] at hq
        have : q = p := by have := Option.some.inj hq; omega
        rw [this]; exact hh
      · exact absurd ⟨hr', hd'⟩ (h2 i q (by omega) hq)
    · intro hh
      exact hh j p (by omega) hp hr hd
  · omega

theorem WaysAt.meet {E : Nat → Nat → Prop} {nx : Nat → Option Nat} {l : List Int} {j m m' p : Nat} (h : WaysAt E nx l j m) (hp : l[j]? = some (p : Int)) (hr : Rch E p) (hd : Dfd nx p) (hm : Rch E m') (hmd : Dfd nx m') (hg : ∀ c, Up nx c m' ↔ (Up nx c m ∧ Up nx c p)) : WaysAt E nx l (j + 1) m' := by
  rcases h with ⟨h1, _⟩ | ⟨k, h1, h2, h3, h4⟩
  · omega
  · have : k = m := by omega
    subst this
    refine .inr ⟨m', rfl, hm, hmd, fun c => ?_⟩
    rw [hg c, h4 c]
    constructor
    · rintro ⟨hh, hp'⟩ i q hi hq hr' hd'
      by_cases hij : i = j
      · subst hij; rw [hp] at hq
        have : q = p := by have := Option.some.inj hq; omega
        rw [this]; exact hp'
      · exact hh i q (by omega) hq hr' hd'
    · intro hh
      exact ⟨fun i q hi hq hr' hd' => hh i q (by omega) hq hr' hd', hh j p (by omega) hp hr hd⟩

/-- Where the loop over the ways to b stands. -/
structure WayI (g : List RowV) (L : List Int) (l : List Int) (wv : AV) (A : Nat → AV) (H : AHeap) (N k : Nat) (s : St) : Prop where
  ex : ∃ (j : Nat) (v : Int), j ≤ l.length ∧ k = l.length - j ∧ (∀ t ∈ [4, 5, 6, 9, 11, 49, 50, 51], s.A t = A t) ∧ s.A 12 = i64 v ∧ s.A 58 = wv ∧ s.A 59 = i64 l.length ∧ s.A 60 = i64 j ∧ s.H = H ∧ s.N = N ∧ WaysAt (Edge g) (nxOf L) l j v

theorem of_ways (hT : TAt H t ni qi L P) (hM : Mk g bs pr L P) (hf : Fit (Edge g) (fun b => bs.idxOf b) (nxOf L)) (hw : FromOk g w) (hb : b < g.length) (hsh : edges g ≤ 1000000000)
    (h4 : A 4 = .mp t 0) (h6 : A 6 = .sl .any 1 (rowsV w)) (h11 : A 11 = i64 b) (h12 : A 12 = i64 (-1))
    (hk : ∀ A' l v, w[b]? = some l → (∀ t ∈ [4, 5, 6, 9, 11, 49, 50, 51], A' t = A t) → A' 12 = i64 v → WaysAt (Edge g) (nxOf L) l l.length v → onward Try.prog fs Q .normal ⟨A', H, N⟩) : run Try.prog a_Of_ways fs Q ⟨A, H, N⟩ := by
  have hbw : b < w.length := by rw [hw.len]; exact hb
  have hwb : w[b]? = some w[b] := List.getElem?_eq_getElem hbw
  have hix : aindex 1 (.sl .any 1 (rowsV w)) (i64 b) = some (.ip [bsl (.sl .nil 0 []) 1 (intCells w[b])] 0) := elem_of hbw
  obtain ⟨wv, hwv⟩ : ∃ wv, wv = bsl (.sl .nil 0 []) 1 (intCells w[b]) := ⟨_, rfl⟩
  rw [← hwv] at hix
  have hrd : ∀ H, RdSl H 1 (intCells w[b]) wv := fun H => by rw [hwv]; exact bsl_rd ⟨_, _, rfl⟩
  have hwl := (hrd noHeap).len
  rw [intCells_len] at hwl
  have hshort := hw.short _ (List.getElem_mem hbw)
  have ht := hT.t
  have hn := hT.n
  have hp := hT.p
  have hlen := hT.len
  simp [a_Of_ways, h6, h11, hix, hwl, -alen]
  refine run_loop (WayI g L w[b] wv A H N) w[b].length ?_ ?_
  · exact ⟨0, -1, by omega, by omega, by simp, by simp [h12], by simp, by simp, by simp, rfl, rfl, .inl ⟨rfl, fun i p hi => by omega⟩⟩
  · rintro k A1 H1 N1 ⟨⟨j, v, hj, rfl, hA, g12, g58, g59, g60, hHe, hNe, hW⟩⟩
    simp only at hA g12 g58 g59 g60 hHe hNe
    subst hHe hNe
    have g4 : A1 4 = .mp t 0 := (hA 4 (by simp)).trans h4
    by_cases hjl : j = w[b].length
    · subst hjl
      simp [a_dom_Ofb1, g59, g60]
      exact hk _ _ v hwb (by simpa using hA) (by simp [g12]) hW
    · have hlt : j < w[b].length := by omega
      obtain ⟨p, hp1, hE⟩ := (hw.mem b _ hwb _).1 (List.getElem_mem hlt)
      have hpj : w[b][j]? = some (p : Int) := by rw [List.getElem?_eq_getElem hlt, hp1]
      have hpg : p < g.length := by obtain ⟨r, h1, _⟩ := hE; exact (List.getElem?_eq_some_iff.1 h1).1
      have hpl : p < P.length := by rw [hM.lp]; exact hpg
      have hpL : p < L.length := by rw [hM.ll]; exact hpg
      obtain ⟨q, hq, qq⟩ := (hrd noHeap).at (intCells_sz _) (intCells_at hlt)
      have hxq : q = .ip [i64 p] 0 := by
        rcases qq with rfl | ⟨id, off, ds, rfl, h1, _⟩
        · rw [hp1]
        · cases h1
      subst hxq
      have ip : aindex 1 (.ms qi 0 L.length 1) (i64 p) = some (.mp qi p) := by simp [aindex, hpL]
      have inn : aindex 1 (.ms ni 0 L.length 1) (i64 p) = some (.mp ni p) := by simp [aindex, hpL]
      have ld0 : aload H1 false 1 (.mp t 0) = some (.ms ni 0 L.length 1) := by simp [aload, apart, ht]
      have ld1 : aload H1 false 1 (.mp t 1) = some (.ms qi 0 L.length 1) := by simp [aload, apart, ht]
      have ldq : aload H1 false 1 (.ip [i64 p] 0) = some (i64 p) := rfl
      have ldp : aload H1 false 1 (.mp qi p) = some (i64 P[p]) := by simp [aload, apart, hp, hpl]
      have ldn : aload H1 false 1 (.mp ni p) = some (i64 L[p]) := by simp [aload, apart, hn, hpL]
      have wr : IntKind.i64.wrap ((j : Int) + 1) = ((j + 1 : Nat) : Int) := by rw [wrap_i64 (by omega) (by omega)]; rfl
      have hA' := hA
      simp at hA'
      by_cases hr : Rch (Edge g) p
      · have pp := hM.p p hr
        have gp : P[p] = ((bs.idxOf p : Nat) : Int) := (List.getElem?_eq_some_iff.1 pp).2
        have n0 : decide (((bs.idxOf p : Nat) : Int) < 0) = false := decide_eq_false (by omega)
        by_cases hd : Dfd (nxOf L) p
        · -- it counts
          rcases hW with ⟨rfl, hnone⟩ | ⟨m, rfl, hrm, hdm, hgm⟩
          · have hW' := WaysAt.first (.inl ⟨rfl, hnone⟩) hpj hr hd
            by_cases hp0 : p = 0
            · subst hp0
              have ip0 : aindex 1 (.ms qi 0 L.length 1) (i64 0) = some (.mp qi 0) := ip
              have hq0 : aindex 1 wv (i64 j) = some (.ip [i64 0] 0) := hq
              have ldq0 : aload H1 false 1 (.ip [i64 0] 0) = some (i64 0) := rfl
              have ldp0 : aload H1 false 1 (.mp qi 0) = some (i64 P[0]) := ldp
              simp [a_dom_Ofb1, g4, g12, g58, g59, g60, hlt, hq0, ld0, ld1, ldq0, ldp0, ip0, gp, n0, -aload]
              exact ⟨w[b].length - (j + 1), by omega, ⟨j + 1, 0, by omega, rfl, by simpa using hA, by simp, by simp [g58], by simp [g59], by simp [wr], rfl, rfl, hW'⟩⟩
            · obtain ⟨d, hd'⟩ := hd.resolve_left hp0
              have gL : L[p] = (d : Int) := (List.getElem?_eq_some_iff.1 (nxOf_some hd')).2
              have d0 : decide ((d : Int) < 0) = false := decide_eq_false (by omega)
              simp [a_dom_Ofb1, g4, g12, g58, g59, g60, hlt, hq, ld0, ld1, ldq, ldp, ldn, ip, inn, gp, n0, gL, d0, hp0, -aload]
              exact ⟨w[b].length - (j + 1), by omega, ⟨j + 1, p, by omega, rfl, by simpa using hA, by simp, by simp [g58], by simp [g59], by simp [wr], rfl, rfl, hW'⟩⟩
          · have m0 : decide ((m : Int) < 0) = false := decide_eq_false (by omega)
            have hmeet := a_meet hT hM.ord hf hM.p m p hrm hr hdm hd N1
            have fin : ∀ m' : Nat, Rch (Edge g) m' → Dfd (nxOf L) m' → (∀ c, Up (nxOf L) c m' ↔ (Up (nxOf L) c m ∧ Up (nxOf L) c p)) → WaysAt (Edge g) (nxOf L) w[b] (j + 1) m' := fun m' h1 h2 h3 => WaysAt.meet (.inr ⟨m, rfl, hrm, hdm, hgm⟩) hpj hr hd h1 h2 h3
            by_cases hp0 : p = 0
            · subst hp0
              have ip0 : aindex 1 (.ms qi 0 L.length 1) (i64 0) = some (.mp qi 0) := ip
              have hq0 : aindex 1 wv (i64 j) = some (.ip [i64 0] 0) := hq
              have ldq0 : aload H1 false 1 (.ip [i64 0] 0) = some (i64 0) := rfl
              have ldp0 : aload H1 false 1 (.mp qi 0) = some (i64 P[0]) := ldp
              simp [a_dom_Ofb1, g4, g12, g58, g59, g60, hlt, hq0, ld0, ld1, ldq0, ldp0, ip0, gp, n0, m0, -aload]
              refine hmeet.mono ?_
              rintro r H2 N2 ⟨rfl, rfl, m', rfl, h1, h2, h3⟩
              simp [g60]
              exact ⟨w[b].length - (j + 1), by omega, ⟨j + 1, m', by omega, rfl, by simpa using hA, by simp, by simp [g58], by simp [g59], by simp [wr], rfl, rfl, fin m' h1 h2 h3⟩⟩
            · obtain ⟨d, hd'⟩ := hd.resolve_left hp0
              have gL : L[p] = (d : Int) := (List.getElem?_eq_some_iff.1 (nxOf_some hd')).2
              have d0 : decide ((d : Int) < 0) = false := decide_eq_false (by omega)
              simp [a_dom_Ofb1, g4, g12, g58, g59, g60, hlt, hq, ld0, ld1, ldq, ldp, ldn, ip, inn, gp, n0, gL, d0, m0, hp0, -aload]
              refine hmeet.mono ?_
              rintro r H2 N2 ⟨rfl, rfl, m', rfl, h1, h2, h3⟩
              simp [g60]
              exact ⟨w[b].length - (j + 1), by omega, ⟨j + 1, m', by omega, rfl, by simpa using hA, by simp, by simp [g58], by simp [g59], by simp [wr], rfl, rfl, fin m' h1 h2 h3⟩⟩
        · have hW' := hW.skip hpj (fun h => hd h.2)
          have hp0 : p ≠ 0 := fun h => hd (.inl h)
          have gL : L[p] = -1 := by
            rcases hM.none hpg with hL | ⟨d, hL, hnx⟩
            · exact (List.getElem?_eq_some_iff.1 hL).2
            · exact absurd (.inr ⟨d, hnx⟩) hd
          simp [a_dom_Ofb1, g4, g58, g59, g60, hlt, hq, ld0, ld1, ldq, ldp, ldn, ip, inn, gp, n0, gL, hp0, -aload]
          exact ⟨w[b].length - (j + 1), by omega, ⟨j + 1, v, by omega, rfl, by simpa using hA, by simp [g12], by simp [g58], by simp [g59], by simp [wr], rfl, rfl, hW'⟩⟩
      · have gp : P[p] = -1 := (List.getElem?_eq_some_iff.1 (hM.pn p hpg hr)).2
        have hW' := hW.skip hpj (fun h => hr h.1)
        simp [a_dom_Ofb1, g4, g58, g59, g60, hlt, hq, ld0, ld1, ldq, ldp, ldn, ip, inn, gp, -aload]
        exact ⟨w[b].length - (j + 1), by omega, ⟨j + 1, v, by omega, rfl, by simpa using hA, by simp [g12], by simp [g58], by simp [g59], by simp [wr], rfl, rfl, hW'⟩⟩

end
end Go.Proofs.Ytmbbklddjkmcmaa
