/- front: the reference. -/
import Derived.Test.YtmbbklddjkmcmaaEC
import Derived.Test.YtmbbklddjkmcmaaBS
namespace Go.Proofs.Ytmbbklddjkmcmaa
set_option linter.unusedSimpArgs false
set_option linter.unusedVariables false
open Go Go.Fw Go.Dm

section
variable {x : GraphV} {r : RowV} {L : List Int} {bs : List Nat} {A : Nat → AV} {H : AHeap} {N : Nat} {fs : List Fr} {Q : Post}

structure LaI (x : GraphV) (v : AV) (H : AHeap) (N k : Nat) (s : St) : Prop where
  ex : ∃ j, j ≤ x.g.length ∧ k = x.g.length - j ∧ s.A 0 = x.av ∧ s.A 1 = v ∧ s.A 5 = i64 ((x.g.length : Int) + (edges (x.g.take j) : Int)) ∧ s.A 6 = i64 j ∧ s.H = H ∧ s.N = N

theorem p_large (x : GraphV) (hx : x.Ok) (hR : ∀ r ∈ x.g, r.l.length * 8 ≤ reachBytes) (r : RowV) (hr : r.Ok) (H : AHeap) (N : Nat) :
    ACall Try.prog 32 [x.av, r.av] H N (fun r' H' N' => H' = H ∧ N' = N ∧ ∃ b, r' = bl b ∧ (b = false → x.g.length ≤ 60 ∧ edges x.g ≤ 400 ∧ r.l.length ≤ 400)) := by
  refine acall mixed c_bobbinlaw13_large (by simp) ?_
  have hl := x.len
  have hrl := row_alen r hr
  have hm : maxLen = 9223372036854775807 := rfl
  have hxl := hx.hl
  have hrb : reachBytes = 140737488351232 := rfl
  simp [a_bobbinlaw13_large, hl, -alen]
  refine run_loop (LaI x r.av H N) x.g.length ?_ ?_
  · exact ⟨0, by omega, by omega, by simp, by simp, by simp [edges], by simp, rfl, rfl⟩
  · rintro k A1 H1 N1 ⟨j, hj, rfl, e0, e1, e5, e6, hHe, hNe⟩
    simp only at e0 e1 e5 e6 hHe hNe
    subst hHe hNe
    by_cases hjl : j = x.g.length
    · subst hjl
      rw [List.take_length] at e5
      simp [a_bobbinlaw13_largeb1, e0, e1, e5, e6, hl, -alen]
      by_cases h1 : (400 : Int) ≤ (x.g.length : Int) + (edges x.g : Int)
      · simp [h1]
      · simp [h1, e0, hl, -alen]
        by_cases h2 : (60 : Int) < x.g.length
        · simp [h2, show 60 < x.g.length by omega]
        · simp [h2, show ¬ 60 < x.g.length by omega, e1, hrl, -alen]
          by_cases h3 : 400 < r.l.length
          · exact .inr (by omega)
          · exact .inl ⟨by omega, by omega, by omega, by omega⟩
    · have hlt : j < x.g.length := by omega
      by_cases h4 : (x.g.length : Int) + (edges (x.g.take j) : Int) < 400
      · have hq := row_at x hx hlt
        have hrw := hx.rows _ (List.getElem_mem hlt)
        have hla := row_alen _ hrw
        have hex := edges_take hlt
        have hrr := hR _ (List.getElem_mem hlt)
        have wr : IntKind.i64.wrap ((j : Int) + 1) = ((j + 1 : Nat) : Int) := by rw [wrap_i64 (by omega) (by omega)]; rfl
        have wr2 : IntKind.i64.wrap ((x.g.length : Int) + (edges (x.g.take j) : Int) + (x.g[j].l.length : Int)) = (x.g.length : Int) + ((edges (x.g.take (j + 1)) : Nat) : Int) := by rw [wrap_i64 (by omega) (by omega), hex]; omega
        simp [a_bobbinlaw13_largeb1, e0, e1, e5, e6, hl, hlt, h4, hq, hla, wr, wr2, -alen]
        exact ⟨x.g.length - (j + 1), by omega, ⟨j + 1, by omega, rfl, by simp [e0], by simp [e1], by simp, by simp, rfl, rfl⟩⟩
      · simp [a_bobbinlaw13_largeb1, e0, e1, e5, e6, hl, hlt, h4, show (400 : Int) ≤ (x.g.length : Int) + (edges (x.g.take j) : Int) by omega, -alen]

/-- Is there a block, of the first j, that goes to c and is behind b? -/
def HasP (g : List RowV) (L : List Int) (bs : List Nat) (b c j : Nat) : Prop := ∃ p, p < j ∧ Edge g p c ∧ abI L bs (b : Int) (p : Int) = true

structure RfI (x : GraphV) (L : List Int) (bs : List Nat) (b c : Nat) (A0 : Nat → AV) (H0 : AHeap) (N0 k : Nat) (s : St) : Prop where
  ex : ∃ (j : Nat) (f : Bool), k = x.g.length - j ∧ j ≤ x.g.length ∧ (∀ t ∈ [0, 1, 2, 7, 8], s.A t = A0 t) ∧ s.A 9 = bl f ∧ s.A 10 = i64 j ∧ s.H = H0 ∧ s.N = N0 ∧ (f = true ↔ HasP x.g L bs b c j)

theorem HasP.next {g : List RowV} {b c j : Nat} (hlt : j < g.length) : HasP g L bs b c (j + 1) ↔ HasP g L bs b c j ∨ ((c : Int) ∈ g[j].l ∧ abI L bs (b : Int) (j : Int) = true) := by
  have hj : Edge g j c ↔ (c : Int) ∈ g[j].l := by
    unfold Edge
    rw [List.getElem?_eq_getElem hlt]
    simp
  constructor
  · rintro ⟨p, h1, h2, h3⟩
    by_cases hpj : p = j
    · subst hpj
      exact .inr ⟨hj.1 h2, h3⟩
    · exact .inl ⟨p, by omega, h2, h3⟩
  · rintro (⟨p, h1, h2, h3⟩ | ⟨h1, h2⟩)
    · exact ⟨p, by omega, h2, h3⟩
    · exact ⟨j, by omega, hj.2 h1, h2⟩

theorem rf_in (hx : x.Ok) (hn : x.g.length ≤ 60) (hT : TreeOk x.g L bs) {b c : Nat} (h0 : A 0 = x.av) (h1 : A 1 = refV x.g.length L bs) (h2 : A 2 = i64 b) (h8 : A 8 = i64 c) (h9 : A 9 = bl false) (h10 : A 10 = i64 0)
    (hk : ∀ (A' : Nat → AV) (f : Bool), (∀ t ∈ [0, 1, 2, 7, 8], A' t = A t) → A' 9 = bl f → (f = true ↔ HasP x.g L bs b c x.g.length) → onward Try.prog fs Q (.exit 2) ⟨A', H, N⟩) : run Try.prog (.loop a_bobbinref13_frontb1) fs Q ⟨A, H, N⟩ := by
  have hl := x.len
  refine run_loop (RfI x L bs b c A H N) x.g.length ?_ ?_
  · refine ⟨0, false, by omega, by omega, by simp, h9, h10, rfl, rfl, ?_⟩
    simp [HasP]
  · rintro k A1 H1 N1 ⟨j, f, hk', hj, hA, e9, e10, hHe, hNe, hf⟩
    simp only at hA e9 e10 hHe hNe
    subst hHe hNe
    have hA' := hA
    simp at hA'
    obtain ⟨g0, g1, g2, g7, g8⟩ := hA'
    rw [h0] at g0
    rw [h1] at g1
    rw [h2] at g2
    rw [h8] at g8
    by_cases hjl : j = x.g.length
    · subst hjl
      simp [a_bobbinref13_frontb1, g0, e9, e10, hl, -alen]
      exact hk _ f (by simp [g0, g1, g2, g7, g8, h0, h1, h2, h8]) (by simp [e9]) hf
    · have hlt : j < x.g.length := by omega
      cases f with
      | true =>
        simp [a_bobbinref13_frontb1, g0, e9, e10, hl, hlt, -alen]
        refine hk _ true (by simp [g0, g1, g2, g7, g8, h0, h1, h2, h8]) (by simp [e9]) ⟨fun _ => ?_, fun _ => rfl⟩
        obtain ⟨p, q1, q2, q3⟩ := hf.1 rfl
        exact ⟨p, by omega, q2, q3⟩
      | false =>
        have hr := hx.rows _ (List.getElem_mem hlt)
        have hq := row_at x hx hlt
        have hno : ¬ HasP x.g L bs b c j := fun h => by have := hf.2 h; cases this
        have wr : IntKind.i64.wrap ((j : Int) + 1) = ((j + 1 : Nat) : Int) := by rw [wrap_i64 (by omega) (by omega)]; rfl
        have hnx := HasP.next (L := L) (bs := bs) (b := b) (c := c) hlt
        simp [a_bobbinref13_frontb1, g0, g8, e9, e10, hl, hlt, hq, -alen]
        refine (p_rHas (hr.rd H1) hr.hl (c : Int) N1).mono ?_
        rintro r' H2 N2 ⟨rfl, hH2, hN2⟩
        rw [hH2, hN2]
        by_cases hc : (c : Int) ∈ x.g[j].l
        · simp [hc, g1, g2, e10]
          refine (p_rIs hT (b : Int) (j : Int)).acall ?_
          simp [e10, wr]
          refine ⟨x.g.length - (j + 1), by omega, ⟨j + 1, abI L bs (b : Int) (j : Int), rfl, by omega, by simp [g0, g1, g2, g7, g8, h0, h1, h2, h8], by simp, by simp, rfl, rfl, ?_⟩⟩
          rw [hnx]
          exact ⟨fun h => .inr ⟨hc, h⟩, fun h => h.elim (fun h => absurd h hno) fun h => h.2⟩
        · simp [hc, e10, wr]
          refine ⟨x.g.length - (j + 1), by omega, ⟨j + 1, false, rfl, by omega, by simp [g0, g1, g2, g7, g8, h0, h1, h2, h8], by simp, by simp, rfl, rfl, ?_⟩⟩
          rw [hnx]
          exact ⟨fun h => (by cases h), fun h => h.elim (fun h => absurd h hno) fun h => absurd h.1 hc⟩

/-- Those of the first c that are in b's frontier. -/
noncomputable def frT (g : List RowV) (b c : Nat) : List Nat := setL c (FrG (Edge g) b)
open Classical in
theorem frT_next {g : List RowV} {b c : Nat} : natI (frT g b (c + 1)) = natI (frT g b c) ++ (if FrG (Edge g) b c then [(c : Int)] else []) := by
  unfold frT setL
  rw [List.range_succ, List.filter_append]
  simp only [natI, List.map_append]
  congr 1
  by_cases h : FrG (Edge g) b c <;> simp [h]
theorem frT_len {g : List RowV} {b c : Nat} : (natI (frT g b c)).length ≤ c := by
  simp only [natI, List.length_map]; exact setL_len

structure RfO (x : GraphV) (L : List Int) (bs : List Nat) (b : Nat) (N0 k : Nat) (s : St) : Prop where
  ex : ∃ (c : Nat) (v : AV), k = x.g.length - c ∧ c ≤ x.g.length ∧ s.A 0 = x.av ∧ s.A 1 = refV x.g.length L bs ∧ s.A 2 = i64 b ∧ s.A 7 = v ∧ s.A 8 = i64 c ∧ Fresh s.H s.N ∧ N0 ≤ s.N ∧ Built s.H N0 1 (.sl .nil 0 []) (intCells (natI (frT x.g b c))) v

theorem frG_has {g : List RowV} (hT : TreeOk g L bs) {b c : Nat} : FrG (Edge g) b c ↔ HasP g L bs b c g.length ∧ (b = c ∨ abI L bs (b : Int) (c : Int) = false) := by
  unfold FrG HasP
  constructor
  · rintro ⟨⟨p, h1, h2, h3⟩, h4⟩
    refine ⟨⟨p, ?_, h1, (ab_av hT).2 ⟨h2, h3⟩⟩, h4.imp (fun h => h) fun h => ?_⟩
    · obtain ⟨r, h5, _⟩ := h1
      exact (List.getElem?_eq_some_iff.1 h5).1
    · rcases Bool.eq_false_or_eq_true (abI L bs (b : Int) (c : Int)) with h5 | h5
      · exact absurd h ((ab_av hT).1 h5).2
      · exact h5
  · rintro ⟨⟨p, _, h1, h2⟩, h4⟩
    obtain ⟨h3, h5⟩ := (ab_av hT).1 h2
    refine ⟨⟨p, h1, h3, h5⟩, h4.imp (fun h => h) fun h => Classical.byContradiction fun h6 => ?_⟩
    rw [(ab_av hT).2 ⟨.step h3 h1, h6⟩] at h
    cases h

theorem p_rFront (x : GraphV) (hx : x.Ok) (hn : x.g.length ≤ 60) (hT : TreeOk x.g L bs) (b : Nat) : PCall Try.prog 48 [x.av, refV x.g.length L bs, i64 b] (rv (natI (frG x.g b))) := by
  refine PCall.of fun N => acallF mixed c_bobbinref13_front (by simp) fun hF => ?_
  have hl := x.len
  have hlim : 1000000 ≤ lim := by unfold lim; decide
  simp [a_bobbinref13_front]
  refine run_loop (RfO x L bs b N) x.g.length ?_ ?_
  · exact ⟨0, .sl .nil 0 [], by omega, by omega, by simp, by simp, by simp, by simp, by simp, hF, Nat.le_refl _, by simp [frT, setL, natI, intCells]; exact .nil⟩
  · rintro k A1 H1 N1 ⟨c, v, hk', hc, e0, e1, e2, e7, e8, hF1, hN1, hB⟩
    simp only at e0 e1 e2 e7 e8 hF1 hN1 hB
    by_cases hcl : c = x.g.length
    · subst hcl
      simp [a_bobbinref13_frontb2, e0, e7, e8, hl, -alen]
      exact hB.view (intCells_free _)
    · have hlt : c < x.g.length := by omega
      have wr : IntKind.i64.wrap ((c : Int) + 1) = ((c + 1 : Nat) : Int) := by rw [wrap_i64 (by omega) (by omega)]; rfl
      have hfl := frT_len (g := x.g) (b := b) (c := c)
      have hnx := frT_next (g := x.g) (b := b) (c := c)
      have hfg := frG_has hT (b := b) (c := c)
      simp [a_bobbinref13_frontb2, e0, e8, hl, hlt, -alen]
      refine rf_in (b := b) (c := c) hx hn hT ?_ ?_ ?_ ?_ ?_ ?_ fun A2 f hA2 e9 hf => ?_
      · simp [e0]
      · simp [e1]
      · simp [e2]
      · simp [e8]
      · simp
      · simp
      simp at hA2
      obtain ⟨g0, g1, g2, g7, g8⟩ := hA2
      rw [e0] at g0
      rw [e1] at g1
      rw [e2] at g2
      rw [e7] at g7
      rw [e8] at g8
      have skip : ¬ FrG (Edge x.g) b c → ∀ A3 : Nat → AV, A3 0 = x.av → A3 1 = refV x.g.length L bs → A3 2 = i64 b → A3 7 = v → A3 8 = i64 ((c + 1 : Nat) : Int) → ∃ k', k' < k ∧ RfO x L bs b N k' ⟨A3, H1, N1⟩ := fun hno A3 q0 q1 q2 q7 q8 => by
        rw [if_neg hno, List.append_nil] at hnx
        exact ⟨x.g.length - (c + 1), by omega, ⟨c + 1, v, rfl, by omega, q0, q1, q2, q7, q8, hF1, hN1, by rw [hnx]; exact hB⟩⟩
      have take : FrG (Edge x.g) b c → ∃ H3 v3 N3, aappend false 1 8 H1 N1 v (.sl .exact 1 [[i64 (c : Int)]]) = some (v3, H3, N3) ∧ ∀ A3 : Nat → AV, A3 0 = x.av → A3 1 = refV x.g.length L bs → A3 2 = i64 b → A3 7 = v3 → A3 8 = i64 ((c + 1 : Nat) : Int) → ∃ k', k' < k ∧ RfO x L bs b N k' ⟨A3, H3, N3⟩ := fun hyes => by
        rw [if_pos hyes] at hnx
        obtain ⟨v3, H3, N3, hap, hB3, _, hN3, hF3⟩ := hB.push (bytes := 8) (x := [i64 (c : Int)]) (k := .exact) hF1 hN1 rfl (by rw [intCells_len]; omega) (by rw [intCells_len]; omega)
        refine ⟨H3, v3, N3, hap, fun A3 q0 q1 q2 q7 q8 => ⟨x.g.length - (c + 1), by omega, ⟨c + 1, v3, rfl, by omega, q0, q1, q2, q7, q8, hF3, by show N ≤ N3; omega, ?_⟩⟩⟩
        rw [hnx, intCells_app]
        exact hB3
      cases f with
      | false =>
        have hno : ¬ FrG (Edge x.g) b c := fun h => by have := hf.2 (hfg.1 h).1; cases this
        simp [e9, g8, wr]
        refine skip hno _ ?_ ?_ ?_ ?_ ?_ <;> simp [g0, g1, g2, g7]
      | true =>
        by_cases hbc : b = c
        · have hyes : FrG (Edge x.g) b c := hfg.2 ⟨hf.1 rfl, .inl hbc⟩
          obtain ⟨H3, v3, N3, hap, hfin⟩ := take hyes
          subst hbc
          simp [e9, g2, g7, g8, hap, wr]
          refine hfin _ ?_ ?_ ?_ ?_ ?_ <;> simp [g0, g1, g2, g7]
        · simp [e9, g1, g2, g8, show ¬ (b : Int) = c by omega, hbc]
          refine (p_rIs hT (b : Int) (c : Int)).acall ?_
          rcases Bool.eq_false_or_eq_true (abI L bs (b : Int) (c : Int)) with h5 | h5
          · have hno : ¬ FrG (Edge x.g) b c := fun h => by
              rcases (hfg.1 h).2 with h6 | h6
              · exact hbc h6
              · rw [h5] at h6; cases h6
            simp [h5, g8, wr]
            refine skip hno _ ?_ ?_ ?_ ?_ ?_ <;> simp [g0, g1, g2, g7]
          · have hyes : FrG (Edge x.g) b c := hfg.2 ⟨hf.1 rfl, .inr h5⟩
            obtain ⟨H3, v3, N3, hap, hfin⟩ := take hyes
            simp [h5, g7, g8, hap, wr]
            refine hfin _ ?_ ?_ ?_ ?_ ?_ <;> simp [g0, g1, g2, g7]
end

end Go.Proofs.Ytmbbklddjkmcmaa

namespace Go.Proofs.Ytmbbklddjkmcmaa
set_option linter.unusedSimpArgs false
set_option linter.unusedVariables false
open Go Go.Fw Go.Dm

end Go.Proofs.Ytmbbklddjkmcmaa
namespace Go.Fw
set_option linter.unusedSimpArgs false
set_option linter.unusedVariables false
open Go
set_option linter.unusedSectionVars false
variable [Globals]
/-- What another call on the first argument would hand out is there. -/
theorem ACall.ghost {P : Program} {f g : FuncId} {a : AV} {args : List AV} {S : AV → Prop} {H : AHeap} {N : Nat} {Q : AV → AHeap → Nat → Prop} (hg : goodFn P f = true) (hp : PCallS P g [a] S) (h : (∃ r, S r) → ACall P f (a :: args) H N Q) : ACall P f (a :: args) H N Q :=
  ⟨hg, fun e vs hH hN hl hr => by
    cases vs with
    | nil => simp at hl
    | cons v vs =>
      obtain ⟨_, _, _, ⟨r, _, _, s, _⟩, _⟩ := hp.2 e [v] ⟨hH.imm, hH.gl⟩ rfl (fun i c u hc hu => by
        cases i with
        | zero => simp at hc hu; subst hc; subst hu; exact hr 0 _ _ rfl rfl
        | succ i => simp at hc) []
      exact (h ⟨r, s⟩).2 e (v :: vs) hH hN hl hr⟩
end Go.Fw
namespace Go.Proofs.Ytmbbklddjkmcmaa
set_option linter.unusedSimpArgs false
set_option linter.unusedVariables false
open Go Go.Fw Go.Dm

section
variable {x : GraphV} {r : RowV} {L : List Int} {bs : List Nat} {A : Nat → AV} {H : AHeap} {N : Nat} {fs : List Fr} {Q : Post}

theorem rv_free (l : List Int) : (rv l).free = true := by
  cases l with
  | nil => rfl
  | cons a l =>
    show freeLL (intCells (a :: l)) = true
    exact intCells_free _
theorem rowsV_free (w : List (List Int)) : freeLL (rowsV w) = true := by
  induction w with
  | nil => rfl
  | cons l w ih =>
    have h := rv_free l
    simp only [rowsV, List.map_cons, freeLL, freeL] at ih ⊢
    rw [ih]
    simp only [Bool.and_true]
    exact h
theorem rv_cells (l : List Int) : (rv l).cells = some [rv l] := by cases l <;> rfl

structure RoI (x : GraphV) (L : List Int) (bs : List Nat) (N0 k : Nat) (s : St) : Prop where
  ex : ∃ (b : Nat) (v : AV), k = x.g.length - b ∧ b ≤ x.g.length ∧ s.A 0 = x.av ∧ s.A 3 = refV x.g.length L bs ∧ s.A 5 = v ∧ s.A 6 = i64 b ∧ Fresh s.H s.N ∧ N0 ≤ s.N ∧ Built s.H N0 1 (.sl .nil 0 []) (rowsV ((frW x.g).take b)) v

theorem p_rFOf (x : GraphV) (hx : x.Ok) (hs : Mid x.g) (hT : mayG x.g = true → TreeOk x.g L bs) : PCall Try.prog 33 [x.av] (frV x.g) := by
  refine PCall.of fun N => acallF mixed c_bobbinref13_Of (by simp) fun hF => ?_
  have hl := x.len
  have hn := hs.n
  have hlim : 1000000 ≤ lim := by unfold lim; decide
  simp [a_bobbinref13_Of]
  refine (p_rOf (L := L) (bs := bs) x hx hs hT).acall ?_
  by_cases hm : mayG x.g = true
  · have hTx := hT hm
    obtain ⟨_, h00⟩ := may_in hm
    simp [hm]
    refine run_loop (RoI x L bs N) x.g.length ?_ ?_
    · exact ⟨0, .sl .nil 0 [], by omega, by omega, by simp, by simp, by simp, by simp, hF, Nat.le_refl _, by simp [rowsV]; exact .nil⟩
    · rintro k A1 H1 N1 ⟨b, v, hk', hb, e0, e3, e5, e6, hF1, hN1, hB⟩
      simp only at e0 e3 e5 e6 hF1 hN1 hB
      by_cases hbl : b = x.g.length
      · subst hbl
        rw [List.take_of_length_le (by rw [frW_len]; omega)] at hB
        simp [a_bobbinref13_Ofb1, e0, e5, e6, hl, -alen]
        have hv := hB.view (rowsV_free _)
        have h2 : bsl (.sl .nil 0 []) 1 (rowsV (frW x.g)) = frV x.g := by
          simp only [frV, hm, if_true]
          have hlen := frW_len (g := x.g)
          cases h : frW x.g with
          | nil => rw [h] at hlen; simp at hlen; omega
          | cons a l => rfl
        rw [h2] at hv
        exact hv
      · have hlt : b < x.g.length := by omega
        have wr : IntKind.i64.wrap ((b : Int) + 1) = ((b + 1 : Nat) : Int) := by rw [wrap_i64 (by omega) (by omega)]; rfl
        have hrl : (rowsV ((frW x.g).take b)).length = b := by rw [rowsV_len, List.length_take, frW_len]; omega
        obtain ⟨v3, H3, N3, hap, hB3, _, hN3, hF3⟩ := hB.push (bytes := 24) (x := [rv (natI (frG x.g b))]) (k := .exact) hF1 hN1 rfl (by rw [hrl]; omega) (by rw [hrl]; omega)
        have hnx : rowsV ((frW x.g).take (b + 1)) = rowsV ((frW x.g).take b) ++ [[rv (natI (frG x.g b))]] := by
          have hb2 : b < (frW x.g).length := by rw [frW_len]; exact hlt
          have h3 : (frW x.g)[b] = natI (frG x.g b) := by simp [frW]
          rw [Go.Fw.take_next hb2, h3]
          simp [rowsV, rv]
        rw [← hnx] at hB3
        simp [a_bobbinref13_Ofb1, e0, e3, e5, e6, hl, hlt, -alen]
        refine (p_rFront x hx hn hTx b).acall ?_
        simp [rv_cells, e5, e6, hap, wr, -AV.cells]
        exact ⟨x.g.length - (b + 1), by omega, ⟨b + 1, v3, rfl, by omega, by simp [e0], by simp [e3], by simp, by simp, hF3, by show N ≤ N3; omega, hB3⟩⟩
  · simp [hm]
    simp only [frV, hm]
    exact .free rfl
end

end Go.Proofs.Ytmbbklddjkmcmaa

namespace Go.Proofs.Ytmbbklddjkmcmaa
set_option linter.unusedSimpArgs false
set_option linter.unusedVariables false
open Go Go.Fw Go.Dm

section
variable {L : List Int} {bs : List Nat} {x : GraphV} {r : RowV} {fv : AV} {w : List (List Int)} {A : Nat → AV} {H : AHeap} {N N0 : Nat} {fs : List Fr} {Q : Post} {l : List Int}

theorem plG_rows {g : List RowV} {ls : List Int} : plG g ls = setL (frS g).length (Pl (FB (frS g)) fun b => (b : Int) ∈ ls) := by
  by_cases hm : mayG g = true
  · obtain ⟨hin, h00⟩ := may_in hm
    have hw : frS g = frW g := by simp [frS, hm]
    have : FB (frW g) = FrG (Edge g) := by
      funext b c
      apply propext
      unfold FB
      constructor
      · rintro ⟨l, h1, h2⟩
        have hb : b < g.length := by rw [← frW_len (g := g)]; exact (List.getElem?_eq_some_iff.1 h1).1
        rw [frW_at hb] at h1
        cases h1
        obtain ⟨c', h3, h4⟩ := natI_mem.1 h2
        have : c = c' := by omega
        subst this
        exact (setL_mem.1 h4).2
      · intro h
        obtain ⟨h1, h2⟩ := frG_in hin h00 b c h
        exact ⟨_, frW_at h1, natI_mem.2 ⟨c, rfl, setL_mem.2 ⟨h2, h⟩⟩⟩
    simp only [plG, hm, if_true, hw, this, frW_len]
  · simp [plG, frS, hm, setL]

/-- What is marked is to be marked. -/
def Snd (w : List (List Int)) (ls : List Int) (p : Nat → Bool) : Prop := ∀ c, p c = true → Pl (FB w) (fun b => (b : Int) ∈ ls) c
/-- Those of a block's row that are to be marked are. -/
def Cls (ls : List Int) (p : Nat → Bool) (b : Nat) (l : List Int) : Prop := (p b = true ∨ (b : Int) ∈ ls) → ∀ c : Nat, (c : Int) ∈ l → p c = true

/-- In a pass, over one row. -/
structure RpK (fv : AV) (w : List (List Int)) (r : RowV) (N0 : Nat) (p0 : Nat → Bool) (b : Nat) (l : List Int) (H0 : AHeap) (N k : Nat) (s : St) : Prop where
  ex : ∃ (j : Nat) (p : Nat → Bool) (m : Bool), k = l.length - j ∧ j ≤ l.length ∧ s.A 1 = r.av ∧ s.A 5 = fv ∧ s.A 6 = .ms N0 0 w.length 1 ∧ s.A 7 = bl m ∧ s.A 8 = i64 b ∧ s.A 9 = i64 j ∧ s.N = N ∧ Fresh s.H N ∧ s.H N0 = some (.blk (marks w.length p)) ∧ Snd w r.l p ∧
    (m = false → p = p0 ∧ ∀ b', b' < b → ∀ l', w[b']? = some l' → Cls r.l p b' l') ∧ (m = true → unm w.length p < unm w.length p0) ∧ (m = false → Cls r.l p b (l.take j))

theorem rp_row (hW : Rows fv w) (hr : r.Ok) {p p0 : Nat → Bool} {m : Bool} {b : Nat} (hb : w[b]? = some l) (h1 : A 1 = r.av) (h5 : A 5 = fv) (h6 : A 6 = .ms N0 0 w.length 1) (h7 : A 7 = bl m) (h8 : A 8 = i64 b) (h9 : A 9 = i64 0) (hF : Fresh H N) (hH : H N0 = some (.blk (marks w.length p))) (hS : Snd w r.l p)
    (hm0 : m = false → p = p0 ∧ ∀ b', b' < b → ∀ l', w[b']? = some l' → Cls r.l p b' l') (hm1 : m = true → unm w.length p < unm w.length p0)
    (hk : ∀ (A' : Nat → AV) (H' : AHeap) (p' : Nat → Bool) (m' : Bool), A' 1 = r.av → A' 5 = fv → A' 6 = .ms N0 0 w.length 1 → A' 7 = bl m' → A' 8 = i64 b → Fresh H' N → H' N0 = some (.blk (marks w.length p')) → Snd w r.l p' →
      (m' = false → p' = p0 ∧ ∀ b', b' < b + 1 → ∀ l', w[b']? = some l' → Cls r.l p' b' l') → (m' = true → unm w.length p' < unm w.length p0) → onward Try.prog fs Q (.exit 4) ⟨A', H', N⟩) :
    run Try.prog (.loop a_bobbinref13_Placedb2) fs Q ⟨A, H, N⟩ := by
  have hbw := (List.getElem?_eq_some_iff.1 hb).1
  have hwn := hW.n
  have hok := hW.ok l (List.mem_of_getElem? hb)
  have hat := hW.at_ b l hb
  have hll := rv_len l
  have fin : ∀ {p' : Nat → Bool} {m' : Bool}, (m' = false → p' = p0 ∧ ∀ b', b' < b → ∀ l', w[b']? = some l' → Cls r.l p' b' l') → (m' = false → Cls r.l p' b l) → (m' = false → p' = p0 ∧ ∀ b', b' < b + 1 → ∀ l', w[b']? = some l' → Cls r.l p' b' l') := fun h1 h2 hm => by
    refine ⟨(h1 hm).1, fun b' hb' l' hl' => ?_⟩
    by_cases hbb : b' = b
    · subst hbb
      rw [hb] at hl'; cases hl'
      exact h2 hm
    · exact (h1 hm).2 b' (by omega) l' hl'
  refine run_loop (RpK fv w r N0 p0 b l H N) l.length ?_ ?_
  · exact ⟨0, p, m, by omega, by omega, h1, h5, h6, h7, h8, h9, rfl, hF, hH, hS, hm0, hm1, fun _ _ c hc => by simp at hc⟩
  · rintro k A1 H1 N1 ⟨j, p1, m1, hk', hj, e1, e5, e6, e7, e8, e9, hN, hF1, hH1, hS1, g0, g1, g2⟩
    simp only at e1 e5 e6 e7 e8 e9 hN hF1 hH1
    subst hN
    have lr : aload H1 false 1 (.ip [rv l] 0) = some (rv l) := rfl
    by_cases hjl : j = l.length
    · subst hjl
      rw [List.take_length] at g2
      simp [a_bobbinref13_Placedb2, e5, e8, e9, hat, lr, hll, -alen, -aload]
      exact hk _ _ p1 m1 (by simp [e1]) (by simp [e5]) (by simp [e6]) (by simp [e7]) (by simp [e8]) hF1 hH1 hS1 (fin g0 g2) g1
    · have hlt : j < l.length := by omega
      have ixb : aindex 1 (.ms N0 0 w.length 1) (i64 b) = some (.mp N0 b) := by simp [aindex, hbw]
      have ldb : aload H1 false 1 (.mp N0 b) = some (bl (p1 b)) := by simp [aload, apart, hH1, marks_at hbw]
      obtain ⟨q, hq, qq⟩ := (rv_rd l H1).at (intCells_sz l) (intCells_at hlt)
      have lq := qq.one
      obtain ⟨c, hcv⟩ : ∃ c : Nat, l[j] = (c : Int) := ⟨l[j].toNat, by have := hok.2 _ (List.getElem_mem hlt); omega⟩
      have hcn : c < w.length := by have := hok.2 _ (List.getElem_mem hlt); omega
      rw [hcv] at lq
      have hcF : FB w b c := ⟨l, hb, by rw [← hcv]; exact List.getElem_mem hlt⟩
      have ixc : aindex 1 (.ms N0 0 w.length 1) (i64 c) = some (.mp N0 c) := by simp [aindex, hcn]
      have ldc : aload H1 false 1 (.mp N0 c) = some (bl (p1 c)) := by simp [aload, apart, hH1, marks_at hcn]
      have stc : astore H1 1 (.mp N0 c) (bl true) = some (H1.set N0 (.blk (marks w.length fun y => p1 y || y == c))) := by
        rw [← marks_set]
        simp [astore, hH1, marks_len, show c + 1 ≤ w.length by omega]
      have wr : IntKind.i64.wrap ((j : Int) + 1) = ((j + 1 : Nat) : Int) := by rw [wrap_i64 (by omega) (by omega)]; rfl
      have hN0 : N0 < N1 := hF1.lt hH1
      have nxt : p1 c = true → ∀ A3 : Nat → AV, A3 1 = r.av → A3 5 = fv → A3 6 = .ms N0 0 w.length 1 → A3 7 = bl m1 → A3 8 = i64 b → A3 9 = i64 ((j + 1 : Nat) : Int) → ∃ k', k' < k ∧ RpK fv w r N0 p0 b l H N1 k' ⟨A3, H1, N1⟩ := fun hpc A3 q1 q5 q6 q7 q8 q9 =>
        ⟨l.length - (j + 1), by omega, ⟨j + 1, p1, m1, rfl, by omega, q1, q5, q6, q7, q8, q9, rfl, hF1, hH1, hS1, g0, g1, fun hm hcond c' hc' => by
        rw [Go.Fw.take_next hlt, List.mem_append, List.mem_singleton, hcv] at hc'
        rcases hc' with h | h
        · exact g2 hm hcond c' h
        · have : c' = c := by omega
          rw [this]; exact hpc⟩⟩
      have set : (p1 b = true ∨ (b : Int) ∈ r.l) → p1 c = false → ∀ A3 : Nat → AV, A3 1 = r.av → A3 5 = fv → A3 6 = .ms N0 0 w.length 1 → A3 7 = bl true → A3 8 = i64 b → A3 9 = i64 ((j + 1 : Nat) : Int) → ∃ k', k' < k ∧ RpK fv w r N0 p0 b l H N1 k' ⟨A3, H1.set N0 (.blk (marks w.length fun y => p1 y || y == c)), N1⟩ := fun hcond hpc A3 q1 q5 q6 q7 q8 q9 => by
        have hu := unm_set (n := w.length) hcn hpc
        refine ⟨l.length - (j + 1), by omega, ⟨j + 1, fun y => p1 y || y == c, true, rfl, by omega, q1, q5, q6, q7, q8, q9, rfl, (fun i (hi : N1 ≤ i) => by simp [show i ≠ N0 by omega, hF1 i hi]), by simp, fun c' hc' => ?_, fun h => (by cases h), fun _ => ?_, fun h => (by cases h)⟩⟩
        · simp at hc'
          rcases hc' with h | h
          · exact hS1 c' h
          · rw [h]
            rcases hcond with h2 | h2
            · exact .step (hS1 b h2) hcF
            · exact .base h2 hcF
        · by_cases hm : m1 = true
          · have := g1 hm; omega
          · have : m1 = false := by cases m1 <;> simp_all
            have := (g0 this).1
            rw [this] at hu ⊢
            omega
      cases hpb : p1 b with
      | true =>
        rw [hpb] at ldb
        cases hpc : p1 c with
        | true =>
          rw [hpc] at ldc
          simp [a_bobbinref13_Placedb2, e5, e6, e8, e9, hat, lr, hll, hlt, ixb, ldb, hq, lq, ixc, ldc, wr, -alen, -aload]
          refine nxt hpc _ ?_ ?_ ?_ ?_ ?_ ?_ <;> simp [e1, e5, e6, e7, e8]
        | false =>
          rw [hpc] at ldc
          simp [a_bobbinref13_Placedb2, e5, e6, e8, e9, hat, lr, hll, hlt, ixb, ldb, hq, lq, ixc, ldc, stc, wr, -alen, -aload, -astore]
          refine set (.inl hpb) hpc _ ?_ ?_ ?_ ?_ ?_ ?_ <;> simp [e1, e5, e6, e7, e8]
      | false =>
        rw [hpb] at ldb
        simp [a_bobbinref13_Placedb2, e1, e5, e6, e8, e9, hat, lr, hll, hlt, ixb, ldb, -alen, -aload]
        refine (p_rHas (hr.rd H1) hr.hl (b : Int) N1).mono ?_
        rintro r' H2 N2 ⟨rfl, hH2, hN2⟩
        rw [hH2, hN2]
        by_cases hin : (b : Int) ∈ r.l
        · cases hpc : p1 c with
          | true =>
            rw [hpc] at ldc
            simp [hin, e5, e6, e8, e9, hat, lr, hll, hlt, ixb, ldb, hq, lq, ixc, ldc, wr, -alen, -aload]
            refine nxt hpc _ ?_ ?_ ?_ ?_ ?_ ?_ <;> simp [e1, e5, e6, e7, e8]
          | false =>
            rw [hpc] at ldc
            simp [hin, e5, e6, e8, e9, hat, lr, hll, hlt, ixb, ldb, hq, lq, ixc, ldc, stc, wr, -alen, -aload, -astore]
            refine set (.inr hin) hpc _ ?_ ?_ ?_ ?_ ?_ ?_ <;> simp [e1, e5, e6, e7, e8]
        · simp [hin]
          refine hk _ _ p1 m1 (by simp [e1]) (by simp [e5]) (by simp [e6]) (by simp [e7]) (by simp [e8]) hF1 hH1 hS1 (fin g0 fun _ hcond => ?_) g1
          rcases hcond with h | h
          · rw [hpb] at h; cases h
          · exact absurd h hin

/-- A pass. -/
structure RpB (fv : AV) (w : List (List Int)) (r : RowV) (N0 : Nat) (p0 : Nat → Bool) (N k : Nat) (s : St) : Prop where
  ex : ∃ (b : Nat) (p : Nat → Bool) (m : Bool), k = w.length - b ∧ b ≤ w.length ∧ s.A 1 = r.av ∧ s.A 5 = fv ∧ s.A 6 = .ms N0 0 w.length 1 ∧ s.A 7 = bl m ∧ s.A 8 = i64 b ∧ s.N = N ∧ Fresh s.H N ∧ s.H N0 = some (.blk (marks w.length p)) ∧ Snd w r.l p ∧
    (m = false → p = p0 ∧ ∀ b', b' < b → ∀ l', w[b']? = some l' → Cls r.l p b' l') ∧ (m = true → unm w.length p < unm w.length p0)

theorem rp_pass (hW : Rows fv w) (hr : r.Ok) {p : Nat → Bool} (h1 : A 1 = r.av) (h5 : A 5 = fv) (h6 : A 6 = .ms N0 0 w.length 1) (h7 : A 7 = bl false) (h8 : A 8 = i64 0) (hF : Fresh H N) (hH : H N0 = some (.blk (marks w.length p))) (hS : Snd w r.l p)
    (hk : ∀ (A' : Nat → AV) (H' : AHeap) (p' : Nat → Bool) (m' : Bool), A' 1 = r.av → A' 5 = fv → A' 6 = .ms N0 0 w.length 1 → A' 7 = bl m' → Fresh H' N → H' N0 = some (.blk (marks w.length p')) → Snd w r.l p' →
      (m' = false → p' = p ∧ ∀ b' l', w[b']? = some l' → Cls r.l p' b' l') → (m' = true → unm w.length p' < unm w.length p) → onward Try.prog fs Q (.exit 2) ⟨A', H', N⟩) :
    run Try.prog (.loop a_bobbinref13_Placedb3) fs Q ⟨A, H, N⟩ := by
  have hwl := hW.len
  have hwn := hW.n
  refine run_loop (RpB fv w r N0 p N) w.length ?_ ?_
  · exact ⟨0, p, false, by omega, by omega, h1, h5, h6, h7, h8, rfl, hF, hH, hS, fun _ => ⟨rfl, fun b' hb' => by omega⟩, fun h => (by cases h)⟩
  · rintro k A1 H1 N1 ⟨b, p1, m1, hk', hb, e1, e5, e6, e7, e8, hN, hF1, hH1, hS1, g0, g1⟩
    simp only at e1 e5 e6 e7 e8 hN hF1 hH1
    subst hN
    by_cases hbl : b = w.length
    · subst hbl
      simp [a_bobbinref13_Placedb3, e5, e8, hwl, -alen]
      exact hk _ _ p1 m1 (by simp [e1]) (by simp [e5]) (by simp [e6]) (by simp [e7]) hF1 hH1 hS1 (fun hm => ⟨(g0 hm).1, fun b' l' hl' => (g0 hm).2 b' (List.getElem?_eq_some_iff.1 hl').1 l' hl'⟩) g1
    · have hlt : b < w.length := by omega
      have wr : IntKind.i64.wrap ((b : Int) + 1) = ((b + 1 : Nat) : Int) := by rw [wrap_i64 (by omega) (by omega)]; rfl
      simp [a_bobbinref13_Placedb3, e5, e8, hwl, hlt, -alen]
      refine rp_row (b := b) (p := p1) (p0 := p) (m := m1) hW hr (List.getElem?_eq_getElem hlt) ?_ ?_ ?_ ?_ ?_ ?_ hF1 hH1 hS1 g0 g1 ?_
      · simp [e1]
      · simp [e5]
      · simp [e6]
      · simp [e7]
      · simp [e8]
      · simp
      intro A2 H2 p2 m2 q1 q5 q6 q7 q8 hF2 hH2 hS2 k0 k1
      simp [q8, wr]
      exact ⟨w.length - (b + 1), by omega, ⟨b + 1, p2, m2, rfl, by omega, by simp [q1], by simp [q5], by simp [q6], by simp [q7], by simp, rfl, hF2, hH2, hS2, k0, k1⟩⟩

/-- All passes. -/
structure RpP (fv : AV) (w : List (List Int)) (r : RowV) (N0 : Nat) (N k : Nat) (s : St) : Prop where
  ex : ∃ (p : Nat → Bool) (m : Bool), k = unm w.length p + (if m = true then 1 else 0) ∧ s.A 1 = r.av ∧ s.A 5 = fv ∧ s.A 6 = .ms N0 0 w.length 1 ∧ s.A 7 = bl m ∧ s.N = N ∧ Fresh s.H N ∧ s.H N0 = some (.blk (marks w.length p)) ∧ Snd w r.l p ∧
    (m = false → ∀ b' l', w[b']? = some l' → Cls r.l p b' l')

theorem rp_all (hW : Rows fv w) (hr : r.Ok) {p : Nat → Bool} (h1 : A 1 = r.av) (h5 : A 5 = fv) (h6 : A 6 = .ms N0 0 w.length 1) (h7 : A 7 = bl true) (hF : Fresh H N) (hH : H N0 = some (.blk (marks w.length p))) (hS : Snd w r.l p)
    (hk : ∀ (A' : Nat → AV) (H' : AHeap) (p' : Nat → Bool), A' 5 = fv → A' 6 = .ms N0 0 w.length 1 → Fresh H' N → H' N0 = some (.blk (marks w.length p')) → (∀ c, c < w.length → (p' c = true ↔ Pl (FB w) (fun b => (b : Int) ∈ r.l) c)) → onward Try.prog fs Q (.exit 0) ⟨A', H', N⟩) :
    run Try.prog (.loop a_bobbinref13_Placedb4) fs Q ⟨A, H, N⟩ := by
  refine run_loop (RpP fv w r N0 N) (unm w.length p + 1) ?_ ?_
  · exact ⟨p, true, by simp, h1, h5, h6, h7, rfl, hF, hH, hS, fun h => (by cases h)⟩
  · rintro k A1 H1 N1 ⟨p1, m1, hk', e1, e5, e6, e7, hN, hF1, hH1, hS1, g0⟩
    simp only at e1 e5 e6 e7 hN hF1 hH1
    subst hN
    cases m1 with
    | false =>
      simp [a_bobbinref13_Placedb4, e7]
      refine hk _ _ p1 (by simp [e5]) (by simp [e6]) hF1 hH1 fun c _ => ⟨hS1 c, fun hc => ?_⟩
      induction hc with
      | base h1 h2 =>
        obtain ⟨l', h3, h4⟩ := h2
        exact g0 rfl _ l' h3 (.inr h1) _ h4
      | step h1 h2 ih =>
        obtain ⟨l', h3, h4⟩ := h2
        exact g0 rfl _ l' h3 (.inl (ih (List.getElem?_eq_some_iff.1 h3).1)) _ h4
    | true =>
      simp [a_bobbinref13_Placedb4, e7]
      refine rp_pass (p := p1) hW hr ?_ ?_ ?_ ?_ ?_ hF1 hH1 hS1 ?_
      · simp [e1]
      · simp [e5]
      · simp [e6]
      · simp
      · simp
      intro A2 H2 p2 m2 q1 q5 q6 q7 hF2 hH2 hS2 k0 k1
      simp
      refine ⟨unm w.length p2 + (if m2 = true then 1 else 0), ?_, ⟨p2, m2, rfl, q1, q5, q6, q7, rfl, hF2, hH2, hS2, fun h => (k0 h).2⟩⟩
      simp at hk'
      cases m2 with
      | false =>
        have := (k0 rfl).1
        rw [this]
        simp; omega
      | true =>
        have := k1 rfl
        simp; omega

/-- What is marked, told. -/
structure RpF (fv : AV) (n : Nat) (p : Nat → Bool) (N0 N1 k : Nat) (s : St) : Prop where
  ex : ∃ (b : Nat) (v : AV), k = n - b ∧ b ≤ n ∧ s.A 5 = fv ∧ s.A 6 = .ms N0 0 n 1 ∧ s.A 10 = v ∧ s.A 11 = i64 b ∧ Fresh s.H s.N ∧ N1 ≤ s.N ∧ s.H N0 = some (.blk (marks n p)) ∧ Built s.H N1 1 (.sl .nil 0 []) (intCells (natI ((List.range b).filter p))) v

theorem p_rPlaced (x : GraphV) (hx : x.Ok) (hs : Mid x.g) (hT : mayG x.g = true → TreeOk x.g L bs) (r : RowV) (hr : r.Ok) : PCall Try.prog 35 [x.av, r.av] (rv (natI (plG x.g r.l))) := by
  refine PCall.of fun N => acallF mixed c_bobbinref13_Placed (by simp) fun hF => ?_
  have hn := hs.n
  have hW := rows_frV x (by omega)
  obtain ⟨w, hw⟩ : ∃ w, w = frS x.g := ⟨_, rfl⟩
  rw [← hw] at hW
  have hwl := hW.len
  have hwn := hW.n
  have hlim : 1000000 ≤ lim := by unfold lim; decide
  have hpl : plG x.g r.l = setL w.length (Pl (FB w) fun b => (b : Int) ∈ r.l) := by
    rw [hw]; exact plG_rows
  have hmk : amake 1 1 [bl false] (i64 w.length) (i64 w.length) = some (w.length, w.length) := by
    simp [amake]; omega
  simp [a_bobbinref13_Placed]
  refine (p_rFOf x hx hs hT).acall ?_
  simp [hwl, hmk, -alen]
  refine rp_all (N0 := N) (p := fun _ => false) hW hr ?_ ?_ ?_ ?_ (hF.set _) ?_ (fun c hc => by cases hc) ?_
  · simp
  · simp
  · simp
  · simp
  · have : (List.replicate w.length (AV.lit (Value.bool false))) = marks w.length fun _ => false := marks_none
    simp [this]
  intro A2 H2 p2 q5 q6 hF2 hH2 hp2
  simp
  refine run_loop (RpF (frV x.g) w.length p2 N (N + 1)) w.length ?_ ?_
  · exact ⟨0, .sl .nil 0 [], by omega, by omega, by simp [q5], by simp [q6], by simp, by simp, hF2, Nat.le_refl _, hH2, by simp [natI, intCells]; exact .nil⟩
  · rintro k A3 H3 N3 ⟨b, v, hk', hb, e5, e6, e10, e11, hF3, hN3, hH3, hB⟩
    simp only at e5 e6 e10 e11 hF3 hN3 hH3 hB
    by_cases hbl : b = w.length
    · subst hbl
      simp [a_bobbinref13_Placedb1, e5, e10, e11, hwl, -alen]
      have h1 := hB.view (intCells_free _)
      rw [hpl, setL_filter hp2]
      exact h1
    · have hlt : b < w.length := by omega
      have wr : IntKind.i64.wrap ((b : Int) + 1) = ((b + 1 : Nat) : Int) := by rw [wrap_i64 (by omega) (by omega)]; rfl
      have ixb : aindex 1 (.ms N 0 w.length 1) (i64 b) = some (.mp N b) := by simp [aindex, hlt]
      have ldb : aload H3 false 1 (.mp N b) = some (bl (p2 b)) := by simp [aload, apart, hH3, marks_at hlt]
      have hfl : (natI ((List.range b).filter p2)).length ≤ b := by
        have := List.length_filter_le p2 (List.range b)
        simpa [natI] using this
      have hnx : natI ((List.range (b + 1)).filter p2) = natI ((List.range b).filter p2) ++ (if p2 b = true then [(b : Int)] else []) := by
        rw [List.range_succ, List.filter_append]
        simp only [natI, List.map_append]
        congr 1
        by_cases h : p2 b = true <;> simp [h]
      cases hpb : p2 b with
      | false =>
        rw [hpb] at ldb
        rw [hpb] at hnx
        simp at hnx
        simp [a_bobbinref13_Placedb1, e5, e6, e11, hwl, hlt, ixb, ldb, wr, -alen, -aload]
        exact ⟨w.length - (b + 1), by omega, ⟨b + 1, v, rfl, by omega, by simp [e5], by simp [e6], by simp [e10], by simp, hF3, hN3, hH3, by show Built H3 _ _ _ _ _; rw [hnx]; exact hB⟩⟩
      | true =>
        rw [hpb] at ldb
        rw [if_pos hpb] at hnx
        obtain ⟨v4, H4, N4, hap, hB4, hlow, hN4, hF4⟩ := hB.push (bytes := 8) (x := [i64 (b : Int)]) (k := .exact) hF3 hN3 rfl (by rw [intCells_len]; omega) (by rw [intCells_len]; omega)
        simp [a_bobbinref13_Placedb1, e5, e6, e10, e11, hwl, hlt, ixb, ldb, hap, wr, -alen, -aload]
        refine ⟨w.length - (b + 1), by omega, ⟨b + 1, v4, rfl, by omega, by simp [e5], by simp [e6], by simp, by simp, hF4, by show N + 1 ≤ N4; omega, (hlow N (by omega)).trans hH3, ?_⟩⟩
        rw [hnx, intCells_app]
        exact hB4
end

end Go.Proofs.Ytmbbklddjkmcmaa
