/- dom: the reference: May, Of. -/
import Derived.Test.YtmbbklddjkmcmaaC2
import Derived.Test.YtmbbklddjkmcmaaB6
namespace Go.Proofs.Ytmbbklddjkmcmaa
set_option linter.unusedSimpArgs false
set_option linter.unusedVariables false
open Go Go.Fw Go.Dm

theorem any_take {α : Type} {f : α → Bool} {l : List α} {j : Nat} (hj : j < l.length) (h : (l.take j).any f = false) (h2 : f l[j] = false) : (l.take (j + 1)).any f = false := by
  rw [take_next hj, List.any_append, h]; simp [h2]
theorem any_at {α : Type} {f : α → Bool} {l : List α} {j : Nat} (hj : j < l.length) (h2 : f l[j] = true) : l.any f = true := List.any_eq_true.2 ⟨_, List.getElem_mem hj, h2⟩

section
variable {x : GraphV} {A : Nat → AV} {H : AHeap} {N : Nat} {fs : List Fr} {Q : Post}

structure MyI (x : GraphV) (H : AHeap) (N k : Nat) (s : St) : Prop where
  ex : ∃ j, j ≤ x.g.length ∧ k = x.g.length - j ∧ s.A 0 = x.av ∧ s.A 3 = i64 j ∧ s.H = H ∧ s.N = N ∧ (x.g.take j).any (fun r => r.l.any (outG x.g.length)) = false
structure MyJ (x : GraphV) (b : Nat) (l : List Int) (H : AHeap) (N k : Nat) (s : St) : Prop where
  ex : ∃ j, j ≤ l.length ∧ k = l.length - j ∧ s.A 0 = x.av ∧ s.A 3 = i64 b ∧ s.A 4 = i64 j ∧ s.H = H ∧ s.N = N ∧ (l.take j).any (outG x.g.length) = false

theorem p_rMay (x : GraphV) (hx : x.Ok) (hs : Mid x.g) (H : AHeap) (N : Nat) :
    ACall Try.prog 42 [x.av] H N (fun r H' N' => r = bl (mayG x.g) ∧ H' = H ∧ N' = N) := by
  refine acall mixed c_bobbinref12_May (by simp) ?_
  have hlen := x.len
  have hn := hs.n
  by_cases h1 : x.g.length < 1
  · simp [a_bobbinref12_May, hlen, show (x.g.length : Int) < 1 by omega, -alen]
    simp [mayG, show ¬ 1 ≤ x.g.length by omega]
  · have hmay : mayG x.g = !(x.g.any fun r => r.l.any (outG x.g.length)) := by
      unfold mayG
      rw [decide_eq_true (by omega : 1 ≤ x.g.length), decide_eq_true (by omega : x.g.length ≤ 32768)]
      simp
    simp [a_bobbinref12_May, hlen, show ¬ (x.g.length : Int) < 1 by omega, show ¬ (32768 : Int) < x.g.length by omega, -alen]
    refine run_loop (MyI x H N) x.g.length ?_ ?_
    · exact ⟨0, by omega, by omega, by simp, by simp, rfl, rfl, by simp⟩
    · rintro k A1 H1 N1 ⟨i, hi, rfl, e0, e3, hHe, hNe, hany⟩
      simp only at e0 e3 hHe hNe
      subst hHe hNe
      by_cases hil : i = x.g.length
      · subst hil
        rw [List.take_length] at hany
        simp [a_bobbinref12_Mayb2, e0, e3, hlen, -alen]
        rw [hmay, hany]; rfl
      · have hlt : i < x.g.length := by omega
        have hr := hx.rows _ (List.getElem_mem hlt)
        have hrl := hs.row _ (List.getElem_mem hlt)
        have hq := row_at x hx hlt
        have hrlen := row_alen _ hr
        have wr : IntKind.i64.wrap ((i : Int) + 1) = ((i + 1 : Nat) : Int) := by rw [wrap_i64 (by omega) (by omega)]; rfl
        simp [a_bobbinref12_Mayb2, e0, e3, hlen, hlt, -alen]
        refine run_loop (MyJ x i x.g[i].l H1 N1) x.g[i].l.length ?_ ?_
        · exact ⟨0, by omega, by omega, by simp [e0], by simp [e3], by simp, rfl, rfl, by simp⟩
        · rintro k A2 H2 N2 ⟨j, hj, rfl, f0, f3, f4, hHe, hNe, hany2⟩
          simp only at f0 f3 f4 hHe hNe
          subst hHe hNe
          by_cases hjl : j = x.g[i].l.length
          · subst hjl
            rw [List.take_length] at hany2
            simp [a_bobbinref12_Mayb1, f0, f3, f4, hq, hrlen, wr, -alen]
            exact ⟨x.g.length - (i + 1), by omega, ⟨i + 1, by omega, rfl, by simp [f0], by simp, rfl, rfl, any_take hlt hany hany2⟩⟩
          · have hjlt : j < x.g[i].l.length := by omega
            have hqc := cell_at _ hr hjlt
            have wj : IntKind.i64.wrap ((j : Int) + 1) = ((j + 1 : Nat) : Int) := by rw [wrap_i64 (by omega) (by omega)]; rfl
            have ld2 : ∀ (cs : List AV) (H : AHeap), aload H false 1 (.ip cs 0) = cs[0]? := fun cs H => rfl
            by_cases hneg : x.g[i].l[j] < 0
            · have hbad : (x.g.any fun r => r.l.any (outG x.g.length)) = true := any_at hlt (any_at hjlt (by simp [outG, hneg]))
              simp [a_bobbinref12_Mayb1, f0, f3, f4, hq, hrlen, hjlt, hqc, hneg, ld2, -alen, -aload]
              rw [hmay, hbad]; rfl
            · by_cases hbig : (x.g.length : Int) ≤ x.g[i].l[j]
              · have hbad : (x.g.any fun r => r.l.any (outG x.g.length)) = true := any_at hlt (any_at hjlt (by simp [outG, hbig]))
                simp [a_bobbinref12_Mayb1, f0, f3, f4, hq, hrlen, hjlt, hqc, hneg, hbig, hlen, ld2, -alen, -aload]
                rw [hmay, hbad]; rfl
              · simp [a_bobbinref12_Mayb1, f0, f3, f4, hq, hrlen, hjlt, hqc, hneg, hbig, hlen, ld2, wj, -alen, -aload]
                exact ⟨x.g[i].l.length - (j + 1), by omega, ⟨j + 1, by omega, rfl, by simp [f0], by simp [f3], by simp, rfl, rfl, any_take hjlt hany2 (by simp [outG, hneg, hbig])⟩⟩

end

/-- The reference's tree, as a value. -/
def onesV (l : List AV) : AV := .sl .any 1 (l.map fun v => [v])
noncomputable def refV (n : Nat) (L : List Int) (bs : List Nat) : AV :=
  .ip [onesV ((List.range n).map fun (a : Nat) => onesV (marks n fun (b : Nat) => abI L bs (a : Int) (b : Int))), onesV (marks n fun (b : Nat) => rchI bs (b : Int))] 0

theorem ones_at {l : List AV} {i : Nat} {v : AV} (h : l[i]? = some v) : aindex 1 (onesV l) (i64 i) = some (.ip [v] 0) := by
  refine aindex_sl (by omega) ?_
  simp [h]
theorem ones_len (l : List AV) : alen 1 (onesV l) = some (l.length : Int) := by simp [onesV]

theorem marks_congr {n : Nat} {p q : Nat → Bool} (h : ∀ y, y < n → p y = q y) : marks n p = marks n q := by
  unfold marks
  apply List.map_congr_left
  intro y hy
  rw [h y (List.mem_range.1 hy)]

section
variable {x : GraphV} {L : List Int} {bs : List Nat} {A : Nat → AV} {H : AHeap} {N : Nat} {fs : List Fr} {Q : Post}

/-- One row of what is above what. -/
structure RowI (n : Nat) (A0 : Nat → AV) (H0 : AHeap) (lid N : Nat) (f : Nat → Bool) (k : Nat) (s : St) : Prop where
  ex : ∃ j, j ≤ n ∧ k = n - j ∧ (∀ t ∈ [0, 4, 5, 6, 7], s.A t = A0 t) ∧ s.A 8 = i64 j ∧ s.N = N ∧ s.H lid = some (.blk (marks n fun y => decide (y < j) && f y)) ∧ ∀ i, i ≠ lid → s.H i = H0 i

theorem ref_row {T rid lid sid : Nat} {av : AV} {pr ps : Nat → Bool} (hn : x.g.length ≤ 60) (h0 : A 0 = x.av) (h4 : A 4 = .mp T 0) (h6 : A 6 = .ms lid 0 x.g.length 1) (h7 : A 7 = .ms sid 0 x.g.length 1) (h8 : A 8 = i64 0)
    (hT : H T = some (.blk [av, .ms rid 0 x.g.length 1])) (hr : H rid = some (.blk (marks x.g.length pr))) (hs : H sid = some (.blk (marks x.g.length ps))) (hl : H lid = some (.blk (marks x.g.length fun _ => false)))
    (d1 : T ≠ lid) (d2 : rid ≠ lid) (d3 : sid ≠ lid)
    (hk : ∀ (A' : Nat → AV) (H' : AHeap), (∀ t ∈ [0, 4, 5, 6, 7], A' t = A t) → H' lid = some (.blk (marks x.g.length fun y => pr y && !ps y)) → (∀ i, i ≠ lid → H' i = H i) → onward Try.prog fs Q (.exit 2) ⟨A', H', N⟩) :
    run Try.prog (.loop a_bobbinref12_Ofb1) fs Q ⟨A, H, N⟩ := by
  have hlen := x.len
  refine run_loop (RowI x.g.length A H lid N (fun y => pr y && !ps y)) x.g.length ?_ ?_
  · exact ⟨0, by omega, by omega, by simp, h8, rfl, by show H lid = _; rw [hl]; congr 2, fun _ _ => rfl⟩
  · rintro k A1 H1 N1 ⟨j, hj, rfl, hA, e8, hNe, hm, hold⟩
    simp only at hA e8 hNe hm hold
    subst hNe
    have hA' := hA
    simp at hA'
    obtain ⟨g0, g4, g5, g6, g7⟩ := hA'
    rw [h0] at g0
    rw [h4] at g4
    rw [h6] at g6
    rw [h7] at g7
    by_cases hjl : j = x.g.length
    · subst hjl
      simp [a_bobbinref12_Ofb1, g0, e8, hlen, -alen]
      refine hk _ _ (by simpa [g0] using hA) ?_ hold
      rw [hm]
      congr 2
      exact marks_congr fun y hy => by simp [hy]
    · have hlt : j < x.g.length := by omega
      have ixl : aindex 1 (.ms lid 0 x.g.length 1) (i64 j) = some (.mp lid j) := by simp [aindex, hlt]
      have ixr : aindex 1 (.ms rid 0 x.g.length 1) (i64 j) = some (.mp rid j) := by simp [aindex, hlt]
      have ixs : aindex 1 (.ms sid 0 x.g.length 1) (i64 j) = some (.mp sid j) := by simp [aindex, hlt]
      have lt : aload H1 false 1 (.mp T 1) = some (.ms rid 0 x.g.length 1) := by simp [aload, apart, hold T d1, hT]
      have lr : aload H1 false 1 (.mp rid j) = some (bl (pr j)) := by simp [aload, apart, hold rid d2, hr, marks_at hlt]
      have ls : aload H1 false 1 (.mp sid j) = some (bl (ps j)) := by simp [aload, apart, hold sid d3, hs, marks_at hlt]
      have wr : IntKind.i64.wrap ((j : Int) + 1) = ((j + 1 : Nat) : Int) := by rw [wrap_i64 (by omega) (by omega)]; rfl
      have hst : ∀ b : Bool, astore H1 1 (.mp lid j) (bl b) = some (H1.set lid (.blk ((marks x.g.length fun y => decide (y < j) && (pr y && !ps y)).set j (bl b)))) := fun b => by
        simp [astore, hm, marks_len, show j + 1 ≤ x.g.length by omega]
      have hset : (marks x.g.length fun y => decide (y < j) && (pr y && !ps y)).set j (bl (pr j && !ps j)) = marks x.g.length fun y => decide (y < j + 1) && (pr y && !ps y) := by
        apply List.ext_getElem?
        intro i
        rw [List.getElem?_set]
        by_cases hij : j = i
        · subst hij
          rw [if_pos rfl, if_pos (by rw [marks_len]; exact hlt), marks_at hlt]
          simp
        · rw [if_neg hij]
          by_cases hin : i < x.g.length
          · rw [marks_at hin, marks_at hin]
            have : (i < j) ↔ (i < j + 1) := by omega
            simp [this]
          · simp [marks, hin]
      have fin : ∀ (A' : Nat → AV), (∀ t ∈ [0, 4, 5, 6, 7], A' t = A t) → A' 8 = i64 (j + 1 : Nat) → ∃ m, m < x.g.length - j ∧ RowI x.g.length A H lid N1 (fun y => pr y && !ps y) m ⟨A', H1.set lid (.blk ((marks x.g.length fun y => decide (y < j) && (pr y && !ps y)).set j (bl (pr j && !ps j)))), N1⟩ := fun A' k k8 =>
        ⟨x.g.length - (j + 1), by omega, ⟨j + 1, by omega, rfl, k, k8, rfl, by simp [hset], fun i hi => by simp [hi, hold i hi]⟩⟩
      cases hpr : pr j with
      | false =>
        have e1 : (pr j && !ps j) = false := by simp [hpr]
        rw [e1] at fin
        rw [hpr] at lr
        simp [a_bobbinref12_Ofb1, g0, g4, g6, e8, hlen, hlt, ixl, ixr, lt, lr, hst, wr, -alen, -aload, -astore]
        refine fin _ ?_ ?_
        · simpa [g0, g4, g6] using hA
        · simp
      | true =>
        have e1 : (pr j && !ps j) = !ps j := by simp [hpr]
        rw [e1] at fin
        rw [hpr] at lr
        simp [a_bobbinref12_Ofb1, g0, g4, g6, g7, e8, hlen, hlt, ixl, ixr, ixs, lt, lr, ls, hst, wr, -alen, -aload, -astore]
        refine fin _ ?_ ?_
        · simpa [g0, g4, g6, g7] using hA
        · simp

/-- While what is above what is told, block by block. -/
structure OfR (x : GraphV) (L : List Int) (bs : List Nat) (T rid k : Nat) (s : St) : Prop where
  ex : ∃ (j : Nat) (av : AV) (vs : List AV), j ≤ x.g.length ∧ k = x.g.length - j ∧ s.A 0 = x.av ∧ s.A 4 = .mp T 0 ∧ s.A 5 = i64 j ∧ Fresh s.H s.N ∧ s.H T = some (.blk [av, .ms rid 0 x.g.length 1]) ∧ s.H rid = some (.blk (marks x.g.length fun (b : Nat) => rchI bs (b : Int))) ∧
    Built s.H (T + 1) 1 (.sl .nil 0 []) (vs.map fun a => [a]) av ∧ vs.length = j ∧ ∀ (i : Nat) (a : AV), vs[i]? = some a → ∃ id, T < id ∧ a = .ms id 0 x.g.length 1 ∧ s.H id = some (.blk (marks x.g.length fun (b : Nat) => abI L bs (i : Int) (b : Int)))

theorem ref_abs (hT : TreeOk x.g L bs) {j y : Nat} {pr ps : Nat → Bool} (hj : rchI bs (j : Int) = true) (hpr : pr y = rchI bs (y : Int)) (hps : ps y = true ↔ RchP (Edge x.g) (fun z => (z : Int) ≠ (j : Int)) y) : (pr y && !ps y) = abI L bs (j : Int) (y : Int) := by
  rw [Bool.eq_iff_iff, ab_iff hT, Bool.and_eq_true, Bool.not_eq_true', hpr, rch_iff hT]
  simp only [Int.toNat_natCast]
  constructor
  · rintro ⟨⟨_, h1⟩, h2⟩
    refine ⟨by omega, by omega, h1, ?_⟩
    rw [hT.sol.dom y j h1]
    intro hav
    rw [hps.2 (rchP_av.2 hav)] at h2
    cases h2
  · rintro ⟨_, _, h1, h2⟩
    refine ⟨⟨by omega, h1⟩, ?_⟩
    cases hp : ps y with
    | false => rfl
    | true => exact absurd (rchP_av.1 (hps.1 hp)) ((hT.sol.dom y j h1).1 h2)

theorem ref_of_loop (hx : x.Ok) (hin : InG x.g) (hs : Mid x.g) (h00 : 0 < x.g.length) (hT : TreeOk x.g L bs) {T rid : Nat} (hrT : rid < T) {av : AV} (h0 : A 0 = x.av) (h4 : A 4 = .mp T 0) (h5 : A 5 = i64 0) (hF : Fresh H N)
    (hHT : H T = some (.blk [.sl .nil 0 [], .ms rid 0 x.g.length 1])) (hHr : H rid = some (.blk (marks x.g.length fun (b : Nat) => rchI bs (b : Int))))
    (hk : ∀ (A' : Nat → AV) (H' : AHeap) (N' : Nat), A' 4 = .mp T 0 → View H' (.mp T 0) (refV x.g.length L bs) → onward Try.prog fs Q (.exit 0) ⟨A', H', N'⟩) :
    run Try.prog (.loop a_bobbinref12_Ofb2) fs Q ⟨A, H, N⟩ := by
  have hlen := x.len
  have hn := hs.n
  refine run_loop (OfR x L bs T rid) x.g.length ?_ ?_
  · exact ⟨0, .sl .nil 0 [], [], by omega, by omega, h0, h4, h5, hF, hHT, hHr, Built.nil, rfl, by simp⟩
  · rintro k A1 H1 N1 ⟨j, av, vs, hj, rfl, e0, e4, e5, hF1, hm, hr, hB, hvl, hrows⟩
    simp only at e0 e4 e5 hF1 hm hr hB hrows
    have hTN := hF1.lt hm
    by_cases hjl : j = x.g.length
    · subst hjl
      simp [a_bobbinref12_Ofb2, e0, e5, hlen, -alen]
      refine hk _ _ _ (by simp [e4]) ?_
      obtain ⟨_, ⟨h1, _⟩ | ⟨_, id, _, rfl, hid⟩⟩ := hB
      · cases vs with
        | nil => simp at hvl; omega
        | cons a vs => cases h1
      · rw [flat_one] at hid
        have one : ∀ (p : Nat → Bool) (id : Nat), H1 id = some (.blk (marks x.g.length p)) → View H1 (.ms id 0 x.g.length 1) (onesV (marks x.g.length p)) := fun p id h => by
          have hfree : freeL (marks x.g.length p) = true := by
            unfold marks
            generalize List.range x.g.length = l
            induction l with
            | nil => rfl
            | cons a l ih => simp only [List.map_cons, freeL, ih, Bool.and_true]; rfl
          have hv := View.ms' (H := H1) (sz := 1) (len := x.g.length) h (by rw [marks_len]; omega) (ViewL.refl hfree)
          have hc := chunks_one (marks x.g.length p)
          rw [marks_len] at hc
          rw [hc] at hv
          exact hv
        have hvl2 : ViewL H1 vs ((List.range x.g.length).map fun (a : Nat) => onesV (marks x.g.length fun (b : Nat) => abI L bs (a : Int) (b : Int))) := by
          refine ⟨by simp [hvl], fun i c d hc hd => ?_⟩
          rw [List.getElem?_map, Option.map_eq_some_iff] at hd
          obtain ⟨y, h3, rfl⟩ := hd
          have h4 := List.getElem?_eq_some_iff.1 h3
          obtain ⟨h4, h5⟩ := h4
          simp at h5
          subst h5
          obtain ⟨id2, _, rfl, h6⟩ := hrows i c hc
          exact one _ _ h6
        have hv := View.ms' (H := H1) (sz := 1) (len := x.g.length) hid (by omega) hvl2
        have hc := chunks_one ((List.range x.g.length).map fun (a : Nat) => onesV (marks x.g.length fun (b : Nat) => abI L bs (a : Int) (b : Int)))
        rw [List.length_map, List.length_range] at hc
        rw [hc] at hv
        rw [List.length_map, hvl] at hm
        have vl := ViewL.cons hv (.cons (one _ _ hr) .nil)
        exact View.mp (off := 0) hm vl.1 vl.2
    · have hlt : j < x.g.length := by omega
      have wr : IntKind.i64.wrap ((j : Int) + 1) = ((j + 1 : Nat) : Int) := by rw [wrap_i64 (by omega) (by omega)]; rfl
      have hmk : amake 1 1 [bl false] (i64 x.g.length) (i64 x.g.length) = some (x.g.length, x.g.length) := by
        simp [amake]; omega
      have hr1 : rid ≠ N1 := by omega
      have hT1 : T ≠ N1 := by omega
      have ixr : aindex 1 (.ms rid 0 x.g.length 1) (i64 j) = some (.mp rid j) := by simp [aindex, hlt]
      -- the row is put behind the others
      have fin : ∀ (H3 : AHeap) (N3 : Nat), Fresh H3 N3 → N1 < N3 → (∀ i, i < N1 → H3 i = H1 i) → H3 N1 = some (.blk (marks x.g.length fun (b : Nat) => abI L bs (j : Int) (b : Int))) →
          aload H3 false 1 (.mp T 0) = some av ∧ ∃ v' H4, v'.cells = some [v'] ∧ aappend false 1 24 H3 N3 av (.sl .exact 1 [[.ms N1 0 x.g.length 1]]) = some (v', H4, N3 + 1) ∧ ∃ H5, astore H4 1 (.mp T 0) v' = some H5 ∧ ∀ A' : Nat → AV, A' 0 = x.av → A' 4 = .mp T 0 → A' 5 = i64 (j + 1 : Nat) → ∃ m, m < x.g.length - j ∧ OfR x L bs T rid m ⟨A', H5, N3 + 1⟩ := by
        intro H3 N3 hF3 hN3 hold hrow
        have hB3 := built_later hB hF1 hold
        have hm3 : H3 T = some (.blk [av, .ms rid 0 x.g.length 1]) := (hold T (by omega)).trans hm
        obtain ⟨H4, happ, hN4, hold4, hF4, hB4⟩ := push_raw (bytes := 24) (k := .exact) (x := [.ms N1 0 x.g.length 1]) hB3 hF3 (by omega) rfl (by simp [hvl]; unfold lim; omega) (by simp [hvl]; omega)
        have low : ∀ i, i ≤ T → H4 i = H3 i := fun i hi => by
          refine hold4 i (by omega) fun n he => ?_
          obtain ⟨_, ⟨_, h3, _⟩ | ⟨_, i3, h4, h3, _⟩⟩ := hB3
          · rw [he] at h3; cases h3
          · rw [he] at h3; cases h3; omega
        have hm4 : H4 T = some (.blk [av, .ms rid 0 x.g.length 1]) := (low T (Nat.le_refl _)).trans hm3
        refine ⟨by simp [aload, apart, hm3], _, H4, rfl, happ, H4.set T (.blk [.ms N3 0 ((vs.map fun a => [a]).length + 1) 1, .ms rid 0 x.g.length 1]), by simp [astore, hm4], fun A' k0 k4 k5 =>
          ⟨x.g.length - (j + 1), by omega, ⟨j + 1, _, vs ++ [.ms N1 0 x.g.length 1], by omega, rfl, k0, k4, k5, ?_, by simp; rfl, ?_, ?_, by simp [hvl], ?_⟩⟩⟩
        · intro i (hi : N3 + 1 ≤ i)
          simp [show i ≠ T by omega, hF4 i hi]
        · simp [show rid ≠ T by omega]
          rw [low rid (by omega), hold rid (by omega), hr]
        · have : Built (H4.set T (.blk [.ms N3 0 ((vs.map fun a => [a]).length + 1) 1, .ms rid 0 x.g.length 1])) (T + 1) 1 (.sl .nil 0 []) ((vs.map fun a => [a]) ++ [[.ms N1 0 x.g.length 1]]) (.ms N3 0 ((vs.map fun a => [a]).length + 1) 1) :=
            hB4.keep fun i hi => by simp [show i ≠ T by omega]
          simpa using this
        · intro i a ha
          have get : ∃ id, T < id ∧ a = .ms id 0 x.g.length 1 ∧ H3 id = some (.blk (marks x.g.length fun (b : Nat) => abI L bs (i : Int) (b : Int))) := by
            by_cases hi : i < vs.length
            · rw [List.getElem?_append_left hi] at ha
              obtain ⟨id, h1, rfl, h⟩ := hrows i a ha
              exact ⟨id, h1, rfl, (hold id (hF1.lt h)).trans h⟩
            · have hil := (List.getElem?_eq_some_iff.1 ha).1
              simp at hil
              have : i = vs.length := by omega
              subst this
              simp at ha
              subst ha
              rw [hvl]
              exact ⟨N1, by omega, rfl, hrow⟩
          obtain ⟨id, hTi, rfl, h⟩ := get
          refine ⟨id, hTi, rfl, ?_⟩
          simp [show id ≠ T by omega]
          rw [hold4 id (by have := hF3.lt h; omega) fun n he => ?_]
          · exact h
          · obtain ⟨_, ⟨_, h3, _⟩ | ⟨hne2, i3, _, h3, h4⟩⟩ := hB3
            · rw [he] at h3; cases h3
            · rw [he] at h3; cases h3
              rw [h, flat_one] at h4
              have h5 := AObj.blk.inj (Option.some.inj h4)
              have h6 := marks_at (p := fun (b : Nat) => abI L bs (i : Int) (b : Int)) h00
              rw [h5] at h6
              obtain ⟨id7, _, h7, _⟩ := hrows 0 _ h6
              cases h7
      obtain ⟨G, hG⟩ : ∃ G, G = H1.set N1 (.blk (List.replicate x.g.length (bl false))) := ⟨_, rfl⟩
      have hGm : G N1 = some (.blk (marks x.g.length fun _ => false)) := by rw [hG, ← marks_none]; simp
      have hGlow : ∀ i, i < N1 → G i = H1 i := fun i hi => by rw [hG]; simp [show i ≠ N1 by omega]
      have hGF : Fresh G (N1 + 1) := by rw [hG]; exact hF1.set _
      have lt : aload G false 1 (.mp T 1) = some (.ms rid 0 x.g.length 1) := by simp [aload, apart, hGlow T hTN, hm]
      have lr : aload G false 1 (.mp rid j) = some (bl (rchI bs (j : Int))) := by simp [aload, apart, hGlow rid (by omega), hr, marks_at hlt]
      have hG' : H1.set N1 (.blk (List.replicate x.g.length (AV.lit (Value.bool false)))) = G := hG.symm
      cases hrj : rchI bs (j : Int) with
      | false =>
        rw [hrj] at lr
        obtain ⟨la, v', H4, hvc, happ, H5, hst, hfin⟩ := fin G (N1 + 1) hGF (by omega) hGlow (by
          rw [hGm]
          congr 2
          refine marks_congr fun y _ => ?_
          symm
          cases hab : abI L bs (j : Int) (y : Int) with
          | false => rfl
          | true => rw [(ab_rch hT hab).1] at hrj; cases hrj)
        simp [a_bobbinref12_Ofb2, e0, e4, e5, hlen, hlt, hmk, hG', lt, ixr, lr, la, happ, hst, hvc, wr, -alen, -aload, -astore, -AV.cells]
        refine hfin _ ?_ ?_ ?_ <;> simp [e0, e4]
      | true =>
        rw [hrj] at lr
        simp [a_bobbinref12_Ofb2, e0, e4, e5, hlen, hlt, hmk, hG', lt, ixr, lr, -alen, -aload]
        refine (p_Come x hx hin hs h00 j G (N1 + 1)).monoF ?_
        rintro r H2 N2 ⟨hN2, hold2, rfl, ps, hps, hpsr⟩ hF2 _
        simp
        refine ref_row (x := x) (T := T) (rid := rid) (lid := N1) (sid := N1 + 1) (av := av) (pr := fun (b : Nat) => rchI bs (b : Int)) (ps := ps) hn ?_ ?_ ?_ ?_ ?_ ?_ ?_ ?_ ?_ ?_ ?_ ?_ ?_
        · simp [e0]
        · simp [e4]
        · simp
        · simp
        · simp
        · exact (hold2 T (by omega)).trans ((hGlow T hTN).trans hm)
        · exact (hold2 rid (by omega)).trans ((hGlow rid (by omega)).trans hr)
        · exact hps
        · exact (hold2 N1 (by omega)).trans hGm
        · omega
        · omega
        · omega
        intro A3 H3 hA3 hrow3 hold3
        simp at hA3
        obtain ⟨la, v', H4, hvc, happ, H5, hst, hfin⟩ := fin H3 N2 (fun i hi => by rw [hold3 i (by omega)]; exact hF2 i hi) (by omega) (fun i hi => by rw [hold3 i (by omega), hold2 i (by omega), hGlow i hi]) (by
          rw [hrow3]
          congr 2
          exact marks_congr fun y _ => ref_abs (pr := fun (b : Nat) => rchI bs (b : Int)) hT hrj rfl (hpsr y))
        simp [hA3, e0, e4, e5, la, happ, hst, hvc, wr, -alen, -aload, -astore, -AV.cells]
        refine hfin _ ?_ ?_ ?_ <;> simp [hA3, e0, e4]

/-- The reference's tree. -/
theorem p_rOf (x : GraphV) (hx : x.Ok) (hs : Mid x.g) (hT : mayG x.g = true → TreeOk x.g L bs) :
    PCall Try.prog 17 [x.av] (if mayG x.g = true then .tup [refV x.g.length L bs, i64 0] else .tup [.lit (.pointer none), i64 4]) := by
  refine PCall.of fun N => acallF mixed c_bobbinref12_Of (by simp) fun hF => ?_
  simp [a_bobbinref12_Of]
  refine (p_rMay x hx hs _ _).mono ?_
  rintro r H1 N1 ⟨rfl, rfl, rfl⟩
  by_cases hm : mayG x.g = true
  · have hT := hT hm
    have hm' := hm
    simp [mayG] at hm'
    obtain ⟨h0, hn', hall⟩ := hm'
    have hin : InG x.g := fun r hr v hv => by
      have := hall r hr v hv
      simp [outG] at this
      exact this
    simp [hm]
    refine (p_Come x hx hin hs h0 (-1) _ _).monoF ?_
    rintro r H2 N2 ⟨hN2, _, rfl, p, hp, hpr⟩ hF2 _
    have hmk : marks x.g.length p = marks x.g.length fun (b : Nat) => rchI bs (b : Int) := marks_congr fun y _ => by
      rw [Bool.eq_iff_iff, hpr y, rch_iff hT, rchP_all]
      simp
    simp
    refine ref_of_loop (x := x) (T := N2) (rid := N1) hx hin hs h0 hT hN2 (av := .junk) ?_ ?_ ?_ ?_ ?_ ?_ ?_
    · simp
    · simp
    · simp
    · exact hF2.set _
    · simp
    · simp [show N1 ≠ N2 by omega]
      rw [hp, hmk]
    intro A3 H3 N3 h4 hv
    simp [h4]
    exact View.tup' (.cons hv (.cons (.free rfl) .nil))
  · simp [hm]
    exact .free rfl

end
end Go.Proofs.Ytmbbklddjkmcmaa
