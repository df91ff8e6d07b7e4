/- dom: the reference: Is, Next, Kids. -/
import Derived.Test.YtmbbklddjkmcmaaC3
namespace Go.Proofs.Ytmbbklddjkmcmaa
set_option linter.unusedSimpArgs false
set_option linter.unusedVariables false
open Go Go.Fw Go.Dm

section
variable {x : GraphV} {g : List RowV} {L : List Int} {bs : List Nat} {A : Nat → AV} {H : AHeap} {N : Nat} {fs : List Fr} {Q : Post}

noncomputable def refRows (n : Nat) (L : List Int) (bs : List Nat) : AV := onesV ((List.range n).map fun (a : Nat) => onesV (marks n fun (b : Nat) => abI L bs (a : Int) (b : Int)))
noncomputable def refRow (n : Nat) (L : List Int) (bs : List Nat) (a : Nat) : AV := onesV (marks n fun (b : Nat) => abI L bs (a : Int) (b : Int))
def refRch (n : Nat) (bs : List Nat) : AV := onesV (marks n fun (b : Nat) => rchI bs (b : Int))
theorem refV_eq (n : Nat) (L : List Int) (bs : List Nat) : refV n L bs = .ip [refRows n L bs, refRch n bs] 0 := rfl

theorem refRows_len {n : Nat} : alen 1 (refRows n L bs) = some (n : Int) := by
  unfold refRows; rw [ones_len]; simp
theorem refRows_at {n a : Nat} (ha : a < n) : aindex 1 (refRows n L bs) (i64 a) = some (.ip [refRow n L bs a] 0) := by
  unfold refRows
  exact ones_at (by simp [ha]; rfl)
theorem refRow_at {n a b : Nat} (hb : b < n) : aindex 1 (refRow n L bs a) (i64 b) = some (.ip [bl (abI L bs (a : Int) (b : Int))] 0) := by
  unfold refRow
  exact ones_at (marks_at hb)
theorem refRch_at {n b : Nat} (hb : b < n) : aindex 1 (refRch n bs) (i64 b) = some (.ip [bl (rchI bs (b : Int))] 0) := by
  unfold refRch
  exact ones_at (marks_at hb)

theorem ab_in (h : TreeOk g L bs) {a b : Int} (hab : abI L bs a b = true) : 0 ≤ a ∧ a < g.length ∧ 0 ≤ b ∧ b < g.length := by
  obtain ⟨h1, h2⟩ := ab_rch h hab
  rw [rch_iff h] at h1 h2
  have r1 := h.row.lt _ ((h.row.mem _).2 h1.2)
  have r2 := h.row.lt _ ((h.row.mem _).2 h2.2)
  omega

theorem p_rIs (hT : TreeOk g L bs) (a b : Int) : PCall Try.prog 27 [refV g.length L bs, i64 a, i64 b] (bl (abI L bs a b)) := by
  refine PCall.of fun N => acall mixed c_bobbinref12_Tree_Is (by simp) ?_
  have hl := refRows_len (n := g.length) (L := L) (bs := bs)
  have no : ¬ (0 ≤ a ∧ a < g.length ∧ 0 ≤ b ∧ b < g.length) → abI L bs a b = false := fun h => by
    cases hab : abI L bs a b with
    | false => rfl
    | true => exact absurd (ab_in hT hab) h
  by_cases ha : 0 ≤ a
  · by_cases hb : 0 ≤ b
    · by_cases han : a < g.length
      · by_cases hbn : b < g.length
        · obtain ⟨an, rfl⟩ : ∃ an : Nat, a = an := ⟨a.toNat, by omega⟩
          obtain ⟨bn, rfl⟩ : ∃ bn : Nat, b = bn := ⟨b.toNat, by omega⟩
          have q1 := refRows_at (L := L) (bs := bs) (n := g.length) (a := an) (by omega)
          have q2 := refRow_at (L := L) (bs := bs) (n := g.length) (a := an) (b := bn) (by omega)
          simp [a_bobbinref12_Tree_Is, refV_eq, hl, q1, q2, show an < g.length by omega, show bn < g.length by omega, -alen]
          exact .free rfl
        · rw [no (by omega)]
          simp [a_bobbinref12_Tree_Is, refV_eq, hl, ha, hb, han, hbn, -alen]
          exact .free rfl
      · rw [no (by omega)]
        simp [a_bobbinref12_Tree_Is, refV_eq, hl, ha, hb, han, -alen]
        exact .free rfl
    · rw [no (by omega)]
      simp [a_bobbinref12_Tree_Is, refV_eq, ha, hb, -alen]
      exact .free rfl
  · rw [no (by omega)]
    simp [a_bobbinref12_Tree_Is, refV_eq, ha, -alen]
    exact .free rfl

theorem next_least (hT : TreeOk g L bs) {a b : Nat} (hab : a ≠ b) (h1 : abI L bs (a : Int) (b : Int) = true) : (∀ c : Nat, c < g.length → c ≠ b → abI L bs (c : Int) (b : Int) = true → abI L bs (c : Int) (a : Int) = true) ↔ nxI L bs b = a := by
  have h1' := (ab_iff hT).1 h1
  simp at h1'
  obtain ⟨hrb, hu⟩ := h1'
  have qb := rchI_of hT hrb
  obtain ⟨d, hd, hud⟩ := hu.inv hab
  have hdn := hT.sol.fit.dn b d hrb hd
  have hdb : d ≠ b := fun h => by subst h; exact absurd hdn.2.1 (Nat.lt_irrefl _)
  have hdg : d < g.length := hT.row.lt d ((hT.row.mem d).2 hdn.1)
  have hnx : nxI L bs b = d := by simp [nxI, qb, List.getD, nxOf_some hd]
  rw [hnx]
  constructor
  · intro h
    have h2 := h d hdg hdb (by rw [ab_iff hT]; simp; exact ⟨hrb, .step hd (.refl _)⟩)
    by_cases hda : d = a
    · rw [hda]
    · have h3 : abI L bs (a : Int) (d : Int) = true := by rw [ab_iff hT]; simp; exact ⟨hdn.1, hud⟩
      exact (ab_anti hT (by omega) h2 h3).elim
  · intro h c hc hcb hcu
    have hda : d = a := by omega
    subst hda
    rw [ab_iff hT] at hcu ⊢
    simp at hcu ⊢
    obtain ⟨e, he, heu⟩ := hcu.2.inv hcb
    rw [hd] at he; cases he
    exact ⟨hdn.1, heu⟩

/-- Is a the least so far? -/
structure NxJ (n : Nat) (L : List Int) (bs : List Nat) (A0 : Nat → AV) (a b : Nat) (N : Nat) (k : Nat) (s : St) : Prop where
  ex : ∃ (c : Nat) (least : Bool), c ≤ n ∧ k = n - c ∧ (∀ t ∈ [0, 1, 5], s.A t = A0 t) ∧ s.A 6 = bl least ∧ s.A 7 = i64 c ∧ s.H = noHeap ∧ s.N = N ∧
    (least = true ↔ ∀ d : Nat, d < c → d ≠ b → abI L bs (d : Int) (b : Int) = true → abI L bs (d : Int) (a : Int) = true)

theorem next_in {a b : Nat} (hn : g.length ≤ 40) (ha : a < g.length) (hb : b < g.length) (h0 : A 0 = refV g.length L bs) (h1 : A 1 = i64 b) (h5 : A 5 = i64 a) (h6 : A 6 = bl true) (h7 : A 7 = i64 0)
    (hk : ∀ (A' : Nat → AV) (least : Bool), (∀ t ∈ [0, 1, 5], A' t = A t) → A' 6 = bl least → (least = true ↔ ∀ d : Nat, d < g.length → d ≠ b → abI L bs (d : Int) (b : Int) = true → abI L bs (d : Int) (a : Int) = true) → onward Try.prog fs Q (.exit 2) ⟨A', noHeap, N⟩) :
    run Try.prog (.loop a_bobbinref12_Tree_Nextb1) fs Q ⟨A, noHeap, N⟩ := by
  have hl := refRows_len (n := g.length) (L := L) (bs := bs)
  refine run_loop (NxJ g.length L bs A a b N) g.length ?_ ?_
  · exact ⟨0, true, by omega, by omega, by simp, h6, h7, rfl, rfl, by simp⟩
  · rintro k A1 H1 N1 ⟨c, least, hc, rfl, hA, e6, e7, hHe, hNe, hleast⟩
    simp only at hA e6 e7 hHe hNe
    subst hHe hNe
    have hA' := hA
    simp at hA'
    obtain ⟨g0, g1, g5⟩ := hA'
    rw [h0] at g0
    rw [h1] at g1
    rw [h5] at g5
    by_cases hcl : c = g.length
    · subst hcl
      simp [a_bobbinref12_Tree_Nextb1, g0, refV_eq, e7, hl, -alen]
      exact hk _ least (by simpa [g0, refV_eq] using hA) (by simp [e6]) hleast
    · have hlt : c < g.length := by omega
      have q1 := refRows_at (L := L) (bs := bs) hlt
      have q2 := refRow_at (L := L) (bs := bs) (a := c) hb
      have q3 := refRow_at (L := L) (bs := bs) (a := c) ha
      have wr : IntKind.i64.wrap ((c : Int) + 1) = ((c + 1 : Nat) : Int) := by rw [wrap_i64 (by omega) (by omega)]; rfl
      have step : ∀ l2 : Bool, ((l2 = true) ↔ (least = true ∧ (c ≠ b → abI L bs (c : Int) (b : Int) = true → abI L bs (c : Int) (a : Int) = true))) →
          (l2 = true ↔ ∀ d : Nat, d < c + 1 → d ≠ b → abI L bs (d : Int) (b : Int) = true → abI L bs (d : Int) (a : Int) = true) := fun l2 h => by
        rw [h, hleast]
        constructor
        · rintro ⟨h3, h4⟩ d hd
          by_cases hdc : d = c
          · subst hdc; exact h4
          · exact h3 d (by omega)
        · intro h3
          exact ⟨fun d hd => h3 d (by omega), h3 c (by omega)⟩
      have fin : ∀ (A' : Nat → AV) (l2 : Bool), (∀ t ∈ [0, 1, 5], A' t = A t) → A' 6 = bl l2 → A' 7 = i64 (c + 1 : Nat) → ((l2 = true) ↔ (least = true ∧ (c ≠ b → abI L bs (c : Int) (b : Int) = true → abI L bs (c : Int) (a : Int) = true))) → ∃ m, m < g.length - c ∧ NxJ g.length L bs A a b N1 m ⟨A', noHeap, N1⟩ := fun A' l2 k k6 k7 hh =>
        ⟨g.length - (c + 1), by omega, ⟨c + 1, l2, by omega, rfl, k, k6, k7, rfl, rfl, step l2 hh⟩⟩
      by_cases hcb : c = b
      · subst hcb
        simp [a_bobbinref12_Tree_Nextb1, g0, g1, refV_eq, e7, hl, hlt, wr, -alen]
        refine fin _ least ?_ ?_ ?_ ?_
        · simpa [g0, g1, refV_eq] using hA
        · simp [e6]
        · simp
        · simp
      · cases h3 : abI L bs (c : Int) (b : Int) with
        | false =>
          rw [h3] at q2
          simp [a_bobbinref12_Tree_Nextb1, g0, g1, refV_eq, e7, hl, hlt, show ¬ (c : Int) = b by omega, q1, q2, wr, -alen]
          refine fin _ least ?_ ?_ ?_ ?_
          · simpa [g0, g1, refV_eq] using hA
          · simp [e6]
          · simp
          · simp [h3]
        | true =>
          rw [h3] at q2
          cases h4 : abI L bs (c : Int) (a : Int) with
          | true =>
            rw [h4] at q3
            simp [a_bobbinref12_Tree_Nextb1, g0, g1, g5, refV_eq, e7, hl, hlt, show ¬ (c : Int) = b by omega, q1, q2, q3, wr, -alen]
            refine fin _ least ?_ ?_ ?_ ?_
            · simpa [g0, g1, g5, refV_eq] using hA
            · simp [e6]
            · simp
            · simp [h4]
          | false =>
            rw [h4] at q3
            simp [a_bobbinref12_Tree_Nextb1, g0, g1, g5, refV_eq, e7, hl, hlt, show ¬ (c : Int) = b by omega, q1, q2, q3, wr, -alen]
            refine fin _ false ?_ ?_ ?_ ?_
            · simpa [g0, g1, g5, refV_eq] using hA
            · simp
            · simp
            · simp [h3, h4, hcb]

structure NxI (n : Nat) (L : List Int) (bs : List Nat) (b : Nat) (tv : AV) (N k : Nat) (s : St) : Prop where
  ex : ∃ a : Nat, a ≤ n ∧ k = n - a ∧ s.A 0 = tv ∧ s.A 1 = i64 b ∧ s.A 5 = i64 a ∧ s.H = noHeap ∧ s.N = N ∧ ∀ d : Nat, d < a → nxI L bs b ≠ d

theorem p_rNext (hT : TreeOk g L bs) (hn : g.length ≤ 40) (b : Int) : PCall Try.prog 23 [refV g.length L bs, i64 b] (i64 (nxI L bs b)) := by
  refine PCall.of fun N => acall mixed c_bobbinref12_Tree_Next (by simp) ?_
  have hl := refRows_len (n := g.length) (L := L) (bs := bs)
  have ld2 : ∀ (cs : List AV) (i : Nat) (H : AHeap), aload H false 1 (.ip cs i) = cs[i]? := fun cs i H => rfl
  by_cases h0 : b < 0
  · have : nxI L bs b = -1 := by simp [nxI, rchI, show ¬ 0 ≤ b by omega]
    rw [this]
    simp [a_bobbinref12_Tree_Next, h0]
    exact .free rfl
  · by_cases hbn : (g.length : Int) ≤ b
    · have : nxI L bs b = -1 := by
        have : rchI bs b = false := by
          cases h : rchI bs b with
          | false => rfl
          | true =>
            rw [rch_iff hT] at h
            have := hT.row.lt _ ((hT.row.mem _).2 h.2)
            omega
        simp [nxI, this]
      rw [this]
      simp [a_bobbinref12_Tree_Next, refV_eq, h0, hl, hbn, -alen]
      exact .free rfl
    · obtain ⟨bn, rfl⟩ : ∃ bn : Nat, b = bn := ⟨b.toNat, by omega⟩
      have hb : bn < g.length := by omega
      have q0 := refRch_at (bs := bs) hb
      cases hr : rchI bs (bn : Int) with
      | false =>
        rw [hr] at q0
        have : nxI L bs bn = -1 := by simp [nxI, hr]
        rw [this]
        simp [a_bobbinref12_Tree_Next, refV_eq, h0, hl, show ¬ g.length ≤ bn by omega, q0, -alen]
        exact .free rfl
      | true =>
        rw [hr] at q0
        simp [a_bobbinref12_Tree_Next, refV_eq, h0, hl, show ¬ g.length ≤ bn by omega, q0, -alen]
        refine run_loop (NxI g.length L bs bn (refV g.length L bs) N) g.length ?_ ?_
        · exact ⟨0, by omega, by omega, by simp [refV_eq], by simp, by simp, rfl, rfl, fun d hd => by omega⟩
        · rintro k A1 H1 N1 ⟨a, ha, rfl, e0, e1, e5, hHe, hNe, hno⟩
          simp only at e0 e1 e5 hHe hNe
          subst hHe hNe
          by_cases hal : a = g.length
          · subst hal
            have : nxI L bs bn = -1 := by
              have hr' := (rch_iff hT).1 hr
              simp at hr'
              rcases hT.nx hb with ⟨h1, _⟩ | ⟨d, h1, h2⟩
              · simp [nxI, hr, List.getD, h1]
              · have hdg := hT.row.lt d ((hT.row.mem d).2 (hT.sol.fit.dn bn d hr' h2).1)
                exact absurd (by simp [nxI, hr, List.getD, h1]) (hno d hdg)
            rw [this]
            simp [a_bobbinref12_Tree_Nextb2, e0, refV_eq, e5, hl, -alen]
            exact .free rfl
          · have hlt : a < g.length := by omega
            have q1 := refRows_at (L := L) (bs := bs) hlt
            have q2 := refRow_at (L := L) (bs := bs) (a := a) hb
            have wr : IntKind.i64.wrap ((a : Int) + 1) = ((a + 1 : Nat) : Int) := by rw [wrap_i64 (by omega) (by omega)]; rfl
            have fin : ∀ (A' : Nat → AV), A' 0 = refV g.length L bs → A' 1 = i64 bn → A' 5 = i64 (a + 1 : Nat) → nxI L bs bn ≠ a → ∃ m, m < g.length - a ∧ NxI g.length L bs bn (refV g.length L bs) N1 m ⟨A', noHeap, N1⟩ := fun A' k0 k1 k5 hne =>
              ⟨g.length - (a + 1), by omega, ⟨a + 1, by omega, rfl, k0, k1, k5, rfl, rfl, fun d hd => by
                by_cases hda : d = a
                · subst hda; exact hne
                · exact hno d (by omega)⟩⟩
            by_cases hab : a = bn
            · subst hab
              have hne : nxI L bs a ≠ a := fun h => by
                have hr' := (rch_iff hT).1 hr
                simp at hr'
                rcases hT.nx hb with ⟨h1, _⟩ | ⟨d, h1, h2⟩
                · simp [nxI, hr, List.getD, h1] at h
                · have := (hT.sol.fit.dn a d hr' h2).2.1
                  simp [nxI, hr, List.getD, h1] at h
                  have h' : d = a := by omega
                  subst h'
                  exact Nat.lt_irrefl _ this
              simp [a_bobbinref12_Tree_Nextb2, e0, e1, e5, refV_eq, hl, hlt, wr, -alen]
              refine fin _ ?_ ?_ ?_ hne <;> simp [e0, e1, refV_eq]
            · cases h3 : abI L bs (a : Int) (bn : Int) with
              | false =>
                have hne : nxI L bs bn ≠ a := fun h => by
                  have hr' := (rch_iff hT).1 hr
                  simp at hr'
                  rcases hT.nx hb with ⟨h1, _⟩ | ⟨d, h1, h2⟩
                  · simp [nxI, hr, List.getD, h1] at h
                  · simp [nxI, hr, List.getD, h1] at h
                    have h' : d = a := by omega
                    subst h'
                    have : abI L bs (d : Int) (bn : Int) = true := by rw [ab_iff hT]; simp; exact ⟨hr', .step h2 (.refl _)⟩
                    rw [this] at h3; cases h3
                rw [h3] at q2
                simp [a_bobbinref12_Tree_Nextb2, e0, e1, e5, refV_eq, hl, hlt, show ¬ (a : Int) = bn by omega, q1, q2, wr, -alen]
                refine fin _ ?_ ?_ ?_ hne <;> simp [e0, e1, refV_eq]
              | true =>
                have hiff := next_least hT hab h3
                rw [h3] at q2
                simp [a_bobbinref12_Tree_Nextb2, e0, e1, e5, refV_eq, hl, hlt, show ¬ (a : Int) = bn by omega, q1, q2, wr, -alen]
                refine next_in (g := g) (L := L) (bs := bs) (a := a) (b := bn) hn hlt hb ?_ ?_ ?_ ?_ ?_ ?_
                · simp [e0, refV_eq]
                · simp [e1]
                · simp [e5]
                · simp
                · simp
                intro A2 least hA2 h6 hle
                rw [hiff] at hle
                simp at hA2
                cases least with
                | true =>
                  have := hle.1 rfl
                  rw [this]
                  simp [h6, hA2, e5]
                  exact .free rfl
                | false =>
                  have hne : nxI L bs bn ≠ a := fun h => by have := hle.2 h; cases this
                  simp [h6, hA2, e5, wr]
                  refine fin _ ?_ ?_ ?_ hne <;> simp [hA2, e0, e1, refV_eq]

end
end Go.Proofs.Ytmbbklddjkmcmaa
