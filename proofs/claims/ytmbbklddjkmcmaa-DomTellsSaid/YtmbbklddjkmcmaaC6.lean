/- dom: the law DomTells. -/
import Derived.Test.YtmbbklddjkmcmaaC5
namespace Go.Proofs.Ytmbbklddjkmcmaa
set_option linter.unusedSimpArgs false
set_option linter.unusedVariables false
open Go Go.Fw Go.Dm

section
variable {x : GraphV} {L : List Int} {bs : List Nat} {A : Nat → AV} {H : AHeap} {N : Nat} {fs : List Fr} {Q : Post}

theorem rch_out (hT : TreeOk x.g L bs) {b : Int} (h : ¬ (0 ≤ b ∧ b < x.g.length)) : rchI bs b = false := by
  cases hr : rchI bs b with
  | false => rfl
  | true =>
    rw [rch_iff hT] at hr
    have := hT.row.lt _ ((hT.row.mem _).2 hr.2)
    omega
theorem kidsR_out (hT : TreeOk x.g L bs) {b : Int} (h : ¬ (0 ≤ b ∧ b < x.g.length)) : kidsR L bs x.g.length b = [] := by
  unfold kidsR
  rw [List.filter_eq_nil_iff]
  intro c hc hh
  simp only [Bool.and_eq_true, decide_eq_true_eq] at hh
  obtain ⟨h1, h2, h3⟩ := hh
  have hr := (rch_iff hT).1 h2
  simp at hr
  obtain ⟨d, hd⟩ := hT.sol.all c hr h1
  have hdg := hT.row.lt d ((hT.row.mem d).2 (hT.sol.fit.dn c d hr hd).1)
  simp [nxI, h2, List.getD, nxOf_some hd] at h3
  omega

structure TlJ (x : GraphV) (tv rv : AV) (b : Int) (K k : Nat) (s : St) : Prop where
  ex : ∃ j : Nat, k = K - j ∧ j ≤ K ∧ s.A 0 = x.av ∧ s.A 3 = tv ∧ s.A 5 = rv ∧ s.A 8 = i64 b ∧ s.A 10 = i64 ((j : Int) - 1)

theorem tells_in (hn : x.g.length ≤ 40) (hT : TreeOk x.g L bs) {b : Int} {v7 : AV} (h0 : A 0 = x.av) (h3 : A 3 = treeV x.g.length L bs) (h5 : A 5 = refV x.g.length L bs) (h8 : A 8 = i64 b) (h10 : A 10 = i64 (-1)) (h7 : A 7 = v7)
    (hk : ∀ A' H' N', A' 0 = x.av → A' 3 = treeV x.g.length L bs → A' 5 = refV x.g.length L bs → A' 8 = i64 b → A' 7 = v7 → onward Try.prog fs Q (.exit 4) ⟨A', H', N'⟩) :
    run Try.prog (.loop a_bobbinlaw12_DomTellsb1) fs Q ⟨A, H, N⟩ := by
  have hlen := x.len
  refine run_loop (fun k s => TlJ x (treeV x.g.length L bs) (refV x.g.length L bs) b (x.g.length + 2) k s ∧ s.A 7 = v7) (x.g.length + 2) ?_ ?_
  · exact ⟨⟨0, by omega, by omega, h0, h3, h5, h8, h10⟩, h7⟩
  · rintro k A1 H1 N1 ⟨⟨j, hk', hj, e0, e3, e5, e8, e10⟩, e7⟩
    simp only at e0 e3 e5 e8 e10 e7
    by_cases hjl : j = x.g.length + 2
    · subst hjl
      have : ((x.g.length + 2 : Nat) : Int) - 1 = (x.g.length : Int) + 1 := by omega
      rw [this] at e10
      simp [a_bobbinlaw12_DomTellsb1, e0, e10, hlen, show ¬ ((x.g.length : Int) + 1 ≤ x.g.length) by omega, -alen]
      exact hk _ _ _ (by simp [e0]) (by simp [e3]) (by simp [e5]) (by simp [e8]) (by simp [e7])
    · have hc : ((j : Int) - 1 ≤ (x.g.length : Int)) := by omega
      have wr : IntKind.i64.wrap ((j : Int) - 1 + 1) = ((j + 1 : Nat) : Int) - 1 := by rw [wrap_i64 (by omega) (by omega)]; omega
      have fin : ∀ A' : Nat → AV, A' 0 = x.av → A' 3 = treeV x.g.length L bs → A' 5 = refV x.g.length L bs → A' 8 = i64 b → A' 10 = i64 (((j + 1 : Nat) : Int) - 1) → A' 7 = v7 → ∃ m, m < k ∧ TlJ x (treeV x.g.length L bs) (refV x.g.length L bs) b (x.g.length + 2) m ⟨A', H1, N1⟩ ∧ A' 7 = v7 := fun A' k0 k3 k5 k8 k10 k7 =>
        ⟨x.g.length + 2 - (j + 1), by omega, ⟨j + 1, rfl, by omega, k0, k3, k5, k8, k10⟩, k7⟩
      obtain ⟨a, ha⟩ : ∃ a : Int, a = (j : Int) - 1 := ⟨_, rfl⟩
      rw [← ha] at e10 hc wr
      obtain ⟨a', ha'⟩ : ∃ a' : Int, a' = ((j + 1 : Nat) : Int) - 1 := ⟨_, rfl⟩
      rw [← ha'] at wr fin
      simp [a_bobbinlaw12_DomTellsb1, e0, e3, e8, e10, hlen, hc, -alen]
      refine (p_Above hT _ _).acall ?_
      simp [e5, e8, e10]
      refine (p_rIs hT _ _).acall ?_
      simp [e10, wr]
      refine fin _ ?_ ?_ ?_ ?_ ?_ ?_ <;> simp [e0, e3, e5, e8, e7]

structure TlI (x : GraphV) (tv rv : AV) (K k : Nat) (s : St) : Prop where
  ex : ∃ j : Nat, k = K - j ∧ j ≤ K ∧ s.A 0 = x.av ∧ s.A 3 = tv ∧ s.A 5 = rv ∧ s.A 8 = i64 ((j : Int) - 1)

theorem tells_go (hn : x.g.length ≤ 40) (hT : TreeOk x.g L bs) {v7 : AV} (h0 : A 0 = x.av) (h3 : A 3 = treeV x.g.length L bs) (h5 : A 5 = refV x.g.length L bs) (h8 : A 8 = i64 (-1)) (h7 : A 7 = v7)
    (hk : ∀ A' H' N', A' 0 = x.av → A' 3 = treeV x.g.length L bs → A' 5 = refV x.g.length L bs → A' 7 = v7 → onward Try.prog fs Q (.exit 2) ⟨A', H', N'⟩) :
    run Try.prog (.loop a_bobbinlaw12_DomTellsb2) fs Q ⟨A, H, N⟩ := by
  have hlen := x.len
  refine run_loop (fun k s => TlI x (treeV x.g.length L bs) (refV x.g.length L bs) (x.g.length + 2) k s ∧ s.A 7 = v7) (x.g.length + 2) ?_ ?_
  · exact ⟨⟨0, by omega, by omega, h0, h3, h5, h8⟩, h7⟩
  · rintro k A1 H1 N1 ⟨⟨j, hk', hj, e0, e3, e5, e8⟩, e7⟩
    simp only at e0 e3 e5 e8 e7
    by_cases hjl : j = x.g.length + 2
    · subst hjl
      have : ((x.g.length + 2 : Nat) : Int) - 1 = (x.g.length : Int) + 1 := by omega
      rw [this] at e8
      simp [a_bobbinlaw12_DomTellsb2, e0, e8, hlen, show ¬ ((x.g.length : Int) + 1 ≤ x.g.length) by omega, -alen]
      exact hk _ _ _ (by simp [e0]) (by simp [e3]) (by simp [e5]) (by simp [e7])
    · have hc : ((j : Int) - 1 ≤ (x.g.length : Int)) := by omega
      have wr : IntKind.i64.wrap ((j : Int) - 1 + 1) = ((j + 1 : Nat) : Int) - 1 := by rw [wrap_i64 (by omega) (by omega)]; omega
      have fin : ∀ (A' : Nat → AV) H' N', A' 0 = x.av → A' 3 = treeV x.g.length L bs → A' 5 = refV x.g.length L bs → A' 8 = i64 (((j + 1 : Nat) : Int) - 1) → A' 7 = v7 → ∃ m, m < k ∧ TlI x (treeV x.g.length L bs) (refV x.g.length L bs) (x.g.length + 2) m ⟨A', H', N'⟩ ∧ A' 7 = v7 := fun A' H' N' k0 k3 k5 k8 k7 =>
        ⟨x.g.length + 2 - (j + 1), by omega, ⟨j + 1, rfl, by omega, k0, k3, k5, k8⟩, k7⟩
      obtain ⟨b, hb⟩ : ∃ b : Int, b = (j : Int) - 1 := ⟨_, rfl⟩
      have hbl : -1 ≤ b := by omega
      rw [← hb] at e8 hc wr
      obtain ⟨b', hb'⟩ : ∃ b' : Int, b' = ((j + 1 : Nat) : Int) - 1 := ⟨_, rfl⟩
      rw [← hb'] at wr fin
      have go : ∀ (A2 : Nat → AV) (H2 : AHeap) (N2 : Nat) (fs' : List Fr) (Q' : Post), A2 0 = x.av → A2 3 = treeV x.g.length L bs → A2 5 = refV x.g.length L bs → A2 8 = i64 b → A2 10 = i64 (-1) → A2 7 = v7 →
          (∀ A' H' N', A' 0 = x.av → A' 3 = treeV x.g.length L bs → A' 5 = refV x.g.length L bs → A' 8 = i64 b → A' 7 = v7 → onward Try.prog fs' Q' (.exit 4) ⟨A', H', N'⟩) → run Try.prog (.loop a_bobbinlaw12_DomTellsb1) fs' Q' ⟨A2, H2, N2⟩ :=
        fun A2 H2 N2 fs' Q' k0 k3 k5 k8 k10 k7 hk2 => tells_in hn hT k0 k3 k5 k8 k10 k7 hk2
      by_cases hin : 0 ≤ b ∧ b < x.g.length
      · obtain ⟨bn, hbn⟩ : ∃ bn : Nat, b = bn := ⟨b.toNat, by omega⟩
        have q := refRch_at (bs := bs) (n := x.g.length) (b := bn) (by omega)
        rw [← hbn] at q
        have hkk : natI (kidsI L bs b) = natI (kidsR L bs x.g.length b) := by
          rw [hbn, kidsI_eq hT, kidsR_eq hT]
        have hkl : (natI (kidsI L bs b)).length ≤ 1000000 := by
          rw [hkk, natI_len]
          have := kidsR_len (L := L) (bs := bs) (j := x.g.length) (b := b)
          omega
        simp [a_bobbinlaw12_DomTellsb2, e0, e3, e5, e8, hlen, hc, hin.1, hin.2, -alen]
        refine (p_Reached hT _).acall ?_
        simp [e3, e5, e8, refV_eq, q]
        refine (p_Next hT _).acall ?_
        simp [e3, e5, e8]
        refine (p_rNext hT hn _).acall ?_
        simp [e3, e5, e8]
        refine (a_Kids hT (by omega) _ _ _).monoF ?_
        rintro r1 H2 N2 ⟨hN2, _, hB1⟩ hF2 _
        simp [e3, e5, e8]
        refine (a_rKids hT hn _ _ _).mono ?_
        rintro r2 H3 N3 ⟨hN3, hold3, hB2⟩
        simp
        refine (p_same (built_later hB1 hF2 hold3) hB2.rd hkl _).mono ?_
        rintro r3 H4 N4 rfl
        simp [hkk]
        refine go _ _ _ _ _ ?_ ?_ ?_ ?_ ?_ ?_ ?_
        · simp [e0]
        · simp [e3]
        · simp [e5]
        · simp [e8]
        · simp
        · simp [e7]
        intro A5 H5 N5 k0 k3 k5 k8 k7
        simp [k8, wr]
        refine fin _ _ _ ?_ ?_ ?_ ?_ ?_ <;> simp [k0, k3, k5, k7]
      · have hr := rch_out hT hin
        have hnx : nxI L bs b = -1 := by simp [nxI, hr]
        have hk1 : natI (kidsI L bs b) = [] := by simp [kidsI, hr, natI]
        have hk2 : natI (kidsR L bs x.g.length b) = [] := by rw [kidsR_out hT hin]; rfl
        have common : ∀ (A' : Nat → AV), A' 0 = x.av → A' 3 = treeV x.g.length L bs → A' 5 = refV x.g.length L bs → A' 8 = i64 b → A' 7 = v7 → True := fun _ _ _ _ _ _ => trivial
        have hcase : (b < 0) ∨ (0 ≤ b ∧ (x.g.length : Int) ≤ b) := by omega
        rcases hcase with hneg | ⟨hp1, hp2⟩
        · simp [a_bobbinlaw12_DomTellsb2, e0, e3, e5, e8, hlen, hc, show ¬ 0 ≤ b by omega, -alen]
          refine (p_Reached hT _).acall ?_
          simp [hr, e3, e5, e8]
          refine (p_Next hT _).acall ?_
          simp [e3, e5, e8]
          refine (p_rNext hT hn _).acall ?_
          simp [e3, e5, e8]
          refine (a_Kids hT (by omega) _ _ _).monoF ?_
          rintro r1 H2 N2 ⟨hN2, _, hB1⟩ hF2 _
          rw [hk1] at hB1
          simp [e3, e5, e8]
          refine (a_rKids hT hn _ _ _).mono ?_
          rintro r2 H3 N3 ⟨hN3, hold3, hB2⟩
          rw [hk2] at hB2
          simp
          refine (p_same (built_later hB1 hF2 hold3) hB2.rd (by simp) _).mono ?_
          rintro r3 H4 N4 rfl
          simp [e3, e8]
          refine (a_Kids hT (by omega) _ _ _).mono ?_
          rintro r4 H5 N5 ⟨_, _, hB4⟩
          rw [hk1] at hB4
          have hl4 : alen 1 r4 = some 0 := hB4.rd.len
          simp [hl4, -alen]
          refine go _ _ _ _ _ ?_ ?_ ?_ ?_ ?_ ?_ ?_
          · simp [e0]
          · simp [e3]
          · simp [e5]
          · simp [e8]
          · simp
          · simp [e7]
          intro A5 H5 N5 k0 k3 k5 k8 k7
          simp [k8, wr]
          refine fin _ _ _ ?_ ?_ ?_ ?_ ?_ <;> simp [k0, k3, k5, k7]
        · simp [a_bobbinlaw12_DomTellsb2, e0, e3, e5, e8, hlen, hc, hp1, show ¬ b < x.g.length by omega, -alen]
          refine (p_Reached hT _).acall ?_
          simp [hr, e3, e5, e8]
          refine (p_Next hT _).acall ?_
          simp [e3, e5, e8]
          refine (p_rNext hT hn _).acall ?_
          simp [e3, e5, e8]
          refine (a_Kids hT (by omega) _ _ _).monoF ?_
          rintro r1 H2 N2 ⟨hN2, _, hB1⟩ hF2 _
          rw [hk1] at hB1
          simp [e3, e5, e8]
          refine (a_rKids hT hn _ _ _).mono ?_
          rintro r2 H3 N3 ⟨hN3, hold3, hB2⟩
          rw [hk2] at hB2
          simp
          refine (p_same (built_later hB1 hF2 hold3) hB2.rd (by simp) _).mono ?_
          rintro r3 H4 N4 rfl
          simp [e3, e8]
          refine (a_Kids hT (by omega) _ _ _).mono ?_
          rintro r4 H5 N5 ⟨_, _, hB4⟩
          rw [hk1] at hB4
          have hl4 : alen 1 r4 = some 0 := hB4.rd.len
          simp [hl4, -alen]
          refine go _ _ _ _ _ ?_ ?_ ?_ ?_ ?_ ?_ ?_
          · simp [e0]
          · simp [e3]
          · simp [e5]
          · simp [e8]
          · simp
          · simp [e7]
          intro A5 H5 N5 k0 k3 k5 k8 k7
          simp [k8, wr]
          refine fin _ _ _ ?_ ?_ ?_ ?_ ?_ <;> simp [k0, k3, k5, k7]

structure TlR (x : GraphV) (tv rv : AV) (k : Nat) (s : St) : Prop where
  ex : ∃ j : Nat, k = 2 - j ∧ j ≤ 2 ∧ s.A 0 = x.av ∧ s.A 3 = tv ∧ s.A 5 = rv ∧ s.A 7 = i64 j

theorem p_DomTells (x : GraphV) (hx : x.Ok) (H : AHeap) (N : Nat) : ACall Try.prog 3 [x.av] H N (fun r _ _ => r = bl true) := by
  refine acall mixed c_bobbinlaw12_DomTells (by simp) ?_
  have hlen := x.len
  simp [a_bobbinlaw12_DomTells]
  refine (p_long x hx _ _).mono ?_
  rintro r H1 N1 ⟨rfl, rfl, lb, rfl, hsh⟩
  cases lb with
  | true =>
    simp
    exact p_awake.acall (by simp)
  | false =>
    have hs := hsh rfl
    have hn := hs.n
    simp
    refine (p_Of x hx (by have := hs.e; omega)).acall ?_
    intro r hr
    by_cases hm : mayG x.g = true
    · rw [if_pos hm] at hr
      obtain ⟨L, bs, hT, rfl⟩ := hr
      have hR := p_rOf (L := L) (bs := bs) x hx hs (fun _ => hT)
      rw [if_pos hm] at hR
      simp
      refine hR.acall ?_
      simp [treeV]
      rw [← treeV]
      refine run_loop (TlR x (treeV x.g.length L bs) (refV x.g.length L bs)) 2 ?_ ?_
      · exact ⟨0, by omega, by omega, by simp, by simp [treeV], by simp, by simp⟩
      · rintro k A1 H1 N1 ⟨j, hk', hj, e0, e3, e5, e7⟩
        simp only at e0 e3 e5 e7
        by_cases hjl : j = 2
        · subst hjl
          simp [a_bobbinlaw12_DomTellsb3, e7]
          exact p_awake.acall rfl
        · have hol := order_len hT
          have hrl := row_len hT
          have hlt : decide ((j : Int) < 2) = true := decide_eq_true (by omega)
          have hlt2 : j < 2 := by omega
          have wr : IntKind.i64.wrap ((j : Int) + 1) = ((j + 1 : Nat) : Int) := by rw [wrap_i64 (by omega) (by omega)]; rfl
          simp [a_bobbinlaw12_DomTellsb3, e3, e7, show (j : Int) < 2 by omega]
          refine (a_Order hT (by omega) _ _).monoF ?_
          rintro r1 H2 N2 ⟨hN2, _, hB1⟩ hF2 _
          simp [e5]
          refine (a_rFrom hT hn bs.length 0 H2 N2 ((hT.row.mem 0).2 .zero) (by omega) (by unfold orderL at hol; omega)).mono ?_
          rintro r2 H3 N3 ⟨hN3, hold3, hB2⟩
          simp
          refine (p_same (built_later hB1 hF2 hold3) hB2.rd (by rw [natI_len]; omega) _).mono ?_
          rintro r3 H4 N4 rfl
          have heq : (decide (natI (orderL L bs) = natI (pre (kidsL L) bs.length 0))) = true := decide_eq_true rfl
          simp only [heq]
          simp
          refine tells_go (x := x) (v7 := i64 j) hn hT ?_ ?_ ?_ ?_ ?_ ?_
          · simp [e0]
          · simp [e3]
          · simp [e5]
          · simp
          · simp [e7]
          intro A5 H5 N5 k0 k3 k5 k7
          simp [k7, wr]
          exact ⟨2 - (j + 1), by omega, ⟨j + 1, rfl, by omega, by simp [k0], by simp [k3], by simp [k5], by simp⟩⟩
    · rw [if_neg hm] at hr
      subst hr
      have hR := p_rOf (L := []) (bs := []) x hx hs (fun h => absurd h hm)
      rw [if_neg hm] at hR
      simp
      refine hR.acall ?_
      simp
      exact p_awake.acall (by simp)

end
end Go.Proofs.Ytmbbklddjkmcmaa
