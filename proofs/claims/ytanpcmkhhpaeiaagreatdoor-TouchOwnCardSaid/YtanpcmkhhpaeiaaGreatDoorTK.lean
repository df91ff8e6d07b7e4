/- touch: the law TouchOwn, the rows. -/
import Derived.Test.YtanpcmkhhpaeiaaGreatDoorTJ
namespace Go.Proofs.YtanpcmkhhpaeiaaGreatDoor
set_option linter.unusedSimpArgs false
set_option linter.unusedVariables false
open Go Go.Fw
section
variable {A : Nat → AV} {H H0 : AHeap} {N N0 : Nat} {fs : List Fr} {Q : Post} {p : PrgV} {i k : Nat} {f : FunV} {ws : Nat → AV}
theorem own_b3 {c : ACode} (hc : .loop a_bobbinlaw18_TouchOwnb3 = c) (hC : OwnC p i f H0 N0 ws) (hT : OwnT p i k ws A) (hk5 : k < 5) (h10 : A 10 = i64 0) (hF : Fresh H N) (hN : N0 ≤ N) (hold : ∀ j, j < N0 → H j = H0 j)
    (hk : ∀ A' H' N', (∀ t ∈ keptO, A' t = A t) → Fresh H' N' → N0 ≤ N' → (∀ j, j < N0 → H' j = H0 j) → onward Tryz.prog fs Q .normal ⟨A', H', N'⟩) : run Tryz.prog c (.blk 4 :: fs) Q ⟨A, H, N⟩ := by
  subst hc
  obtain ⟨c2, e2⟩ : ∃ c, (.loop a_bobbinlaw18_TouchOwnb2 : ACode) = c := ⟨_, rfl⟩
  have hlw := (hC.ws k hk5).len
  have hwc := (hC.ws k hk5).cells
  have hfew := hC.few
  have hlen := get_of_le (ownV_le f.code) k
  have hst := ownV_lt f.code k
  generalize hL : (ownV f.code).get k = L at hlw hlen hst
  refine run_loop (fun m s => ∃ j : Nat, j ≤ L.length ∧ m = L.length - j ∧ (∀ t ∈ keptO, s.A t = A t) ∧ s.A 10 = i64 j ∧ Fresh s.H s.N ∧ N0 ≤ s.N ∧ ∀ j, j < N0 → s.H j = H0 j) L.length ?_ ?_
  · exact ⟨0, by omega, by omega, fun t _ => rfl, h10, hF, hN, hold⟩
  · rintro m A1 H1 N1 ⟨j, hj, rfl, hk1, e10, hF1, hN1, hold1⟩
    simp only at hk1 e10 hF1 hN1 hold1
    have hT1 := hT.to hk1
    obtain ⟨t1, t5, t7, t8, t9⟩ := hT1
    unfold a_bobbinlaw18_TouchOwnb3
    rw [e2]
    by_cases hjl : j = L.length
    · have n1 : ¬ ((j : Int) < L.length) := by omega
      simp [t7, t9, e10, ls_at ws hk5, hlw, n1, -alen]
      exact hk _ _ _ (fun t ht => Eq.trans ((by simp [keptO] : ∀ t ∈ keptO, _ = A1 t) t ht) (hk1 t ht)) hF1 hN1 hold1
    · have hlt : j < L.length := by omega
      have n1 : (j : Int) < L.length := by omega
      obtain ⟨v, hv⟩ : ∃ v, L[j]? = some v := ⟨L[j], List.getElem?_eq_getElem hlt⟩
      have hwj : IntKind.i64.wrap ((j : Int) + 1) = ((j + 1 : Nat) : Int) := by rw [wrap_i64 (by omega) (by omega)]; rfl
      simp [t7, t9, e10, ls_at ws hk5, hlw, n1, -alen]
      refine own_b2 e2 hC (k := k) (v := v) (j := j) ⟨by simp [t1], by simp [t5], by simp [t7], by simp [t8], by simp [t9]⟩ hk5 (by rw [hL]; exact hv) (by simp [e10]) (by simp) (by simp) hF1 hN1 hold1 fun A2 H2 N2 hk2 r11 hF2 hN2 hold2 => ?_
      have s7 : A2 7 = lsV ws := (hk2 7 (by decide)).trans (by simp [t7])
      have s9 : A2 9 = i64 (k : Nat) := (hk2 9 (by decide)).trans (by simp [t9])
      have s10 : A2 10 = i64 (j : Nat) := (hk2 10 (by decide)).trans (by simp [e10])
      have hkk : ∀ t ∈ keptO, A2 t = A t := fun t ht => by
        have h2 : t ∈ keptP := by revert t; decide
        rw [hk2 t h2, ← hk1 t ht]
        revert t
        simp [keptO]
      obtain ⟨pq, hpq, lpq⟩ := ((hC.ws k hk5).keep hC.F hold2).get (by rw [hL]; exact hv)
      by_cases hj0 : j = 0
      · subst hj0
        simp [r11, s7, s9, s10, ls_at ws hk5]
        refine ⟨L.length - 1, by omega, 1, by omega, rfl, fun t ht => ?_, rfl, hF2, hN2, hold2⟩
        rw [← hkk t ht]
        simp only [keptO, List.mem_cons, List.not_mem_nil, or_false] at ht
        rcases ht with rfl | rfl | rfl | rfl | rfl | rfl | rfl <;> simp
      · obtain ⟨u, hu⟩ : ∃ u, L[j - 1]? = some u := ⟨L[j - 1]'(by omega), List.getElem?_eq_getElem _⟩
        obtain ⟨pu, hpu, lpu⟩ := ((hC.ws k hk5).keep hC.F hold2).get (by rw [hL]; exact hu)
        have hw1 : IntKind.i64.wrap ((j : Int) - 1) = ((j - 1 : Nat) : Int) := by rw [wrap_i64 (by omega) (by omega)]; omega
        have hpos : (0 : Int) < j := by omega
        have huv : u < v := by
          have h1 := List.pairwise_iff_getElem.1 hst (j - 1) j (by omega) hlt (by omega)
          rw [(List.getElem?_eq_some_iff.1 hu).2, (List.getElem?_eq_some_iff.1 hv).2] at h1
          exact h1
        have hle : ¬ v ≤ u := by omega
        simp [r11, s7, s9, s10, ls_at ws hk5, hpos, show 0 < j by omega]
        simp [hw1, hpq, lpq, hpu, lpu, hle, s10, hwj, ip_one, -aload]
        refine ⟨L.length - (j + 1), by omega, j + 1, by omega, rfl, fun t ht => ?_, rfl, hF2, hN2, hold2⟩
        rw [← hkk t ht]
        simp only [keptO, List.mem_cons, List.not_mem_nil, or_false] at ht
        rcases ht with rfl | rfl | rfl | rfl | rfl | rfl | rfl <;> simp

/-- All five rows. -/
theorem own_b4 {c : ACode} (hc : .loop a_bobbinlaw18_TouchOwnb4 = c) (hC : OwnC p i f H0 N0 ws) (h1 : A 1 = .ip p.cells 0) (h5 : A 5 = i64 (i : Nat)) (h7 : A 7 = lsV ws) (h8 : A 8 = opV) (h9 : A 9 = i64 0) (hF : Fresh H N) (hN : N0 ≤ N) (hold : ∀ j, j < N0 → H j = H0 j)
    (hk : ∀ A' H' N', (∀ t ∈ [1, 3, 4, 5], A' t = A t) → Fresh H' N' → N0 ≤ N' → (∀ j, j < N0 → H' j = H0 j) → onward Tryz.prog fs Q .normal ⟨A', H', N'⟩) : run Tryz.prog c (.blk 2 :: fs) Q ⟨A, H, N⟩ := by
  subst hc
  obtain ⟨c3, e3⟩ : ∃ c, (.loop a_bobbinlaw18_TouchOwnb3 : ACode) = c := ⟨_, rfl⟩
  obtain ⟨c1, e1⟩ : ∃ c, (.loop a_bobbinlaw18_TouchOwnb1 : ACode) = c := ⟨_, rfl⟩
  have hl5 : alen 1 (lsV ws) = some 5 := rfl
  refine run_loop (fun m s => ∃ k : Nat, k ≤ 5 ∧ m = 5 - k ∧ (∀ t ∈ [1, 3, 4, 5, 7, 8], s.A t = A t) ∧ s.A 9 = i64 k ∧ Fresh s.H s.N ∧ N0 ≤ s.N ∧ ∀ j, j < N0 → s.H j = H0 j) 5 ?_ ?_
  · exact ⟨0, by omega, by omega, fun t _ => rfl, h9, hF, hN, hold⟩
  · rintro m A1 H1 N1 ⟨k, hk5', rfl, hk1, e9, hF1, hN1, hold1⟩
    simp only at hk1 e9 hF1 hN1 hold1
    have t1 := (hk1 1 (by simp)).trans h1
    have t3 := hk1 3 (by simp)
    have t4 := hk1 4 (by simp)
    have t5 := (hk1 5 (by simp)).trans h5
    have t7 := (hk1 7 (by simp)).trans h7
    have t8 := (hk1 8 (by simp)).trans h8
    unfold a_bobbinlaw18_TouchOwnb4
    rw [e3, e1]
    by_cases hk5 : k = 5
    · subst hk5
      simp [t7, e9, hl5, -alen]
      exact hk _ _ _ (by simp [t1, t3, t4, t5, h1, h5]) hF1 hN1 hold1
    · have hlt : k < 5 := by omega
      have n1 : (k : Int) < 5 := by omega
      have hwj : IntKind.i64.wrap ((k : Int) + 1) = ((k + 1 : Nat) : Int) := by rw [wrap_i64 (by omega) (by omega)]; rfl
      simp [t7, e9, hl5, n1, -alen]
      refine own_b3 e3 hC (k := k) ⟨by simp [t1], by simp [t5], by simp [t7], by simp [t8], by simp [e9]⟩ hlt (by simp) hF1 hN1 hold1 fun A2 H2 N2 hk2 hF2 hN2 hold2 => ?_
      have s1 : A2 1 = .ip p.cells 0 := (hk2 1 (by decide)).trans (by simp [t1])
      have s3 : A2 3 = A 3 := (hk2 3 (by decide)).trans (by simp [t3])
      have s4 : A2 4 = A 4 := (hk2 4 (by decide)).trans (by simp [t4])
      have s5 : A2 5 = i64 (i : Nat) := (hk2 5 (by decide)).trans (by simp [t5])
      have s7 : A2 7 = lsV ws := (hk2 7 (by decide)).trans (by simp [t7])
      have s8 : A2 8 = opV := (hk2 8 (by decide)).trans (by simp [t8])
      have s9 : A2 9 = i64 (k : Nat) := (hk2 9 (by decide)).trans (by simp [e9])
      simp
      refine own_b1 e1 hC (k := k) ⟨by simp [s1], by simp [s5], by simp [s7], by simp [s8], by simp [s9]⟩ hlt (by simp) hF2 hN2 hold2 fun A3 H3 N3 hk3 hF3 hN3 hold3 => ?_
      have u1 : A3 1 = .ip p.cells 0 := (hk3 1 (by decide)).trans (by simp [s1])
      have u3 : A3 3 = A 3 := (hk3 3 (by decide)).trans (by simp [s3])
      have u4 : A3 4 = A 4 := (hk3 4 (by decide)).trans (by simp [s4])
      have u5 : A3 5 = i64 (i : Nat) := (hk3 5 (by decide)).trans (by simp [s5])
      have u7 : A3 7 = lsV ws := (hk3 7 (by decide)).trans (by simp [s7])
      have u8' : A3 8 = opV := (hk3 8 (by decide)).trans (by simp [s8])
      have u9 : A3 9 = i64 (k : Nat) := (hk3 9 (by decide)).trans (by simp [s9])
      simp [u9, hwj]
      refine ⟨5 - (k + 1), by omega, k + 1, by omega, rfl, ?_, rfl, hF3, hN3, hold3⟩
      simp [u1, u3, u4, u5, u7, u8', h1, h5, h7, h8]
end
end Go.Proofs.YtanpcmkhhpaeiaaGreatDoor
