/- dom: the law DomAbove. -/
import Derived.Test.YtmbbklddjkmcmaaB1
namespace Go.Proofs.Ytmbbklddjkmcmaa
set_option linter.unusedSimpArgs false
set_option linter.unusedVariables false
open Go Go.Fw Go.Dm

section
variable {g : List RowV} {L : List Int} {bs : List Nat} {a b c : Int}

theorem ab_iff (h : TreeOk g L bs) : abI L bs a b = true ↔ 0 ≤ a ∧ 0 ≤ b ∧ Rch (Edge g) b.toNat ∧ Up (nxOf L) a.toNat b.toNat := by
  simp only [abI, rchI, Bool.and_eq_true, decide_eq_true_eq]
  constructor
  · rintro ⟨⟨h1, h2⟩, ⟨h3, h4⟩, h5⟩
    exact ⟨h1, h3, (h.row.mem _).1 h4, h5⟩
  · rintro ⟨h1, h2, h3, h4⟩
    exact ⟨⟨h1, (h.row.mem _).2 (h4.rch h.sol.fit h3)⟩, ⟨h2, (h.row.mem _).2 h3⟩, h4⟩
theorem rch_iff (h : TreeOk g L bs) : rchI bs a = true ↔ 0 ≤ a ∧ Rch (Edge g) a.toNat := by
  simp only [rchI, decide_eq_true_eq, h.row.mem]

theorem ab_refl (h : TreeOk g L bs) : abI L bs a a = rchI bs a := by
  rw [Bool.eq_iff_iff, ab_iff h, rch_iff h]
  exact ⟨fun h => ⟨h.1, h.2.2.1⟩, fun h => ⟨h.1, h.1, h.2, .refl _⟩⟩
theorem up_zero (h : TreeOk g L bs) {x : Nat} (hx : Rch (Edge g) x) : Up (nxOf L) 0 x := by
  rw [h.sol.dom x 0 hx]
  intro hav
  induction hav with
  | zero hc => exact hc rfl
  | step h1 _ _ ih => exact ih h1.rch
theorem ab_zero (h : TreeOk g L bs) : abI L bs 0 a = rchI bs a := by
  rw [Bool.eq_iff_iff, ab_iff h, rch_iff h]
  exact ⟨fun h => ⟨h.2.1, h.2.2.1⟩, fun h2 => ⟨by omega, h2.1, h2.2, up_zero h h2.2⟩⟩
theorem ab_rch (h : TreeOk g L bs) (h1 : abI L bs a b = true) : rchI bs a = true ∧ rchI bs b = true := by
  rw [ab_iff h] at h1
  rw [rch_iff h, rch_iff h]
  exact ⟨⟨h1.1, h1.2.2.2.rch h.sol.fit h1.2.2.1⟩, h1.2.1, h1.2.2.1⟩
theorem ab_anti (h : TreeOk g L bs) (hne : a ≠ b) (h1 : abI L bs a b = true) (h2 : abI L bs b a = true) : False := by
  rw [ab_iff h] at h1 h2
  obtain ⟨pr, ho⟩ := h.row.ord
  have e1 := h1.2.2.2.le h.sol.fit h1.2.2.1
  have e2 := h2.2.2.2.le h.sol.fit h2.2.2.1
  have := ho.inj _ _ h2.2.2.1 h1.2.2.1 (by omega)
  omega
theorem ab_trans (h : TreeOk g L bs) (h1 : abI L bs a b = true) (h2 : abI L bs b c = true) : abI L bs a c = true := by
  rw [ab_iff h] at h1 h2 ⊢
  exact ⟨h1.1, h2.2.1, h2.2.2.1, h1.2.2.2.trans h2.2.2.2⟩
theorem ab_lin (h : TreeOk g L bs) (h1 : abI L bs a c = true) (h2 : abI L bs b c = true) : abI L bs a b = true ∨ abI L bs b a = true := by
  rw [ab_iff h] at h1 h2
  have r1 := h1.2.2.2.rch h.sol.fit h1.2.2.1
  have r2 := h2.2.2.2.rch h.sol.fit h2.2.2.1
  rcases Nat.le_total (bs.idxOf a.toNat) (bs.idxOf b.toNat) with hle | hle
  · left; rw [ab_iff h]
    exact ⟨h1.1, h2.1, r2, h1.2.2.2.linear h.sol.fit h2.2.2.2 h1.2.2.1 hle⟩
  · right; rw [ab_iff h]
    exact ⟨h2.1, h1.1, r1, h2.2.2.2.linear h.sol.fit h1.2.2.2 h1.2.2.1 hle⟩

theorem p_DomAbove (x : GraphV) (hx : x.Ok) (a b c : Int) (H : AHeap) (N : Nat) : ACall Try.prog 8 [x.av, i64 a, i64 b, i64 c] H N (fun r _ _ => r = bl true) := by
  refine acall mixed c_bobbinlaw12_DomAbove (by simp) ?_
  simp [a_bobbinlaw12_DomAbove]
  refine (p_long x hx _ _).mono ?_
  rintro r H1 N1 ⟨rfl, rfl, lb, rfl, hsh⟩
  cases lb with
  | true =>
    simp
    exact p_awake.acall rfl
  | false =>
    have hs := hsh rfl
    simp
    refine p_awake.acall ?_
    simp
    refine (p_Of x hx (by have := hs.e; omega)).acall ?_
    intro r hr
    by_cases hm : mayG x.g = true
    · rw [if_pos hm] at hr
      obtain ⟨L, bs, hT, rfl⟩ := hr
      have e1 := ab_refl (a := a) hT
      have e0 := ab_zero (a := a) hT
      cases hy : abI L bs a b with
      | false =>
        by_cases hab : a = b
        · subst hab
          have hra : rchI bs a = false := by rw [← e1]; exact hy
          cases hv : abI L bs a c with
          | false => simp; repeat ((first | refine (p_Reached hT _).acall ?_ | refine (p_Above hT _ _).acall ?_); simp [e1, e0, hra, hv])
          | true => exact absurd (ab_rch hT hv).1 (by simp [hra])
        · cases hv : abI L bs a c with
          | false => simp; repeat ((first | refine (p_Reached hT _).acall ?_ | refine (p_Above hT _ _).acall ?_); simp [e1, e0, hy, hv, hab])
          | true =>
            cases hu : abI L bs b c with
            | false => simp; repeat ((first | refine (p_Reached hT _).acall ?_ | refine (p_Above hT _ _).acall ?_); simp [e1, e0, hy, hv, hu, hab])
            | true =>
              have hz : abI L bs b a = true := (ab_lin hT hv hu).resolve_left (by simp [hy])
              simp; repeat ((first | refine (p_Reached hT _).acall ?_ | refine (p_Above hT _ _).acall ?_); simp [e1, e0, hy, hv, hu, hz, hab])
      | true =>
        obtain ⟨hra, hrb⟩ := ab_rch hT hy
        by_cases hab : a = b
        · subst hab
          cases hv : abI L bs a c with
          | false => simp; repeat ((first | refine (p_Reached hT _).acall ?_ | refine (p_Above hT _ _).acall ?_); simp [e1, e0, hra, hv])
          | true => simp; repeat ((first | refine (p_Reached hT _).acall ?_ | refine (p_Above hT _ _).acall ?_); simp [e1, e0, hra, hv])
        · have hz : abI L bs b a = false := by
            cases hz : abI L bs b a with
            | false => rfl
            | true => exact (ab_anti hT hab hy hz).elim
          cases hu : abI L bs b c with
          | true =>
            have hv := ab_trans hT hy hu
            simp; repeat ((first | refine (p_Reached hT _).acall ?_ | refine (p_Above hT _ _).acall ?_); simp [e1, e0, hy, hra, hrb, hv, hu, hz, hab])
          | false =>
            cases hv : abI L bs a c with
            | false => simp; repeat ((first | refine (p_Reached hT _).acall ?_ | refine (p_Above hT _ _).acall ?_); simp [e1, e0, hy, hra, hrb, hv, hu, hz, hab])
            | true => simp; repeat ((first | refine (p_Reached hT _).acall ?_ | refine (p_Above hT _ _).acall ?_); simp [e1, e0, hy, hra, hrb, hv, hu, hz, hab])
    · rw [if_neg hm] at hr
      subst hr
      simp

end
end Go.Proofs.Ytmbbklddjkmcmaa
