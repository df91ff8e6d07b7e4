/- dom: the reference: Come, May. -/
import Derived.Test.YtmbbklddjkmcmaaC1
namespace Go.Proofs.Ytmbbklddjkmcmaa
set_option linter.unusedSimpArgs false
set_option linter.unusedVariables false
open Go Go.Fw Go.Dm

theorem CoK.to {x : GraphV} {c : Int} {H0 : AHeap} {N0 : Nat} {p : Nat → Bool} {q : List Nat} {A A' : Nat → AV} {H : AHeap} {N : Nat} (h : CoK x c H0 N0 p q ⟨A, H, N⟩) (k0 : A' 0 = A 0) (k1 : A' 1 = A 1) (k5 : A' 5 = A 5) (k6 : A' 6 = A 6) : CoK x c H0 N0 p q ⟨A', H, N⟩ :=
  ⟨k0.trans h.h0, k1.trans h.h1, k5.trans h.h5, by show QAt H (A' 6) q; rw [k6]; exact h.h6, h.f, h.n, h.m, fun i o l hh => h.id i o l (k6.symm.trans hh), h.old⟩

theorem p_Come (x : GraphV) (hx : x.Ok) (hin : InG x.g) (hs : Mid x.g) (h0 : 0 < x.g.length) (c : Int) (H : AHeap) (N : Nat) :
    ACall Try.prog 43 [x.av, i64 c] H N (fun r H' N' => N < N' ∧ (∀ j, j < N → H' j = H j) ∧ r = .ms N 0 x.g.length 1 ∧ ∃ p, H' N = some (.blk (marks x.g.length p)) ∧ ∀ b, p b = true ↔ RchP (Edge x.g) (fun y => (y : Int) ≠ c) b) := by
  refine acallF mixed c_bobbinref12_Come (by simp) fun hF => ?_
  have hn := hs.n
  have hlen := x.len
  have hmk : amake 1 1 [bl false] (i64 x.g.length) (i64 x.g.length) = some (x.g.length, x.g.length) := by
    simp [amake]; omega
  by_cases hc : c = 0
  · subst hc
    simp [a_bobbinref12_Come, hlen, hmk, -alen]
    exact ⟨fun j hj => by simp [show j ≠ N by omega], fun _ => false, marks_none, fun b => by simp; exact rchP_none (by simp)⟩
  · have ix : aindex 1 (.ms N 0 x.g.length 1) (i64 0) = some (.mp N 0) := by simp [aindex, h0]
    have hst : ∀ G : AHeap, G N = some (.blk (List.replicate x.g.length (bl false))) → astore G 1 (.mp N 0) (bl true) = some (G.set N (.blk (marks x.g.length fun y => y == 0))) := fun G hG => by
      have hm := marks_set (n := x.g.length) (p := fun _ => false) (x := 0)
      simp only [Bool.false_or] at hm
      rw [← hm]
      have : (List.replicate x.g.length (AV.lit (Value.bool false))) = marks x.g.length fun _ => false := marks_none
      have hne : ¬ (marks x.g.length fun _ => false) = [] := fun h => by
        have := congrArg List.length h
        rw [marks_len] at this
        have h2 : x.g.length = 0 := this
        omega
      simp [astore, hG, show 1 ≤ x.g.length by omega, this, hne]
    have hst' := hst ((H.set N (.blk (List.replicate x.g.length (bl false)))).set (N + 1) (.blk [i64 0])) (by simp [show N ≠ N + 1 by omega])
    simp [a_bobbinref12_Come, hlen, hmk, hc, ix, hst', -alen, -astore]
    have hq0 : QAt ((H.set N (.blk (List.replicate x.g.length (bl false)))).set (N + 1) (.blk [i64 0]) |>.set N (.blk (marks x.g.length fun y => y == 0))) (.ms (N + 1) 0 1 1) [0] :=
      ⟨N + 1, 0, [i64 0], rfl, by simp [show N + 1 ≠ N by omega], by simp, by simp [natI]⟩
    have hu : unm x.g.length (fun y => y == 0) ≤ 60 := Nat.le_trans unm_le hn
    refine run_loop (CoI x c H N) (2 * unm x.g.length (fun y => y == 0) + 1) ?_ ?_
    · refine ⟨fun y => y == 0, [0], rfl, by simp only [List.length_singleton]; omega, ⟨by simp, by simp, by simp, by simpa using hq0, ?_, by show N + 2 ≤ N + 1 + 1; omega, by simp, ?_, ?_⟩, ⟨?_, ?_, ?_, by simp⟩⟩
      · intro i (hi : N + 1 + 1 ≤ i)
        simp [show i ≠ N by omega, show i ≠ N + 1 by omega, hF i (by omega)]
      · intro i o l h
        simp at h
        omega
      · intro j hj
        simp [show j ≠ N by omega, show j ≠ N + 1 by omega]
      · intro b hb
        simp at hb
        subst hb
        exact .zero (by simpa using Ne.symm hc)
      · intro d hd
        simp at hd
        simp [hd]
      · intro a b ha haq _ _
        simp at ha haq
        exact absurd ha haq
    · rintro k A H1 N1 ⟨p, q, rfl, hle, hC, hS⟩
      have hql := hC.h6.len
      simp only at hql
      have e5 : A 5 = .ms N 0 x.g.length 1 := hC.h5
      cases q with
      | nil =>
        simp [a_bobbinref12_Comeb2, hql, e5, -alen]
        refine ⟨by have := hC.n; simp only at this; omega, hC.old, p, hC.m, fun b => ⟨hS.snd b, fun hb => ?_⟩⟩
        induction hb with
        | zero _ => exact hS.z
        | step _ h2 h3 ih => exact hS.cl _ _ ih (by simp) h2 h3
      | cons b q =>
        obtain ⟨pt, hp1, hp2⟩ := hC.h6.first
        obtain ⟨v', hv1, hv2⟩ := hC.h6.rest
        simp only at hp1 hp2 hv1 hv2
        have hpb := hS.qm b (by simp)
        have hrb := hS.snd b hpb
        have hbg : b < x.g.length := by
          cases hrb with
          | zero _ => exact h0
          | step _ h2 _ =>
            obtain ⟨r, h4, h5⟩ := h2
            have := hin r (List.mem_of_getElem? h4) _ h5
            omega
        have hid : ∀ i o l, v' = .ms i o l 1 → N < i := fun i o l h => by
          obtain ⟨id, off, cs, h1, _⟩ := hC.h6
          have h3 := hC.id id off _ h1
          simp only at h1
          rw [h1] at hv1
          simp [aslice, bnd] at hv1
          rw [← hv1.2] at h
          simp at h
          omega
        simp [a_bobbinref12_Comeb2, hql, hp1, hp2, hv1, show (0 : Int) < ((q.length : Int) + 1) by omega, -alen, -aload]
        have go : ∀ (A2 : Nat → AV) (fs : List Fr) (Q : Post), CoK x c H N p q ⟨A2, H1, N1⟩ → A2 7 = i64 b → A2 8 = i64 0 →
            (∀ (A' : Nat → AV) (H' : AHeap) (N' : Nat) (p' : Nat → Bool) (q' : List Nat), 2 * unm x.g.length p' + q'.length ≤ 2 * unm x.g.length p + q.length → CoK x c H N p' q' ⟨A', H', N'⟩ → ComeS (Edge x.g) (fun y => (y : Int) ≠ c) p' q' → onward Try.prog fs Q (.exit 2) ⟨A', H', N'⟩) →
            run Try.prog (.loop a_bobbinref12_Comeb1) fs Q ⟨A2, H1, N1⟩ := fun A2 fs Q k k7 k8 hk' =>
          come_in hx hin hn hbg (hs.row _ (List.getElem_mem hbg)) (by simp at hle; omega) (Nat.le_refl _) k k7 k8 hpb hS.snd (fun d hd => hS.qm d (by simp [hd])) hS.z (fun a d ha haq hab hE hd => hS.cl a d ha (by simp [hab, haq]) hE hd) hk'
        refine go _ _ _ ⟨?_, ?_, ?_, ?_, hC.f, hC.n, hC.m, ?_, hC.old⟩ ?_ ?_ ?_
        · simpa using hC.h0
        · simpa using hC.h1
        · simpa using hC.h5
        · simpa using hv2
        · simpa using hid
        · simp
        · simp
        intro A2 H2 N2 p' q' hle2 hC2 hS2
        simp
        exact ⟨2 * unm x.g.length p' + q'.length, by omega, ⟨p', q', rfl, by simp at hle; omega, hC2, hS2⟩⟩

end Go.Proofs.Ytmbbklddjkmcmaa
