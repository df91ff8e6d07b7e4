/- touch: the law TouchJoin: what is held against what. -/
import Derived.Test.YtanpcmkhhpaeiaaGreatDoorJC
import Derived.Test.YtanpcmkhhpaeiaaGreatDoorTI
namespace Go.Proofs.YtanpcmkhhpaeiaaGreatDoor
set_option linter.unusedSimpArgs false
set_option linter.unusedVariables false
open Go Go.Fw
section
variable {fs : List Fr} {Q : Post} {A : Nat → AV} {H : AHeap} {N lo : Nat} {S : SumV}
theorem BoxR.open {p : AV} (h : BoxR H lo S p) : ∃ i a b c d e, p = .mp i 0 ∧ H i = some (.blk [a, b, c, d, e]) ∧ FshAt H lo S a b c d e := by
  obtain ⟨i, cs, _, h2, h3, a, b, c, d, e, he, h4⟩ := h
  cases he
  exact ⟨i, a, b, c, d, e, h2, h3, h4⟩
theorem keeps_rfl : Keeps H H := fun _ _ h => h
theorem up9 {r : SumV} (h : r.le 2000) : r.le 1000000000 := by obtain ⟨a, b, c, d, e⟩ := h; exact ⟨by omega, by omega, by omega, by omega, by omega⟩
theorem up5 {r : SumV} (h : r.le 2000) : r.le 500000000 := by obtain ⟨a, b, c, d, e⟩ := h; exact ⟨by omega, by omega, by omega, by omega, by omega⟩

theorem tjs0 {o : List AOper} (ho : o_tjs0 = o) (h9 : BoxR H lo S (A 9)) (h10 : BoxR H lo S (A 10)) (hF : Fresh H N) (hS : S.le 2000)
    (hk : ∀ A' H' N', Fresh H' N' → N ≤ N' → (∀ j, j < N → H' j = H j) → A' 3 = A 3 → A' 4 = A 4 → A' 9 = A 9 → A' 11 = A 11 → A' 12 = A 12 → A' 66 = bl false → onward Tryz.prog fs Q .normal ⟨A', H', N'⟩) : runOps Tryz.prog o fs Q ⟨A, H, N⟩ := by
  subst ho
  obtain ⟨i, a, b, c, d, e, e9, hi, hat⟩ := h9.open
  obtain ⟨i', a', b', c', d', e', e10, hi', hat'⟩ := h10.open
  have l9 : aload H true 5 (A 9) = some (.agg [a, b, c, d, e]) := by rw [e9]; simp [hi]
  have l10 : aload H true 5 (A 10) = some (.agg [a', b', c', d', e']) := by rw [e10]; simp [hi']
  unfold o_tjs0
  simp [l9, l10, -aload]
  refine (p_given hat.r.lst.cells hat.w.lst.cells hat.t.lst.cells hat.g.lst.cells hat.c.lst.cells H N).monoF ?_
  rintro r1 H1 N1 ⟨rfl, hN1, hk1⟩ hF1 _
  simp
  refine ⟨keeps_of hF hk1, ?_⟩
  refine (p_given hat'.r.lst.cells hat'.w.lst.cells hat'.t.lst.cells hat'.g.lst.cells hat'.c.lst.cells H1 N1).monoF ?_
  rintro r2 H2 N2 ⟨rfl, hN2, hk2⟩ hF2 _
  simp
  refine ⟨keeps_of hF1 hk2, ?_⟩
  refine (p_Same ((hat.at.keep hF hk1).keep hF1 hk2) ((hat'.at.keep hF hk1).keep hF1 hk2) (up9 hS) N2).mono ?_
  rintro r3 H3 N3 ⟨rfl, rfl, rfl⟩
  simp
  refine ⟨keeps_rfl, ?_⟩
  exact hk _ _ _ hF2 (by omega) (fun j hj => (hk2 j (by omega)).trans (hk1 j hj)) (by simp) (by simp) (by simp) (by simp) (by simp) (by simp)

theorem tjs1 {o : List AOper} (ho : o_tjs1 = o) (h66 : A 66 = bl false) (h9 : BoxR H lo S (A 11)) (h10 : BoxR H lo S (A 12)) (hF : Fresh H N) (hS : S.le 2000)
    (hk : ∀ A' H' N', Fresh H' N' → N ≤ N' → (∀ j, j < N → H' j = H j) → A' 3 = A 3 → A' 4 = A 4 → A' 9 = A 9 → A' 74 = bl false → onward Tryz.prog fs Q .normal ⟨A', H', N'⟩) : runOps Tryz.prog o fs Q ⟨A, H, N⟩ := by
  subst ho
  obtain ⟨i, a, b, c, d, e, e9, hi, hat⟩ := h9.open
  obtain ⟨i', a', b', c', d', e', e10, hi', hat'⟩ := h10.open
  have l9 : aload H true 5 (A 11) = some (.agg [a, b, c, d, e]) := by rw [e9]; simp [hi]
  have l10 : aload H true 5 (A 12) = some (.agg [a', b', c', d', e']) := by rw [e10]; simp [hi']
  unfold o_tjs1
  simp [l9, l10, h66, -aload]
  refine (p_given hat.r.lst.cells hat.w.lst.cells hat.t.lst.cells hat.g.lst.cells hat.c.lst.cells H N).monoF ?_
  rintro r1 H1 N1 ⟨rfl, hN1, hk1⟩ hF1 _
  simp [h66]
  refine ⟨keeps_of hF hk1, ?_⟩
  refine (p_given hat'.r.lst.cells hat'.w.lst.cells hat'.t.lst.cells hat'.g.lst.cells hat'.c.lst.cells H1 N1).monoF ?_
  rintro r2 H2 N2 ⟨rfl, hN2, hk2⟩ hF2 _
  simp [h66]
  refine ⟨keeps_of hF1 hk2, ?_⟩
  refine (p_Same ((hat.at.keep hF hk1).keep hF1 hk2) ((hat'.at.keep hF hk1).keep hF1 hk2) (up9 hS) N2).mono ?_
  rintro r3 H3 N3 ⟨rfl, rfl, rfl⟩
  simp [h66]
  refine ⟨keeps_rfl, ?_⟩
  exact hk _ _ _ hF2 (by omega) (fun j hj => (hk2 j (by omega)).trans (hk1 j hj)) (by simp) (by simp) (by simp) (by simp)

theorem tjs2 {o : List AOper} (ho : o_tjs2 = o) (h74 : A 74 = bl false) (h9 : BoxR H lo S (A 9)) (hF : Fresh H N) (hS : S.le 1000) (hSS : bothS S S = S)
    (hk : ∀ A' H' N', Fresh H' N' → N ≤ N' → (∀ j, j < N → H' j = H j) → A' 3 = A 3 → A' 4 = A 4 → A' 9 = A 9 → A' 84 = bl false → onward Tryz.prog fs Q .normal ⟨A', H', N'⟩) : runOps Tryz.prog o fs Q ⟨A, H, N⟩ := by
  subst ho
  have hS2 : S.le 2000 := by obtain ⟨a, b, c, d, e⟩ := hS; exact ⟨by omega, by omega, by omega, by omega, by omega⟩
  obtain ⟨i, a, b, c, d, e, e9, hi, hat⟩ := h9.open
  have l9 : aload H true 5 (A 9) = some (.agg [a, b, c, d, e]) := by rw [e9]; simp [hi]
  unfold o_tjs2
  simp [l9, h74, -aload]
  refine (p_Both hat.at hat.at (up5 hS2) (up5 hS2) N).monoF ?_
  rintro r0 H0 N0 ⟨hN0, hk0, w1, w2, w3, w4, w5, rfl, hw⟩ hF0 _
  rw [hSS] at hw
  simp [h74]
  refine ⟨keeps_of hF hk0, ?_⟩
  refine (p_given hw.r.lst.cells hw.w.lst.cells hw.t.lst.cells hw.g.lst.cells hw.c.lst.cells H0 N0).monoF ?_
  rintro r1 H1 N1 ⟨rfl, hN1, hk1⟩ hF1 _
  simp [h74]
  refine ⟨keeps_of hF0 hk1, ?_⟩
  refine (p_given hat.r.lst.cells hat.w.lst.cells hat.t.lst.cells hat.g.lst.cells hat.c.lst.cells H1 N1).monoF ?_
  rintro r2 H2 N2 ⟨rfl, hN2, hk2⟩ hF2 _
  simp [h74]
  refine ⟨keeps_of hF1 hk2, ?_⟩
  refine (p_Same ((hw.at.keep hF0 hk1).keep hF1 hk2) (((hat.at.keep hF hk0).keep hF0 hk1).keep hF1 hk2) (up9 hS2) N2).mono ?_
  rintro r3 H3 N3 ⟨rfl, rfl, rfl⟩
  simp [h74]
  refine ⟨keeps_rfl, ?_⟩
  exact hk _ _ _ hF2 (by omega) (fun j hj => (hk2 j (by omega)).trans ((hk1 j (by omega)).trans (hk0 j hj))) (by simp) (by simp) (by simp) (by simp)

theorem tjs3 {o : List AOper} (ho : o_tjs3 = o) (h84 : A 84 = bl false) (hF : Fresh H N)
    (hk : ∀ A' H' N', Fresh H' N' → N ≤ N' → (∀ j, j < N → H' j = H j) → A' 3 = A 3 → A' 4 = A 4 → A' 9 = A 9 → A' 87 = bl false → onward Tryz.prog fs Q .normal ⟨A', H', N'⟩) : runOps Tryz.prog o fs Q ⟨A, H, N⟩ := by
  subst ho
  unfold o_tjs3
  simp [h84]
  refine (p_awake H N).monoF ?_
  rintro r1 H1 N1 ⟨rfl, hN1, hk1⟩ hF1 _
  simp [h84]
  refine ⟨keeps_of hF hk1, ?_⟩
  exact hk _ _ _ hF1 hN1 hk1 (by simp) (by simp) (by simp) (by simp)

variable {x y z : SumA}
theorem tj_s {c : ACode} (hc : a_tj_s = c) (lx : x.s.le 500) (ly : y.s.le 500) (lz : z.s.le 500) (h9 : BoxR H lo (bothS x.s y.s) (A 9)) (h10 : BoxR H lo (bothS y.s x.s) (A 10))
    (h11 : BoxR H lo (bothS (bothS x.s y.s) z.s) (A 11)) (h12 : BoxR H lo (bothS x.s (bothS y.s z.s)) (A 12)) (hF : Fresh H N)
    (hk : ∀ A' H' N', Fresh H' N' → BoxR H' lo (bothS x.s y.s) (A' 9) → A' 3 = A 3 → A' 4 = A 4 → onward Tryz.prog fs Q .normal ⟨A', H', N'⟩) : run Tryz.prog c fs Q ⟨A, H, N⟩ := by
  subst hc
  rw [bothS_comm y.s] at h10
  rw [← bothS_assoc] at h12
  have lxy : (bothS x.s y.s).le 1000 := bothS_le lx ly
  have lxy2 : (bothS x.s y.s).le 2000 := by obtain ⟨a, b, c, d, e⟩ := lxy; exact ⟨by omega, by omega, by omega, by omega, by omega⟩
  have lxyz : (bothS (bothS x.s y.s) z.s).le 1500 := bothS_le lxy lz
  have lxyz2 : (bothS (bothS x.s y.s) z.s).le 2000 := by obtain ⟨a, b, c, d, e⟩ := lxyz; exact ⟨by omega, by omega, by omega, by omega, by omega⟩
  obtain ⟨o0, q0⟩ : ∃ c, o_tjs0 = c := ⟨_, rfl⟩
  obtain ⟨o1, q1⟩ : ∃ c, o_tjs1 = c := ⟨_, rfl⟩
  obtain ⟨o2, q2⟩ : ∃ c, o_tjs2 = c := ⟨_, rfl⟩
  obtain ⟨o3, q3⟩ : ∃ c, o_tjs3 = c := ⟨_, rfl⟩
  unfold a_tj_s
  rw [q0, q1, q2, q3]
  simp only [run_seq, run_ops, run_append]
  refine tjs0 q0 h9 h10 hF lxy2 fun A1 H1 N1 f1 n1 k1 a3 a4 a9 a11 a12 a66 => ?_
  rw [onward_seq_n, run_ops, run_append]
  refine tjs1 q1 a66 (S := bothS (bothS x.s y.s) z.s) (lo := lo) (by rw [a11]; exact h11.keep hF k1) (by rw [a12]; exact h12.keep hF k1) f1 lxyz2 fun A2 H2 N2 f2 n2 k2 b3 b4 b9 b74 => ?_
  rw [onward_seq_n, run_ops, run_append]
  have h9' : BoxR H2 lo (bothS x.s y.s) (A2 9) := by rw [b9, a9]; exact (h9.keep hF k1).keep f1 k2
  refine tjs2 q2 b74 h9' f2 lxy (bothS_self _ _) fun A3 H3 N3 f3 n3 k3 c3 c4 c9 c84 => ?_
  rw [onward_seq_n, run_ops]
  refine tjs3 q3 c84 f3 fun A4 H4 N4 f4 n4 k4 d3 d4 d9 d87 => ?_
  simp [d87]
  refine hk _ _ _ f4 ?_ (by rw [d3, c3, b3, a3]) (by rw [d4, c4, b4, a4])
  rw [d9, c9]
  exact (h9'.keep f2 k3).keep f3 k4
end
end Go.Proofs.YtanpcmkhhpaeiaaGreatDoor
