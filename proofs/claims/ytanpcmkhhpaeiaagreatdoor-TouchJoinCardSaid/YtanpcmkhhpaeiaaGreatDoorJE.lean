/- touch: the law TouchJoin: the fields of what is put together (printed by je.py). -/
import Derived.Test.YtanpcmkhhpaeiaaGreatDoorJD
namespace Go.Proofs.YtanpcmkhhpaeiaaGreatDoor
set_option linter.unusedSimpArgs false
set_option linter.unusedVariables false
open Go Go.Fw
section
variable {fs : List Fr} {Q : Post} {A : Nat → AV} {H : AHeap} {N lo : Nat} {x y z : SumA}

theorem tjw0 {o : List AOper} (ho : o_tjw0 = o) (h3 : A 3 = .ip x.cells 0) (h4 : A 4 = .ip y.cells 0) (h9 : BoxR H lo (bothS x.s y.s) (A 9)) (hF : Fresh H N) (lx : x.s.le 500) (ly : y.s.le 500)
    (hk : ∀ A' H' N', Fresh H' N' → N ≤ N' → (∀ j, j < N → H' j = H j) → A' 3 = A 3 → A' 4 = A 4 → A' 9 = A 9 → A' 93 = bl true → onward Tryz.prog fs Q .normal ⟨A', H', N'⟩) : runOps Tryz.prog o fs Q ⟨A, H, N⟩ := by
  subst ho
  obtain ⟨i, a, b, c, d, e, e9, hi, hat⟩ := h9.open
  obtain ⟨m1, m2, m3, m4, m5⟩ := bothS_le lx ly
  obtain ⟨n1, n2, n3, n4, n5⟩ := lx
  obtain ⟨p1, p2, p3, p4, p5⟩ := ly
  have hin' : joinL x.s.r (bothS x.s y.s).r = (bothS x.s y.s).r := joinL_in _ _
  unfold o_tjw0
  simp [h3, h4, e9, hi, SumA.cells]
  refine (p_within (x.at H).r hat.r.lst (by omega) N).monoF ?_
  rintro r1 H1 N1 ⟨rfl, hN1, hk1⟩ hF1 _
  rw [hin']
  simp []
  exact hk _ _ _ hF1 hN1 hk1 (by simp) (by simp) (by simp) (by simp)

theorem tjw1 {o : List AOper} (ho : o_tjw1 = o) (hin : A 93 = bl true) (h3 : A 3 = .ip x.cells 0) (h4 : A 4 = .ip y.cells 0) (h9 : BoxR H lo (bothS x.s y.s) (A 9)) (hF : Fresh H N) (lx : x.s.le 500) (ly : y.s.le 500)
    (hk : ∀ A' H' N', Fresh H' N' → N ≤ N' → (∀ j, j < N → H' j = H j) → A' 3 = A 3 → A' 4 = A 4 → A' 9 = A 9 → A' 100 = bl true → onward Tryz.prog fs Q .normal ⟨A', H', N'⟩) : runOps Tryz.prog o fs Q ⟨A, H, N⟩ := by
  subst ho
  obtain ⟨i, a, b, c, d, e, e9, hi, hat⟩ := h9.open
  obtain ⟨m1, m2, m3, m4, m5⟩ := bothS_le lx ly
  obtain ⟨n1, n2, n3, n4, n5⟩ := lx
  obtain ⟨p1, p2, p3, p4, p5⟩ := ly
  have hin' : joinL y.s.w (bothS x.s y.s).w = (bothS x.s y.s).w := joinL_in2 _ _
  unfold o_tjw1
  simp [hin, h3, h4, e9, hi, SumA.cells]
  refine (p_within (y.at H).w hat.w.lst (by omega) N).monoF ?_
  rintro r1 H1 N1 ⟨rfl, hN1, hk1⟩ hF1 _
  rw [hin']
  simp [hin, ]
  exact hk _ _ _ hF1 hN1 hk1 (by simp) (by simp) (by simp) (by simp)

theorem tjw2 {o : List AOper} (ho : o_tjw2 = o) (hin : A 100 = bl true) (h3 : A 3 = .ip x.cells 0) (h4 : A 4 = .ip y.cells 0) (h9 : BoxR H lo (bothS x.s y.s) (A 9)) (hF : Fresh H N) (lx : x.s.le 500) (ly : y.s.le 500)
    (hk : ∀ A' H' N', Fresh H' N' → N ≤ N' → (∀ j, j < N → H' j = H j) → A' 3 = A 3 → A' 4 = A 4 → A' 9 = A 9 → A' 107 = bl true → onward Tryz.prog fs Q .normal ⟨A', H', N'⟩) : runOps Tryz.prog o fs Q ⟨A, H, N⟩ := by
  subst ho
  obtain ⟨i, a, b, c, d, e, e9, hi, hat⟩ := h9.open
  obtain ⟨m1, m2, m3, m4, m5⟩ := bothS_le lx ly
  obtain ⟨n1, n2, n3, n4, n5⟩ := lx
  obtain ⟨p1, p2, p3, p4, p5⟩ := ly
  have hin' : joinL x.s.t (bothS x.s y.s).t = (bothS x.s y.s).t := joinL_in _ _
  unfold o_tjw2
  simp [hin, h3, h4, e9, hi, SumA.cells]
  refine (p_within (x.at H).t hat.t.lst (by omega) N).monoF ?_
  rintro r1 H1 N1 ⟨rfl, hN1, hk1⟩ hF1 _
  rw [hin']
  simp [hin, ]
  exact hk _ _ _ hF1 hN1 hk1 (by simp) (by simp) (by simp) (by simp)

theorem tjw3 {o : List AOper} (ho : o_tjw3 = o) (hin : A 107 = bl true) (h3 : A 3 = .ip x.cells 0) (h4 : A 4 = .ip y.cells 0) (h9 : BoxR H lo (bothS x.s y.s) (A 9)) (hF : Fresh H N) (lx : x.s.le 500) (ly : y.s.le 500)
    (hk : ∀ A' H' N', Fresh H' N' → N ≤ N' → (∀ j, j < N → H' j = H j) → A' 3 = A 3 → A' 4 = A 4 → A' 9 = A 9 → A' 114 = bl true → onward Tryz.prog fs Q .normal ⟨A', H', N'⟩) : runOps Tryz.prog o fs Q ⟨A, H, N⟩ := by
  subst ho
  obtain ⟨i, a, b, c, d, e, e9, hi, hat⟩ := h9.open
  obtain ⟨m1, m2, m3, m4, m5⟩ := bothS_le lx ly
  obtain ⟨n1, n2, n3, n4, n5⟩ := lx
  obtain ⟨p1, p2, p3, p4, p5⟩ := ly
  have hin' : joinL y.s.g (bothS x.s y.s).g = (bothS x.s y.s).g := joinL_in2 _ _
  unfold o_tjw3
  simp [hin, h3, h4, e9, hi, SumA.cells]
  refine (p_within (y.at H).g hat.g.lst (by omega) N).monoF ?_
  rintro r1 H1 N1 ⟨rfl, hN1, hk1⟩ hF1 _
  rw [hin']
  simp [hin, ]
  exact hk _ _ _ hF1 hN1 hk1 (by simp) (by simp) (by simp) (by simp)

theorem tjw4 {o : List AOper} (ho : o_tjw4 = o) (hin : A 114 = bl true) (h3 : A 3 = .ip x.cells 0) (h4 : A 4 = .ip y.cells 0) (h9 : BoxR H lo (bothS x.s y.s) (A 9)) (hF : Fresh H N) (lx : x.s.le 500) (ly : y.s.le 500)
    (hk : ∀ A' H' N', Fresh H' N' → N ≤ N' → (∀ j, j < N → H' j = H j) → A' 6 = bl true → onward Tryz.prog fs Q .normal ⟨A', H', N'⟩) : runOps Tryz.prog o fs Q ⟨A, H, N⟩ := by
  subst ho
  obtain ⟨i, a, b, c, d, e, e9, hi, hat⟩ := h9.open
  obtain ⟨m1, m2, m3, m4, m5⟩ := bothS_le lx ly
  obtain ⟨n1, n2, n3, n4, n5⟩ := lx
  obtain ⟨p1, p2, p3, p4, p5⟩ := ly
  have hin' : joinL x.s.c (bothS x.s y.s).c = (bothS x.s y.s).c := joinL_in _ _
  unfold o_tjw4
  simp [hin, h3, h4, e9, hi, SumA.cells]
  refine (p_within (x.at H).c hat.c.lst (by omega) N).monoF ?_
  rintro r1 H1 N1 ⟨rfl, hN1, hk1⟩ hF1 _
  rw [hin']
  simp [hin, ]
  exact hk _ _ _ hF1 hN1 hk1 (by simp)

theorem tj_w {c : ACode} (hc : a_tj_w = c) (h3 : A 3 = .ip x.cells 0) (h4 : A 4 = .ip y.cells 0) (h9 : BoxR H lo (bothS x.s y.s) (A 9)) (hF : Fresh H N) (lx : x.s.le 500) (ly : y.s.le 500)
    (hk : ∀ A' H' N', A' 6 = bl true → onward Tryz.prog fs Q .ret ⟨A', H', N'⟩) : run Tryz.prog c fs Q ⟨A, H, N⟩ := by
  subst hc
  obtain ⟨o0, q0⟩ : ∃ c, o_tjw0 = c := ⟨_, rfl⟩
  obtain ⟨o1, q1⟩ : ∃ c, o_tjw1 = c := ⟨_, rfl⟩
  obtain ⟨o2, q2⟩ : ∃ c, o_tjw2 = c := ⟨_, rfl⟩
  obtain ⟨o3, q3⟩ : ∃ c, o_tjw3 = c := ⟨_, rfl⟩
  obtain ⟨o4, q4⟩ : ∃ c, o_tjw4 = c := ⟨_, rfl⟩
  unfold a_tj_w
  rw [q0, q1, q2, q3, q4]
  simp only [run_seq, run_ops, run_append]
  refine tjw0 q0 h3 h4 h9 hF lx ly fun A1 H1 N1 f1 n1 k1 a3 a4 a9 a93 => ?_
  rw [onward_seq_n, run_ops, run_append]
  have h9a : BoxR H1 lo (bothS x.s y.s) (A1 9) := by rw [a9]; exact h9.keep hF k1
  refine tjw1 q1 a93 (a3.trans h3) (a4.trans h4) h9a f1 lx ly fun A2 H2 N2 f2 n2 k2 b3 b4 b9 b93 => ?_
  rw [onward_seq_n, run_ops, run_append]
  have h9b : BoxR H2 lo (bothS x.s y.s) (A2 9) := by rw [b9]; exact h9a.keep f1 k2
  refine tjw2 q2 b93 (b3.trans (a3.trans h3)) (b4.trans (a4.trans h4)) h9b f2 lx ly fun A3 H3 N3 f3 n3 k3 c3 c4 c9 c93 => ?_
  rw [onward_seq_n, run_ops, run_append]
  have h9c : BoxR H3 lo (bothS x.s y.s) (A3 9) := by rw [c9]; exact h9b.keep f2 k3
  refine tjw3 q3 c93 (c3.trans (b3.trans (a3.trans h3))) (c4.trans (b4.trans (a4.trans h4))) h9c f3 lx ly fun A4 H4 N4 f4 n4 k4 d3 d4 d9 d93 => ?_
  rw [onward_seq_n, run_ops]
  have h9d : BoxR H4 lo (bothS x.s y.s) (A4 9) := by rw [d9]; exact h9c.keep f3 k4
  refine tjw4 q4 d93 (d3.trans (c3.trans (b3.trans (a3.trans h3)))) (d4.trans (c4.trans (b4.trans (a4.trans h4)))) h9d f4 lx ly fun A5 H5 N5 f5 n5 k5 e6 => ?_
  rw [onward_seq_n, run_ret]
  exact hk _ _ _ e6

/-- A round: one of the three. -/
theorem tj_body {u : SumA} {j : Nat} (hu : u.s.le 140737488355328) (h16 : aindex 5 (A 16) (i64 j) = some (.ip u.cells 0)) (h17 : A 17 = i64 3) (h18 : A 18 = i64 j) (hj : j < 3) (hF : Fresh H N)
    (hk1 : ∀ A' H' N', Fresh H' N' → A' 3 = A 3 → A' 4 = A 4 → A' 5 = A 5 → A' 16 = A 16 → A' 17 = A 17 → A' 18 = i64 ((j + 1 : Nat) : Int) → u.s.le 500 → onward Tryz.prog fs Q .normal ⟨A', H', N'⟩)
    (hk2 : ∀ A' H' N', A' 6 = bl true → onward Tryz.prog fs Q .ret ⟨A', H', N'⟩) : run Tryz.prog a_bobbinlaw18_TouchJoinb1 fs Q ⟨A, H, N⟩ := by
  obtain ⟨u1, u2, u3, u4, u5⟩ := hu
  have hj2 : (j : Int) < 3 := by omega
  have w1 : IntKind.i64.wrap ((u.s.r.length : Int) + u.s.w.length) = (u.s.r.length : Int) + u.s.w.length := wrap_i64 (by omega) (by omega)
  have w2 : IntKind.i64.wrap ((u.s.r.length : Int) + u.s.w.length + u.s.t.length) = (u.s.r.length : Int) + u.s.w.length + u.s.t.length := wrap_i64 (by omega) (by omega)
  have w3 : IntKind.i64.wrap ((u.s.r.length : Int) + u.s.w.length + u.s.t.length + u.s.g.length) = (u.s.r.length : Int) + u.s.w.length + u.s.t.length + u.s.g.length := wrap_i64 (by omega) (by omega)
  have w4 : IntKind.i64.wrap ((u.s.r.length : Int) + u.s.w.length + u.s.t.length + u.s.g.length + u.s.c.length) = (u.s.r.length : Int) + u.s.w.length + u.s.t.length + u.s.g.length + u.s.c.length := wrap_i64 (by omega) (by omega)
  have w5 : IntKind.i64.wrap ((j : Int) + 1) = ((j + 1 : Nat) : Int) := by rw [wrap_i64 (by omega) (by omega)]; rfl
  have lu : aload H true 5 (.ip u.cells 0) = some (.agg u.cells) := rfl
  have uc : u.cells = [.sl u.k0 1 (intCells u.s.r), .sl u.k1 1 (intCells u.s.w), .sl u.k2 1 (intCells u.s.t), .sl u.k3 1 (intCells u.s.g), .sl u.k4 1 (intCells u.s.c)] := rfl
  by_cases hb : (500 : Int) < (u.s.r.length : Int) + u.s.w.length + u.s.t.length + u.s.g.length + u.s.c.length
  · simp [a_bobbinlaw18_TouchJoinb1, h16, h17, h18, hj2, uc, splice, intCells_len, w1, w2, w3, w4, hb]
    refine (p_awake _ _).mono ?_
    rintro r1 H1 N1 ⟨rfl, _, _⟩
    simp
    exact hk2 _ _ _ (by simp)
  · simp [a_bobbinlaw18_TouchJoinb1, h16, h17, h18, hj2, uc, splice, intCells_len, w1, w2, w3, w4, hb]
    refine hk1 _ _ _ (hF.set _) (by simp) (by simp) (by simp) (by simp) (by simp) (by simp [h18, w5]) ⟨by omega, by omega, by omega, by omega, by omega⟩
end

theorem p_TouchJoin {x y z : SumA} (hx : x.s.le 140737488355328) (hy : y.s.le 140737488355328) (hz : z.s.le 140737488355328) (H : AHeap) (N : Nat) :
    ACall Tryz.prog 7 [.agg x.cells, .agg y.cells, .agg z.cells] H N (fun r H' N' => r = bl true) := by
  obtain ⟨d1, q1⟩ : ∃ c, a_tj_d1 = c := ⟨_, rfl⟩
  obtain ⟨d2, q2⟩ : ∃ c, a_tj_d2 = c := ⟨_, rfl⟩
  obtain ⟨d3, q3⟩ : ∃ c, a_tj_s = c := ⟨_, rfl⟩
  obtain ⟨d4, q4⟩ : ∃ c, a_tj_w = c := ⟨_, rfl⟩
  obtain ⟨lp, q5⟩ : ∃ c, a_bobbinlaw18_TouchJoinb1 = c := ⟨_, rfl⟩
  refine acallF mixed c_bobbinlaw18_TouchJoin (by simp) fun hF => ?_
  unfold a_bobbinlaw18_TouchJoin
  rw [q1, q2, q3, q4, q5]
  have bx : ∀ u : SumA, (AV.agg u.cells).cells = some u.cells := fun _ => rfl
  have ld : ∀ u : SumA, aload (fun _ => none) true 5 (.ip u.cells 0) = some (.agg u.cells) := fun _ => rfl
  have sp : afill [(0, 5, AV.agg x.cells), (5, 5, AV.agg y.cells), (10, 5, AV.agg z.cells)] [(.sl .nil 0 []), (.sl .nil 0 []), (.sl .nil 0 []), (.sl .nil 0 []), (.sl .nil 0 []), (.sl .nil 0 []), (.sl .nil 0 []), (.sl .nil 0 []), (.sl .nil 0 []), (.sl .nil 0 []), (.sl .nil 0 []), (.sl .nil 0 []), (.sl .nil 0 []), (.sl .nil 0 []), (.sl .nil 0 [])] = some (x.cells ++ (y.cells ++ z.cells)) := rfl
  have ch : chunks 5 3 (x.cells ++ (y.cells ++ z.cells)) = [x.cells, y.cells, z.cells] := rfl
  simp [bx, ld, sp, ch, -AV.cells, -aload, -afill, -chunks]
  have fin1 : ∀ A' H' N', A' 6 = bl true → onward Tryz.prog [] (fin [.tmp 6] fun r H' N' => r = bl true) .ret ⟨A', H', N'⟩ := fun A' H' N' h => by simp [h]
  have i0 : aindex 5 (.sl .exact 5 [x.cells, y.cells, z.cells]) (.lit (.int .i64 0)) = some (.ip x.cells 0) := rfl
  have i1 : aindex 5 (.sl .exact 5 [x.cells, y.cells, z.cells]) (.lit (.int .i64 1)) = some (.ip y.cells 0) := rfl
  have i2 : aindex 5 (.sl .exact 5 [x.cells, y.cells, z.cells]) (.lit (.int .i64 2)) = some (.ip z.cells 0) := rfl
  refine run_loop (fun m s => ∃ j : Nat, j ≤ 3 ∧ m = 3 - j ∧ s.A 3 = .ip x.cells 0 ∧ s.A 4 = .ip y.cells 0 ∧ s.A 5 = .ip z.cells 0 ∧ s.A 16 = .sl .exact 5 [x.cells, y.cells, z.cells] ∧ s.A 17 = i64 3 ∧ s.A 18 = i64 j ∧ Fresh s.H s.N ∧ (0 < j → x.s.le 500) ∧ (1 < j → y.s.le 500) ∧ (2 < j → z.s.le 500)) 3 ?_ ?_
  · exact ⟨0, by omega, by omega, by simp, by simp, by simp, by simp, by simp, by simp, hF, fun h => absurd h (by omega), fun h => absurd h (by omega), fun h => absurd h (by omega)⟩
  · rintro m A1 H1 N1 ⟨j, hj, rfl, e3, e4, e5, e16, e17, e18, hF1, b0, b1, b2⟩
    simp only at e3 e4 e5 e16 e17 e18 hF1
    have next : ∀ {u : SumA}, j < 3 → u.s.le 140737488355328 → aindex 5 (.sl .exact 5 [x.cells, y.cells, z.cells]) (i64 j) = some (.ip u.cells 0) → (u.s.le 500 → (0 < j + 1 → x.s.le 500) ∧ (1 < j + 1 → y.s.le 500) ∧ (2 < j + 1 → z.s.le 500)) → run Tryz.prog lp [] (loopQ Tryz.prog (fun m s => ∃ j : Nat, j ≤ 3 ∧ m = 3 - j ∧ s.A 3 = .ip x.cells 0 ∧ s.A 4 = .ip y.cells 0 ∧ s.A 5 = .ip z.cells 0 ∧ s.A 16 = .sl .exact 5 [x.cells, y.cells, z.cells] ∧ s.A 17 = i64 3 ∧ s.A 18 = i64 j ∧ Fresh s.H s.N ∧ (0 < j → x.s.le 500) ∧ (1 < j → y.s.le 500) ∧ (2 < j → z.s.le 500)) (3 - j) [.blk 0, .seq (.seq d1 (.seq d2 (.seq d3 d4)))] (fin [.tmp 6] fun r H' N' => r = bl true)) ⟨A1, H1, N1⟩ := fun {u} hj3 hu hix hb => by
      rw [← q5]
      refine tj_body hu (by rw [e16]; exact hix) e17 e18 hj3 hF1 (fun A' H' N' f p3 p4 p5 p16 p17 p18 hl => ?_) (fun A' H' N' h => ?_)
      · rw [onward_nil, loopQ_n]
        exact ⟨3 - (j + 1), by omega, j + 1, by omega, rfl, p3.trans e3, p4.trans e4, p5.trans e5, p16.trans e16, p17.trans e17, p18, f, hb hl⟩
      · rw [onward_nil, loopQ_r]
        simp [h]
    have hc : j = 0 ∨ j = 1 ∨ j = 2 ∨ j = 3 := by omega
    rcases hc with rfl | rfl | rfl | rfl
    · exact next (by omega) hx i0 fun hl => ⟨fun _ => hl, fun h => absurd h (by omega), fun h => absurd h (by omega)⟩
    · exact next (by omega) hy i1 fun hl => ⟨fun _ => b0 (by omega), fun _ => hl, fun h => absurd h (by omega)⟩
    · exact next (by omega) hz i2 fun hl => ⟨fun _ => b0 (by omega), fun _ => b1 (by omega), fun _ => hl⟩
    · have lx := b0 (by omega)
      have ly := b1 (by omega)
      have lz := b2 (by omega)
      rw [← q5]
      simp [a_bobbinlaw18_TouchJoinb1, e17, e18]
      refine tj_d1 q1 e3 e4 hF1 lx ly fun A2 H2 N2 f2 n2 k2 a3 a4 a5 h9 h10 => ?_
      rw [onward_seq_n, run_seq]
      refine tj_d2 q2 (a3.trans e3) (a4.trans e4) (a5.trans e5) f2 lx ly lz fun A3 H3 N3 f3 n3 k3 c3 c4 c9 c10 h11 h12 => ?_
      rw [onward_seq_n, run_seq]
      refine tj_s q3 lx ly lz (lo := N1) (by rw [c9]; exact h9.keep f2 k3) (by rw [c10]; exact h10.keep f2 k3) (h11.mono n2) (h12.mono n2) f3 fun A4 H4 N4 f4 h9' d3 d4 => ?_
      rw [onward_seq_n]
      exact tj_w q4 (d3.trans (c3.trans (a3.trans e3))) (d4.trans (c4.trans (a4.trans e4))) h9' f4 lx ly fin1
end Go.Proofs.YtanpcmkhhpaeiaaGreatDoor
