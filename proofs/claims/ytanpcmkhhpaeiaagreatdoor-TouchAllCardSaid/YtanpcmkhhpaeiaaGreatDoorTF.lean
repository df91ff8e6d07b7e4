/- touch: the example, asked first by all. -/
import Derived.Test.YtanpcmkhhpaeiaaGreatDoorTE
namespace Go.Fw
set_option linter.unusedSimpArgs false
set_option linter.unusedVariables false
set_option linter.unusedSectionVars false
variable [Globals]
open Go
theorem awpOps_append {P : Program} {K : St → Prop} (ys : List AOper) : ∀ (xs : List AOper), awpOps P (xs ++ ys) K = awpOps P xs (awpOps P ys K)
  | [] => rfl
  | o :: xs => by
    show awpOp P o (awpOps P (xs ++ ys) K) = awpOp P o (awpOps P xs (awpOps P ys K))
    rw [awpOps_append ys xs]
/-- A row of operations, in two parts. -/
theorem run_append {P : Program} {xs ys : List AOper} {fs : List Fr} {Q : Post} {s : St} : runOps P (xs ++ ys) fs Q s = runOps P xs (.seq (.ops ys) :: fs) Q s := by
  show awpOps P (xs ++ ys) _ s = awpOps P xs _ s
  rw [awpOps_append]
  rfl
end Go.Fw
namespace Go.Proofs.YtanpcmkhhpaeiaaGreatDoor
set_option linter.unusedSimpArgs false
set_option linter.unusedVariables false
open Go Go.Fw
/-- A row's cell, in a heap that kept it. -/
theorem arr_at {H : AHeap} {es : List (List AV)} {v : AV} (h : RdSl H 5 es v) (hs : ∀ x ∈ es, x.length = 5) {i : Nat} {x : List AV} (hi : es[i]? = some x) :
    ∃ p, aindex 5 v (i64 (i : Nat)) = some p ∧ aload H true 5 p = some (.agg x) ∧ ∀ (k : Nat) (c : AV), x[k]? = some c → ∃ q, afield k p = some q ∧ aload H false 1 q = some c := by
  obtain ⟨p, h1, h2⟩ := h.at hs hi
  have hx := hs x (List.mem_of_getElem? hi)
  refine ⟨p, h1, ?_, fun k c hk => h2.cell hk⟩
  have := h2.load
  rwa [hx] at this

section
variable {A : Nat → AV} {H : AHeap} {N : Nat} {fs : List Fr} {Q : Post}
theorem awk_0 {c : List AOper} (hc : o_awk0 = c) {v p q la : AV} {l : List Int} (h2 : A 2 = v) (h3 : A 3 = i64 0) (hlv : alen 1 v = some 2) (hp : aindex 5 v (.lit (.int .i64 1)) = some p) (hq : afield 0 p = some q) (lq : aload H false 1 q = some la) (hl : Lst H l la) (he : l = [1])
    (hk : ∀ A', A' 30 = bl true → (∀ t ∈ [1, 2, 4], A' t = A t) → onward Tryz.prog fs Q .normal ⟨A', H, N⟩) : runOps Tryz.prog c fs Q ⟨A, H, N⟩ := by
  subst hc
  simp [o_awk0, h2, h3, hlv, hp, hq, lq, -aload, -afield, -alen]
  refine (p_Ints (la := l) (lb := [1]) hl.rd (.sl .exact) (by rw [he]; decide) _).mono ?_
  rintro r3 H3 N3 ⟨rfl, rfl, rfl⟩
  simp [he]
  exact hk _ (by simp) (by simp [h2])
theorem awk_1 {c : List AOper} (hc : o_awk1 = c) {v p q la : AV} {l : List Int} (h2 : A 2 = v) (hin : A 30 = bl true) (hp : aindex 5 v (.lit (.int .i64 1)) = some p) (hq : afield 1 p = some q) (lq : aload H false 1 q = some la) (hl : Lst H l la) (he : l = [0])
    (hk : ∀ A', A' 38 = bl true → (∀ t ∈ [1, 2, 4], A' t = A t) → onward Tryz.prog fs Q .normal ⟨A', H, N⟩) : runOps Tryz.prog c fs Q ⟨A, H, N⟩ := by
  subst hc
  simp [o_awk1, h2, hin, hp, hq, lq, -aload, -afield, -alen]
  refine (p_Ints (la := l) (lb := [0]) hl.rd (.sl .exact) (by rw [he]; decide) _).mono ?_
  rintro r3 H3 N3 ⟨rfl, rfl, rfl⟩
  simp [he]
  exact hk _ (by simp) (by simp [h2])
theorem awk_2 {c : List AOper} (hc : o_awk2 = c) {v p q la : AV} {l : List Int} (h2 : A 2 = v) (hin : A 38 = bl true) (hp : aindex 5 v (.lit (.int .i64 1)) = some p) (hq : afield 2 p = some q) (lq : aload H false 1 q = some la) (hl : Lst H l la) (he : l = [0])
    (hk : ∀ A', A' 46 = bl true → (∀ t ∈ [1, 2, 4], A' t = A t) → onward Tryz.prog fs Q .normal ⟨A', H, N⟩) : runOps Tryz.prog c fs Q ⟨A, H, N⟩ := by
  subst hc
  simp [o_awk2, h2, hin, hp, hq, lq, -aload, -afield, -alen]
  refine (p_Ints (la := l) (lb := [0]) hl.rd (.sl .exact) (by rw [he]; decide) _).mono ?_
  rintro r3 H3 N3 ⟨rfl, rfl, rfl⟩
  simp [he]
  exact hk _ (by simp) (by simp [h2])
theorem awk_3 {c : List AOper} (hc : o_awk3 = c) {v p q la : AV} {l : List Int} (h2 : A 2 = v) (hin : A 46 = bl true) (hp : aindex 5 v (.lit (.int .i64 1)) = some p) (hq : afield 4 p = some q) (lq : aload H false 1 q = some la) (hl : Lst H l la) (he : l = [0])
    (hk : ∀ A', A' 54 = bl true → (∀ t ∈ [1, 2, 4], A' t = A t) → onward Tryz.prog fs Q .normal ⟨A', H, N⟩) : runOps Tryz.prog c fs Q ⟨A, H, N⟩ := by
  subst hc
  simp [o_awk3, h2, hin, hp, hq, lq, -aload, -afield, -alen]
  refine (p_Ints (la := l) (lb := [0]) hl.rd (.sl .exact) (by rw [he]; decide) _).mono ?_
  rintro r3 H3 N3 ⟨rfl, rfl, rfl⟩
  simp [he]
  exact hk _ (by simp) (by simp [h2])
theorem awk_4 {c : List AOper} (hc : o_awk4 = c) {w3 : AV} {N1 N2 : Nat} (hF : Fresh H N) (h1 : A 1 = .mp N1 0) (h4 : A 4 = .mp N2 0) (hin : A 54 = bl true) (lw : aload H false 1 (.mp N2 2) = some w3) (hl3 : alen 1 w3 = some 0) (lP : aload H true 3 (.mp N1 0) = some (.agg exP.cells))
    (hk : ∀ A' H' N', A' 0 = bl true → N ≤ N' → (∀ j, j < N → H' j = H j) → onward Tryz.prog fs Q .normal ⟨A', H', N'⟩) : runOps Tryz.prog c fs Q ⟨A, H, N⟩ := by
  subst hc
  have aw : afield 2 (.mp N2 0) = some (.mp N2 2) := rfl
  simp [o_awk4, h1, h4, hin, aw, lw, hl3, lP, -aload, -afield, -alen]
  refine (p_tThreads (p := exP) (by decide) H N).mono ?_
  rintro v7 H7 N7 ⟨hN7, hk7, hB7⟩
  rw [ex_thr] at hB7
  have c7 := hB7.rd.cells
  simp [c7]
  refine (p_Ints (la := [1]) (lb := [1]) hB7.rd (.sl .exact) (by decide) _).mono ?_
  rintro r8 H8 N8 ⟨rfl, rfl, rfl⟩
  simp
  exact hk _ _ _ (by simp) hN7 hk7
end

theorem p_awake (H : AHeap) (N : Nat) : ACall Tryz.prog 11 [] H N (fun r H' N' => r = bl true ∧ N ≤ N' ∧ ∀ j, j < N → H' j = H j) := by
  obtain ⟨d0, g0⟩ : ∃ c, o_awk0 = c := ⟨_, rfl⟩
  obtain ⟨d1, g1⟩ : ∃ c, o_awk1 = c := ⟨_, rfl⟩
  obtain ⟨d2, g2⟩ : ∃ c, o_awk2 = c := ⟨_, rfl⟩
  obtain ⟨d3, g3⟩ : ∃ c, o_awk3 = c := ⟨_, rfl⟩
  obtain ⟨d4, g4⟩ : ∃ c, o_awk4 = c := ⟨_, rfl⟩
  refine acallF mixed c_bobbinlaw18_awake (by simp) fun hF => ?_
  unfold a_bobbinlaw18_awake a_awk_z
  rw [g0, g1, g2, g3, g4]
  simp
  refine p_example.acall ?_
  have hPl : exP.cells.length = 3 := rfl
  have hP3 : exP.cells.take 3 = exP.cells := rfl
  have hPc : exP.cells = [.sl .exact 3 (memCells exP.mems), .sl .exact 1 (lockCells exP.locks), .sl .exact 5 (funCells exP.funs)] := rfl
  generalize hPC : exP.cells = PC at *
  simp [hPl, hP3]
  subst hPC
  refine (p_Of exP_fit exP_shr _ _).monoF ?_
  rintro r1 H1 N1 ⟨hN1, hk1, ⟨hb, _⟩ | ⟨_, v, es, ar, rfl, hA, hel, hR⟩⟩ hF1 _
  · rw [exP_may] at hb; cases hb
  have hel2 : es.length = 2 := hel
  have b0 : H1 N = some (.blk exP.cells) := (hk1 N (by omega)).trans (by simp [AHeap.set])
  rw [hPc] at b0
  have hvc := hA.cells
  have hq1 : aindex 5 (.sl .exact 5 (funCells exP.funs)) (.lit (.int .i64 1)) = some (.ip [str ⟨#[116]⟩, bl true, i64 0, i64 2, .sl .exact 6 (codeCells exC1)] 0) := rfl
  simp [b0, hq1]
  refine (p_Own (code := exC1) (c0 := str ⟨#[116]⟩) (c1 := bl true) (c2 := i64 0) (c3 := i64 2) (.sl .exact) rfl rfl rfl rfl (by decide) N1).monoF ?_
  rintro r2 H2 N2 ⟨hN2, hk2, w1, w2, w3, w4, w5, rfl, hf2⟩ hF2 _
  have u1 := hf2.r.lst.cells
  have u2 := hf2.w.lst.cells
  have u3 := hf2.t.lst.cells
  have u4 := hf2.g.lst.cells
  have u5 := hf2.c.lst.cells
  have hl3 : alen 1 w3 = some 0 := by rw [hf2.t.lst.len, ex_own_t]; rfl
  obtain ⟨X, hX⟩ : ∃ X, H2.set N2 (.blk [w1, w2, w3, w4, w5]) = X := ⟨_, rfl⟩
  have kX : ∀ j, j < N1 → X j = H1 j := fun j hj => by rw [← hX]; simp only [AHeap.set]; rw [if_neg (by omega)]; exact hk2 j hj
  have bX : X N2 = some (.blk [w1, w2, w3, w4, w5]) := by rw [← hX]; simp [AHeap.set]
  have FX : Fresh X (N2 + 1) := by rw [← hX]; exact hF2.set _
  obtain ⟨x1, hx1⟩ : ∃ x1, es[1]? = some x1 := ⟨es[1]'(by omega), List.getElem?_eq_getElem _⟩
  obtain ⟨a, b, c, d, e, s, rfl, hat, hsum⟩ := hR 1 x1 hx1
  have hsX : SumAt X s a b c d e := ((hat.fsh (lo := N) fun id hid => by have := hid.1; omega).at).keep hF1 kX
  obtain ⟨p, hp, lp, hfl⟩ := arr_at (RdSl.keepF hA.rd hF1 kX) hA.1 hx1
  obtain ⟨q0, hq0, lq0⟩ := hfl 0 a rfl
  obtain ⟨q1, hq1', lq1⟩ := hfl 1 b rfl
  obtain ⟨q2, hq2, lq2⟩ := hfl 2 c rfl
  obtain ⟨q4, hq4, lq4⟩ := hfl 4 e rfl
  have hp1 : aindex 5 v (.lit (.int .i64 1)) = some p := hp
  have hlv : alen 1 v = some 2 := by rw [hA.rd.len, hel]; rfl
  have aw : afield 2 (.mp N2 0) = some (.mp N2 2) := rfl
  have lw : aload X false 1 (.mp N2 2) = some w3 := by simp [aload, bX]
  have lP : aload X true 3 (.mp N 0) = some (.agg exP.cells) := by
    have : X N = some (.blk exP.cells) := (kX N (by omega)).trans (by rw [b0]; rfl)
    simp [aload, apart, this, hPl, hP3]
  have kXN : ∀ j, j < N → X j = H j := fun j hj => by rw [kX j (by omega), hk1 j (by omega)]; simp only [AHeap.set]; rw [if_neg (by omega)]
  have one : ∀ (l : List Int), RdSl X 1 (intCells l) (.sl .exact 1 (intCells l)) := fun l => .sl .exact
  simp [splice]
  rw [hX]
  rw [run_append]
  refine awk_0 g0 (v := v) (by simp) (by simp) hlv hp1 hq0 lq0 hsX.r (ex_r hsum) fun B1 r1 k1 => ?_
  simp
  rw [run_append]
  refine awk_1 g1 (v := v) ((k1 2 (by simp)).trans (by simp)) r1 hp1 hq1' lq1 hsX.w (ex_w hsum) fun B2 r2 k2 => ?_
  simp
  rw [run_append]
  refine awk_2 g2 (v := v) ((k2 2 (by simp)).trans ((k1 2 (by simp)).trans (by simp))) r2 hp1 hq2 lq2 hsX.t (ex_t hsum) fun B3 r3 k3 => ?_
  simp
  rw [run_append]
  refine awk_3 g3 (v := v) ((k3 2 (by simp)).trans ((k2 2 (by simp)).trans ((k1 2 (by simp)).trans (by simp)))) r3 hp1 hq4 lq4 hsX.c (ex_c hsum) fun B4 r4 k4 => ?_
  simp
  refine awk_4 g4 (w3 := w3) (N1 := N) (N2 := N2) FX ((k4 1 (by simp)).trans ((k3 1 (by simp)).trans ((k2 1 (by simp)).trans ((k1 1 (by simp)).trans (by simp))))) ((k4 4 (by simp)).trans ((k3 4 (by simp)).trans ((k2 4 (by simp)).trans ((k1 4 (by simp)).trans (by simp))))) r4 lw hl3 lP fun B5 H5 N5 h0 hN5 hk5 => ?_
  simp [h0]
  exact ⟨by omega, fun j hj => (hk5 j (by omega)).trans (kXN j hj)⟩
end Go.Proofs.YtanpcmkhhpaeiaaGreatDoor
