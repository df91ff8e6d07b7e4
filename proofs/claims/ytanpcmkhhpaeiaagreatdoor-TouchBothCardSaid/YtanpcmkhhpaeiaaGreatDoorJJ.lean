/- touch: the law TouchBoth. -/
import Derived.Test.YtanpcmkhhpaeiaaGreatDoorJI
import Derived.Test.YtanpcmkhhpaeiaaGreatDoorJB
namespace Go.Proofs.YtanpcmkhhpaeiaaGreatDoor
set_option linter.unusedSimpArgs false
set_option linter.unusedVariables false
open Go Go.Fw
section
variable {A : Nat → AV} {H : AHeap} {N : Nat} {fs : List Fr} {Q : Post}
def TbI (A : Nat → AV) (H : AHeap) (N : Nat) (ls : List (SK × List Int)) (m : Nat) (s : St) : Prop :=
  ∃ j : Nat, j ≤ ls.length ∧ m = ls.length - j ∧ (∀ t ∈ [2, 3, 29, 30], s.A t = A t) ∧ s.A 31 = i64 j ∧ s.H = H ∧ s.N = N ∧ ∀ x ∈ ls.take j, x.2.length ≤ 100
theorem tb_in {c : ACode} (hc : .loop a_bobbinlaw18_TouchBothb1 = c) {ls : List (SK × List Int)} (hl : ∀ x ∈ ls, x.2.length ≤ 140737488355328) (hn : ls.length ≤ 1000) (h29 : A 29 = .sl .exact 1 (ls.map fun x => [.sl x.1 1 (intCells x.2)])) (h30 : A 30 = i64 ls.length) (h31 : A 31 = i64 0)
    (hk1 : ∀ A', (∀ t ∈ [2, 3], A' t = A t) → (∀ x ∈ ls, x.2.length ≤ 100) → onward Tryz.prog fs Q .normal ⟨A', H, N⟩)
    (hk2 : ∀ A' H' N', A' 4 = bl true → onward Tryz.prog fs Q .ret ⟨A', H', N'⟩) : run Tryz.prog c (.blk 0 :: fs) Q ⟨A, H, N⟩ := by
  subst hc
  refine run_loop (TbI A H N ls) ls.length ?_ ?_
  · exact ⟨0, by omega, by omega, fun t _ => rfl, h31, rfl, rfl, by simp⟩
  · rintro m A1 H1 N1 ⟨j, hj, rfl, hA, e31, rfl, rfl, hb⟩
    simp only at hA e31
    have e29 := (hA 29 (by simp)).trans h29
    have e30 := (hA 30 (by simp)).trans h30
    by_cases hjl : j < ls.length
    · have n1 : (j : Int) < ls.length := by omega
      obtain ⟨x, hx⟩ : ∃ x, ls[j]? = some x := ⟨ls[j], List.getElem?_eq_getElem hjl⟩
      have hxl := hl x (List.mem_of_getElem? hx)
      have hq : aindex 1 (.sl .exact 1 (ls.map fun x => [.sl x.1 1 (intCells x.2)])) (i64 (j : Nat)) = some (.ip [.sl x.1 1 (intCells x.2)] 0) := aindex_sl (by omega) (by simp [hx])
      have hwi : IntKind.i64.wrap ((j : Int) + 1) = ((j + 1 : Nat) : Int) := by rw [wrap_i64 (by omega) (by omega)]; rfl
      by_cases hbig : (100 : Int) < x.2.length
      · simp [a_bobbinlaw18_TouchBothb1, e29, e30, e31, n1, hq, intCells_len, hbig]
        refine (p_awake _ _).mono ?_
        rintro r1 H2 N2 ⟨rfl, _, _⟩
        simp
        exact hk2 _ _ _ (by simp)
      · simp [a_bobbinlaw18_TouchBothb1, e29, e30, e31, n1, hq, intCells_len, hbig, hwi]
        refine ⟨ls.length - (j + 1), by omega, j + 1, by omega, rfl, fun t ht => ?_, by simp, rfl, rfl, fun y hy => ?_⟩
        · simp only [List.mem_cons, List.not_mem_nil, or_false] at ht
          rcases ht with rfl | rfl | rfl | rfl <;> simp [hA]
        · rw [take_next hjl] at hy
          rcases List.mem_append.1 hy with hy | hy
          · exact hb y hy
          · rw [List.mem_singleton.1 hy]
            have hxe := (List.getElem?_eq_some_iff.1 hx).2
            rw [hxe]; omega
    · have n1 : ¬ ((j : Int) < ls.length) := by omega
      have hje : j = ls.length := by omega
      rw [hje, List.take_length] at hb
      simp [a_bobbinlaw18_TouchBothb1, e30, e31, n1]
      refine hk1 _ (fun t ht => ?_) hb
      simp only [List.mem_cons, List.not_mem_nil, or_false] at ht
      rcases ht with rfl | rfl <;> simp [hA]
end

def SumA.rows (x : SumA) : List (SK × List Int) := [(x.k0, x.s.r), (x.k1, x.s.w), (x.k2, x.s.t), (x.k3, x.s.g), (x.k4, x.s.c)]
theorem p_TouchBoth {x y : SumA} (hx : x.s.le 140737488355328) (hy : y.s.le 140737488355328) (H : AHeap) (N : Nat) :
    ACall Tryz.prog 4 [.agg x.cells, .agg y.cells] H N (fun r H' N' => r = bl true) := by
  obtain ⟨x1, x2, x3, x4, x5⟩ := hx
  obtain ⟨y1, y2, y3, y4, y5⟩ := hy
  obtain ⟨c1, e1⟩ : ∃ c, (.loop a_bobbinlaw18_TouchBothb1 : ACode) = c := ⟨_, rfl⟩
  refine acallF mixed c_bobbinlaw18_TouchBoth (by simp) fun hF => ?_
  unfold a_bobbinlaw18_TouchBoth
  rw [e1]
  simp [SumA.cells, splice]
  refine tb_in e1 (ls := x.rows ++ y.rows) (by simp [SumA.rows]; omega) (by simp [SumA.rows]) (by simp [SumA.rows]) (by simp [SumA.rows]) (by simp) (fun A1 hA hb => ?_) (fun A' H' N' h4 => by simp [h4])
  have e2 : A1 2 = .ip x.cells 0 := (hA 2 (by simp)).trans (by simp [SumA.cells])
  have e3 : A1 3 = .ip y.cells 0 := (hA 3 (by simp)).trans (by simp [SumA.cells])
  simp [SumA.rows] at hb
  obtain ⟨b1, b2, b3, b4, b5, b6, b7, b8, b9, b10⟩ := hb
  have lx : x.s.le 500000000 := ⟨by omega, by omega, by omega, by omega, by omega⟩
  have ly : y.s.le 500000000 := ⟨by omega, by omega, by omega, by omega, by omega⟩
  have lS : (bothS x.s y.s).le 1000000 := by
    obtain ⟨a, b, c, d, e⟩ := bothS_le (s := x.s) (t := y.s) (n := 100) (m := 100) ⟨by omega, by omega, by omega, by omega, by omega⟩ ⟨by omega, by omega, by omega, by omega, by omega⟩
    exact ⟨by omega, by omega, by omega, by omega, by omega⟩
  simp [e2, e3, SumA.cells]
  refine (p_Both (x.at H) (y.at H) lx ly N).monoF ?_
  rintro r1 H1 N1 ⟨hN1, hk1, v1, v2, v3, v4, v5, rfl, hv⟩ hF1 _
  simp [e2, e3, SumA.cells, splice, hv.r.lst.cells, hv.w.lst.cells, hv.t.lst.cells, hv.g.lst.cells, hv.c.lst.cells, -AV.cells]
  have k2 : ∀ j, j < N1 → (H1.set N1 (.blk [v1, v2, v3, v4, v5])) j = H1 j := fun j hj => by simp only [AHeap.set]; rw [if_neg (by omega)]
  have F2 : Fresh (H1.set N1 (.blk [v1, v2, v3, v4, v5])) (N1 + 1) := hF1.set _
  have b2 : (H1.set N1 (.blk [v1, v2, v3, v4, v5])) N1 = some (.blk [v1, v2, v3, v4, v5]) := by simp [AHeap.set]
  generalize H1.set N1 (.blk [v1, v2, v3, v4, v5]) = H2 at k2 F2 b2 ⊢
  refine (p_refBoth (x.at H2) (y.at H2) lx ly (N1 + 1)).monoF ?_
  rintro r3 H3 N3 ⟨hN3, hk3, u1, u2, u3, u4, u5, rfl, hu⟩ hF3 _
  have b3 : H3 N1 = some (.blk [v1, v2, v3, v4, v5]) := (hk3 N1 (by omega)).trans b2
  have n13 : ¬ N1 = N3 := by omega
  simp [splice, b3, n13, hu.r.lst.cells, hu.w.lst.cells, hu.t.lst.cells, hu.g.lst.cells, hu.c.lst.cells, -AV.cells]
  have k4 : ∀ j, j < N3 → (H3.set N3 (.blk [u1, u2, u3, u4, u5])) j = H3 j := fun j hj => by simp only [AHeap.set]; rw [if_neg (by omega)]
  have F4 : Fresh (H3.set N3 (.blk [u1, u2, u3, u4, u5])) (N3 + 1) := hF3.set _
  have b4 : (H3.set N3 (.blk [u1, u2, u3, u4, u5])) N3 = some (.blk [u1, u2, u3, u4, u5]) := by simp [AHeap.set]
  generalize H3.set N3 (.blk [u1, u2, u3, u4, u5]) = H4 at k4 F4 b4 ⊢
  have b4' : H4 N1 = some (.blk [v1, v2, v3, v4, v5]) := (k4 N1 (by omega)).trans ((hk3 N1 (by omega)).trans b2)
  have l7 : aload H4 true 5 (.mp N1 0) = some (.agg [v1, v2, v3, v4, v5]) := by simp [b4']
  have l8 : aload H4 true 5 (.mp N3 0) = some (.agg [u1, u2, u3, u4, u5]) := by simp [b4]
  have hV : AtV H4 (fun id => N ≤ id ∧ id < N1) (bothS x.s y.s) v1 v2 v3 v4 v5 := (hv.v fun id o h1 h2 => ⟨h1, hF1.lt h2⟩).keep hF1 (fun id h1 h2 => (k4 id (by omega)).trans ((hk3 id (by omega)).trans (k2 id h2))) fun id h1 _ => h1
  have hU : AtV H4 (fun id => N1 + 1 ≤ id ∧ id < N3) (bothS x.s y.s) u1 u2 u3 u4 u5 := (hu.v fun id o h1 h2 => ⟨h1, hF3.lt h2⟩).keep hF3 (fun id h1 h2 => k4 id h2) fun id h1 _ => h1
  refine draw_call_load (v := .agg [u1, u2, u3, u4, u5]) (Post' := fun r H' N' => N3 + 1 ≤ N' ∧ Fresh H' N' ∧ (∀ j, j < N3 + 1 → ¬ (N ≤ j ∧ j < N1) → H' j = H4 j) ∧ ∃ k0 k1 k2 k3 k4, r = .agg [.sl k0 1 (intCells (bothS x.s y.s).r), .sl k1 1 (intCells (bothS x.s y.s).w), .sl k2 1 (intCells (bothS x.s y.s).t), .sl k3 1 (intCells (bothS x.s y.s).g), .sl k4 1 (intCells (bothS x.s y.s).c)]) (by omega) (by omega) (by omega) (by omega) (by simp [b4]) (fun A' Q' hA' hq => ?_) (fun r H' N' hp => ?_) fun r H' N' hp => ?_
  · have h66 : A' 66 = .agg [v1, v2, v3, v4, v5] := (hA' 66 (by omega)).trans (by simp)
    simp [h66]
    refine (p_back hV lS (N3 + 1)).monoF ?_
    rintro r5 H5 N5 ⟨q1, q2, q3⟩ hF5 _
    simp
    exact hq _ _ _ ⟨q1, hF5, q2, q3⟩
  · have : H' N3 = some (.blk [u1, u2, u3, u4, u5]) := (hp.2.2.1 N3 (by omega) (by omega)).trans b4
    simp [this]
  · obtain ⟨q1, q2, q3, m0, m1, m2, m3, m4, rfl⟩ := hp
    have hU5 : AtV H' (fun id => N1 + 1 ≤ id ∧ id < N3) (bothS x.s y.s) u1 u2 u3 u4 u5 := hU.keep F4 (fun id h1 h2 => q3 id h2 (by omega)) fun id h1 _ => h1
    have lS9 : (bothS x.s y.s).le 1000000000 := by obtain ⟨a, b, c, d, e⟩ := lS; exact ⟨by omega, by omega, by omega, by omega, by omega⟩
    simp
    refine (p_Same (s := bothS x.s y.s) (t := bothS x.s y.s) ⟨.sl _, .sl _, .sl _, .sl _, .sl _⟩ ⟨hU5.r.lst, hU5.w.lst, hU5.t.lst, hU5.g.lst, hU5.c.lst⟩ lS9 N').mono ?_
    rintro r6 H6 N6 ⟨rfl, rfl, rfl⟩
    simp
    refine (p_awake _ _).mono ?_
    rintro r7 H7 N7 ⟨rfl, _, _⟩
    simp
end Go.Proofs.YtanpcmkhhpaeiaaGreatDoor
