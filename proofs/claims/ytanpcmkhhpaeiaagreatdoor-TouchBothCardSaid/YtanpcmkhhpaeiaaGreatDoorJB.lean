/- touch: sums as arguments; putting together hangs on no row and no brackets. -/
import Derived.Test.YtanpcmkhhpaeiaaGreatDoorJA
import Derived.Test.YtanpcmkhhpaeiaaGreatDoorNM
namespace Go.Proofs.YtanpcmkhhpaeiaaGreatDoor
set_option linter.unusedSimpArgs false
set_option linter.unusedVariables false
set_option maxRecDepth 100000
open Go Go.Fw
theorem joinL_comm (a b : List Int) : joinL a b = joinL b a := eq_of_lt _ _ (joinL_lt _ _) (joinL_lt _ _) fun v => by rw [joinL_mem, joinL_mem]; exact Or.comm
theorem joinL_assoc (a b c : List Int) : joinL (joinL a b) c = joinL a (joinL b c) := eq_of_lt _ _ (joinL_lt _ _) (joinL_lt _ _) fun v => by simp only [joinL_mem]; exact or_assoc
theorem joinL_self (a b : List Int) : joinL (joinL a b) (joinL a b) = joinL a b := eq_of_lt _ _ (joinL_lt _ _) (joinL_lt _ _) fun v => by simp only [joinL_mem]; exact or_self_iff
theorem joinL_in (a b : List Int) : joinL a (joinL a b) = joinL a b := eq_of_lt _ _ (joinL_lt _ _) (joinL_lt _ _) fun v => by simp only [joinL_mem]; rw [← or_assoc, or_self_iff]
theorem joinL_in2 (a b : List Int) : joinL b (joinL a b) = joinL a b := by rw [joinL_comm a b, joinL_in]
theorem bothS_comm (s t : SumV) : bothS s t = bothS t s := by
  unfold bothS; rw [joinL_comm s.r, joinL_comm s.w, joinL_comm s.t, joinL_comm s.g, joinL_comm s.c]
theorem bothS_assoc (s t u : SumV) : bothS (bothS s t) u = bothS s (bothS t u) := by
  unfold bothS; simp only [joinL_assoc]
theorem bothS_self (s t : SumV) : bothS (bothS s t) (bothS s t) = bothS s t := by
  unfold bothS; simp only [joinL_self]

/-- A sum that is handed in. -/
structure SumA where
  s : SumV
  k0 : SK
  k1 : SK
  k2 : SK
  k3 : SK
  k4 : SK
def SumA.cells (x : SumA) : List AV := [.sl x.k0 1 (intCells x.s.r), .sl x.k1 1 (intCells x.s.w), .sl x.k2 1 (intCells x.s.t), .sl x.k3 1 (intCells x.s.g), .sl x.k4 1 (intCells x.s.c)]
theorem SumA.at (x : SumA) (H : AHeap) : SumAt H x.s (.sl x.k0 1 (intCells x.s.r)) (.sl x.k1 1 (intCells x.s.w)) (.sl x.k2 1 (intCells x.s.t)) (.sl x.k3 1 (intCells x.s.g)) (.sl x.k4 1 (intCells x.s.c)) := ⟨.sl _, .sl _, .sl _, .sl _, .sl _⟩
theorem lays_ints {n : Nat} {x : List AV} (h : LaysR Tryz.prog n 37 x) : ∃ (k : SK) (l : List Int), x = [.sl k 1 (intCells l)] ∧ l.length ≤ 140737488355328 := by
  obtain ⟨k, l, rfl, hlen, _⟩ := lays_sl Tryz.underlying37 (sz := 1) (by kernel_rfl) (b := 7) (by kernel_rfl) lays_int1 h
  have hr := reach_is
  exact ⟨k, l, rfl, by omega⟩
theorem arg_sum {a : AV} (h : ArgS Tryz.prog 43 a) : ∃ g : SumA, a = .agg g.cells ∧ g.s.le 140737488355328 := by
  obtain ⟨x, n, h, rfl⟩ := h
  cases n with
  | zero => exact h.elim
  | succ n =>
    simp only [LaysR, Tryz.underlying43] at h
    obtain ⟨parts, rfl, hl, hp⟩ := h
    match parts, hl with
    | [p0, p1, p2, p3, p4], _ =>
      obtain ⟨k0, l0, rfl, h0⟩ := lays_ints (hp 0 _ p0 rfl rfl)
      obtain ⟨k1, l1, rfl, h1⟩ := lays_ints (hp 1 _ p1 rfl rfl)
      obtain ⟨k2, l2, rfl, h2⟩ := lays_ints (hp 2 _ p2 rfl rfl)
      obtain ⟨k3, l3, rfl, h3⟩ := lays_ints (hp 3 _ p3 rfl rfl)
      obtain ⟨k4, l4, rfl, h4⟩ := lays_ints (hp 4 _ p4 rfl rfl)
      exact ⟨⟨⟨l0, l1, l2, l3, l4⟩, k0, k1, k2, k3, k4⟩, by simp [Tryz.underlying43, SumA.cells], ⟨h0, h1, h2, h3, h4⟩⟩

/-- One as the document's. -/
theorem p_given {a b c d e : AV} (ha : a.cells = some [a]) (hb : b.cells = some [b]) (hc : c.cells = some [c]) (hd : d.cells = some [d]) (he : e.cells = some [e]) (H : AHeap) (N : Nat) :
    ACall Tryz.prog 24 [.agg [a, b, c, d, e]] H N (fun r H' N' => r = .agg [a, b, c, d, e] ∧ N ≤ N' ∧ ∀ j, j < N → H' j = H j) := by
  refine acallF mixed c_bobbinlaw18_given (by simp) fun hF => ?_
  simp [a_bobbinlaw18_given, ha, hb, hc, hd, he, splice, -AV.cells]
  intro j hj h
  omega
theorem keeps_of {H H' : AHeap} {N : Nat} (hF : Fresh H N) (h : ∀ j, j < N → H' j = H j) : Keeps H H' := fun id o hid => (h id (hF.lt hid)).trans hid
end Go.Proofs.YtanpcmkhhpaeiaaGreatDoor
