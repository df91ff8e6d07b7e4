/- code: the registers that an instruction reads: what builds the list. -/
import Derived.Test.YtefejpckppabpaaGreatDoorC3
namespace Go.Proofs.YtefejpckppabpaaGreatDoor
set_option linter.unusedSimpArgs false
set_option linter.unusedVariables false
open Go Go.Fw

/-- While the list grows. -/
structure RdS (w : Row) (x : Ins) (o : Nat) (H0 : AHeap) (l : List Int) (A : Nat → AV) (H : AHeap) (N : Nat) : Prop where
  h1 : A 1 = .ip x.cells 0
  h3 : A 3 = .mp o 0
  b : Built H (o + 1) 1 (.sl .exact 1 []) (intCells l) (A 5)
  old : ∀ j, j ≤ o → H j = H0 j
  lo : o + 1 ≤ N
  fr : Fresh H N

section
variable {w : Row} {x : Ins} {o : Nat} {H0 : AHeap} {l : List Int} {A : Nat → AV} {H : AHeap} {N : Nat} {fs : List Fr} {Q : Post}

theorem RdS.to {A' : Nat → AV} {l' : List Int} (h : RdS w x o H0 l A H N) (h1 : A' 1 = A 1) (h3 : A' 3 = A 3) (h5 : A' 5 = A 5) (hl : l' = l) : RdS w x o H0 l' A' H N :=
  ⟨h1.trans h.h1, h3.trans h.h3, by rw [h5, hl]; exact h.b, h.old, h.lo, h.fr⟩

theorem RdS.grow {y : AV} {ns : List Int} (h : RdS w x o H0 l A H N) (hl : l.length + ns.length ≤ 1000000000000) (hy : asrc H 1 y = some ((intCells ns).flatten, ns.length)) :
    ∃ v' H' N', aappend false 1 8 H N (A 5) y = some (v', H', N') ∧ ∀ (A' : Nat → AV) (l' : List Int), A' 1 = A 1 → A' 3 = A 3 → A' 5 = v' → l' = l ++ ns → RdS w x o H0 l' A' H' N' := by
  have hm : maxLen = 9223372036854775807 := rfl
  obtain ⟨v', H', N', happ, hB', hold', hN', hF'⟩ := h.b.append (bytes := 8) (ns := intCells ns) (y := y) h.fr h.lo (by rw [hy, intCells_len]) (intCells_sz ns) (by rw [intCells_len, intCells_len]; unfold lim; omega) (by rw [intCells_len, intCells_len]; omega)
  refine ⟨v', H', N', happ, fun A' l' h1 h3 h5 hl' => ⟨h1.trans h.h1, h3.trans h.h3, ?_, fun j hj => ?_, Nat.le_trans h.lo hN', hF'⟩⟩
  · rw [h5, hl', intCells_app]
    exact hB'
  · rw [hold' j (by omega)]; exact h.old j hj

theorem asrc_one (H : AHeap) (v : Int) : asrc H 1 (.sl .exact 1 [[i64 v]]) = some ((intCells [v]).flatten, [v].length) := rfl

theorem reads_a (h : RdS w x o H0 l A H N) (hl : l.length ≤ 999999999999) (ho : H0 o = some (.blk w.cells))
    (hk : ∀ A' H' N', RdS w x o H0 (l ++ readsA w x) A' H' N' → onward Tryz.prog fs Q .normal ⟨A', H', N'⟩) : run Tryz.prog a_code_reads_a fs Q ⟨A, H, N⟩ := by
  have h1 := h.h1
  have h3 := h.h3
  have hH : H o = some (.blk w.cells) := (h.old o (Nat.le_refl _)).trans ho
  have hc : (A 5).cells = some [A 5] := h.b.rd.cells
  obtain ⟨v', H', N', happ, hS⟩ := h.grow (ns := [x.a]) (by simp; omega) (asrc_one H x.a)
  by_cases ha : w.a = true
  · by_cases hb : w.bare = true
    · by_cases hn : x.a = -1
      · simp [a_code_reads_a, h1, h3, hH, ha, hb, hn]
        refine hk _ _ _ (h.to ?_ ?_ ?_ ?_) <;> simp [readsA, hb, hn]
      · simp [a_code_reads_a, h1, h3, hH, ha, hb, hn, happ, hc, cells_i64, -AV.cells]
        refine hk _ _ _ (hS _ _ ?_ ?_ ?_ ?_) <;> simp [readsA, ha, hn]
    · simp [a_code_reads_a, h1, h3, hH, ha, hb, happ, hc, cells_i64, -AV.cells]
      refine hk _ _ _ (hS _ _ ?_ ?_ ?_ ?_) <;> simp [readsA, ha, hb]
  · simp [a_code_reads_a, h1, h3, hH, ha]
    refine hk _ _ _ (h.to ?_ ?_ ?_ ?_) <;> simp [readsA, ha]

theorem reads_b (h : RdS w x o H0 l A H N) (hl : l.length ≤ 999999999999) (ho : H0 o = some (.blk w.cells))
    (hk : ∀ A' H' N', RdS w x o H0 (l ++ readsB w x) A' H' N' → onward Tryz.prog fs Q .normal ⟨A', H', N'⟩) : run Tryz.prog a_code_reads_b fs Q ⟨A, H, N⟩ := by
  have h1 := h.h1
  have h3 := h.h3
  have hH : H o = some (.blk w.cells) := (h.old o (Nat.le_refl _)).trans ho
  have hc : (A 5).cells = some [A 5] := h.b.rd.cells
  obtain ⟨v', H', N', happ, hS⟩ := h.grow (ns := [x.b]) (by simp; omega) (asrc_one H x.b)
  by_cases ha : w.b = true
  · simp [a_code_reads_b, h1, h3, hH, ha, happ, hc, cells_i64, -AV.cells]
    refine hk _ _ _ (hS _ _ ?_ ?_ ?_ ?_) <;> simp [readsB, ha]
  · simp [a_code_reads_b, h1, h3, hH, ha]
    refine hk _ _ _ (h.to ?_ ?_ ?_ ?_) <;> simp [readsB, ha]

theorem reads_c (hx : x.Ok) (h : RdS w x o H0 l A H N) (hl : l.length + x.args.length ≤ 1000000000000) (ho : H0 o = some (.blk w.cells))
    (hk : ∀ A' H' N', RdS w x o H0 (l ++ readsC w x) A' H' N' → onward Tryz.prog fs Q .normal ⟨A', H', N'⟩) : run Tryz.prog a_code_reads_c fs Q ⟨A, H, N⟩ := by
  have h1 := h.h1
  have h3 := h.h3
  have hH : H o = some (.blk w.cells) := (h.old o (Nat.le_refl _)).trans ho
  have hc : (A 5).cells = some [A 5] := h.b.rd.cells
  obtain ⟨v', H', N', happ, hS⟩ := h.grow (ns := x.args) hl (y := .sl x.k x.z (intCells x.args)) (by simp only [asrc, intCells_len]; rw [if_pos (hx.hz.imp id fun h => by rw [h]; rfl)])
  by_cases ha : w.n = 6
  · simp [a_code_reads_c, h1, h3, hH, ha, happ, hc, cells_i64, -AV.cells]
    refine hk _ _ _ (hS _ _ ?_ ?_ ?_ ?_) <;> simp [readsC, ha]
  · simp [a_code_reads_c, h1, h3, hH, ha]
    refine hk _ _ _ (h.to ?_ ?_ ?_ ?_) <;> simp [readsC, ha]

theorem a_Values (a : AV) (hc : a.cells = some [a]) (H : AHeap) (N : Nat) : ACall Tryz.prog 121 [a] H N (fun r H' N' => r = .fn (.func 132) [] [.ip [a] 0] ∧ H' = H ∧ N' = N) := by
  refine acall mixed c_slices_Values_int_int (by simp) ?_
  simp [a_slices_Values_int_int, hc, -AV.cells]

theorem p_reads (hx : x.Ok) (hl : x.args.length ≤ 999999999990) : PCall Tryz.prog 97 [.agg x.cells] (.fn (.func 132) [] [.ip [bsl (.sl .exact 1 []) 1 (intCells (readsL x))] 0]) := by
  refine PCall.of fun N => acallF mixed c_code_reads (by simp) fun hF => ?_
  simp [a_code_reads]
  refine (p_of x hx).acall ?_
  simp
  have hA : (readsA (ofR x.op) x).length ≤ 1 := by unfold readsA; split <;> simp
  have hB : (readsB (ofR x.op) x).length ≤ 1 := by unfold readsB; split <;> simp
  refine reads_a (w := ofR x.op) (x := x) (o := N) (l := []) (H0 := noHeap.set N (.blk (ofR x.op).cells)) ⟨by simp, by simp, Built.empty, fun j hj => rfl, by omega, hF.set _⟩ (by simp) (by simp) fun A1 H1 N1 h1 => ?_
  simp
  refine reads_b h1 (by simp; omega) (by simp) fun A2 H2 N2 h2 => ?_
  simp
  refine reads_c hx h2 (by simp; omega) (by simp) fun A3 H3 N3 h3 => ?_
  simp
  refine (a_Values (A3 5) h3.b.rd.cells _ _).mono ?_
  rintro r H' N' ⟨rfl, rfl, rfl⟩
  simp
  have hv := h3.b.view (intCells_free _)
  exact View.fn' .nil (.cons (View.ip' (.cons (by simpa [readsL] using hv) .nil)) .nil)

end
end Go.Proofs.YtefejpckppabpaaGreatDoor
