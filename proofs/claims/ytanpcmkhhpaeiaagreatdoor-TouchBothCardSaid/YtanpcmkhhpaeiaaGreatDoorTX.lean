/- Sorted rows without repeats; the sort. -/
import Derived.Test.YtanpcmkhhpaeiaaGreatDoorM5
import Derived.Test.YtanpcmkhhpaeiaaGreatDoorNI
import Derived.Test.YtanpcmkhhpaeiaaGreatDoorLN
import Derived.Test.YtanpcmkhhpaeiaaGreatDoorKT
import Derived.Test.YtanpcmkhhpaeiaaGreatDoorKR
namespace Go.Proofs.YtanpcmkhhpaeiaaGreatDoor
set_option linter.unusedSimpArgs false
set_option linter.unusedVariables false
open Go Go.Fw

theorem eq_of_lt : ∀ (l r : List Int), l.Pairwise (· < ·) → r.Pairwise (· < ·) → (∀ v, v ∈ l ↔ v ∈ r) → l = r
  | [], [], _, _, _ => rfl
  | [], b :: r, _, _, h => by have := (h b).2 (by simp); simp at this
  | a :: l, [], _, _, h => by have := (h a).1 (by simp); simp at this
  | a :: l, b :: r, h1, h2, h => by
    rw [List.pairwise_cons] at h1 h2
    have hab : a = b := by
      rcases List.mem_cons.1 ((h a).1 (by simp)) with h3 | h3
      · exact h3
      · rcases List.mem_cons.1 ((h b).2 (by simp)) with h4 | h4
        · exact h4.symm
        · have := h2.1 a h3
          have := h1.1 b h4
          omega
    subst hab
    rw [eq_of_lt l r h1.2 h2.2 fun v => ?_]
    constructor
    · intro hv
      have hlt := h1.1 v hv
      rcases List.mem_cons.1 ((h v).1 (by simp [hv])) with h3 | h3
      · omega
      · exact h3
    · intro hv
      have hlt := h2.1 v hv
      rcases List.mem_cons.1 ((h v).2 (by simp [hv])) with h3 | h3
      · omega
      · exact h3

theorem compact_sorted (zs : List Int) (hs : zs.Pairwise (· ≤ ·)) : (Lib.compact zs).Pairwise (· < ·) ∧ ∀ v, v ∈ Lib.compact zs ↔ v ∈ zs := by
  have get : ∀ j (h : j < zs.length), zs.toArray[j]! = zs[j] := fun j h => by simp [h]
  have key : ∀ m, m ≤ zs.length → (Lib.compactUpTo zs.toArray m).Pairwise (· < ·) ∧ (∀ v, v ∈ Lib.compactUpTo zs.toArray m ↔ ∃ j, ∃ (h : j < zs.length), j < m ∧ v = zs[j]) := by
    intro m
    induction m with
    | zero =>
      intro _
      refine ⟨by simp [Lib.compactUpTo], fun v => ?_⟩
      simp [Lib.compactUpTo]
    | succ m ih =>
      intro hm
      obtain ⟨h1, h2⟩ := ih (by omega)
      have hlt : m < zs.length := by omega
      rw [Lib.compactUpTo_succ]
      have next : (∀ v, (v ∈ Lib.compactUpTo zs.toArray m ∨ v = zs[m]) ↔ ∃ j, ∃ (h : j < zs.length), j < m + 1 ∧ v = zs[j]) := fun v => by
        rw [h2 v]
        constructor
        · rintro (⟨j, h, h3, h4⟩ | h3)
          · exact ⟨j, h, by omega, h4⟩
          · exact ⟨m, hlt, by omega, h3⟩
        · rintro ⟨j, h, h3, h4⟩
          by_cases hj : j = m
          · subst hj; exact .inr h4
          · exact .inl ⟨j, h, by omega, h4⟩
      cases hk : Lib.keeps zs.toArray m with
      | true =>
        rw [if_pos rfl, get m hlt]
        refine ⟨?_, fun v => ?_⟩
        · rw [List.pairwise_append]
          refine ⟨h1, by simp, fun a ha b hb => ?_⟩
          rw [List.mem_singleton] at hb
          subst hb
          obtain ⟨j, h, h3, rfl⟩ := (h2 a).1 ha
          have hle := List.pairwise_iff_getElem.1 hs
          simp only [Lib.keeps, decide_eq_true_eq] at hk
          rcases hk with hk | hk
          · omega
          · rw [get m hlt, get (m - 1) (by omega)] at hk
            have e1 := hle (m - 1) m (by omega) hlt (by omega)
            by_cases hj : j = m - 1
            · subst hj; omega
            · have e2 := hle j (m - 1) h (by omega) (by omega)
              omega
        · rw [List.mem_append, List.mem_singleton]
          exact next v
      | false =>
        simp only [Lib.keeps, decide_eq_false_iff_not, not_or] at hk
        have hk2 : zs.toArray[m]! = zs.toArray[m - 1]! := Classical.not_not.1 hk.2
        rw [get m hlt, get (m - 1) (by omega)] at hk2
        simp only [Bool.false_eq_true, if_false, List.append_nil]
        refine ⟨h1, fun v => ?_⟩
        rw [← next v]
        constructor
        · exact .inl
        · rintro (h3 | h3)
          · exact h3
          · rw [h3, hk2]
            exact (h2 _).2 ⟨m - 1, by omega, by omega, rfl⟩
  have := key zs.length (Nat.le_refl _)
  refine ⟨this.1, fun v => ?_⟩
  show v ∈ Lib.compactUpTo zs.toArray zs.length ↔ _
  rw [this.2 v]
  constructor
  · rintro ⟨j, h, _, rfl⟩; exact List.getElem_mem h
  · intro hv
    obtain ⟨j, h, rfl⟩ := List.getElem_of_mem hv
    exact ⟨j, h, h, rfl⟩

abbrev sortL (l : List Int) : List Int := l.mergeSort fun x y => decide (x ≤ y)
theorem sortL_sorted (l : List Int) : (sortL l).Pairwise (· ≤ ·) := by
  have := List.pairwise_mergeSort (le := fun x y : Int => decide (x ≤ y)) (fun a b c h1 h2 => by simp at h1 h2 ⊢; omega) (fun a b => by simp; omega) l
  simpa using this
theorem sortL_mem (l : List Int) (v : Int) : v ∈ sortL l ↔ v ∈ l := (List.mergeSort_perm l _).mem_iff


/-- Two rows put together: rising, each once. -/
def joinL (a b : List Int) : List Int := Lib.compact (sortL (a ++ b))
theorem joinL_lt (a b : List Int) : (joinL a b).Pairwise (· < ·) := (compact_sorted _ (sortL_sorted _)).1
theorem joinL_mem (a b : List Int) (v : Int) : v ∈ joinL a b ↔ v ∈ a ∨ v ∈ b := by
  unfold joinL
  rw [(compact_sorted _ (sortL_sorted _)).2, sortL_mem, List.mem_append]
theorem joinL_len (a b : List Int) : (joinL a b).length ≤ a.length + b.length := by
  have := compact_len (sortL (a ++ b))
  have h2 : (sortL (a ++ b)).length = (a ++ b).length := List.length_mergeSort _
  rw [h2, List.length_append] at this
  exact this

/-- A row of numbers, wherever it lies. -/
def Lst (H : AHeap) (l : List Int) (v : AV) : Prop :=
  (∃ k z, v = .sl k z (intCells l) ∧ (z = 1 ∨ l = [])) ∨ ∃ (id off : Nat) (ds : List AV), v = .ms id off l.length 1 ∧ H id = some (.blk ds) ∧ off + l.length ≤ ds.length ∧ (ds.drop off).take l.length = l.map i64
theorem intCells_flat (l : List Int) : (intCells l).flatten = l.map i64 := by
  induction l with
  | nil => rfl
  | cons x l ih => simp only [intCells, List.map_cons, List.flatten_cons] at ih ⊢; rw [ih]; rfl
theorem Lst.rd {H : AHeap} {l : List Int} {v : AV} (h : Lst H l v) : RdSl H 1 (intCells l) v := by
  rcases h with ⟨k, z, rfl, hz⟩ | ⟨id, off, ds, rfl, h1, h2, h3⟩
  · exact .inl ⟨k, z, rfl, hz.imp id fun h => by rw [h]; rfl⟩
  · refine .inr ⟨id, off, ds, by rw [intCells_len], .inr ⟨h1, by rw [intCells_len]; omega, ?_⟩⟩
    rw [intCells_len, intCells_flat, Nat.mul_one]
    exact h3
theorem Lst.cells {H : AHeap} {l : List Int} {v : AV} (h : Lst H l v) : v.cells = some [v] := h.rd.cells
theorem Lst.len {H : AHeap} {l : List Int} {v : AV} (h : Lst H l v) : alen 1 v = some (l.length : Int) := by
  have := h.rd.len
  rwa [intCells_len] at this
theorem Lst.src {H : AHeap} {l : List Int} {v : AV} (h : Lst H l v) : asrc H 1 v = some (l.map i64, l.length) := by
  rcases h with ⟨k, z, rfl, hz⟩ | ⟨id, off, ds, rfl, h1, h2, h3⟩
  · simp only [asrc]
    rw [if_pos (hz.imp id fun h => by rw [h]; rfl), intCells_flat, intCells_len]
  · simp only [asrc, h1]
    rw [if_pos ⟨trivial, by omega⟩, Nat.mul_one, h3]
theorem Lst.keep {H H' : AHeap} {N : Nat} {l : List Int} {v : AV} (h : Lst H l v) (hF : Fresh H N) (hk : ∀ j, j < N → H' j = H j) : Lst H' l v := by
  rcases h with h | ⟨id, off, ds, rfl, h1, h2, h3⟩
  · exact .inl h
  · exact .inr ⟨id, off, ds, rfl, (hk id (hF.lt h1)).trans h1, h2, h3⟩
theorem Lst.sl {H : AHeap} {l : List Int} (k : SK) : Lst H l (.sl k 1 (intCells l)) := .inl ⟨k, 1, rfl, .inl rfl⟩
theorem Lst.nil {H : AHeap} (k : SK) (z : Nat) : Lst H [] (.sl k z []) := .inl ⟨k, z, rfl, .inr rfl⟩

/-- A new row, that its owner may write. -/
def Fsh (H : AHeap) (lo : Nat) (l : List Int) (v : AV) : Prop :=
  (l = [] ∧ v = .sl .nil 0 []) ∨ (l ≠ [] ∧ ∃ (id : Nat) (ds : List AV), lo ≤ id ∧ v = .ms id 0 l.length 1 ∧ H id = some (.blk ds) ∧ l.length ≤ ds.length ∧ ds.take l.length = l.map i64)
theorem Fsh.lst {H : AHeap} {lo : Nat} {l : List Int} {v : AV} (h : Fsh H lo l v) : Lst H l v := by
  rcases h with ⟨rfl, rfl⟩ | ⟨_, id, ds, _, rfl, h1, h2, h3⟩
  · exact .nil _ _
  · exact .inr ⟨id, 0, ds, rfl, h1, by omega, by simpa using h3⟩
theorem Fsh.keep {H H' : AHeap} {N lo : Nat} {l : List Int} {v : AV} (h : Fsh H lo l v) (hF : Fresh H N) (hk : ∀ j, j < N → H' j = H j) : Fsh H' lo l v := by
  rcases h with h | ⟨h0, id, ds, hlo, rfl, h1, h2, h3⟩
  · exact .inl h
  · exact .inr ⟨h0, id, ds, hlo, rfl, (hk id (hF.lt h1)).trans h1, h2, h3⟩
theorem Fsh.mono {H : AHeap} {lo lo' : Nat} {l : List Int} {v : AV} (h : Fsh H lo l v) (hl : lo' ≤ lo) : Fsh H lo' l v := by
  rcases h with h | ⟨h0, id, ds, hlo, h⟩
  · exact .inl h
  · exact .inr ⟨h0, id, ds, by omega, h⟩
end Go.Proofs.YtanpcmkhhpaeiaaGreatDoor

/- touch: rows put together. -/
namespace Go.Proofs.YtanpcmkhhpaeiaaGreatDoor
set_option linter.unusedSimpArgs false
set_option linter.unusedVariables false
open Go Go.Fw
theorem a_Sort {H : AHeap} {id : Nat} {l : List Int} (hH : H id = some (.blk (l.map i64))) (h0 : 0 < l.length) (hl : l.length ≤ 1000000000) (N : Nat) :
    ACall Tryz.prog 56 [.ms id 0 l.length 1] H N (fun r H' N' => r = .tup [] ∧ H' = H.set id (.blk ((sortL l).map i64)) ∧ N' = N) :=
  sort_acall (by kernel_rfl) (fun blk off cap zs w h1 h2 h3 => Go.Proofs.Any.slices_Sort_int lays189 blk off cap zs w h1 h2 h3) hH h0 hl
theorem a_Compact {H : AHeap} {id : Nat} {l : List Int} (hH : H id = some (.blk (l.map i64))) (h0 : 0 < l.length) (hl : l.length ≤ 1000000000) (N : Nat) :
    ACall Tryz.prog 57 [.ms id 0 l.length 1] H N (fun r H' N' => r = .ms id 0 (Lib.compact l).length 1 ∧ H' = H.set id (.blk ((Lib.compact l ++ List.replicate (l.length - (Lib.compact l).length) 0).map i64)) ∧ N' = N) :=
  compact_acall (by kernel_rfl) (fun blk off cap zs w h1 h2 h3 => Go.Proofs.Any.slices_Compact_int laysNm220 blk off cap zs w h1 h2 h3) hH h0 hl
theorem p_Sort_nil {z : Nat} : PCall Tryz.prog 56 [.sl .nil z []] (.tup []) :=
  nil_acall (k := 0) (ra := fun _ => .tup []) (r := fun _ => .tuple #[]) (by kernel_rfl) (fun w => (Go.Proofs.Any.slices_Sort_int_none lays189 none 0 w).mono fun e w' h => ⟨h.1, 0, by rw [h.2]; rfl⟩) (fun e => .tup (vs := []) rfl (fun i c v h => by simp at h))
theorem p_Compact_nil {z : Nat} : PCall Tryz.prog 57 [.sl .nil z []] (.sl .nil z []) :=
  nil_acall (k := 0) (ra := fun x => x) (r := fun x => x) (by kernel_rfl) (fun w => (Go.Proofs.Any.slices_Compact_int_empty laysNm220 none 0 w).mono fun e w' h => ⟨h.1, 0, by rw [h.2]; rfl⟩) (fun e => .slNil _)
theorem p_Grow_none {z : Nat} : PCall Tryz.prog 90 [.sl .nil z [], .lit (.int .i64 0)] (.sl .nil z []) :=
  grow_none (by kernel_rfl) fun w => Go.Proofs.Any8.slices_Grow_room laysGrow none 0 0 0 w (by omega) (by omega) (by omega) (by omega)
theorem a_Grow {n : Nat} (h0 : 0 < n) (hl : n ≤ 1000000000) (H : AHeap) (N : Nat) {z : Nat} :
    ACall Tryz.prog 90 [.sl .nil z [], .lit (.int .i64 n)] H N (fun r H' N' => r = .ms N 0 0 1 ∧ H' = H.set N (.blk []) ∧ N' = N + 1) := by
  obtain ⟨i0, hi0, hz0, hs0, hb0⟩ : ∃ i0, Tryz.prog.info? 3 = some i0 ∧ i0.zero = some (.int .i64 0) ∧ i0.size = 1 ∧ i0.bytes = 8 := by
    have h : ((Tryz.prog.info? 3).map fun i => (i.zero, i.size, i.bytes)) = some (some (.int .i64 0), 1, 8) := by kernel_rfl
    cases hi : Tryz.prog.info? 3 with
    | none => rw [hi] at h; cases h
    | some i =>
      rw [hi] at h
      simp only [Option.map_some, Option.some.injEq, Prod.mk.injEq] at h
      exact ⟨i, rfl, h.1, h.2.1, h.2.2⟩
  refine grow_acall (by kernel_rfl) (el := 3) fun w => (Go.Proofs.Any8.slices_Grow_grow laysGrow i0 (.int .i64 0) hi0 hz0 (by rw [hs0]; omega) none 0 0 n [] w (by omega) (by omega) (by rw [hb0]; omega) (by omega) (by simp) (fun _ => rfl) (fun a h => by cases h)).mono ?_
  rintro e w' ⟨rfl, rfl⟩
  refine ⟨_, _, ?_, rfl, rfl⟩
  have hge := grownCap_ge w (0 + n) 0 (laysGrow_ren.t 25)
  have hz : ∀ m, (Builtin.zeroCells (Value.int .i64 0).cells m).size = m := fun m => by simp [Builtin.zeroCells, Value.cells]
  simp only [Array.size_append, hz]
  simp
  omega

/-- What Concat hands out. -/
def Cat (H : AHeap) (lo : Nat) (l : List Int) (v : AV) : Prop := (l = [] ∧ v = .sl .nil 0 []) ∨ (l ≠ [] ∧ ∃ id, lo ≤ id ∧ v = .ms id 0 l.length 1 ∧ H id = some (.blk (l.map i64)))
/-- While it grows. -/
structure Grw (H0 : AHeap) (lo : Nat) (l : List Int) (v : AV) (H : AHeap) (N : Nat) : Prop where
  v : ∃ id, lo ≤ id ∧ v = .ms id 0 l.length 1 ∧ H id = some (.blk (l.map i64))
  F : Fresh H N
  N : lo ≤ N
  old : ∀ j, j < lo → H j = H0 j
theorem Grw.cells {H0 : AHeap} {lo : Nat} {l : List Int} {v : AV} {H : AHeap} {N : Nat} (h : Grw H0 lo l v H N) : v.cells = some [v] := by
  obtain ⟨⟨id, _, rfl, _⟩, _, _, _⟩ := h
  rfl
theorem Grw.app {H0 : AHeap} {lo : Nat} {l l2 : List Int} {v y : AV} {H : AHeap} {N : Nat} (h : Grw H0 lo l v H N) (hy : Lst H l2 y) (hl : l.length + l2.length ≤ 1000000000) :
    ∃ v' H' N', aappend false 1 8 H N v y = some (v', H', N') ∧ Grw H0 lo (l ++ l2) v' H' N' := by
  obtain ⟨⟨id, hid, rfl, hH⟩, hF, hN, hold⟩ := h
  have hlt := hF.lt hH
  refine ⟨.ms N 0 (l.length + l2.length) 1, (H.del id).set N (.blk (l.map i64 ++ l2.map i64)), N + 1, ?_, ⟨⟨N, hN, by rw [List.length_append], by simp [AHeap.set]⟩, ?_, by omega, fun j hj => ?_⟩⟩
  · simp only [aappend, hy.src, hH]
    rw [if_pos ⟨trivial, by simp, by unfold lim; omega, by omega⟩]
    have : (l.map i64).take (l.length * 1) = l.map i64 := List.take_of_length_le (by simp)
    rw [List.drop_zero, this]
  · intro j hj
    simp only [AHeap.set, AHeap.del]
    rw [if_neg (by omega)]
    split
    · rfl
    · exact hF j (by omega)
  · simp only [AHeap.set, AHeap.del]
    rw [if_neg (by omega), if_neg (by omega)]
    exact hold j hj

def Cg (tot : Nat) (H0 : AHeap) (lo : Nat) (l : List Int) (v : AV) (H : AHeap) (N : Nat) : Prop :=
  (tot = 0 ∧ l = [] ∧ v = .sl .nil 0 [] ∧ Fresh H N ∧ lo ≤ N ∧ ∀ j, j < lo → H j = H0 j) ∨ (0 < tot ∧ Grw H0 lo l v H N)
theorem Cg.cells {tot : Nat} {H0 : AHeap} {lo : Nat} {l : List Int} {v : AV} {H : AHeap} {N : Nat} (h : Cg tot H0 lo l v H N) : v.cells = some [v] := by
  rcases h with ⟨_, _, rfl, _⟩ | ⟨_, h⟩
  · rfl
  · exact h.cells
theorem Cg.old {tot : Nat} {H0 : AHeap} {lo : Nat} {l : List Int} {v : AV} {H : AHeap} {N : Nat} (h : Cg tot H0 lo l v H N) : lo ≤ N ∧ Fresh H N ∧ ∀ j, j < lo → H j = H0 j := by
  rcases h with ⟨_, _, _, h1, h2, h3⟩ | ⟨_, h⟩
  · exact ⟨h2, h1, h3⟩
  · exact ⟨h.N, h.F, h.old⟩
theorem Cg.app {tot : Nat} {H0 : AHeap} {lo : Nat} {l l2 : List Int} {v y : AV} {H : AHeap} {N : Nat} (h : Cg tot H0 lo l v H N) (hy : Lst H l2 y) (ht : l.length + l2.length ≤ tot) (hl : tot ≤ 1000000000) :
    ∃ v' H' N', aappend false 1 8 H N v y = some (v', H', N') ∧ Cg tot H0 lo (l ++ l2) v' H' N' := by
  rcases h with ⟨h0, rfl, rfl, h1, h2, h3⟩ | ⟨h0, h⟩
  · have : l2 = [] := List.eq_nil_of_length_eq_zero (by omega)
    subst this
    exact ⟨.sl .nil 0 [], H, N, by simp only [aappend, hy.src]; rfl, .inl ⟨h0, rfl, rfl, h1, h2, h3⟩⟩
  · obtain ⟨v', H', N', e, h'⟩ := h.app hy (by omega)
    exact ⟨v', H', N', e, .inr ⟨h0, h'⟩⟩

theorem p_Concat {la lb : List Int} {a b : AV} {H : AHeap} (ha : Lst H la a) (hb : Lst H lb b) (hl : la.length + lb.length ≤ 1000000000) (N : Nat) :
    ACall Tryz.prog 55 [.sl .exact 1 [[a], [b]]] H N (fun r H' N' => N ≤ N' ∧ (∀ j, j < N → H' j = H j) ∧ Cat H' N (la ++ lb) r) := by
  refine acallF mixed c_slices_Concat_int_int (by simp) fun hF => ?_
  have hca := ha.cells
  have hcb := hb.cells
  have hna := ha.len
  have hnb := hb.len
  have w1 : IntKind.i64.wrap (la.length : Int) = la.length := wrap_i64 (by omega) (by omega)
  have w2 : IntKind.i64.wrap ((la.length : Int) + lb.length) = ((la.length + lb.length : Nat) : Int) := by rw [wrap_i64 (by omega) (by omega)]; omega
  have q0 : aindex 1 (.sl .exact 1 [[a], [b]]) (.lit (.int .i64 0)) = some (.ip [a] 0) := rfl
  have q1 : aindex 1 (.sl .exact 1 [[a], [b]]) (.lit (.int .i64 1)) = some (.ip [b] 0) := rfl
  have n1 : ¬ ((la.length : Int) < 0) := by omega
  have hab : alen 1 (.sl .exact 1 [[a], [b]]) = some 2 := rfl
  have n2 : ¬ ((la.length : Int) + lb.length < 0) := by omega
  obtain ⟨lp, elp⟩ : ∃ c, a_slices_Concat_int_intb1 = c := ⟨_, rfl⟩
  unfold a_slices_Concat_int_int
  rw [elp]
  simp
  refine run_loop (fun m s => ∃ j : Nat, j ≤ 2 ∧ m = 2 - j ∧ s.A 0 = .sl .exact 1 [[a], [b]] ∧ s.A 9 = .sl .exact 1 [[a], [b]] ∧ s.A 10 = i64 2 ∧ s.A 11 = i64 j ∧ s.A 3 = i64 ((if j = 0 then 0 else if j = 1 then la.length else la.length + lb.length : Nat) : Int) ∧ s.H = H ∧ s.N = N) 2 ?_ ?_
  · exact ⟨0, by omega, by omega, by simp, by simp, by simp, by simp, by simp, rfl, rfl⟩
  · rintro m A1 H1 N1 ⟨j, hj, rfl, e0, e9, e10, e11, e3, rfl, rfl⟩
    simp only at e0 e9 e10 e11 e3
    have hc : j = 0 ∨ j = 1 ∨ j = 2 := by omega
    rcases hc with rfl | rfl | rfl
    · simp at e3
      simp [a_slices_Concat_int_intb2, e0, e9, e10, e11, e3, q0, hca, hna, w1, n1, -alen]
      exact ⟨1, by omega, 1, by omega, by omega, rfl, by simp⟩
    · simp at e3
      simp [a_slices_Concat_int_intb2, e0, e9, e10, e11, e3, q1, hcb, hnb, w2, n2, -alen]
      exact ⟨2, by omega, by omega, rfl, by simp⟩
    · simp at e3
      have hgrow : ACall Tryz.prog 90 [.sl .nil 0 [], i64 ((la.length : Int) + lb.length)] H1 N1 (fun r H' N' => Cg (la.length + lb.length) H1 N1 [] r H' N') := by
        by_cases h0 : la.length + lb.length = 0
        · have e : (la.length : Int) + lb.length = 0 := by omega
          rw [e]
          exact p_Grow_none.acall (.inl ⟨h0, rfl, rfl, hF, Nat.le_refl _, fun _ _ => rfl⟩)
        · have e : (la.length : Int) + lb.length = ((la.length + lb.length : Nat) : Int) := by omega
          rw [e]
          refine (a_Grow (by omega) hl H1 N1).mono ?_
          rintro r H' N' ⟨rfl, rfl, rfl⟩
          refine .inr ⟨by omega, ⟨N1, Nat.le_refl _, rfl, by simp [AHeap.set]⟩, hF.set _, by omega, fun j hj => ?_⟩
          simp only [AHeap.set]
          rw [if_neg (by omega)]
      simp [a_slices_Concat_int_intb2, e0, e9, e10, e11, e3, hab, -alen]
      refine hgrow.mono ?_
      rintro v0 H2 N2 hC
      simp [e0, hab, -alen]
      refine run_loop (fun m s => ∃ (j : Nat) (v : AV), j ≤ 2 ∧ m = 2 - j ∧ s.A 25 = .sl .exact 1 [[a], [b]] ∧ s.A 26 = i64 2 ∧ s.A 27 = i64 j ∧ s.A 6 = v ∧ Cg (la.length + lb.length) H1 N1 (if j = 0 then [] else if j = 1 then la else la ++ lb) v s.H s.N) 2 ?_ ?_
      · exact ⟨0, v0, by omega, by omega, by simp, by simp, by simp, by simp, hC⟩
      · rintro m A3 H3 N3 ⟨j, v, hj, rfl, e25, e26, e27, e6, hC3⟩
        simp only at e25 e26 e27 e6 hC3
        obtain ⟨hN3, hF3, hk3⟩ := hC3.old
        have hvc := hC3.cells
        have hc : j = 0 ∨ j = 1 ∨ j = 2 := by omega
        rcases hc with rfl | rfl | rfl
        · obtain ⟨v', H', N', happ, hC4⟩ := hC3.app (ha.keep hF hk3) (by simp) hl
          subst elp
          simp [a_slices_Concat_int_intb1, e25, e26, e27, e6, q0, hca, happ, hvc]
          exact ⟨1, by omega, 1, by omega, by omega, rfl, by simpa using hC4⟩
        · obtain ⟨v', H', N', happ, hC4⟩ := hC3.app (hb.keep hF hk3) (by simp) hl
          subst elp
          simp [a_slices_Concat_int_intb1, e25, e26, e27, e6, q1, hcb, happ, hvc]
          exact ⟨2, by omega, by omega, rfl, by simpa using hC4⟩
        · subst elp
          simp [a_slices_Concat_int_intb1, e25, e26, e27, e6, hvc]
          refine ⟨hN3, hk3, ?_⟩
          simp at hC3
          rcases hC3 with ⟨h0, h1, rfl, _⟩ | ⟨h0, ⟨id, h1, h2, h3⟩, _⟩
          · exact .inl ⟨by simpa using h1, rfl⟩
          · exact .inr ⟨by intro h; have := congrArg List.length h; rw [List.length_append, List.length_nil] at this; omega, id, h1, h2, h3⟩

theorem p_join {la lb : List Int} {a b : AV} {H : AHeap} (ha : Lst H la a) (hb : Lst H lb b) (hl : la.length + lb.length ≤ 1000000000) (N : Nat) :
    ACall Tryz.prog 34 [a, b] H N (fun r H' N' => N ≤ N' ∧ (∀ j, j < N → H' j = H j) ∧ Fsh H' N (joinL la lb) r) := by
  refine acallF mixed c_touch_join_int (by simp) fun hF => ?_
  have hca := ha.cells
  have hcb := hb.cells
  simp [a_touch_join_int, hca, hcb, splice, -AV.cells]
  refine (p_Concat ha hb hl N).mono ?_
  rintro v H1 N1 ⟨hN1, hk1, ⟨hn, rfl⟩ | ⟨hn, id, hid, rfl, hH⟩⟩
  · simp
    refine p_Sort_nil.acall ?_
    simp
    refine p_Compact_nil.acall ?_
    simp
    refine ⟨hN1, hk1, .inl ⟨?_, rfl⟩⟩
    have := joinL_len la lb
    rw [← List.length_append, hn] at this
    exact List.eq_nil_of_length_eq_zero (Nat.le_zero.1 this)
  · have hpos : 0 < (la ++ lb).length := by
      rcases Nat.eq_zero_or_pos (la ++ lb).length with h | h
      · exact absurd (List.eq_nil_of_length_eq_zero h) hn
      · exact h
    have hle : (la ++ lb).length ≤ 1000000000 := by rw [List.length_append]; exact hl
    have hsl : (sortL (la ++ lb)).length = (la ++ lb).length := List.length_mergeSort _
    simp only [← List.length_append] at *
    generalize hL : la ++ lb = L at *
    simp
    refine (a_Sort hH hpos hle N1).mono ?_
    rintro r2 H2 N2 ⟨rfl, rfl, rfl⟩
    simp
    have h2 : (H1.set id (.blk ((sortL L).map i64))) id = some (.blk ((sortL L).map i64)) := by simp [AHeap.set]
    have hc := a_Compact h2 (by omega) (by omega) N2
    rw [hsl] at hc
    refine hc.mono ?_
    rintro r3 H3 N3 ⟨rfl, rfl, rfl⟩
    simp
    refine ⟨hN1, fun j hj => ?_, ?_⟩
    · have hne : ¬ j = id := by omega
      simpa [hne, AHeap.set] using hk1 j hj
    · have hcl := compact_len (sortL L)
      have hmem := (compact_sorted (sortL L) (sortL_sorted L)).2
      have hne : Lib.compact (sortL L) ≠ [] := by
        intro h0
        match L, hn with
        | x :: l, _ =>
          have := (hmem x).2 ((sortL_mem _ _).2 (by simp))
          rw [h0] at this
          simp at this
      unfold joinL
      rw [hL]
      refine .inr ⟨hne, id, _, hid, rfl, by simp only [AHeap.set, if_true]; rfl, by simp, ?_⟩
      rw [List.take_left' (by simp)]
end Go.Proofs.YtanpcmkhhpaeiaaGreatDoor

/- touch: sums put together. -/
namespace Go.Proofs.YtanpcmkhhpaeiaaGreatDoor
set_option linter.unusedSimpArgs false
set_option linter.unusedVariables false
open Go Go.Fw
/-- What a Fun reads, writes, takes, gives and calls. -/
structure SumV where
  r : List Int
  w : List Int
  t : List Int
  g : List Int
  c : List Int
  deriving DecidableEq
def SumV.le (s : SumV) (n : Nat) : Prop := s.r.length ≤ n ∧ s.w.length ≤ n ∧ s.t.length ≤ n ∧ s.g.length ≤ n ∧ s.c.length ≤ n
def noS : SumV := ⟨[], [], [], [], []⟩
def bothS (s t : SumV) : SumV := ⟨joinL s.r t.r, joinL s.w t.w, joinL s.t t.t, joinL s.g t.g, joinL s.c t.c⟩
theorem bothS_le {s t : SumV} {n m : Nat} (hs : s.le n) (ht : t.le m) : (bothS s t).le (n + m) := by
  obtain ⟨s1, s2, s3, s4, s5⟩ := hs
  obtain ⟨t1, t2, t3, t4, t5⟩ := ht
  refine ⟨?_, ?_, ?_, ?_, ?_⟩
  · have := joinL_len s.r t.r; show (joinL s.r t.r).length ≤ _; omega
  · have := joinL_len s.w t.w; show (joinL s.w t.w).length ≤ _; omega
  · have := joinL_len s.t t.t; show (joinL s.t t.t).length ≤ _; omega
  · have := joinL_len s.g t.g; show (joinL s.g t.g).length ≤ _; omega
  · have := joinL_len s.c t.c; show (joinL s.c t.c).length ≤ _; omega
/-- A sum, wherever its rows lie. -/
structure SumAt (H : AHeap) (s : SumV) (a b c d e : AV) : Prop where
  r : Lst H s.r a
  w : Lst H s.w b
  t : Lst H s.t c
  g : Lst H s.g d
  c : Lst H s.c e
structure FshAt (H : AHeap) (lo : Nat) (s : SumV) (a b c d e : AV) : Prop where
  r : Fsh H lo s.r a
  w : Fsh H lo s.w b
  t : Fsh H lo s.t c
  g : Fsh H lo s.g d
  c : Fsh H lo s.c e
theorem FshAt.at {H : AHeap} {lo : Nat} {s : SumV} {a b c d e : AV} (h : FshAt H lo s a b c d e) : SumAt H s a b c d e := ⟨h.r.lst, h.w.lst, h.t.lst, h.g.lst, h.c.lst⟩
theorem SumAt.keep {H H' : AHeap} {N : Nat} {s : SumV} {a b c d e : AV} (h : SumAt H s a b c d e) (hF : Fresh H N) (hk : ∀ j, j < N → H' j = H j) : SumAt H' s a b c d e :=
  ⟨h.r.keep hF hk, h.w.keep hF hk, h.t.keep hF hk, h.g.keep hF hk, h.c.keep hF hk⟩
theorem FshAt.keep {H H' : AHeap} {N lo : Nat} {s : SumV} {a b c d e : AV} (h : FshAt H lo s a b c d e) (hF : Fresh H N) (hk : ∀ j, j < N → H' j = H j) : FshAt H' lo s a b c d e :=
  ⟨h.r.keep hF hk, h.w.keep hF hk, h.t.keep hF hk, h.g.keep hF hk, h.c.keep hF hk⟩
theorem FshAt.mono {H : AHeap} {lo lo' : Nat} {s : SumV} {a b c d e : AV} (h : FshAt H lo s a b c d e) (hl : lo' ≤ lo) : FshAt H lo' s a b c d e :=
  ⟨h.r.mono hl, h.w.mono hl, h.t.mono hl, h.g.mono hl, h.c.mono hl⟩
theorem noS_at (H : AHeap) (z : Nat) : SumAt H noS (.sl .nil z []) (.sl .nil z []) (.sl .nil z []) (.sl .nil z []) (.sl .nil z []) := ⟨.nil _ _, .nil _ _, .nil _ _, .nil _ _, .nil _ _⟩

/-- A row behind a block's writing. -/
theorem Fsh.off {H : AHeap} {N : Nat} {o : AObj} {l : List Int} {v : AV} (h : Fsh H (N + 1) l v) : Fsh (H.set N o) N l v := by
  rcases h with h | ⟨h0, id, ds, hlo, rfl, h1, h2, h3⟩
  · exact .inl h
  · exact .inr ⟨h0, id, ds, by omega, rfl, by simp only [AHeap.set]; rw [if_neg (by omega)]; exact h1, h2, h3⟩
theorem p_Both {s t : SumV} {a b c d e a' b' c' d' e' : AV} {H : AHeap} (hs : SumAt H s a b c d e) (ht : SumAt H t a' b' c' d' e') (ls : s.le 500000000) (lt : t.le 500000000) (N : Nat) :
    ACall Tryz.prog 21 [.agg [a, b, c, d, e], .agg [a', b', c', d', e']] H N (fun r H' N' => N ≤ N' ∧ (∀ j, j < N → H' j = H j) ∧ ∃ v1 v2 v3 v4 v5, r = .agg [v1, v2, v3, v4, v5] ∧ FshAt H' N (bothS s t) v1 v2 v3 v4 v5) := by
  obtain ⟨s1, s2, s3, s4, s5⟩ := ls
  obtain ⟨t1, t2, t3, t4, t5⟩ := lt
  refine acallF mixed c_touch_Both (by simp) fun hF => ?_
  have ca := hs.r.cells
  have cb := hs.w.cells
  have cc := hs.t.cells
  have cd := hs.g.cells
  have ce := hs.c.cells
  have ca' := ht.r.cells
  have cb' := ht.w.cells
  have cc' := ht.t.cells
  have cd' := ht.g.cells
  have ce' := ht.c.cells
  simp [a_touch_Both, splice]
  have hF0 : Fresh (H.set N (.blk [.sl .nil 0 [], .sl .nil 0 [], .sl .nil 0 [], .sl .nil 0 [], .sl .nil 0 []])) (N + 1) := hF.set _
  have hk0 : ∀ j, j < N → (H.set N (.blk [.sl .nil 0 [], .sl .nil 0 [], .sl .nil 0 [], .sl .nil 0 [], .sl .nil 0 []])) j = H j := fun j hj => by
    simp only [AHeap.set]; rw [if_neg (by omega)]
  have hs0 := hs.keep hF hk0
  have ht0 := ht.keep hF hk0
  have hb0 : (H.set N (.blk [.sl .nil 0 [], .sl .nil 0 [], .sl .nil 0 [], .sl .nil 0 [], .sl .nil 0 []])) N = some (.blk [.sl .nil 0 [], .sl .nil 0 [], .sl .nil 0 [], .sl .nil 0 [], .sl .nil 0 []]) := by simp [AHeap.set]
  generalize H.set N (.blk [.sl .nil 0 [], .sl .nil 0 [], .sl .nil 0 [], .sl .nil 0 [], .sl .nil 0 []]) = H0 at *
  refine (p_join hs0.r ht0.r (by omega) (N + 1)).monoF ?_
  rintro v1 H1 N1 ⟨hN1, hk1, hv1⟩ hF1 _
  have hs1 := hs0.keep hF0 hk1
  have ht1 := ht0.keep hF0 hk1
  have hb1 := (hk1 N (by omega)).trans hb0
  have cv1 := hv1.lst.cells
  simp
  refine (p_join hs1.w ht1.w (by omega) N1).monoF ?_
  rintro v2 H2 N2 ⟨hN2, hk2, hv2⟩ hF2 _
  have hs2 := hs1.keep hF1 hk2
  have ht2 := ht1.keep hF1 hk2
  have hb2 := (hk2 N (by omega)).trans hb1
  have cv2 := hv2.lst.cells
  simp
  refine (p_join hs2.t ht2.t (by omega) N2).monoF ?_
  rintro v3 H3 N3 ⟨hN3, hk3, hv3⟩ hF3 _
  have hs3 := hs2.keep hF2 hk3
  have ht3 := ht2.keep hF2 hk3
  have hb3 := (hk3 N (by omega)).trans hb2
  have cv3 := hv3.lst.cells
  simp
  refine (p_join hs3.g ht3.g (by omega) N3).monoF ?_
  rintro v4 H4 N4 ⟨hN4, hk4, hv4⟩ hF4 _
  have hs4 := hs3.keep hF3 hk4
  have ht4 := ht3.keep hF3 hk4
  have hb4 := (hk4 N (by omega)).trans hb3
  have cv4 := hv4.lst.cells
  simp
  refine (p_join hs4.c ht4.c (by omega) N4).monoF ?_
  rintro v5 H5 N5 ⟨hN5, hk5, hv5⟩ hF5 _
  have hs5 := hs4.keep hF4 hk5
  have ht5 := ht4.keep hF4 hk5
  have hb5 := (hk5 N (by omega)).trans hb4
  have cv5 := hv5.lst.cells
  have u1 := (((hv1.keep hF1 hk2).keep hF2 hk3).keep hF3 hk4).keep hF4 hk5
  have u2 := ((hv2.keep hF2 hk3).keep hF3 hk4).keep hF4 hk5
  have u3 := (hv3.keep hF3 hk4).keep hF4 hk5
  have u4 := hv4.keep hF4 hk5
  simp [cv1, cv2, cv3, cv4, cv5, hb5, splice, -AV.cells]
  have hne : ∀ j, j < N → (H5.set N (.blk [v1, v2, v3, v4, v5])) j = H5 j := fun j hj => by simp only [AHeap.set]; rw [if_neg (by omega)]
  refine ⟨by omega, fun j hj => ?_, ?_⟩
  · rw [if_neg (by omega)]
    exact (hk5 j (by omega)).trans ((hk4 j (by omega)).trans ((hk3 j (by omega)).trans ((hk2 j (by omega)).trans ((hk1 j (by omega)).trans (hk0 j hj)))))
  · exact ⟨v1, v2, v3, v4, v5, by simp, (u1.mono (by omega)).off, (u2.mono (by omega)).off, (u3.mono (by omega)).off, (u4.mono (by omega)).off, (hv5.mono (by omega)).off⟩
end Go.Proofs.YtanpcmkhhpaeiaaGreatDoor

/- touch: what a Fun does by itself. -/
namespace Go.Proofs.YtanpcmkhhpaeiaaGreatDoor
set_option linter.unusedSimpArgs false
set_option linter.unusedVariables false
open Go Go.Fw
/-- The numbers of one operation, in their row. -/
def numsOf (op : Int) (code : List Ins) : List Int := (code.filter fun x => x.op == op).map (·.n)
theorem numsOf_next (op : Int) (code : List Ins) (x : Ins) : numsOf op (code ++ [x]) = if x.op = op then numsOf op code ++ [x.n] else numsOf op code := by
  unfold numsOf
  rw [List.filter_append, List.map_append]
  by_cases h : x.op = op
  · simp [h]
  · simp [h]
theorem numsOf_len (op : Int) (code : List Ins) : (numsOf op code).length ≤ code.length := by
  unfold numsOf
  rw [List.length_map]
  exact List.length_filter_le _ _
def rawV (code : List Ins) : SumV := ⟨numsOf 5 code, numsOf 6 code, numsOf 7 code, numsOf 8 code, numsOf 10 code⟩
def ownV (code : List Ins) : SumV := bothS (rawV code) noS
/-- One of the rows that grow. -/
def Row1 (H : AHeap) (lo : Nat) (l : List Int) (v : AV) (i : Nat) : Prop := (l = [] ∧ v = .sl .nil 0 []) ∨ (l ≠ [] ∧ lo ≤ i ∧ v = .ms i 0 l.length 1 ∧ H i = some (.blk (l.map i64)))
theorem Row1.lst {H : AHeap} {lo : Nat} {l : List Int} {v : AV} {i : Nat} (h : Row1 H lo l v i) : Lst H l v := by
  rcases h with ⟨rfl, rfl⟩ | ⟨_, _, rfl, h⟩
  · exact .nil _ _
  · exact .inr ⟨i, 0, _, rfl, h, by simp, by rw [List.drop_zero]; exact List.take_of_length_le (by simp)⟩
theorem Row1.keep {H H' : AHeap} {lo : Nat} {l : List Int} {v : AV} {i : Nat} (h : Row1 H lo l v i) (hk : l ≠ [] → lo ≤ i → H' i = H i) : Row1 H' lo l v i := by
  rcases h with h | ⟨h0, h1, h2, h3⟩
  · exact .inl h
  · exact .inr ⟨h0, h1, h2, (hk h0 h1).trans h3⟩
/-- The five rows lie apart. -/
structure Five (H : AHeap) (lo N : Nat) (ls : Nat → List Int) (vs : Nat → AV) (ids : Nat → Nat) : Prop where
  row : ∀ k, k < 5 → Row1 H lo (ls k) (vs k) (ids k)
  ne : ∀ k k', k < 5 → k' < 5 → k ≠ k' → ls k ≠ [] → ls k' ≠ [] → ids k ≠ ids k'
def up {α : Type} (f : Nat → α) (k : Nat) (a : α) : Nat → α := fun i => if i = k then a else f i
theorem Five.push {H : AHeap} {lo N : Nat} {ls : Nat → List Int} {vs : Nat → AV} {ids : Nat → Nat} (h : Five H lo N ls vs ids) (hF : Fresh H N) (hlo : lo ≤ N) {k : Nat} (hk : k < 5) (n : Int) (hl : (ls k).length < 100000000) :
    ∃ H', aappend false 1 8 H N (vs k) (.sl .exact 1 [[i64 n]]) = some (.ms N 0 ((ls k).length + 1) 1, H', N + 1) ∧ Five H' lo (N + 1) (up ls k (ls k ++ [n])) (up vs k (.ms N 0 ((ls k).length + 1) 1)) (up ids k N) ∧ Fresh H' (N + 1) ∧ ∀ j, j < lo → H' j = H j := by
  have hidN : ∀ k', k' < 5 → ls k' ≠ [] → ids k' < N := fun k' hk' h0 => by
    rcases h.row k' hk' with ⟨h1, _⟩ | ⟨_, _, _, h3⟩
    · exact absurd h1 h0
    · exact hF.lt h3
  have key : ∀ H', (∀ i, i ≠ N → ((ls k ≠ [] ∧ i = ids k) ∨ H' i = H i)) → H' N = some (.blk ((ls k ++ [n]).map i64)) → Five H' lo (N + 1) (up ls k (ls k ++ [n])) (up vs k (.ms N 0 ((ls k).length + 1) 1)) (up ids k N) := fun H' hold hnew => by
    refine ⟨fun k' hk' => ?_, fun k1 k2 h1 h2 hne e1 e2 => ?_⟩
    · by_cases he : k' = k
      · subst he
        simp only [up, if_true]
        exact .inr ⟨by simp, hlo, by simp, hnew⟩
      · simp only [up, if_neg he]
        refine (h.row k' hk').keep fun h0 hlo' => ?_
        have hlt := hidN k' hk' h0
        rcases hold (ids k') (by omega) with ⟨h3, h4⟩ | h3
        · exact absurd h4 (h.ne k' k hk' hk he h0 h3)
        · exact h3
    · simp only [up] at e1 e2 ⊢
      by_cases c1 : k1 = k
      · have c2 : ¬ k2 = k := fun h => hne (c1.trans h.symm)
        rw [if_pos c1, if_neg c2]
        rw [if_neg c2] at e2
        have := hidN k2 h2 e2
        omega
      · rw [if_neg c1]
        rw [if_neg c1] at e1
        have hlt := hidN k1 h1 e1
        by_cases c2 : k2 = k
        · rw [if_pos c2]; omega
        · rw [if_neg c2]
          rw [if_neg c2] at e2
          exact h.ne k1 k2 h1 h2 hne e1 e2
  have hsrc : asrc H 1 (.sl .exact 1 [[i64 n]]) = some ([i64 n], 1) := rfl
  rcases h.row k hk with ⟨h1, h2⟩ | ⟨h0, h1, h2, h3⟩
  · refine ⟨H.set N (.blk [i64 n]), ?_, key _ (fun i hi => .inr (by simp only [AHeap.set]; rw [if_neg hi])) (by rw [h1]; simp [AHeap.set]), hF.set _, fun j hj => by simp only [AHeap.set]; rw [if_neg (by omega)]⟩
    rw [h2, h1]
    simp only [aappend, hsrc]
    rfl
  · have hlt := hF.lt h3
    refine ⟨(H.del (ids k)).set N (.blk ((ls k ++ [n]).map i64)), ?_, key _ (fun i hi => ?_) (by simp [AHeap.set]), ?_, fun j hj => ?_⟩
    · rw [h2]
      simp only [aappend, hsrc, h3]
      rw [if_pos ⟨trivial, by simp, by unfold lim; omega, by omega⟩]
      have : ((ls k).map i64).take ((ls k).length * 1) = (ls k).map i64 := List.take_of_length_le (by simp)
      rw [List.drop_zero, this, List.map_append]
      rfl
    · simp only [AHeap.set, AHeap.del]
      rw [if_neg hi]
      by_cases he : i = ids k
      · exact .inl ⟨h0, he⟩
      · rw [if_neg he]; exact .inr rfl
    · intro j hj
      simp only [AHeap.set, AHeap.del]
      rw [if_neg (by omega)]
      split
      · rfl
      · exact hF j (by omega)
    · simp only [AHeap.set, AHeap.del]
      rw [if_neg (by omega), if_neg (by omega)]

theorem RdSl.keepF {H H' : AHeap} {N sz : Nat} {es : List (List AV)} {v : AV} (h : RdSl H sz es v) (hF : Fresh H N) (hk : ∀ j, j < N → H' j = H j) : RdSl H' sz es v := by
  rcases h with h | ⟨id, off, ds, rfl, h1⟩
  · exact .inl h
  · refine .inr ⟨id, off, ds, rfl, h1.imp (fun h => h) fun ⟨h2, h3⟩ => ⟨(hk id (hF.lt h2)).trans h2, h3⟩⟩
def ownTab (o : Nat) : List (Value × AV) := [(.int .u8 5, .mp o 0), (.int .u8 6, .mp o 1), (.int .u8 7, .mp o 2), (.int .u8 8, .mp o 3), (.int .u8 10, .mp o 4)]
theorem own_none {k : Int} {o : Nat} (h : ¬ (k = 5 ∨ k = 6 ∨ k = 7 ∨ k = 8 ∨ k = 10)) : afind (.int .u8 k) (ownTab o) 0 = some none := by
  simp only [not_or] at h
  obtain ⟨h1, h2, h3, h4, h5⟩ := h
  have e1 : (k == 5) = false := by simp [h1]
  have e2 : (k == 6) = false := by simp [h2]
  have e3 : (k == 7) = false := by simp [h3]
  have e4 : (k == 8) = false := by simp [h4]
  have e5 : (k == 10) = false := by simp [h5]
  simp [ownTab, afind, keq, e1, e2, e3, e4, e5]
def nul5 : List AV := [.sl .nil 0 [], .sl .nil 0 [], .sl .nil 0 [], .sl .nil 0 [], .sl .nil 0 []]
def opK : Nat → Int := fun k => match k with | 0 => 5 | 1 => 6 | 2 => 7 | 3 => 8 | _ => 10
def OwnI (H0 : AHeap) (N0 : Nat) (code : List Ins) (j : Nat) (s : St) : Prop :=
  ∃ vs ids, s.H N0 = some (.blk nul5) ∧ s.H (N0 + 1) = some (.blk [vs 0, vs 1, vs 2, vs 3, vs 4]) ∧ s.H (N0 + 2) = some (.map (ownTab (N0 + 1))) ∧ Five s.H (N0 + 3) s.N (fun k => numsOf (opK k) (code.take j)) vs ids ∧ Fresh s.H s.N ∧ N0 + 3 ≤ s.N ∧ ∀ i, i < N0 → s.H i = H0 i

theorem Five.fresh {H : AHeap} {lo N : Nat} {ls : Nat → List Int} {vs : Nat → AV} {ids : Nat → Nat} (h : Five H lo N ls vs ids) (hF : Fresh H N) (o : AObj) : Five (H.set N o) lo (N + 1) ls vs ids := by
  refine ⟨fun k hk => ?_, h.ne⟩
  rcases h.row k hk with h1 | ⟨h0, h1, h2, h3⟩
  · exact .inl h1
  · have := hF.lt h3
    exact .inr ⟨h0, h1, h2, by simp only [AHeap.set]; rw [if_neg (by omega)]; exact h3⟩
theorem Five.low {H : AHeap} {lo N i : Nat} {ls : Nat → List Int} {vs : Nat → AV} {ids : Nat → Nat} (h : Five H lo N ls vs ids) (hi : i < lo) (o : AObj) : Five (H.set i o) lo N ls vs ids :=
  ⟨fun k hk => (h.row k hk).keep fun _ hlo => by simp only [AHeap.set]; rw [if_neg (by omega)], h.ne⟩
theorem Five.congr {H : AHeap} {lo N : Nat} {ls ls' : Nat → List Int} {vs : Nat → AV} {ids : Nat → Nat} (h : Five H lo N ls vs ids) (he : ∀ k, k < 5 → ls' k = ls k) : Five H lo N ls' vs ids := by
  refine ⟨fun k hk => by rw [he k hk]; exact h.row k hk, fun k k' h1 h2 h3 h4 h5 => ?_⟩
  rw [he k h1] at h4
  rw [he k' h2] at h5
  exact h.ne k k' h1 h2 h3 h4 h5
theorem opK_ne {k k' : Nat} (hk : k < 5) (hk' : k' < 5) (h : k' ≠ k) : opK k ≠ opK k' := by
  have hh : ∀ k, k < 5 → ∀ k', k' < 5 → k' ≠ k → opK k ≠ opK k' := by decide
  exact hh k hk k' hk' h
theorem own_next {k : Nat} (hk : k < 5) {x : Ins} (hop : x.op = opK k) (l : List Ins) : ∀ k', k' < 5 → numsOf (opK k') (l ++ [x]) = up (fun i => numsOf (opK i) l) k (numsOf (opK k) l ++ [x.n]) k' := fun k' hk' => by
  rw [numsOf_next, hop]
  by_cases h : k' = k
  · subst h
    simp [up]
  · rw [if_neg (opK_ne hk hk' h)]
    simp [up, h]
theorem own_skip {x : Ins} (hop : ¬ (x.op = 5 ∨ x.op = 6 ∨ x.op = 7 ∨ x.op = 8 ∨ x.op = 10)) (l : List Ins) : ∀ k', k' < 5 → numsOf (opK k') (l ++ [x]) = numsOf (opK k') l := fun k' hk' => by
  rw [numsOf_next, if_neg]
  intro h
  apply hop
  match k', hk' with
  | 0, _ => exact .inl h
  | 1, _ => exact .inr (.inl h)
  | 2, _ => exact .inr (.inr (.inl h))
  | 3, _ => exact .inr (.inr (.inr (.inl h)))
  | 4, _ => exact .inr (.inr (.inr (.inr h)))

theorem p_Own {c0 c1 c2 c3 cv : AV} {code : List Ins} {H : AHeap} (hc : RdSl H 6 (codeCells code) cv) (hk0 : c0.cells = some [c0]) (hk1 : c1.cells = some [c1]) (hk2 : c2.cells = some [c2]) (hk3 : c3.cells = some [c3]) (hl : code.length ≤ 1000000) (N : Nat) :
    ACall Tryz.prog 19 [.agg [c0, c1, c2, c3, cv]] H N (fun r H' N' => N ≤ N' ∧ (∀ j, j < N → H' j = H j) ∧ ∃ v1 v2 v3 v4 v5, r = .agg [v1, v2, v3, v4, v5] ∧ FshAt H' N (ownV code) v1 v2 v3 v4 v5) := by
  refine acallF mixed c_touch_Own (by simp) fun hF => ?_
  have hcc := hc.cells
  have hcl := hc.len
  have hccl : (codeCells code).length = code.length := by simp [codeCells]
  rw [hccl] at hcl
  obtain ⟨lp, elp⟩ : ∃ c, a_touch_Ownb1 = c := ⟨_, rfl⟩
  unfold a_touch_Own
  rw [elp]
  simp [splice, hcl, -alen]
  refine run_loop (fun m s => ∃ j : Nat, j ≤ code.length ∧ m = code.length - j ∧ s.A 17 = cv ∧ s.A 18 = i64 code.length ∧ s.A 19 = i64 j ∧ s.A 4 = .mm (N + 2) ∧ s.A 3 = .mp (N + 1) 0 ∧ s.A 2 = .mp N 0 ∧ OwnI H N code j s) code.length ?_ ?_
  · refine ⟨0, by omega, by omega, by simp, by simp, by simp, by simp, by simp, by simp, fun _ => .sl .nil 0 [], fun _ => 0, ?_, ?_, ?_, ⟨fun k _ => .inl ⟨by simp [numsOf], rfl⟩, fun k k' _ _ _ h => absurd (by simp [numsOf]) h⟩, ?_, by simp, ?_⟩
    · simp [AHeap.set, nul5]
      omega
    · simp [AHeap.set]
    · simp [AHeap.set, ownTab]
    · intro i hi
      simp only at hi
      simp only [AHeap.set]
      repeat rw [if_neg (by omega)]
      exact hF i (by omega)
    · intro i hi
      simp only [AHeap.set]
      repeat rw [if_neg (by omega)]
  · rintro m A1 H1 N1 ⟨j, hj, rfl, e17, e18, e19, e4, e3, e2, vs, ids, hb0, hb1, hb2, h5, hF1, hN1, hold⟩
    simp only at e17 e18 e19 e4 e3 e2 hb0 hb1 hb2 h5 hF1 hN1 hold
    have hcv : ∀ k, k < 5 → (vs k).cells = some [vs k] := fun k hk => (h5.row k hk).lst.cells
    by_cases hjl : j = code.length
    · subst hjl
      have ht : code.take code.length = code := List.take_length
      rw [ht] at h5
      subst elp
      simp [a_touch_Ownb1, e18, e19, e3, hb1]
      have hs : SumAt H1 (rawV code) (vs 0) (vs 1) (vs 2) (vs 3) (vs 4) := ⟨(h5.row 0 (by omega)).lst, (h5.row 1 (by omega)).lst, (h5.row 2 (by omega)).lst, (h5.row 3 (by omega)).lst, (h5.row 4 (by omega)).lst⟩
      have hle : (rawV code).le 500000000 := by
        refine ⟨?_, ?_, ?_, ?_, ?_⟩ <;> exact Nat.le_trans (numsOf_len _ _) (by omega)
      refine (p_Both hs (noS_at H1 0) hle ⟨Nat.zero_le _, Nat.zero_le _, Nat.zero_le _, Nat.zero_le _, Nat.zero_le _⟩ N1).monoF ?_
      rintro r2 H2 N2 ⟨hN2, hk2, v1, v2, v3, v4, v5, rfl, hf⟩ hF2 _
      have g0 := (hk2 N (by omega)).trans hb0
      simp [e2, g0, nul5]
      refine ⟨by omega, fun i hi => ?_, v1, v2, v3, v4, v5, by simp, ?_⟩
      · rw [if_neg (by omega)]
        exact (hk2 i (by omega)).trans (hold i hi)
      · exact ⟨(hf.r.mono (by omega)).off, (hf.w.mono (by omega)).off, (hf.t.mono (by omega)).off, (hf.g.mono (by omega)).off, (hf.c.mono (by omega)).off⟩
    · have hlt : j < code.length := by omega
      have hc1 := RdSl.keepF hc hF hold
      obtain ⟨x, hx⟩ : ∃ x, code[j]? = some x := ⟨code[j], List.getElem?_eq_getElem hlt⟩
      have hxt : code.take (j + 1) = code.take j ++ [x] := by
        rw [take_next hlt]
        simp only [List.getElem?_eq_getElem hlt, Option.some.injEq] at hx
        rw [hx]
      obtain ⟨p, hp, pp⟩ := hc1.at (codeCells_sz code) (i := j) (x := x.cells) (by simp [codeCells, hx])
      have lp6 : aload H1 true 6 p = some (.agg x.cells) := pp.load
      have hxc : x.cells = [u8 x.op, i64 x.r, i64 x.a, i64 x.b, i64 x.n, .sl x.k x.z (intCells x.args)] := rfl
      rw [hxc] at lp6
      have hl6 : (j : Int) < code.length := by omega
      have d1 : ¬ N + 1 = N1 := by omega
      have d2 : ¬ N + 2 = N1 := by omega
      have d0 : ¬ N = N1 := by omega
      subst elp
      simp [a_touch_Ownb1, e17, e18, e19, e4, e3, e2, hl6, hp, lp6, splice, -aload]
      have hwj : IntKind.i64.wrap ((j : Int) + 1) = ((j + 1 : Nat) : Int) := by rw [wrap_i64 (by omega) (by omega)]; rfl
      by_cases hop : x.op = 5 ∨ x.op = 6 ∨ x.op = 7 ∨ x.op = 8 ∨ x.op = 10
      · rcases hop with hop | hop | hop | hop | hop
        · have hfk : afind (.int .u8 5) (ownTab (N + 1)) 0 = some (some 0) := rfl
          have hgk : (ownTab (N + 1))[0]? = some (.int .u8 5, .mp (N + 1) 0) := rfl
          obtain ⟨H', happ, h5', hF', hold'⟩ := (h5.fresh hF1 (.blk [u8 5, i64 x.r, i64 x.a, i64 x.b, i64 x.n, .sl x.k x.z (intCells x.args)])).push (hF1.set _) (by omega) (k := 0) (by omega) x.n (by have := numsOf_len (opK 0) (code.take j); rw [List.length_take] at this; omega)
          have b0 : H' N = some (.blk nul5) := by rw [hold' N (by omega)]; simp [AHeap.set, d0, hb0]
          have b1 : H' (N + 1) = some (.blk [vs 0, vs 1, vs 2, vs 3, vs 4]) := by rw [hold' (N + 1) (by omega)]; simp [AHeap.set, d1, hb1]
          have b2 : H' (N + 2) = some (.map (ownTab (N + 1))) := by rw [hold' (N + 2) (by omega)]; simp [AHeap.set, d2, hb2]
          have hc0 := hcv 0 (by omega)
          have hnx := own_next (k := 0) (by omega) hop (code.take j)
          rw [hop] at *
          simp [e17, e18, e19, e4, e3, e2, splice, alook, hfk, hgk, hb1, hb2, d1, d2, hwj, happ, b1, hc0, -AV.cells]
          refine ⟨code.length - (j + 1), by omega, j + 1, by omega, rfl, rfl, up vs 0 (.ms (N1 + 1) 0 ((numsOf (opK 0) (code.take j)).length + 1) 1), up ids 0 (N1 + 1), by simp [AHeap.set, b0], by simp [AHeap.set, up], by simp [AHeap.set, b2], (h5'.low (by omega) _).congr (fun k' hk' => by rw [hxt]; exact hnx k' hk'), fun i hi => ?_, by show N + 3 ≤ N1 + 1 + 1; omega, fun i hi => ?_⟩
          · have hi' : N1 + 1 + 1 ≤ i := hi
            simp only [AHeap.set]
            rw [if_neg (by omega)]
            exact hF' i hi'
          · simp only [AHeap.set]
            rw [if_neg (by omega), hold' i (by omega)]
            simp only [AHeap.set]
            rw [if_neg (by omega)]
            exact hold i hi
        · have hfk : afind (.int .u8 6) (ownTab (N + 1)) 0 = some (some 1) := rfl
          have hgk : (ownTab (N + 1))[1]? = some (.int .u8 6, .mp (N + 1) 1) := rfl
          obtain ⟨H', happ, h5', hF', hold'⟩ := (h5.fresh hF1 (.blk [u8 6, i64 x.r, i64 x.a, i64 x.b, i64 x.n, .sl x.k x.z (intCells x.args)])).push (hF1.set _) (by omega) (k := 1) (by omega) x.n (by have := numsOf_len (opK 1) (code.take j); rw [List.length_take] at this; omega)
          have b0 : H' N = some (.blk nul5) := by rw [hold' N (by omega)]; simp [AHeap.set, d0, hb0]
          have b1 : H' (N + 1) = some (.blk [vs 0, vs 1, vs 2, vs 3, vs 4]) := by rw [hold' (N + 1) (by omega)]; simp [AHeap.set, d1, hb1]
          have b2 : H' (N + 2) = some (.map (ownTab (N + 1))) := by rw [hold' (N + 2) (by omega)]; simp [AHeap.set, d2, hb2]
          have hc0 := hcv 1 (by omega)
          have hnx := own_next (k := 1) (by omega) hop (code.take j)
          rw [hop] at *
          simp [e17, e18, e19, e4, e3, e2, splice, alook, hfk, hgk, hb1, hb2, d1, d2, hwj, happ, b1, hc0, -AV.cells]
          refine ⟨code.length - (j + 1), by omega, j + 1, by omega, rfl, rfl, up vs 1 (.ms (N1 + 1) 0 ((numsOf (opK 1) (code.take j)).length + 1) 1), up ids 1 (N1 + 1), by simp [AHeap.set, b0], by simp [AHeap.set, up], by simp [AHeap.set, b2], (h5'.low (by omega) _).congr (fun k' hk' => by rw [hxt]; exact hnx k' hk'), fun i hi => ?_, by show N + 3 ≤ N1 + 1 + 1; omega, fun i hi => ?_⟩
          · have hi' : N1 + 1 + 1 ≤ i := hi
            simp only [AHeap.set]
            rw [if_neg (by omega)]
            exact hF' i hi'
          · simp only [AHeap.set]
            rw [if_neg (by omega), hold' i (by omega)]
            simp only [AHeap.set]
            rw [if_neg (by omega)]
            exact hold i hi
        · have hfk : afind (.int .u8 7) (ownTab (N + 1)) 0 = some (some 2) := rfl
          have hgk : (ownTab (N + 1))[2]? = some (.int .u8 7, .mp (N + 1) 2) := rfl
          obtain ⟨H', happ, h5', hF', hold'⟩ := (h5.fresh hF1 (.blk [u8 7, i64 x.r, i64 x.a, i64 x.b, i64 x.n, .sl x.k x.z (intCells x.args)])).push (hF1.set _) (by omega) (k := 2) (by omega) x.n (by have := numsOf_len (opK 2) (code.take j); rw [List.length_take] at this; omega)
          have b0 : H' N = some (.blk nul5) := by rw [hold' N (by omega)]; simp [AHeap.set, d0, hb0]
          have b1 : H' (N + 1) = some (.blk [vs 0, vs 1, vs 2, vs 3, vs 4]) := by rw [hold' (N + 1) (by omega)]; simp [AHeap.set, d1, hb1]
          have b2 : H' (N + 2) = some (.map (ownTab (N + 1))) := by rw [hold' (N + 2) (by omega)]; simp [AHeap.set, d2, hb2]
          have hc0 := hcv 2 (by omega)
          have hnx := own_next (k := 2) (by omega) hop (code.take j)
          rw [hop] at *
          simp [e17, e18, e19, e4, e3, e2, splice, alook, hfk, hgk, hb1, hb2, d1, d2, hwj, happ, b1, hc0, -AV.cells]
          refine ⟨code.length - (j + 1), by omega, j + 1, by omega, rfl, rfl, up vs 2 (.ms (N1 + 1) 0 ((numsOf (opK 2) (code.take j)).length + 1) 1), up ids 2 (N1 + 1), by simp [AHeap.set, b0], by simp [AHeap.set, up], by simp [AHeap.set, b2], (h5'.low (by omega) _).congr (fun k' hk' => by rw [hxt]; exact hnx k' hk'), fun i hi => ?_, by show N + 3 ≤ N1 + 1 + 1; omega, fun i hi => ?_⟩
          · have hi' : N1 + 1 + 1 ≤ i := hi
            simp only [AHeap.set]
            rw [if_neg (by omega)]
            exact hF' i hi'
          · simp only [AHeap.set]
            rw [if_neg (by omega), hold' i (by omega)]
            simp only [AHeap.set]
            rw [if_neg (by omega)]
            exact hold i hi
        · have hfk : afind (.int .u8 8) (ownTab (N + 1)) 0 = some (some 3) := rfl
          have hgk : (ownTab (N + 1))[3]? = some (.int .u8 8, .mp (N + 1) 3) := rfl
          obtain ⟨H', happ, h5', hF', hold'⟩ := (h5.fresh hF1 (.blk [u8 8, i64 x.r, i64 x.a, i64 x.b, i64 x.n, .sl x.k x.z (intCells x.args)])).push (hF1.set _) (by omega) (k := 3) (by omega) x.n (by have := numsOf_len (opK 3) (code.take j); rw [List.length_take] at this; omega)
          have b0 : H' N = some (.blk nul5) := by rw [hold' N (by omega)]; simp [AHeap.set, d0, hb0]
          have b1 : H' (N + 1) = some (.blk [vs 0, vs 1, vs 2, vs 3, vs 4]) := by rw [hold' (N + 1) (by omega)]; simp [AHeap.set, d1, hb1]
          have b2 : H' (N + 2) = some (.map (ownTab (N + 1))) := by rw [hold' (N + 2) (by omega)]; simp [AHeap.set, d2, hb2]
          have hc0 := hcv 3 (by omega)
          have hnx := own_next (k := 3) (by omega) hop (code.take j)
          rw [hop] at *
          simp [e17, e18, e19, e4, e3, e2, splice, alook, hfk, hgk, hb1, hb2, d1, d2, hwj, happ, b1, hc0, -AV.cells]
          refine ⟨code.length - (j + 1), by omega, j + 1, by omega, rfl, rfl, up vs 3 (.ms (N1 + 1) 0 ((numsOf (opK 3) (code.take j)).length + 1) 1), up ids 3 (N1 + 1), by simp [AHeap.set, b0], by simp [AHeap.set, up], by simp [AHeap.set, b2], (h5'.low (by omega) _).congr (fun k' hk' => by rw [hxt]; exact hnx k' hk'), fun i hi => ?_, by show N + 3 ≤ N1 + 1 + 1; omega, fun i hi => ?_⟩
          · have hi' : N1 + 1 + 1 ≤ i := hi
            simp only [AHeap.set]
            rw [if_neg (by omega)]
            exact hF' i hi'
          · simp only [AHeap.set]
            rw [if_neg (by omega), hold' i (by omega)]
            simp only [AHeap.set]
            rw [if_neg (by omega)]
            exact hold i hi
        · have hfk : afind (.int .u8 10) (ownTab (N + 1)) 0 = some (some 4) := rfl
          have hgk : (ownTab (N + 1))[4]? = some (.int .u8 10, .mp (N + 1) 4) := rfl
          obtain ⟨H', happ, h5', hF', hold'⟩ := (h5.fresh hF1 (.blk [u8 10, i64 x.r, i64 x.a, i64 x.b, i64 x.n, .sl x.k x.z (intCells x.args)])).push (hF1.set _) (by omega) (k := 4) (by omega) x.n (by have := numsOf_len (opK 4) (code.take j); rw [List.length_take] at this; omega)
          have b0 : H' N = some (.blk nul5) := by rw [hold' N (by omega)]; simp [AHeap.set, d0, hb0]
          have b1 : H' (N + 1) = some (.blk [vs 0, vs 1, vs 2, vs 3, vs 4]) := by rw [hold' (N + 1) (by omega)]; simp [AHeap.set, d1, hb1]
          have b2 : H' (N + 2) = some (.map (ownTab (N + 1))) := by rw [hold' (N + 2) (by omega)]; simp [AHeap.set, d2, hb2]
          have hc0 := hcv 4 (by omega)
          have hnx := own_next (k := 4) (by omega) hop (code.take j)
          rw [hop] at *
          simp [e17, e18, e19, e4, e3, e2, splice, alook, hfk, hgk, hb1, hb2, d1, d2, hwj, happ, b1, hc0, -AV.cells]
          refine ⟨code.length - (j + 1), by omega, j + 1, by omega, rfl, rfl, up vs 4 (.ms (N1 + 1) 0 ((numsOf (opK 4) (code.take j)).length + 1) 1), up ids 4 (N1 + 1), by simp [AHeap.set, b0], by simp [AHeap.set, up], by simp [AHeap.set, b2], (h5'.low (by omega) _).congr (fun k' hk' => by rw [hxt]; exact hnx k' hk'), fun i hi => ?_, by show N + 3 ≤ N1 + 1 + 1; omega, fun i hi => ?_⟩
          · have hi' : N1 + 1 + 1 ≤ i := hi
            simp only [AHeap.set]
            rw [if_neg (by omega)]
            exact hF' i hi'
          · simp only [AHeap.set]
            rw [if_neg (by omega), hold' i (by omega)]
            simp only [AHeap.set]
            rw [if_neg (by omega)]
            exact hold i hi
      · have hfn := own_none (o := N + 1) hop
        simp [e17, e18, e19, e4, e3, e2, splice, alook, hfn, hb2, d2, hwj]
        refine ⟨code.length - (j + 1), by omega, j + 1, by omega, rfl, rfl, vs, ids, by simp [AHeap.set, d0, hb0], by simp [AHeap.set, d1, hb1], by simp [AHeap.set, d2, hb2], (h5.fresh hF1 _).congr (fun k' hk' => by rw [hxt]; exact own_skip hop _ k' hk'), hF1.set _, by show N + 3 ≤ N1 + 1; omega, fun i hi => ?_⟩
        simp only [AHeap.set]
        rw [if_neg (by omega)]
        exact hold i hi
end Go.Proofs.YtanpcmkhhpaeiaaGreatDoor

/- touch: the reference's rows. -/
namespace Go.Proofs.YtanpcmkhhpaeiaaGreatDoor
set_option linter.unusedSimpArgs false
set_option linter.unusedVariables false
open Go Go.Fw
/-- A number more, where it belongs. -/
def addL : List Int → Int → List Int
  | [], n => [n]
  | a :: r, n => if a < n then a :: addL r n else if a = n then a :: r else n :: a :: r
theorem addL_mem : ∀ (l : List Int) (n v : Int), v ∈ addL l n ↔ v ∈ l ∨ v = n
  | [], n, v => by simp [addL]
  | a :: r, n, v => by
    simp only [addL]
    split
    · rw [List.mem_cons, addL_mem r n v, List.mem_cons, or_assoc]
    · split
      · rename_i h; subst h; constructor
        · exact .inl
        · rintro (h | rfl)
          · exact h
          · simp
      · simp only [List.mem_cons]
        constructor
        · rintro (h | h | h)
          · exact .inr h
          · exact .inl (.inl h)
          · exact .inl (.inr h)
        · rintro ((h | h) | h)
          · exact .inr (.inl h)
          · exact .inr (.inr h)
          · exact .inl h
theorem addL_lt : ∀ {l : List Int} (n : Int), l.Pairwise (· < ·) → (addL l n).Pairwise (· < ·)
  | [], n, _ => by simp [addL]
  | a :: r, n, h => by
    rw [List.pairwise_cons] at h
    simp only [addL]
    split
    · rw [List.pairwise_cons]
      refine ⟨fun v hv => ?_, addL_lt n h.2⟩
      rcases (addL_mem r n v).1 hv with h1 | rfl
      · exact h.1 v h1
      · assumption
    · split
      · rw [List.pairwise_cons]; exact h
      · rw [List.pairwise_cons, List.pairwise_cons]
        refine ⟨fun v hv => ?_, h⟩
        rcases List.mem_cons.1 hv with rfl | h1
        · omega
        · have := h.1 v h1; omega
theorem addL_len : ∀ (l : List Int) (n : Int), (addL l n).length ≤ l.length + 1
  | [], n => by simp [addL]
  | a :: r, n => by
    simp only [addL]
    split
    · have := addL_len r n; simp; omega
    · split <;> simp
theorem addL_at : ∀ {l : List Int} {n : Int} {j : Nat}, (∀ (i : Nat) (y : Int), i < j → l[i]? = some y → y < n) → j ≤ l.length → (∀ y, l[j]? = some y → ¬ y < n) → addL l n = if l[j]? = some n then l else l.take j ++ [n] ++ l.drop j
  | [], n, j, h1, h2, h3 => by
    have : j = 0 := by simpa using h2
    subst this
    simp [addL]
  | a :: r, n, 0, h1, h2, h3 => by
    have h := h3 a rfl
    simp only [addL, if_neg h]
    by_cases he : a = n
    · simp [he]
    · simp [he]
  | a :: r, n, j + 1, h1, h2, h3 => by
    have ha := h1 0 a (by omega) rfl
    have ih := addL_at (l := r) (n := n) (j := j) (fun i y hi hy => h1 (i + 1) y (by omega) (by simpa using hy)) (by simpa using h2) (fun y hy => h3 y (by simpa using hy))
    simp only [addL, if_pos ha, ih, List.getElem?_cons_succ]
    split <;> simp
theorem fold_mem : ∀ (l : List Int) (acc : List Int) (v : Int), v ∈ l.foldl addL acc ↔ v ∈ acc ∨ v ∈ l
  | [], acc, v => by simp
  | x :: l, acc, v => by
    rw [List.foldl_cons, fold_mem l, addL_mem, List.mem_cons, or_assoc]
theorem fold_lt : ∀ (l : List Int) {acc : List Int}, acc.Pairwise (· < ·) → (l.foldl addL acc).Pairwise (· < ·)
  | [], acc, h => h
  | x :: l, acc, h => by rw [List.foldl_cons]; exact fold_lt l (addL_lt x h)
theorem fold_len : ∀ (l : List Int) (acc : List Int), (l.foldl addL acc).length ≤ acc.length + l.length
  | [], acc => by simp
  | x :: l, acc => by
    rw [List.foldl_cons]
    have := fold_len l (addL acc x)
    have := addL_len acc x
    simp only [List.length_cons]; omega
theorem fold_join (a b : List Int) : (a ++ b).foldl addL [] = joinL a b :=
  eq_of_lt _ _ (fold_lt _ List.Pairwise.nil) (joinL_lt a b) fun v => by rw [fold_mem, joinL_mem, List.mem_append]; simp
theorem fold_take {l : List Int} {j : Nat} {x : Int} (h : l[j]? = some x) : (l.take (j + 1)).foldl addL [] = addL ((l.take j).foldl addL []) x := by
  have hlt := (List.getElem?_eq_some_iff.1 h).1
  have he := (List.getElem?_eq_some_iff.1 h).2
  rw [take_next hlt, List.foldl_append, he]
  rfl

theorem lst_take {H : AHeap} {l : List Int} {v : AV} (h : Lst H l v) {j : Nat} (hj : j ≤ l.length) : ∃ y, aslice 1 v none (some (i64 j)) none = some y ∧ Lst H (l.take j) y := by
  rcases h with ⟨k, z, rfl, hz⟩ | ⟨id, off, ds, rfl, h1, h2, h3⟩
  · refine ⟨_, ?_, .inl ⟨askind k false, z, rfl, hz.imp id fun h => by rw [h]; simp⟩⟩
    simp only [aslice, bnd]
    rw [if_pos ⟨hz.imp id fun h => by rw [h]; rfl, by omega, by omega, by rw [intCells_len]; omega⟩]
    simp [intCells, List.map_take]
  · refine ⟨_, ?_, .inr ⟨id, off, ds, rfl, h1, by rw [List.length_take]; omega, ?_⟩⟩
    · simp only [aslice, bnd]
      rw [if_pos ⟨trivial, by omega, by omega, by omega⟩]
      simp
      omega
    · rw [List.length_take, Nat.min_eq_left hj, List.map_take, ← h3, List.take_take, Nat.min_eq_left hj]
theorem lst_drop {H : AHeap} {l : List Int} {v : AV} (h : Lst H l v) {j : Nat} (hj : j ≤ l.length) : ∃ y, aslice 1 v (some (i64 j)) none none = some y ∧ Lst H (l.drop j) y := by
  rcases h with ⟨k, z, rfl, hz⟩ | ⟨id, off, ds, rfl, h1, h2, h3⟩
  · refine ⟨_, ?_, .inl ⟨askind k false, z, rfl, hz.imp id fun h => by rw [h]; simp⟩⟩
    simp only [aslice, bnd]
    rw [if_pos ⟨hz.imp id fun h => by rw [h]; rfl, by omega, by rw [intCells_len]; omega, by omega⟩]
    simp [intCells, List.map_drop]
    exact List.take_of_length_le (by simp)
  · refine ⟨_, ?_, .inr ⟨id, off + j, ds, rfl, h1, by rw [List.length_drop]; omega, ?_⟩⟩
    · simp only [aslice, bnd]
      rw [if_pos ⟨trivial, by omega, by omega, by omega⟩]
      simp
    · rw [List.length_drop, List.map_drop, ← h3, List.drop_take, List.drop_drop]

theorem Lst.get {H : AHeap} {l : List Int} {v : AV} (h : Lst H l v) {j : Nat} {x : Int} (hx : l[j]? = some x) : ∃ p, aindex 1 v (i64 j) = some p ∧ aload H false 1 p = some (i64 x) := by
  obtain ⟨p, h1, h2⟩ := h.rd.at (fun x hx => by simp [intCells] at hx; obtain ⟨_, _, rfl⟩ := hx; rfl) (i := j) (x := [i64 x]) (by simp [intCells, hx])
  exact ⟨p, h1, h2.one⟩

theorem built_fsh {H : AHeap} {lo : Nat} {l : List Int} {v z : AV} (h : Built H lo 1 z (intCells l) v) (hn : l ≠ []) : Fsh H lo l v := by
  obtain ⟨_, ⟨h1, _⟩ | ⟨_, id, h1, h2, h3⟩⟩ := h
  · exact absurd (List.map_eq_nil_iff.1 h1) hn
  · rw [intCells_len] at h2
    rw [intCells_flat] at h3
    exact .inr ⟨hn, id, _, h1, h2, h3, by simp, List.take_of_length_le (by simp)⟩
theorem icell (l : List Int) : ∀ x ∈ intCells l, x.length = 1 := fun x hx => by simp [intCells] at hx; obtain ⟨_, _, rfl⟩ := hx; rfl
section
variable {A : Nat → AV} {H : AHeap} {N lo : Nat} {fs : List Fr} {Q : Post}
theorem add_r {c : ACode} (hc : a_add_r = c) {l : List Int} {v : AV} {n : Int} {j : Nat} (h : Fsh H lo l v) (hlo : lo ≤ N) (hl : l.length ≤ 1000000000) (hF : Fresh H N) (h0 : A 0 = v) (h1 : A 1 = i64 n) (h5 : A 5 = i64 j) (hj : j ≤ l.length)
    (hlt : ∀ (i : Nat) (y : Int), i < j → l[i]? = some y → y < n) (hge : ∀ y, l[j]? = some y → ¬ y < n)
    (hk : ∀ A' H' N', N ≤ N' → (∀ j, j < N → H' j = H j) → Fsh H' lo (addL l n) (A' 4) → onward Tryz.prog fs Q .ret ⟨A', H', N'⟩) : run Tryz.prog c fs Q ⟨A, H, N⟩ := by
  subst hc
  have hlst := h.lst
  have hc := hlst.cells
  have hn := hlst.len
  have hadd := addL_at hlt hj hge
  have grow : ¬ l[j]? = some n → ∃ y1 y2 w1 H1 N1 w2 H2 N2 w3 H3 N3, aslice 1 v none (some (i64 j)) none = some y1 ∧ aslice 1 v (some (i64 j)) none none = some y2 ∧ aappend false 1 8 H N (.sl .exact 1 []) y1 = some (w1, H1, N1) ∧ aappend false 1 8 H1 N1 w1 (.sl .exact 1 [[i64 n]]) = some (w2, H2, N2) ∧
      aappend false 1 8 H2 N2 w2 y2 = some (w3, H3, N3) ∧ w1.cells = some [w1] ∧ w2.cells = some [w2] ∧ w3.cells = some [w3] ∧ N ≤ N3 ∧ (∀ j, j < N → H3 j = H j) ∧ Fsh H3 lo (addL l n) w3 := fun hne => by
    obtain ⟨y1, s1, l1⟩ := lst_take hlst hj
    obtain ⟨y2, s2, l2⟩ := lst_drop hlst hj
    have b0 : Built H N 1 (.sl .exact 1 []) [] (.sl .exact 1 []) := .empty
    obtain ⟨w1, H1, N1, a1, b1, k1, m1, f1⟩ := b0.append hF (Nat.le_refl _) (ns := intCells (l.take j)) (bytes := 8) (y := y1) (by rw [intCells_flat, intCells_len]; exact l1.src) (icell _) (by rw [intCells_len, List.length_take]; unfold lim; simp; omega) (by rw [intCells_len, List.length_take]; simp; omega)
    obtain ⟨w2, H2, N2, a2, b2, k2, m2, f2⟩ := b1.push f1 m1 (x := [i64 n]) (k := .exact) (bytes := 8) rfl (by rw [List.nil_append, intCells_len, List.length_take]; unfold lim; omega) (by rw [List.nil_append, intCells_len, List.length_take]; omega)
    have l3 := (l2.keep hF k1)
    have l4 : Lst H2 (l.drop j) y2 := l2.keep hF fun i hi => (k2 i hi).trans (k1 i hi) |>.trans rfl
    obtain ⟨w3, H3, N3, a3, b3, k3, m3, f3⟩ := b2.append f2 (by omega) (ns := intCells (l.drop j)) (bytes := 8) (y := y2) (by rw [intCells_flat, intCells_len]; exact l4.src) (icell _) (by simp [intCells]; unfold lim; omega) (by simp [intCells]; omega)
    have heq : [] ++ intCells (l.take j) ++ [[i64 n]] ++ intCells (l.drop j) = intCells (addL l n) := by
      rw [hadd, if_neg hne]
      simp [intCells]
    rw [heq] at b3
    refine ⟨y1, y2, w1, H1, N1, w2, H2, N2, w3, H3, N3, s1, s2, a1, a2, a3, b1.rd.cells, b2.rd.cells, b3.rd.cells, by omega, fun i hi => (k3 i hi).trans ((k2 i hi).trans (k1 i hi)) |>.trans rfl, ?_⟩
    exact (built_fsh b3 (by rw [hadd, if_neg hne]; simp)).mono hlo
  by_cases hjl : j < l.length
  · obtain ⟨x, hx⟩ : ∃ x, l[j]? = some x := ⟨l[j], List.getElem?_eq_getElem hjl⟩
    obtain ⟨p, hp, hld⟩ := hlst.get hx
    have hj2 : (j : Int) < l.length := by omega
    by_cases hxn : x = n
    · subst hxn
      rw [if_pos hx] at hadd
      simp [a_add_r, h0, h1, h5, hn, hj2, hp, hld, -alen, -aload]
      refine hk _ _ _ (Nat.le_refl _) (fun _ _ => rfl) ?_
      rw [hadd]
      simpa using h
    · obtain ⟨y1, y2, w1, H1, N1, w2, H2, N2, w3, H3, N3, s1, s2, a1, a2, a3, c1, c2, c3, m3, k3, f3⟩ := grow (by rw [hx]; simpa using hxn)
      simp [a_add_r, h0, h1, h5, hn, hj2, hp, hld, hxn, s1, s2, a1, a2, a3, c1, c2, c3, splice, -alen, -aload, -AV.cells]
      exact hk _ _ _ m3 k3 (by simpa using f3)
  · obtain ⟨y1, y2, w1, H1, N1, w2, H2, N2, w3, H3, N3, s1, s2, a1, a2, a3, c1, c2, c3, m3, k3, f3⟩ := grow (by rw [List.getElem?_eq_none (by omega)]; simp)
    have hj2 : ¬ (j : Int) < l.length := by omega
    simp [a_add_r, h0, h1, h5, hn, hj2, s1, s2, a1, a2, a3, c1, c2, c3, splice, -alen, -AV.cells]
    exact hk _ _ _ m3 k3 (by simpa using f3)
end
end Go.Proofs.YtanpcmkhhpaeiaaGreatDoor

/- touch: the reference's sums. -/
namespace Go.Proofs.YtanpcmkhhpaeiaaGreatDoor
set_option linter.unusedSimpArgs false
set_option linter.unusedVariables false
open Go Go.Fw
theorem p_Add {l : List Int} {v : AV} {n : Int} {H : AHeap} {N lo : Nat} (h : Fsh H lo l v) (hlo : lo ≤ N) (hl : l.length ≤ 1000000000) :
    ACall Tryz.prog 33 [v, i64 n] H N (fun r H' N' => N ≤ N' ∧ (∀ j, j < N → H' j = H j) ∧ Fsh H' lo (addL l n) r) := by
  obtain ⟨cr, er⟩ : ∃ c, a_add_r = c := ⟨_, rfl⟩
  refine acallF mixed c_bobbinref18_Add (by simp) fun hF => ?_
  have hlst := h.lst
  have hc := hlst.cells
  have hn := hlst.len
  unfold a_bobbinref18_Add
  rw [er]
  simp
  refine run_loop (fun m s => ∃ j : Nat, j ≤ l.length ∧ m = l.length - j ∧ s.A 0 = v ∧ s.A 1 = i64 n ∧ s.A 5 = i64 j ∧ s.H = H ∧ s.N = N ∧ ∀ (i : Nat) (y : Int), i < j → l[i]? = some y → y < n) l.length ?_ ?_
  · exact ⟨0, by omega, by omega, by simp, by simp, by simp, rfl, rfl, fun i y hi => absurd hi (by omega)⟩
  · rintro m A1 H1 N1 ⟨j, hj, rfl, e0, e1, e5, rfl, rfl, hlt⟩
    simp only at e0 e1 e5
    have fin2 : ∀ A' H' N', N1 ≤ N' → (∀ j, j < N1 → H' j = H1 j) → Fsh H' lo (addL l n) (A' 4) → onward Tryz.prog [] (fin [.tmp 4] fun r H' N' => N1 ≤ N' ∧ (∀ j, j < N1 → H' j = H1 j) ∧ Fsh H' lo (addL l n) r) .ret ⟨A', H', N'⟩ := fun A' H' N' q1 q2 q3 => by
      have q4 := q3.lst.cells
      simp [q4]
      exact ⟨q1, q2, q3⟩
    by_cases hjl : j < l.length
    · obtain ⟨x, hx⟩ : ∃ x, l[j]? = some x := ⟨l[j], List.getElem?_eq_getElem hjl⟩
      obtain ⟨p, hp, hld⟩ := hlst.get hx
      have hj2 : (j : Int) < l.length := by omega
      by_cases hxn : x < n
      · simp [a_bobbinref18_Addb1, e0, e1, e5, hn, hj2, hp, hld, hxn, -alen, -aload]
        refine ⟨l.length - (j + 1), by omega, j + 1, by omega, rfl, by rw [wrap_i64 (by omega) (by omega)]; rfl, fun i y hi hy => ?_⟩
        by_cases he : i = j
        · subst he; rw [hx] at hy; cases hy; exact hxn
        · exact hlt i y (by omega) hy
      · simp [a_bobbinref18_Addb1, e0, e1, e5, hn, hj2, hp, hld, hxn, -alen, -aload]
        exact add_r er (v := v) (n := n) (l := l) h hlo hl hF (by simp [e0]) (by simp [e1]) (by simp [e5]) hj hlt (fun y hy => by rw [hx] at hy; cases hy; exact hxn) fin2
    · have hj2 : ¬ (j : Int) < l.length := by omega
      simp [a_bobbinref18_Addb1, e0, e1, e5, hn, hj2, -alen]
      exact add_r er (v := v) (n := n) (l := l) h hlo hl hF (by simp [e0]) (by simp [e1]) (by simp [e5]) hj hlt (fun y hy => by rw [List.getElem?_eq_none (by omega)] at hy; cases hy) fin2

theorem p_refJoin {la lb : List Int} {a b : AV} {H : AHeap} (ha : Lst H la a) (hb : Lst H lb b) (hl : la.length + lb.length ≤ 1000000000) (N : Nat) :
    ACall Tryz.prog 35 [a, b] H N (fun r H' N' => N ≤ N' ∧ (∀ j, j < N → H' j = H j) ∧ Fsh H' N (joinL la lb) r) := by
  refine acallF mixed c_bobbinref18_Join (by simp) fun hF => ?_
  have hna := ha.len
  have hnb := hb.len
  simp [a_bobbinref18_Join]
  refine run_loop (fun m s => ∃ (j : Nat) (v : AV), j ≤ la.length ∧ m = la.length - j ∧ s.A 0 = a ∧ s.A 1 = b ∧ s.A 5 = v ∧ s.A 6 = i64 j ∧ Fsh s.H N ((la.take j).foldl addL []) v ∧ N ≤ s.N ∧ ∀ i, i < N → s.H i = H i) la.length ?_ ?_
  · exact ⟨0, .sl .nil 0 [], by omega, by omega, by simp, by simp, by simp, by simp, .inl ⟨rfl, rfl⟩, Nat.le_refl _, fun _ _ => rfl⟩
  · rintro m A1 H1 N1 ⟨j, v, hj, rfl, e0, e1, e5, e6, hv, hN1, hk1⟩
    simp only at e0 e1 e5 e6 hv hN1 hk1
    by_cases hjl : j < la.length
    · obtain ⟨x, hx⟩ : ∃ x, la[j]? = some x := ⟨la[j], List.getElem?_eq_getElem hjl⟩
      obtain ⟨p, hp, hld⟩ := (ha.keep hF hk1).get hx
      have hj2 : (j : Int) < la.length := by omega
      simp [a_bobbinref18_Joinb2, e0, e1, e5, e6, hna, hj2, hp, hld, -alen, -aload]
      refine (p_Add hv hN1 (by have := fold_len (la.take j) []; rw [List.length_take] at this; simp at this; omega)).mono ?_
      rintro r H2 N2 ⟨hN2, hk2, hv2⟩
      simp [e0, e1, e6]
      rw [← fold_take hx] at hv2
      refine ⟨la.length - (j + 1), by omega, j + 1, by omega, rfl, by rw [wrap_i64 (by omega) (by omega)]; rfl, hv2, by omega, fun i hi => (hk2 i (by omega)).trans (hk1 i hi)⟩
    · have hje : j = la.length := by omega
      have hj2 : ¬ (j : Int) < la.length := by omega
      rw [hje, List.take_length] at hv
      simp [a_bobbinref18_Joinb2, e0, e1, e5, e6, hna, hj2, -alen]
      refine run_loop (fun m s => ∃ (j : Nat) (v : AV), j ≤ lb.length ∧ m = lb.length - j ∧ s.A 1 = b ∧ s.A 5 = v ∧ s.A 7 = i64 j ∧ Fsh s.H N ((lb.take j).foldl addL (la.foldl addL [])) v ∧ N ≤ s.N ∧ ∀ i, i < N → s.H i = H i) lb.length ?_ ?_
      · exact ⟨0, v, by omega, by omega, by simp [e1], by simp [e5], by simp, hv, hN1, hk1⟩
      · rintro m A3 H3 N3 ⟨j, v, hj, rfl, e1, e5, e7, hv, hN3, hk3⟩
        simp only at e1 e5 e7 hv hN3 hk3
        by_cases hjl : j < lb.length
        · obtain ⟨x, hx⟩ : ∃ x, lb[j]? = some x := ⟨lb[j], List.getElem?_eq_getElem hjl⟩
          obtain ⟨p, hp, hld⟩ := (hb.keep hF hk3).get hx
          have hj2 : (j : Int) < lb.length := by omega
          simp [a_bobbinref18_Joinb1, e1, e5, e7, hnb, hj2, hp, hld, -alen, -aload]
          refine (p_Add hv hN3 (by have := fold_len (lb.take j) (la.foldl addL []); have h2 := fold_len la []; rw [List.length_take] at this; simp at h2; omega)).mono ?_
          rintro r H2 N2 ⟨hN2, hk2, hv2⟩
          simp [e1, e7]
          have hft : (lb.take (j + 1)).foldl addL (la.foldl addL []) = addL ((lb.take j).foldl addL (la.foldl addL [])) x := by
            have he := (List.getElem?_eq_some_iff.1 hx).2
            rw [take_next hjl, List.foldl_append, he]
            rfl
          rw [← hft] at hv2
          refine ⟨lb.length - (j + 1), by omega, j + 1, by omega, rfl, by rw [wrap_i64 (by omega) (by omega)]; rfl, hv2, by omega, fun i hi => (hk2 i (by omega)).trans (hk3 i hi)⟩
        · have hje : j = lb.length := by omega
          have hj2 : ¬ (j : Int) < lb.length := by omega
          rw [hje, List.take_length, ← List.foldl_append, fold_join] at hv
          have hvc := hv.lst.cells
          simp [a_bobbinref18_Joinb1, e1, e5, e7, hnb, hj2, hvc, -alen, -AV.cells]
          exact ⟨hN3, hk3, hv⟩
theorem p_refBoth {s t : SumV} {a b c d e a' b' c' d' e' : AV} {H : AHeap} (hs : SumAt H s a b c d e) (ht : SumAt H t a' b' c' d' e') (ls : s.le 500000000) (lt : t.le 500000000) (N : Nat) :
    ACall Tryz.prog 22 [.agg [a, b, c, d, e], .agg [a', b', c', d', e']] H N (fun r H' N' => N ≤ N' ∧ (∀ j, j < N → H' j = H j) ∧ ∃ v1 v2 v3 v4 v5, r = .agg [v1, v2, v3, v4, v5] ∧ FshAt H' N (bothS s t) v1 v2 v3 v4 v5) := by
  obtain ⟨s1, s2, s3, s4, s5⟩ := ls
  obtain ⟨t1, t2, t3, t4, t5⟩ := lt
  refine acallF mixed c_bobbinref18_Both (by simp) fun hF => ?_
  have ca := hs.r.cells
  have cb := hs.w.cells
  have cc := hs.t.cells
  have cd := hs.g.cells
  have ce := hs.c.cells
  have ca' := ht.r.cells
  have cb' := ht.w.cells
  have cc' := ht.t.cells
  have cd' := ht.g.cells
  have ce' := ht.c.cells
  simp [a_bobbinref18_Both, splice]
  have hF0 : Fresh (H.set N (.blk [.sl .nil 0 [], .sl .nil 0 [], .sl .nil 0 [], .sl .nil 0 [], .sl .nil 0 []])) (N + 1) := hF.set _
  have hk0 : ∀ j, j < N → (H.set N (.blk [.sl .nil 0 [], .sl .nil 0 [], .sl .nil 0 [], .sl .nil 0 [], .sl .nil 0 []])) j = H j := fun j hj => by
    simp only [AHeap.set]; rw [if_neg (by omega)]
  have hs0 := hs.keep hF hk0
  have ht0 := ht.keep hF hk0
  have hb0 : (H.set N (.blk [.sl .nil 0 [], .sl .nil 0 [], .sl .nil 0 [], .sl .nil 0 [], .sl .nil 0 []])) N = some (.blk [.sl .nil 0 [], .sl .nil 0 [], .sl .nil 0 [], .sl .nil 0 [], .sl .nil 0 []]) := by simp [AHeap.set]
  generalize H.set N (.blk [.sl .nil 0 [], .sl .nil 0 [], .sl .nil 0 [], .sl .nil 0 [], .sl .nil 0 []]) = H0 at *
  refine (p_refJoin hs0.r ht0.r (by omega) (N + 1)).monoF ?_
  rintro v1 H1 N1 ⟨hN1, hk1, hv1⟩ hF1 _
  have hs1 := hs0.keep hF0 hk1
  have ht1 := ht0.keep hF0 hk1
  have hb1 := (hk1 N (by omega)).trans hb0
  have cv1 := hv1.lst.cells
  simp
  refine (p_refJoin hs1.w ht1.w (by omega) N1).monoF ?_
  rintro v2 H2 N2 ⟨hN2, hk2, hv2⟩ hF2 _
  have hs2 := hs1.keep hF1 hk2
  have ht2 := ht1.keep hF1 hk2
  have hb2 := (hk2 N (by omega)).trans hb1
  have cv2 := hv2.lst.cells
  simp
  refine (p_refJoin hs2.t ht2.t (by omega) N2).monoF ?_
  rintro v3 H3 N3 ⟨hN3, hk3, hv3⟩ hF3 _
  have hs3 := hs2.keep hF2 hk3
  have ht3 := ht2.keep hF2 hk3
  have hb3 := (hk3 N (by omega)).trans hb2
  have cv3 := hv3.lst.cells
  simp
  refine (p_refJoin hs3.g ht3.g (by omega) N3).monoF ?_
  rintro v4 H4 N4 ⟨hN4, hk4, hv4⟩ hF4 _
  have hs4 := hs3.keep hF3 hk4
  have ht4 := ht3.keep hF3 hk4
  have hb4 := (hk4 N (by omega)).trans hb3
  have cv4 := hv4.lst.cells
  simp
  refine (p_refJoin hs4.c ht4.c (by omega) N4).monoF ?_
  rintro v5 H5 N5 ⟨hN5, hk5, hv5⟩ hF5 _
  have hs5 := hs4.keep hF4 hk5
  have ht5 := ht4.keep hF4 hk5
  have hb5 := (hk5 N (by omega)).trans hb4
  have cv5 := hv5.lst.cells
  have u1 := (((hv1.keep hF1 hk2).keep hF2 hk3).keep hF3 hk4).keep hF4 hk5
  have u2 := ((hv2.keep hF2 hk3).keep hF3 hk4).keep hF4 hk5
  have u3 := (hv3.keep hF3 hk4).keep hF4 hk5
  have u4 := hv4.keep hF4 hk5
  simp [cv1, cv2, cv3, cv4, cv5, hb5, splice, -AV.cells]
  have hne : ∀ j, j < N → (H5.set N (.blk [v1, v2, v3, v4, v5])) j = H5 j := fun j hj => by simp only [AHeap.set]; rw [if_neg (by omega)]
  refine ⟨by omega, fun j hj => ?_, ?_⟩
  · rw [if_neg (by omega)]
    exact (hk5 j (by omega)).trans ((hk4 j (by omega)).trans ((hk3 j (by omega)).trans ((hk2 j (by omega)).trans ((hk1 j (by omega)).trans (hk0 j hj)))))
  · exact ⟨v1, v2, v3, v4, v5, by simp, (u1.mono (by omega)).off, (u2.mono (by omega)).off, (u3.mono (by omega)).off, (u4.mono (by omega)).off, (hv5.mono (by omega)).off⟩

end Go.Proofs.YtanpcmkhhpaeiaaGreatDoor

/- touch: the reference's sums, compared, and of a Fun by itself. -/
namespace Go.Proofs.YtanpcmkhhpaeiaaGreatDoor
set_option linter.unusedSimpArgs false
set_option linter.unusedVariables false
open Go Go.Fw
/-- The same numbers? -/
theorem p_Ints {H : AHeap} {a b : AV} {la lb : List Int} (ha : RdSl H 1 (intCells la) a) (hb : RdSl H 1 (intCells lb) b) (hl : la.length ≤ maxLen) (N : Nat) :
    ACall Tryz.prog 14 [a, b] H N (fun r H' N' => r = bl (decide (la = lb)) ∧ H' = H ∧ N' = N) := by
  have hm : maxLen = 9223372036854775807 := rfl
  refine acall mixed c_bobbinref12_Ints (by simp) ?_
  have hla := ha.len
  have hlb := hb.len
  rw [intCells_len] at hla hlb
  by_cases hll : la.length = lb.length
  · simp [a_bobbinref12_Ints, hla, hlb, hll, -alen]
    refine run_loop (fun m s => ∃ j, j ≤ la.length ∧ m = la.length - j ∧ s.A 0 = a ∧ s.A 1 = b ∧ s.A 5 = i64 j ∧ s.H = H ∧ s.N = N ∧ la.take j = lb.take j) la.length ?_ ?_
    · exact ⟨0, by omega, by omega, by simp, by simp, by simp, by simp, by simp, by simp⟩
    · rintro m A H1 N1 ⟨j, hj, rfl, h0, h1, h5, rfl, rfl, heq⟩
      simp only at h0 h1 h5
      by_cases hjl : j = la.length
      · subst hjl
        have : la = lb := by
          rw [List.take_length, hll, List.take_length] at heq; exact heq
        simp [a_bobbinref12_Intsb1, h0, h1, h5, hla, this, -alen]
      · have hlt : j < la.length := by omega
        have hlt2 : j < lb.length := by omega
        obtain ⟨p, hp, pp⟩ := ha.at (intCells_sz la) (intCells_at hlt)
        obtain ⟨q, hq, qq⟩ := hb.at (intCells_sz lb) (intCells_at hlt2)
        have lp := pp.one
        have lq := qq.one
        by_cases hv : la[j] = lb[j]
        · simp [a_bobbinref12_Intsb1, h0, h1, h5, hla, hlt, hp, hq, lp, lq, hv, -aload, -alen]
          refine ⟨la.length - (j + 1), by omega, j + 1, by omega, rfl, by rw [wrap_i64 (by omega) (by omega)]; rfl, ?_⟩
          rw [take_next hlt, take_next hlt2, heq, hv]
        · have : la ≠ lb := fun h => hv (by subst h; rfl)
          simp [a_bobbinref12_Intsb1, h0, h1, h5, hla, hlt, hp, hq, lp, lq, hv, this, -aload, -alen]
  · have : la ≠ lb := fun h => hll (by rw [h])
    simp [a_bobbinref12_Ints, hla, hlb, show ¬ ((la.length : Int) = lb.length) by omega, this, -alen]


theorem p_Same {s t : SumV} {a b c d e a' b' c' d' e' : AV} {H : AHeap} (hs : SumAt H s a b c d e) (ht : SumAt H t a' b' c' d' e') (ls : s.le 1000000000) (N : Nat) :
    ACall Tryz.prog 17 [.agg [a, b, c, d, e], .agg [a', b', c', d', e']] H N (fun r H' N' => r = bl (decide (s = t)) ∧ H' = H ∧ N' = N) := by
  obtain ⟨s1, s2, s3, s4, s5⟩ := ls
  have ca := hs.r.cells
  have cb := hs.w.cells
  have cc := hs.t.cells
  have cd := hs.g.cells
  have ce := hs.c.cells
  have ca' := ht.r.cells
  have cb' := ht.w.cells
  have cc' := ht.t.cells
  have cd' := ht.g.cells
  have ce' := ht.c.cells
  have hm : maxLen = 9223372036854775807 := rfl
  have heq : s = t ↔ s.r = t.r ∧ s.w = t.w ∧ s.t = t.t ∧ s.g = t.g ∧ s.c = t.c := by
    cases s; cases t; simp
  refine acall mixed c_bobbinref18_Same (by simp) ?_
  simp [a_bobbinref18_Same]
  refine (p_Ints (la := s.r) (lb := t.r) hs.r.rd ht.r.rd (by omega) N).mono ?_
  rintro r1 H1 N1 ⟨rfl, rfl, rfl⟩
  by_cases e1 : s.r = t.r
  · simp [e1]
    refine (p_Ints (la := s.w) (lb := t.w) hs.w.rd ht.w.rd (by omega) N1).mono ?_
    rintro r2 H2 N2 ⟨rfl, rfl, rfl⟩
    by_cases e2 : s.w = t.w
    · simp [e2]
      refine (p_Ints (la := s.t) (lb := t.t) hs.t.rd ht.t.rd (by omega) N2).mono ?_
      rintro r3 H3 N3 ⟨rfl, rfl, rfl⟩
      by_cases e3 : s.t = t.t
      · simp [e3]
        refine (p_Ints (la := s.g) (lb := t.g) hs.g.rd ht.g.rd (by omega) N3).mono ?_
        rintro r4 H4 N4 ⟨rfl, rfl, rfl⟩
        by_cases e4 : s.g = t.g
        · simp [e4]
          refine (p_Ints (la := s.c) (lb := t.c) hs.c.rd ht.c.rd (by omega) N4).mono ?_
          rintro r5 H5 N5 ⟨rfl, rfl, rfl⟩
          simp [heq, e1, e2, e3, e4]
        · simp [heq, e1, e2, e3, e4]
      · simp [heq, e1, e2, e3]
    · simp [heq, e1, e2]
  · simp [heq, e1]
end Go.Proofs.YtanpcmkhhpaeiaaGreatDoor

/- touch: what a Fun does by itself, by the reference. -/
namespace Go.Proofs.YtanpcmkhhpaeiaaGreatDoor
set_option linter.unusedSimpArgs false
set_option linter.unusedVariables false
open Go Go.Fw
def foldK (k : Nat) (l : List Ins) : List Int := (numsOf (opK k) l).foldl addL []
theorem foldK_next {k : Nat} (hk : k < 5) {x : Ins} (hop : x.op = opK k) (l : List Ins) : ∀ k', k' < 5 → foldK k' (l ++ [x]) = if k' = k then addL (foldK k l) x.n else foldK k' l := fun k' hk' => by
  unfold foldK
  rw [numsOf_next, hop]
  by_cases h : k' = k
  · subst h
    simp [List.foldl_append]
  · rw [if_neg (opK_ne hk hk' h), if_neg h]
theorem foldK_skip {x : Ins} (hop : ¬ (x.op = 5 ∨ x.op = 6 ∨ x.op = 7 ∨ x.op = 8 ∨ x.op = 10)) (l : List Ins) : ∀ k', k' < 5 → foldK k' (l ++ [x]) = foldK k' l := fun k' hk' => by
  unfold foldK
  rw [own_skip hop l k' hk']
theorem foldK_len (k : Nat) (l : List Ins) : (foldK k l).length ≤ l.length := by
  have h1 := fold_len (numsOf (opK k) l) []
  have h2 := numsOf_len (opK k) l
  unfold foldK
  simp at h1
  omega
theorem foldK_own (code : List Ins) : ownV code = ⟨foldK 0 code, foldK 1 code, foldK 2 code, foldK 3 code, foldK 4 code⟩ := by
  have h : ∀ l, joinL l [] = l.foldl addL [] := fun l => by rw [← fold_join, List.append_nil]
  unfold ownV bothS rawV noS
  simp only [h]
  rfl
def ROwnI (H0 : AHeap) (N0 : Nat) (code : List Ins) (j : Nat) (s : St) : Prop :=
  ∃ v0 v1 v2 v3 v4, s.H N0 = some (.blk nul5) ∧ s.H (N0 + 1) = some (.blk [v0, v1, v2, v3, v4]) ∧ Fsh s.H (N0 + 2) (foldK 0 (code.take j)) v0 ∧ Fsh s.H (N0 + 2) (foldK 1 (code.take j)) v1 ∧ Fsh s.H (N0 + 2) (foldK 2 (code.take j)) v2 ∧ Fsh s.H (N0 + 2) (foldK 3 (code.take j)) v3 ∧ Fsh s.H (N0 + 2) (foldK 4 (code.take j)) v4 ∧ Fresh s.H s.N ∧ N0 + 2 ≤ s.N ∧ ∀ i, i < N0 → s.H i = H0 i
/-- A row is as it was where a block below is written. -/
theorem Fsh.below {H : AHeap} {lo i : Nat} {o : AObj} {l : List Int} {v : AV} (h : Fsh H lo l v) (hi : i < lo) : Fsh (H.set i o) lo l v := by
  rcases h with h | ⟨h0, id, ds, hlo, rfl, h1, h2, h3⟩
  · exact .inl h
  · exact .inr ⟨h0, id, ds, hlo, rfl, by simp only [AHeap.set]; rw [if_neg (by omega)]; exact h1, h2, h3⟩

theorem p_refOwn {c0 c1 c2 c3 cv : AV} {code : List Ins} {H : AHeap} (hc : RdSl H 6 (codeCells code) cv) (hk0 : c0.cells = some [c0]) (hk1 : c1.cells = some [c1]) (hk2 : c2.cells = some [c2]) (hk3 : c3.cells = some [c3]) (hl : code.length ≤ 1000000) (N : Nat) :
    ACall Tryz.prog 20 [.agg [c0, c1, c2, c3, cv]] H N (fun r H' N' => N ≤ N' ∧ (∀ j, j < N → H' j = H j) ∧ ∃ v1 v2 v3 v4 v5, r = .agg [v1, v2, v3, v4, v5] ∧ FshAt H' N (ownV code) v1 v2 v3 v4 v5) := by
  refine acallF mixed c_bobbinref18_Own (by simp) fun hF => ?_
  have hcc := hc.cells
  have hcl := hc.len
  have hccl : (codeCells code).length = code.length := by simp [codeCells]
  rw [hccl] at hcl
  obtain ⟨lp, elp⟩ : ∃ c, a_bobbinref18_Ownb1 = c := ⟨_, rfl⟩
  unfold a_bobbinref18_Own
  rw [elp]
  simp [splice, hcl, -alen]
  refine run_loop (fun m s => ∃ j : Nat, j ≤ code.length ∧ m = code.length - j ∧ s.A 1 = .ip [c0, c1, c2, c3, cv] 0 ∧ s.A 4 = i64 j ∧ s.A 3 = .mp (N + 1) 0 ∧ s.A 2 = .mp N 0 ∧ ROwnI H N code j s) code.length ?_ ?_
  · refine ⟨0, by omega, by omega, by simp, by simp, by simp, by simp, .sl .nil 0 [], .sl .nil 0 [], .sl .nil 0 [], .sl .nil 0 [], .sl .nil 0 [], ?_, ?_, .inl ⟨rfl, rfl⟩, .inl ⟨rfl, rfl⟩, .inl ⟨rfl, rfl⟩, .inl ⟨rfl, rfl⟩, .inl ⟨rfl, rfl⟩, ?_, by simp, ?_⟩
    · simp [AHeap.set, nul5]
    · simp [AHeap.set]
    · intro i hi
      simp only at hi
      simp only [AHeap.set]
      repeat rw [if_neg (by omega)]
      exact hF i (by omega)
    · intro i hi
      simp only [AHeap.set]
      repeat rw [if_neg (by omega)]
  · rintro m A1 H1 N1 ⟨j, hj, rfl, e1, e4, e3, e2, v0, v1, v2, v3, v4, hb0, hb1, f0, f1, f2, f3, f4, hF1, hN1, hold⟩
    simp only at e1 e4 e3 e2 hb0 hb1 f0 f1 f2 f3 f4 hF1 hN1 hold
    have q0 := f0.lst.cells
    have q1 := f1.lst.cells
    have q2 := f2.lst.cells
    have q3 := f3.lst.cells
    have q4 := f4.lst.cells
    have ld4 : ∀ X, aload X false 1 (.ip [c0, c1, c2, c3, cv] 4) = some cv := fun _ => rfl
    have af4 : afield 4 (.ip [c0, c1, c2, c3, cv] 0) = some (.ip [c0, c1, c2, c3, cv] 4) := rfl
    by_cases hjl : j = code.length
    · subst hjl
      have ht : code.take code.length = code := List.take_length
      rw [ht] at f0 f1 f2 f3 f4
      have hj2 : ¬ ((code.length : Int) < code.length) := by omega
      subst elp
      simp [a_bobbinref18_Ownb1, e1, e2, e4, e3, hb0, hb1, hcl, nul5, -alen]
      rw [foldK_own]
      refine ⟨by omega, fun i hi => ?_, v0, v1, v2, v3, v4, by simp, ?_⟩
      · rw [if_neg (by omega)]
        exact hold i hi
      · exact ⟨(f0.mono (by omega)).off, (f1.mono (by omega)).off, (f2.mono (by omega)).off, (f3.mono (by omega)).off, (f4.mono (by omega)).off⟩
    · have hlt : j < code.length := by omega
      have hc1 := RdSl.keepF hc hF hold
      obtain ⟨x, hx⟩ : ∃ x, code[j]? = some x := ⟨code[j], List.getElem?_eq_getElem hlt⟩
      have hxt : code.take (j + 1) = code.take j ++ [x] := by
        rw [take_next hlt]
        simp only [List.getElem?_eq_getElem hlt, Option.some.injEq] at hx
        rw [hx]
      obtain ⟨p, hp, pp⟩ := hc1.at (codeCells_sz code) (i := j) (x := x.cells) (by simp [codeCells, hx])
      obtain ⟨qn, hqn, hln⟩ := pp.cell (k := 4) (c := i64 x.n) rfl
      obtain ⟨qo, hqo, hlo⟩ := pp.cell (k := 0) (c := u8 x.op) rfl
      have hl6 : (j : Int) < code.length := by omega
      have hlen : ∀ k, (foldK k (code.take j)).length ≤ 1000000000 := fun k => by have := foldK_len k (code.take j); rw [List.length_take] at this; omega
      subst elp
      simp [a_bobbinref18_Ownb1, e1, e4, e3, e2, hl6, hcl, hp, af4, ld4, aload_ip, hqn, hln, hqo, hlo, -aload, -alen, -afield]
      have hwj : IntKind.i64.wrap ((j : Int) + 1) = ((j + 1 : Nat) : Int) := by rw [wrap_i64 (by omega) (by omega)]; rfl
      by_cases hop : x.op = 5 ∨ x.op = 6 ∨ x.op = 7 ∨ x.op = 8 ∨ x.op = 10
      · rcases hop with hop | hop | hop | hop | hop
        · have hnx := foldK_next (k := 0) (by omega) hop (code.take j)
          simp [hop, e3, hb1, -alen]
          refine (p_Add f0 hN1 (hlen 0)).monoF ?_
          rintro r2 H2 N2 ⟨hN2, hk2, hv2⟩ hF2 _
          have b0 := (hk2 N (by omega)).trans hb0
          have b1 := (hk2 (N + 1) (by omega)).trans hb1
          have cr := hv2.lst.cells
          simp [e1, e2, e3, e4, b1, cr, splice, hwj, -alen, -AV.cells]
          have rest : ∀ k', k' < 5 → k' ≠ 0 → ∀ {v}, Fsh H1 (N + 2) (foldK k' (code.take j)) v → Fsh (H2.set (N + 1) (.blk [r2, v1, v2, v3, v4])) (N + 2) (foldK k' (code.take (j + 1))) v := fun k' h1 h2 v hv => by
            rw [hxt, hnx k' h1, if_neg h2]
            exact (hv.keep hF1 hk2).below (by omega)
          refine ⟨code.length - (j + 1), by omega, j + 1, by omega, rfl, rfl, r2, v1, v2, v3, v4, by simp [AHeap.set, b0], by simp [AHeap.set], (by rw [hxt, hnx 0 (by omega), if_pos rfl]; exact hv2.below (by omega)), rest 1 (by omega) (by omega) f1, rest 2 (by omega) (by omega) f2, rest 3 (by omega) (by omega) f3, rest 4 (by omega) (by omega) f4, fun i hi => ?_, by show N + 2 ≤ N2; omega, fun i hi => ?_⟩
          · simp only at hi
            simp only [AHeap.set]
            rw [if_neg (by omega)]
            exact hF2 i hi
          · simp only [AHeap.set]
            rw [if_neg (by omega), hk2 i (by omega)]
            exact hold i hi
        · have hnx := foldK_next (k := 1) (by omega) hop (code.take j)
          simp [hop, e3, hb1, -alen]
          refine (p_Add f1 hN1 (hlen 1)).monoF ?_
          rintro r2 H2 N2 ⟨hN2, hk2, hv2⟩ hF2 _
          have b0 := (hk2 N (by omega)).trans hb0
          have b1 := (hk2 (N + 1) (by omega)).trans hb1
          have cr := hv2.lst.cells
          simp [e1, e2, e3, e4, b1, cr, splice, hwj, -alen, -AV.cells]
          have rest : ∀ k', k' < 5 → k' ≠ 1 → ∀ {v}, Fsh H1 (N + 2) (foldK k' (code.take j)) v → Fsh (H2.set (N + 1) (.blk [v0, r2, v2, v3, v4])) (N + 2) (foldK k' (code.take (j + 1))) v := fun k' h1 h2 v hv => by
            rw [hxt, hnx k' h1, if_neg h2]
            exact (hv.keep hF1 hk2).below (by omega)
          refine ⟨code.length - (j + 1), by omega, j + 1, by omega, rfl, rfl, v0, r2, v2, v3, v4, by simp [AHeap.set, b0], by simp [AHeap.set], rest 0 (by omega) (by omega) f0, (by rw [hxt, hnx 1 (by omega), if_pos rfl]; exact hv2.below (by omega)), rest 2 (by omega) (by omega) f2, rest 3 (by omega) (by omega) f3, rest 4 (by omega) (by omega) f4, fun i hi => ?_, by show N + 2 ≤ N2; omega, fun i hi => ?_⟩
          · simp only at hi
            simp only [AHeap.set]
            rw [if_neg (by omega)]
            exact hF2 i hi
          · simp only [AHeap.set]
            rw [if_neg (by omega), hk2 i (by omega)]
            exact hold i hi
        · have hnx := foldK_next (k := 2) (by omega) hop (code.take j)
          simp [hop, e3, hb1, -alen]
          refine (p_Add f2 hN1 (hlen 2)).monoF ?_
          rintro r2 H2 N2 ⟨hN2, hk2, hv2⟩ hF2 _
          have b0 := (hk2 N (by omega)).trans hb0
          have b1 := (hk2 (N + 1) (by omega)).trans hb1
          have cr := hv2.lst.cells
          simp [e1, e2, e3, e4, b1, cr, splice, hwj, -alen, -AV.cells]
          have rest : ∀ k', k' < 5 → k' ≠ 2 → ∀ {v}, Fsh H1 (N + 2) (foldK k' (code.take j)) v → Fsh (H2.set (N + 1) (.blk [v0, v1, r2, v3, v4])) (N + 2) (foldK k' (code.take (j + 1))) v := fun k' h1 h2 v hv => by
            rw [hxt, hnx k' h1, if_neg h2]
            exact (hv.keep hF1 hk2).below (by omega)
          refine ⟨code.length - (j + 1), by omega, j + 1, by omega, rfl, rfl, v0, v1, r2, v3, v4, by simp [AHeap.set, b0], by simp [AHeap.set], rest 0 (by omega) (by omega) f0, rest 1 (by omega) (by omega) f1, (by rw [hxt, hnx 2 (by omega), if_pos rfl]; exact hv2.below (by omega)), rest 3 (by omega) (by omega) f3, rest 4 (by omega) (by omega) f4, fun i hi => ?_, by show N + 2 ≤ N2; omega, fun i hi => ?_⟩
          · simp only at hi
            simp only [AHeap.set]
            rw [if_neg (by omega)]
            exact hF2 i hi
          · simp only [AHeap.set]
            rw [if_neg (by omega), hk2 i (by omega)]
            exact hold i hi
        · have hnx := foldK_next (k := 3) (by omega) hop (code.take j)
          simp [hop, e3, hb1, -alen]
          refine (p_Add f3 hN1 (hlen 3)).monoF ?_
          rintro r2 H2 N2 ⟨hN2, hk2, hv2⟩ hF2 _
          have b0 := (hk2 N (by omega)).trans hb0
          have b1 := (hk2 (N + 1) (by omega)).trans hb1
          have cr := hv2.lst.cells
          simp [e1, e2, e3, e4, b1, cr, splice, hwj, -alen, -AV.cells]
          have rest : ∀ k', k' < 5 → k' ≠ 3 → ∀ {v}, Fsh H1 (N + 2) (foldK k' (code.take j)) v → Fsh (H2.set (N + 1) (.blk [v0, v1, v2, r2, v4])) (N + 2) (foldK k' (code.take (j + 1))) v := fun k' h1 h2 v hv => by
            rw [hxt, hnx k' h1, if_neg h2]
            exact (hv.keep hF1 hk2).below (by omega)
          refine ⟨code.length - (j + 1), by omega, j + 1, by omega, rfl, rfl, v0, v1, v2, r2, v4, by simp [AHeap.set, b0], by simp [AHeap.set], rest 0 (by omega) (by omega) f0, rest 1 (by omega) (by omega) f1, rest 2 (by omega) (by omega) f2, (by rw [hxt, hnx 3 (by omega), if_pos rfl]; exact hv2.below (by omega)), rest 4 (by omega) (by omega) f4, fun i hi => ?_, by show N + 2 ≤ N2; omega, fun i hi => ?_⟩
          · simp only at hi
            simp only [AHeap.set]
            rw [if_neg (by omega)]
            exact hF2 i hi
          · simp only [AHeap.set]
            rw [if_neg (by omega), hk2 i (by omega)]
            exact hold i hi
        · have hnx := foldK_next (k := 4) (by omega) hop (code.take j)
          simp [hop, e3, hb1, -alen]
          refine (p_Add f4 hN1 (hlen 4)).monoF ?_
          rintro r2 H2 N2 ⟨hN2, hk2, hv2⟩ hF2 _
          have b0 := (hk2 N (by omega)).trans hb0
          have b1 := (hk2 (N + 1) (by omega)).trans hb1
          have cr := hv2.lst.cells
          simp [e1, e2, e3, e4, b1, cr, splice, hwj, -alen, -AV.cells]
          have rest : ∀ k', k' < 5 → k' ≠ 4 → ∀ {v}, Fsh H1 (N + 2) (foldK k' (code.take j)) v → Fsh (H2.set (N + 1) (.blk [v0, v1, v2, v3, r2])) (N + 2) (foldK k' (code.take (j + 1))) v := fun k' h1 h2 v hv => by
            rw [hxt, hnx k' h1, if_neg h2]
            exact (hv.keep hF1 hk2).below (by omega)
          refine ⟨code.length - (j + 1), by omega, j + 1, by omega, rfl, rfl, v0, v1, v2, v3, r2, by simp [AHeap.set, b0], by simp [AHeap.set], rest 0 (by omega) (by omega) f0, rest 1 (by omega) (by omega) f1, rest 2 (by omega) (by omega) f2, rest 3 (by omega) (by omega) f3, (by rw [hxt, hnx 4 (by omega), if_pos rfl]; exact hv2.below (by omega)), fun i hi => ?_, by show N + 2 ≤ N2; omega, fun i hi => ?_⟩
          · simp only at hi
            simp only [AHeap.set]
            rw [if_neg (by omega)]
            exact hF2 i hi
          · simp only [AHeap.set]
            rw [if_neg (by omega), hk2 i (by omega)]
            exact hold i hi
      · simp only [not_or] at hop
        obtain ⟨n1, n2, n3, n4, n5⟩ := hop
        simp [n1, n2, n3, n4, n5, e1, e2, e3, e4, hwj, -alen]
        have sk := foldK_skip (x := x) (by simp [n1, n2, n3, n4, n5]) (code.take j)
        refine ⟨code.length - (j + 1), by omega, j + 1, by omega, rfl, rfl, v0, v1, v2, v3, v4, hb0, hb1, by rw [hxt, sk 0 (by omega)]; exact f0, by rw [hxt, sk 1 (by omega)]; exact f1, by rw [hxt, sk 2 (by omega)]; exact f2, by rw [hxt, sk 3 (by omega)]; exact f3, by rw [hxt, sk 4 (by omega)]; exact f4, hF1, hN1, hold⟩
end Go.Proofs.YtanpcmkhhpaeiaaGreatDoor
