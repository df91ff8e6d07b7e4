/- Sorted rows without repeats; the sort. -/
import Derived.Test.YtmbbklddjkmcmaaE2
import Derived.Test.YtmbbklddjkmcmaaM5
namespace Go.Proofs.Ytmbbklddjkmcmaa
set_option linter.unusedSimpArgs false
set_option linter.unusedVariables false
open Go Go.Fw Go.Dm

theorem eq_of_lt : ∀ (l r : List Int), l.Pairwise (· < ·) → r.Pairwise (· < ·) → (∀ v, v ∈ l ↔ v ∈ r) → l = r
  | [], [], _, _, _ => rfl
  | [], b :: r, _, _, h => by have := (h b).2 (by simp); simp at this
  | a :: l, [], _, _, h => by have := (h a).1 (by simp); simp at this
  | a :: l, b :: r, h1, h2, h => by
    rw [List.pairwise_cons] at h1 h2
    have hab : a = b := by
      rcases List.mem_cons.1 ((h a).1 (by simp)) with h3 | h3
      · exact h3
      · rcases List.mem_cons.1 ((h b).2 (by simp)) with h4 | h4
        · exact h4.symm
        · have := h2.1 a h3
          have := h1.1 b h4
          omega
    subst hab
    rw [eq_of_lt l r h1.2 h2.2 fun v => ?_]
    constructor
    · intro hv
      have hlt := h1.1 v hv
      rcases List.mem_cons.1 ((h v).1 (by simp [hv])) with h3 | h3
      · omega
      · exact h3
    · intro hv
      have hlt := h2.1 v hv
      rcases List.mem_cons.1 ((h v).2 (by simp [hv])) with h3 | h3
      · omega
      · exact h3

theorem compact_sorted (zs : List Int) (hs : zs.Pairwise (· ≤ ·)) : (Lib.compact zs).Pairwise (· < ·) ∧ ∀ v, v ∈ Lib.compact zs ↔ v ∈ zs := by
  have get : ∀ j (h : j < zs.length), zs.toArray[j]! = zs[j] := fun j h => by simp [h]
  have key : ∀ m, m ≤ zs.length → (Lib.compactUpTo zs.toArray m).Pairwise (· < ·) ∧ (∀ v, v ∈ Lib.compactUpTo zs.toArray m ↔ ∃ j, ∃ (h : j < zs.length), j < m ∧ v = zs[j]) := by
    intro m
    induction m with
    | zero =>
      intro _
      refine ⟨by simp [Lib.compactUpTo], fun v => ?_⟩
      simp [Lib.compactUpTo]
    | succ m ih =>
      intro hm
      obtain ⟨h1, h2⟩ := ih (by omega)
      have hlt : m < zs.length := by omega
      rw [Lib.compactUpTo_succ]
      have next : (∀ v, (v ∈ Lib.compactUpTo zs.toArray m ∨ v = zs[m]) ↔ ∃ j, ∃ (h : j < zs.length), j < m + 1 ∧ v = zs[j]) := fun v => by
        rw [h2 v]
        constructor
        · rintro (⟨j, h, h3, h4⟩ | h3)
          · exact ⟨j, h, by omega, h4⟩
          · exact ⟨m, hlt, by omega, h3⟩
        · rintro ⟨j, h, h3, h4⟩
          by_cases hj : j = m
          · subst hj; exact .inr h4
          · exact .inl ⟨j, h, by omega, h4⟩
      cases hk : Lib.keeps zs.toArray m with
      | true =>
        rw [if_pos rfl, get m hlt]
        refine ⟨?_, fun v => ?_⟩
        · rw [List.pairwise_append]
          refine ⟨h1, by simp, fun a ha b hb => ?_⟩
          rw [List.mem_singleton] at hb
          subst hb
          obtain ⟨j, h, h3, rfl⟩ := (h2 a).1 ha
          have hle := List.pairwise_iff_getElem.1 hs
          simp only [Lib.keeps, decide_eq_true_eq] at hk
          rcases hk with hk | hk
          · omega
          · rw [get m hlt, get (m - 1) (by omega)] at hk
            have e1 := hle (m - 1) m (by omega) hlt (by omega)
            by_cases hj : j = m - 1
            · subst hj; omega
            · have e2 := hle j (m - 1) h (by omega) (by omega)
              omega
        · rw [List.mem_append, List.mem_singleton]
          exact next v
      | false =>
        simp only [Lib.keeps, decide_eq_false_iff_not, not_or] at hk
        have hk2 : zs.toArray[m]! = zs.toArray[m - 1]! := Classical.not_not.1 hk.2
        rw [get m hlt, get (m - 1) (by omega)] at hk2
        simp only [Bool.false_eq_true, if_false, List.append_nil]
        refine ⟨h1, fun v => ?_⟩
        rw [← next v]
        constructor
        · exact .inl
        · rintro (h3 | h3)
          · exact h3
          · rw [h3, hk2]
            exact (h2 _).2 ⟨m - 1, by omega, by omega, rfl⟩
  have := key zs.length (Nat.le_refl _)
  refine ⟨this.1, fun v => ?_⟩
  show v ∈ Lib.compactUpTo zs.toArray zs.length ↔ _
  rw [this.2 v]
  constructor
  · rintro ⟨j, h, _, rfl⟩; exact List.getElem_mem h
  · intro hv
    obtain ⟨j, h, rfl⟩ := List.getElem_of_mem hv
    exact ⟨j, h, h, rfl⟩

abbrev sortL (l : List Int) : List Int := l.mergeSort fun x y => decide (x ≤ y)
theorem sortL_sorted (l : List Int) : (sortL l).Pairwise (· ≤ ·) := by
  have := List.pairwise_mergeSort (le := fun x y : Int => decide (x ≤ y)) (fun a b c h1 h2 => by simp at h1 h2 ⊢; omega) (fun a b => by simp; omega) l
  simpa using this
theorem sortL_mem (l : List Int) (v : Int) : v ∈ sortL l ↔ v ∈ l := (List.mergeSort_perm l _).mem_iff

open Classical in
/-- Those of the first n that are in a set, rising. -/
noncomputable def setL (n : Nat) (S : Nat → Prop) : List Nat := (List.range n).filter fun c => decide (S c)
theorem setL_mem {n : Nat} {S : Nat → Prop} {c : Nat} : c ∈ setL n S ↔ c < n ∧ S c := by simp [setL]
theorem setL_len {n : Nat} {S : Nat → Prop} : (setL n S).length ≤ n := by
  have := List.length_filter_le (fun c => @decide (S c) (Classical.propDecidable _)) (List.range n)
  simpa [setL] using this
theorem natI_lt {l : List Nat} (h : l.Pairwise (· < ·)) : (natI l).Pairwise (· < ·) := by
  unfold natI
  rw [List.pairwise_map]
  exact h.imp fun h => by omega
theorem setL_lt {n : Nat} {S : Nat → Prop} : (setL n S).Pairwise (· < ·) := List.pairwise_lt_range.filter _
theorem natI_mem {l : List Nat} {v : Int} : v ∈ natI l ↔ ∃ c : Nat, v = c ∧ c ∈ l := by
  unfold natI
  rw [List.mem_map]
  exact ⟨fun ⟨c, h1, h2⟩ => ⟨c, h2.symm, h1⟩, fun ⟨c, h1, h2⟩ => ⟨c, h2, h1.symm⟩⟩

/-- Sorted, without repeats: the set. -/
theorem compact_set {l : List Int} {n : Nat} {S : Nat → Prop} (h : ∀ v, v ∈ l ↔ ∃ c : Nat, v = c ∧ S c) (hn : ∀ c, S c → c < n) : Lib.compact (sortL l) = natI (setL n S) := by
  obtain ⟨h1, h2⟩ := compact_sorted (sortL l) (sortL_sorted l)
  refine eq_of_lt _ _ h1 (natI_lt setL_lt) fun v => ?_
  rw [h2, sortL_mem, h, natI_mem]
  exact ⟨fun ⟨c, h3, h4⟩ => ⟨c, h3, setL_mem.2 ⟨hn c h4, h4⟩⟩, fun ⟨c, h3, h4⟩ => ⟨c, h3, (setL_mem.1 h4).2⟩⟩

/-- Sorted rows without repeats are told by what is in them. -/
theorem sort_set {l : List Int} {n : Nat} {S : Nat → Prop} (hnd : l.Nodup) (h : ∀ v, v ∈ l ↔ ∃ c : Nat, v = c ∧ S c) (hn : ∀ c, S c → c < n) : sortL l = natI (setL n S) := by
  have hp := sortL_sorted l
  have hnd2 : (sortL l).Nodup := (List.mergeSort_perm l _).nodup_iff.2 hnd
  refine eq_of_lt _ _ ?_ (natI_lt setL_lt) fun v => ?_
  · have := hp.and hnd2
    exact this.imp fun ⟨h1, h2⟩ => by omega
  · rw [sortL_mem, h, natI_mem]
    exact ⟨fun ⟨c, h3, h4⟩ => ⟨c, h3, setL_mem.2 ⟨hn c h4, h4⟩⟩, fun ⟨c, h3, h4⟩ => ⟨c, h3, (setL_mem.1 h4).2⟩⟩

end Go.Proofs.Ytmbbklddjkmcmaa
