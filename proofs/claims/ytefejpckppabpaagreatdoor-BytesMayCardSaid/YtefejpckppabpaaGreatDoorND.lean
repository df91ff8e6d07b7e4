/- Sorted texts: whether two are alike; plain. -/
import Derived.Test.YtefejpckppabpaaGreatDoorNC
namespace Go.Proofs.YtefejpckppabpaaGreatDoor
set_option linter.unusedSimpArgs false
set_option linter.unusedVariables false
open Go Go.Fw

theorem compact_len_iff {α : Type} [DecidableEq α] [Inhabited α] (zs : List α) : (Lib.compact zs).length = zs.length ↔ ∀ j, 0 < j → ∀ h : j < zs.length, zs[j] ≠ zs[j - 1] := by
  have key : (Lib.compact zs).length = zs.length ↔ ∀ j, j < zs.length → Lib.keeps zs.toArray j = true := by
    unfold Lib.compact Lib.compactUpTo
    rw [List.length_map]
    have h1 : ((List.range zs.length).filter (Lib.keeps zs.toArray)).length = (List.range zs.length).length ↔ ∀ a ∈ List.range zs.length, Lib.keeps zs.toArray a = true := by
      constructor
      · intro h
        have := List.Sublist.eq_of_length (List.filter_sublist (p := Lib.keeps zs.toArray) (l := List.range zs.length)) h
        rw [List.filter_eq_self] at this
        exact this
      · intro h
        rw [List.filter_eq_self.2 h]
    rw [List.length_range] at h1
    rw [h1]
    simp
  rw [key]
  have hk : ∀ j (h : j < zs.length), 0 < j → (Lib.keeps zs.toArray j = true ↔ zs[j] ≠ zs[j - 1]) := fun j h h0 => by
    unfold Lib.keeps
    have h2 : j - 1 < zs.length := by omega
    simp [h, h2, show j ≠ 0 by omega]
  constructor
  · intro h j h0 hj
    exact (hk j hj h0).1 (h j hj)
  · intro h j hj
    by_cases h0 : j = 0
    · subst h0; simp [Lib.keeps]
    · exact (hk j hj (by omega)).2 (h j (by omega) hj)

abbrev sortT (l : List (List UInt8)) : List (List UInt8) := l.mergeSort fun x y => decide (x ≤ y)

theorem sortT_sorted (l : List (List UInt8)) : (sortT l).Pairwise (· ≤ ·) := by
  have := List.pairwise_mergeSort (le := fun x y : List UInt8 => decide (x ≤ y)) (fun a b c h1 h2 => by simp at h1 h2 ⊢; exact List.le_trans h1 h2) (fun a b => by simp; exact List.le_total a b) l
  exact this.imp (fun {a b} h => by simpa using h)

theorem sortT_perm (l : List (List UInt8)) : (sortT l).Perm l := List.mergeSort_perm l _

theorem sorted_nodup {zs : List (List UInt8)} (hs : zs.Pairwise (· ≤ ·)) : (∀ j, 0 < j → ∀ h : j < zs.length, zs[j] ≠ zs[j - 1]) ↔ zs.Nodup := by
  have hle : ∀ i j (hi : i < zs.length) (hj : j < zs.length), i ≤ j → zs[i] ≤ zs[j] := fun i j hi hj hij => by
    rcases Nat.lt_or_eq_of_le hij with h | h
    · exact List.pairwise_iff_getElem.1 hs i j hi hj h
    · subst h; exact List.le_refl _
  constructor
  · intro h
    rw [List.nodup_iff_pairwise_ne, List.pairwise_iff_getElem]
    intro i j hi hj hij he
    have h1 := h (i + 1) (by omega) (by omega)
    refine h1 ?_
    show zs[i + 1] = zs[i + 1 - 1]
    simp only [Nat.add_sub_cancel]
    refine List.le_antisymm ?_ (hle i (i + 1) hi (by omega) (by omega))
    have := hle (i + 1) j (by omega) hj (by omega)
    rw [← he] at this
    exact this
  · intro h j h0 hj he
    rw [List.nodup_iff_pairwise_ne, List.pairwise_iff_getElem] at h
    exact h (j - 1) j (by omega) hj (by omega) he.symm

theorem compact_nodup (l : List (List UInt8)) : (Lib.compact (sortT l)).length = l.length ↔ l.Nodup := by
  have h1 := compact_len_iff (sortT l)
  rw [sorted_nodup (sortT_sorted l), (sortT_perm l).nodup_iff] at h1
  rw [← h1, (sortT_perm l).length_eq]

/-- Texts' bytes. -/
def bytesL (l : List ByteArray) : List (List UInt8) := l.map fun s => s.data.toList
theorem bytes_inj {a b : ByteArray} (h : a.data.toList = b.data.toList) : a = b := by
  obtain ⟨⟨x⟩⟩ := a
  obtain ⟨⟨y⟩⟩ := b
  simp at h
  rw [h]
theorem bytesL_nodup (l : List ByteArray) : (bytesL l).Nodup ↔ l.Nodup := by
  unfold bytesL
  rw [List.nodup_iff_pairwise_ne, List.nodup_iff_pairwise_ne, List.pairwise_map]
  constructor
  · exact fun h => h.imp (fun {a b} h he => h (by rw [he]))
  · exact fun h => h.imp (fun {a b} h he => h (bytes_inj he))
theorem bytesL_cells (l : List ByteArray) : l.map str = (bytesL l).map (cell Go.Proofs.encStr) := by
  simp only [bytesL, List.map_map]
  rfl
def unB (l : List (List UInt8)) : List ByteArray := l.map fun x => ⟨x.toArray⟩
theorem unB_cells (l : List (List UInt8)) : l.map (cell Go.Proofs.encStr) = (unB l).map str := by
  simp only [unB, List.map_map]
  rfl

/-- Whether all are names, no two alike, and not more than there may be. -/
def namedB (l : List ByteArray) : Bool := decide (l.length ≤ 256) && (decide l.Nodup && l.all nameB)
theorem all_sorted (l : List ByteArray) : (unB (sortT (bytesL l))).all nameB = l.all nameB := by
  have hp : (unB (sortT (bytesL l))).Perm l := by
    have h1 : (unB (sortT (bytesL l))).Perm (unB (bytesL l)) := (sortT_perm (bytesL l)).map _
    have h2 : unB (bytesL l) = l := by
      unfold unB bytesL
      rw [List.map_map]
      exact List.map_id l
    rw [h2] at h1
    exact h1
  rw [Bool.eq_iff_iff, List.all_eq_true, List.all_eq_true]
  exact ⟨fun h x hx => h x (hp.mem_iff.2 hx), fun h x hx => h x (hp.mem_iff.1 hx)⟩
end Go.Proofs.YtefejpckppabpaaGreatDoor
