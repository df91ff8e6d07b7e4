/- dom: whether a graph may be. -/
import Derived.Test.YtmbbklddjkmcmaaK0
import Derived.Test.YtmbbklddjkmcmaaK1
namespace Go.Proofs.Ytmbbklddjkmcmaa
set_option linter.unusedSimpArgs false
set_option linter.unusedVariables false
open Go Go.Fw

/-- A graph's cells. -/
def gCells (g : List RowV) : List (List AV) := g.map fun r => [r.av]
theorem gCells_len (g : List RowV) : (gCells g).length = g.length := by simp [gCells]
theorem gCells_sz (g : List RowV) : ∀ x ∈ gCells g, x.length = 1 := fun x hx => by
  obtain ⟨v, _, rfl⟩ := List.mem_map.1 hx; rfl
theorem gCells_at {g : List RowV} {i : Nat} (h : i < g.length) : (gCells g)[i]? = some [g[i].av] := by simp [gCells, h]
theorem gCells_free (g : List RowV) : freeLL (gCells g) = true := freeLL_map _ g (fun r _ => by simp [freeL, r.free])

section
variable {H : AHeap} {a : AV} {f : FuncId} {capt : List AV}

/-- The first one that a function says yes to. -/
def firstAt {α : Type} (p : α → Bool) (l : List α) : Int := match l.findIdx? p with
  | some i => i
  | none => -1

theorem firstAt_none {α : Type} {p : α → Bool} {l : List α} (h : l.all (fun x => !p x) = true) : firstAt p l = -1 := by
  have : l.findIdx? p = none := by
    rw [List.findIdx?_eq_none_iff]
    intro x hx
    have := List.all_eq_true.1 h x hx
    simpa using this
  simp [firstAt, this]

theorem firstAt_some {α : Type} {p : α → Bool} {l : List α} {j : Nat} (h : (l.take j).all (fun x => !p x) = true) (hj : j < l.length) (hp : p l[j] = true) : firstAt p l = j := by
  have : l.findIdx? p = some j := by
    rw [List.findIdx?_eq_some_iff_getElem]
    refine ⟨hj, hp, fun i hi => ?_⟩
    have := List.all_eq_true.1 h l[i] (List.mem_take_iff_getElem.2 ⟨i, by omega, rfl⟩)
    simpa using this
  simp [firstAt, this]

theorem firstAt_yes {α : Type} {p : α → Bool} {l : List α} : decide (0 ≤ firstAt p l) = l.any p := by
  unfold firstAt
  cases h : l.findIdx? p with
  | some i =>
    rw [List.findIdx?_eq_some_iff_getElem] at h
    obtain ⟨h1, h2, _⟩ := h
    have : l.any p = true := List.any_eq_true.2 ⟨_, List.getElem_mem h1, h2⟩
    simp [this]
  | none =>
    rw [List.findIdx?_eq_none_iff] at h
    have : l.any p = false := by
      rw [List.any_eq_false]; intro x hx; simp [h x hx]
    simp [this]

theorem p_IndexFunc_int {l : List Int} (ha : RdSl H 1 (intCells l) a) (hl : l.length ≤ maxLen) (p : Int → Bool) (hf : ∀ (v : Int) (N : Nat), v ∈ l → ACall Try.prog f (i64 v :: capt) H N (fun r H' N' => r = bl (p v) ∧ H' = H ∧ N ≤ N')) (N : Nat) :
    ACall Try.prog 64 [a, .fn (.func f) [] capt] H N (fun r H' N' => r = i64 (firstAt p l) ∧ H' = H ∧ N ≤ N') := by
  have hm : maxLen = 9223372036854775807 := rfl
  refine acall mixed c_slices_IndexFunc_Sint_int (by simp) ?_
  have hla := ha.len
  rw [intCells_len] at hla
  simp [a_slices_IndexFunc_Sint_int, hla, -alen]
  refine run_loop (fun m s => ∃ j, j ≤ l.length ∧ m = l.length - j ∧ s.A 0 = a ∧ s.A 1 = .fn (.func f) [] capt ∧ s.A 7 = i64 l.length ∧ s.A 8 = i64 j ∧ s.H = H ∧ N ≤ s.N ∧ (l.take j).all (fun x => !p x) = true) l.length ?_ ?_
  · exact ⟨0, by omega, by omega, by simp, by simp, by simp, by simp, rfl, by simp, by simp⟩
  · rintro m A H1 N1 ⟨j, hj, rfl, h0, h1, h7, h8, rfl, hN1, hno⟩
    simp only at h0 h1 h7 h8 hN1
    by_cases hjl : j = l.length
    · subst hjl
      rw [List.take_length] at hno
      simp [a_slices_IndexFunc_Sint_intb1, h7, h8]
      exact ⟨by rw [firstAt_none hno], hN1⟩
    · have hlt : j < l.length := by omega
      obtain ⟨q, hq, qq⟩ := ha.at (intCells_sz l) (intCells_at hlt)
      have lq := qq.one
      simp [a_slices_IndexFunc_Sint_intb1, h0, h1, h7, h8, hlt, hq, lq, -aload]
      refine (hf l[j] N1 (List.getElem_mem hlt)).mono ?_
      rintro r H2 N2 ⟨rfl, rfl, hN2⟩
      by_cases hp : p l[j] = true
      · simp [hp]
        exact ⟨by rw [firstAt_some hno hlt hp], by omega⟩
      · simp [hp, h8]
        refine ⟨l.length - (j + 1), by omega, j + 1, by omega, rfl, h0, h1, h7, by rw [wrap_i64 (by omega) (by omega)]; rfl, by omega, ?_⟩
        rw [take_next hlt]
        intro x hx
        rcases List.mem_append.1 hx with h | h
        · simpa using List.all_eq_true.1 hno x h
        · rw [List.mem_singleton.1 h]; simpa using hp

theorem p_IndexFunc_rows {g : List RowV} (ha : RdSl H 1 (gCells g) a) (hl : g.length ≤ maxLen) (p : RowV → Bool) (hf : ∀ (v : RowV) (N : Nat), v ∈ g → ACall Try.prog f (v.av :: capt) H N (fun r H' N' => r = bl (p v) ∧ H' = H ∧ N ≤ N')) (N : Nat) :
    ACall Try.prog 63 [a, .fn (.func f) [] capt] H N (fun r H' N' => r = i64 (firstAt p g) ∧ H' = H ∧ N ≤ N') := by
  have hm : maxLen = 9223372036854775807 := rfl
  refine acall mixed c_slices_IndexFunc_SSint_Sint (by simp) ?_
  have hla := ha.len
  rw [gCells_len] at hla
  simp [a_slices_IndexFunc_SSint_Sint, hla, -alen]
  refine run_loop (fun m s => ∃ j, j ≤ g.length ∧ m = g.length - j ∧ s.A 0 = a ∧ s.A 1 = .fn (.func f) [] capt ∧ s.A 7 = i64 g.length ∧ s.A 8 = i64 j ∧ s.H = H ∧ N ≤ s.N ∧ (g.take j).all (fun x => !p x) = true) g.length ?_ ?_
  · exact ⟨0, by omega, by omega, by simp, by simp, by simp, by simp, rfl, by simp, by simp⟩
  · rintro m A H1 N1 ⟨j, hj, rfl, h0, h1, h7, h8, rfl, hN1, hno⟩
    simp only at h0 h1 h7 h8 hN1
    by_cases hjl : j = g.length
    · subst hjl
      rw [List.take_length] at hno
      simp [a_slices_IndexFunc_SSint_Sintb1, h7, h8]
      exact ⟨by rw [firstAt_none hno], hN1⟩
    · have hlt : j < g.length := by omega
      obtain ⟨q, hq, qq⟩ := ha.at (gCells_sz g) (gCells_at hlt)
      have lq := qq.one
      simp [a_slices_IndexFunc_SSint_Sintb1, h0, h1, h7, h8, hlt, hq, lq, -aload]
      refine (hf g[j] N1 (List.getElem_mem hlt)).mono ?_
      rintro r H2 N2 ⟨rfl, rfl, hN2⟩
      by_cases hp : p g[j] = true
      · simp [hp]
        exact ⟨by rw [firstAt_some hno hlt hp], by omega⟩
      · simp [hp, h8]
        refine ⟨g.length - (j + 1), by omega, j + 1, by omega, rfl, h0, h1, h7, by rw [wrap_i64 (by omega) (by omega)]; rfl, by omega, ?_⟩
        rw [take_next hlt]
        intro x hx
        rcases List.mem_append.1 hx with h | h
        · simpa using List.all_eq_true.1 hno x h
        · rw [List.mem_singleton.1 h]; simpa using hp

theorem p_ContainsFunc_int {l : List Int} (ha : RdSl H 1 (intCells l) a) (hl : l.length ≤ maxLen) (p : Int → Bool) (hf : ∀ (v : Int) (N : Nat), v ∈ l → ACall Try.prog f (i64 v :: capt) H N (fun r H' N' => r = bl (p v) ∧ H' = H ∧ N ≤ N')) (N : Nat) :
    ACall Try.prog 55 [a, .fn (.func f) [] capt] H N (fun r H' N' => r = bl (l.any p) ∧ H' = H ∧ N ≤ N') := by
  refine acall mixed c_slices_ContainsFunc_Sint_int (by simp) ?_
  simp [a_slices_ContainsFunc_Sint_int]
  refine (p_IndexFunc_int ha hl p hf N).mono ?_
  rintro r H' N' ⟨rfl, rfl, hN⟩
  simp
  exact ⟨firstAt_yes, hN⟩

theorem p_ContainsFunc_rows {g : List RowV} (ha : RdSl H 1 (gCells g) a) (hl : g.length ≤ maxLen) (p : RowV → Bool) (hf : ∀ (v : RowV) (N : Nat), v ∈ g → ACall Try.prog f (v.av :: capt) H N (fun r H' N' => r = bl (p v) ∧ H' = H ∧ N ≤ N')) (N : Nat) :
    ACall Try.prog 53 [a, .fn (.func f) [] capt] H N (fun r H' N' => r = bl (g.any p) ∧ H' = H ∧ N ≤ N') := by
  refine acall mixed c_slices_ContainsFunc_SSint_Sint (by simp) ?_
  simp [a_slices_ContainsFunc_SSint_Sint]
  refine (p_IndexFunc_rows ha hl p hf N).mono ?_
  rintro r H' N' ⟨rfl, rfl, hN⟩
  simp
  exact ⟨firstAt_yes, hN⟩
end

end Go.Proofs.Ytmbbklddjkmcmaa
