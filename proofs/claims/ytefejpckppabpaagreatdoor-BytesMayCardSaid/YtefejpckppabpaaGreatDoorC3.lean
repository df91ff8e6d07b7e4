/- code: the registers that an instruction reads: the iterator, and the list. -/
import Derived.Test.YtefejpckppabpaaGreatDoorC2
namespace Go.Proofs.YtefejpckppabpaaGreatDoor
set_option linter.unusedSimpArgs false
set_option linter.unusedVariables false
open Go Go.Fw

def seqV (k : SK) (l : List Int) : AV := .fn (.func 132) [] [.ip [.sl k 1 (intCells l)] 0]

/-- An iterator over a slice that nobody writes. -/
theorem p_Values (a : AV) (ha : a.free = true) (hc : a.cells = some [a]) : PCall Tryz.prog 121 [a] (.fn (.func 132) [] [.ip [a] 0]) := by
  refine PCall.of fun N => acall mixed c_slices_Values_int_int (by simp) ?_
  simp [a_slices_Values_int_int, hc, -AV.cells]
  exact .free (by simp [AV.free, freeL, ha])

theorem seq_Values {a : AV} {l : List Int} (ha : ∃ k z, a = .sl k z (intCells l) ∧ (z = 1 ∨ l = [])) (hl : l.length ≤ maxLen) : SeqC Tryz.prog 132 [.ip [a] 0] (intCells l) := by
  have hm : maxLen = 9223372036854775807 := rfl
  refine ⟨goodFn_of c_slices_Values_int_int_1, fun y N H J Kx hJ hround => ?_⟩
  have hrd : ∀ H, RdSl H 1 (intCells l) a := fun H => by
    obtain ⟨k, z, rfl, hz⟩ := ha
    exact .inl ⟨k, z, rfl, hz.imp id (fun h => by rw [h]; rfl)⟩
  have hlen := (hrd H).len
  rw [intCells_len] at hlen
  refine acall mixed c_slices_Values_int_int_1 (by simp) ?_
  simp [a_slices_Values_int_int_1, hlen, -alen]
  refine run_loop (fun m s => ∃ j, j ≤ l.length ∧ m = l.length - j ∧ s.A 0 = .yl y ∧ s.A 5 = a ∧ s.A 6 = i64 l.length ∧ s.A 7 = i64 j ∧ N ≤ s.N ∧ J j s.H) l.length ?_ ?_
  · exact ⟨0, by omega, by omega, by simp, by simp, by simp, by simp, by simp, hJ⟩
  · rintro m A H1 N1 ⟨j, hj, rfl, h0, h5, h6, h7, hN1, hJj⟩
    simp only at h0 h5 h6 h7 hN1 hJj
    by_cases hjl : j = l.length
    · subst hjl
      simp [a_slices_Values_int_int_1b1, h6, h7]
      exact ⟨hN1, .inl (by rw [intCells_len]; exact hJj)⟩
    · have hlt : j < l.length := by omega
      obtain ⟨p, hp, pp⟩ := (hrd H1).at (intCells_sz l) (intCells_at hlt)
      have lp := pp.one
      simp [a_slices_Values_int_int_1b1, h0, h5, h6, h7, hlt, hp, lp, -aload]
      refine (hround j _ H1 N1 (intCells_at hlt) (by omega) hJj).monoF ?_
      rintro r H2 N2 (⟨rfl, hJ2⟩ | ⟨rfl, hK⟩) _ hN2
      · simp [h7]
        exact ⟨l.length - (j + 1), by omega, j + 1, by omega, rfl, h0, h5, h6, by rw [wrap_i64 (by omega) (by omega)]; rfl, by omega, hJ2⟩
      · simp
        exact ⟨by omega, .inr hK⟩





/-- The registers that an instruction reads. -/
def readsA (w : Row) (x : Ins) : List Int := if w.a = true ∧ ¬ (w.bare = true ∧ x.a = -1) then [x.a] else []
def readsB (w : Row) (x : Ins) : List Int := if w.b = true then [x.b] else []
def readsC (w : Row) (x : Ins) : List Int := if w.n = 6 then x.args else []
def readsL (x : Ins) : List Int := readsA (ofR x.op) x ++ readsB (ofR x.op) x ++ readsC (ofR x.op) x

theorem readsL_len (x : Ins) : (readsL x).length ≤ 2 + x.args.length := by
  unfold readsL readsA readsB readsC
  simp only [List.length_append]
  split <;> split <;> split <;> simp <;> omega

end Go.Proofs.YtefejpckppabpaaGreatDoor
