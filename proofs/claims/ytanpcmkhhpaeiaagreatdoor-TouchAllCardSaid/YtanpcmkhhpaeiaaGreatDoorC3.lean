/- code: the registers that an instruction reads: the iterator, and the list. -/
import Derived.Test.YtanpcmkhhpaeiaaGreatDoorC2
namespace Go.Proofs.YtanpcmkhhpaeiaaGreatDoor
set_option linter.unusedSimpArgs false
set_option linter.unusedVariables false
open Go Go.Fw

def seqV (k : SK) (l : List Int) : AV := .fn (.func 150) [] [.ip [.sl k 1 (intCells l)] 0]

/-- An iterator over a slice that nobody writes. -/
theorem p_Values (a : AV) (ha : a.free = true) (hc : a.cells = some [a]) : PCall Tryz.prog 102 [a] (.fn (.func 150) [] [.ip [a] 0]) := by
  refine PCall.of fun N => acall mixed c_slices_Values_int_int (by simp) ?_
  simp [a_slices_Values_int_int, hc, -AV.cells]
  exact .free (by simp [AV.free, freeL, ha])

theorem seq_Values {a : AV} {l : List Int} (ha : ∃ k z, a = .sl k z (intCells l) ∧ (z = 1 ∨ l = [])) (hl : l.length ≤ maxLen) : SeqC Tryz.prog 150 [.ip [a] 0] (intCells l) := by
  have hm : maxLen = 9223372036854775807 := rfl
  refine ⟨goodFn_of c_slices_Values_int_int_1, fun y N H J Kx hJ hround => ?_⟩
  have hrd : ∀ H, RdSl H 1 (intCells l) a := fun H => by
    obtain ⟨k, z, rfl, hz⟩ := ha
    exact .inl ⟨k, z, rfl, hz.imp id (fun h => by rw [h]; rfl)⟩
  have hlen := (hrd H).len
  rw [intCells_len] at hlen
  refine acall mixed c_slices_Values_int_int_1 (by simp) ?_
  simp [a_slices_Values_int_int_1, hlen, -alen]
  refine run_loop (fun m s => ∃ j, j ≤ l.length ∧ m = l.length - j ∧ s.A 0 = .yl y ∧ s.A 5 = a ∧ s.A 6 = i64 l.length ∧ s.A 7 = i64 j ∧ N ≤ s.N ∧ J j s.H) l.length ?_ ?_
  · exact ⟨0, by omega, by omega, by simp, by simp, by simp, by simp, by simp, hJ⟩
  · rintro m A H1 N1 ⟨j, hj, rfl, h0, h5, h6, h7, hN1, hJj⟩
    simp only at h0 h5 h6 h7 hN1 hJj
    by_cases hjl : j = l.length
    · subst hjl
      simp [a_slices_Values_int_int_1b1, h6, h7]
      exact ⟨hN1, .inl (by rw [intCells_len]; exact hJj)⟩
    · have hlt : j < l.length := by omega
      obtain ⟨p, hp, pp⟩ := (hrd H1).at (intCells_sz l) (intCells_at hlt)
      have lp := pp.one
      simp [a_slices_Values_int_int_1b1, h0, h5, h6, h7, hlt, hp, lp, -aload]
      refine (hround j _ H1 N1 (intCells_at hlt) (by omega) hJj).monoF ?_
      rintro r H2 N2 (⟨rfl, hJ2⟩ | ⟨rfl, hK⟩) _ hN2
      · simp [h7]
        exact ⟨l.length - (j + 1), by omega, j + 1, by omega, rfl, h0, h5, h6, by rw [wrap_i64 (by omega) (by omega)]; rfl, by omega, hJ2⟩
      · simp
        exact ⟨by omega, .inr hK⟩

/-- All that an iterator hands out, as a slice. -/
theorem p_AppendSeq {f : FuncId} {capt : List AV} {l : List Int} (hs : SeqC Tryz.prog f capt (intCells l)) (hl : l.length ≤ 1000000000000) (H : AHeap) (N : Nat) :
    ACall Tryz.prog 101 [.sl .nil 0 [], .fn (.func f) [] capt] H N (fun r H' N' => N ≤ N' ∧ (∀ j, j < N → H' j = H j) ∧ Built H' (N + 2) 1 (.sl .nil 0 []) (intCells l) r) := by
  refine acallF mixed c_slices_AppendSeq_int_int (by simp) fun hF => ?_
  simp [a_slices_AppendSeq_int_int]
  refine range_seq hs (fun i G => (∀ j, j < N → G j = H j) ∧ ∃ v, G N = some (.blk [v]) ∧ Built G (N + 2) 1 (.sl .nil 0 []) (intCells (l.take i)) v) (fun _ _ => False) (fun x hx => by rw [intCells_sz l x hx]; rfl) (hF.set _) ?_ ?_ ?_ (fun _ _ _ _ _ h => h.elim)
  · exact ⟨fun j hj => by simp [show j ≠ N by omega], .sl .nil 0 [], by simp, Built.nil⟩
  · rintro o ob i x G N1 hx hN1 hFG hG ⟨hold, v, hv, hB⟩
    have hil : i < l.length := by have := (List.getElem?_eq_some_iff.1 hx).1; rwa [intCells_len] at this
    rw [intCells_at hil] at hx
    cases hx
    simp [hv]
    have hB2 : Built (G.set (N + 1) ob) (N + 2) 1 (.sl .nil 0 []) (intCells (l.take i)) v := hB.keep fun j hj => by simp [show j ≠ N + 1 by omega]
    have hF2 : Fresh (G.set (N + 1) ob) N1 := fun j hj => by simp [show j ≠ N + 1 by omega, hFG j hj]
    obtain ⟨v', H', N', happ, hB', hold', hN', hF'⟩ := hB2.push (bytes := 8) (x := [i64 l[i]]) (k := .exact) hF2 (by omega) rfl (by rw [intCells_len, List.length_take]; unfold lim; omega) (by rw [intCells_len, List.length_take]; omega)
    have h0 := hold' N (by omega)
    have h1 := hold' (N + 1) (by omega)
    simp [hv] at h0 h1
    simp [happ, h0, h1, hB'.rd.cells, -AV.cells]
    refine ⟨fun j hj => ?_, v', by simp [AHeap.del], ?_⟩
    · have := hold' j (by omega)
      simp [show j ≠ N + 1 by omega] at this
      simp [AHeap.del, show j ≠ N by omega, show j ≠ N + 1 by omega, this, hold j hj]
    · have heq : intCells (l.take (i + 1)) = intCells (l.take i) ++ [[i64 l[i]]] := by rw [take_next hil, intCells_app]; rfl
      rw [heq]
      exact hB'.keep fun j hj => by simp [AHeap.del, show j ≠ N by omega, show j ≠ N + 1 by omega]
  · rintro H2 N2 hN2 ⟨hold, v, hv, hB⟩
    simp [hv]
    rw [intCells_len, List.take_length] at hB
    exact ⟨by omega, hold, hB⟩

theorem p_Collect {f : FuncId} {capt : List AV} {l : List Int} (hs : SeqC Tryz.prog f capt (intCells l)) (hl : l.length ≤ 1000000000000) (H : AHeap) (N : Nat) :
    ACall Tryz.prog 69 [.fn (.func f) [] capt] H N (fun r H' N' => N ≤ N' ∧ (∀ j, j < N → H' j = H j) ∧ Built H' (N + 2) 1 (.sl .nil 0 []) (intCells l) r) := by
  refine acall mixed c_slices_Collect_int (by simp) ?_
  simp [a_slices_Collect_int]
  refine (p_AppendSeq hs hl H N).mono ?_
  rintro r H' N' h
  simp
  exact h

/-- The registers that an instruction reads. -/
def readsA (w : Row) (x : Ins) : List Int := if w.a = true ∧ ¬ (w.bare = true ∧ x.a = -1) then [x.a] else []
def readsB (w : Row) (x : Ins) : List Int := if w.b = true then [x.b] else []
def readsC (w : Row) (x : Ins) : List Int := if w.n = 6 then x.args else []
def readsL (x : Ins) : List Int := readsA (ofR x.op) x ++ readsB (ofR x.op) x ++ readsC (ofR x.op) x

theorem readsL_len (x : Ins) : (readsL x).length ≤ 2 + x.args.length := by
  unfold readsL readsA readsB readsC
  simp only [List.length_append]
  split <;> split <;> split <;> simp <;> omega

end Go.Proofs.YtanpcmkhhpaeiaaGreatDoor
