/- front: how large a graph can be. -/
import Derived.Test.YtmbbklddjkmcmaaBR
import Derived.Test.YtmbbklddjkmcmaaM5
namespace Go.Proofs.Ytmbbklddjkmcmaa
set_option linter.unusedSimpArgs false
set_option linter.unusedVariables false
open Go Go.Fw

theorem weightsAll_mem {K : Type} {P : Program} {e : TypeId} {y : DataW K} {v : Nat} : ∀ {ds : List (DataW K)}, y ∈ ds → v ∈ y.weights P e → v ∈ DataW.weightsAll P e ds
  | [], h, _ => by simp at h
  | d :: ds, h, hv => by
    rw [DataW.weightsAll, List.mem_append]
    rcases List.mem_cons.1 h with rfl | h
    · exact .inl hv
    · exact .inr (weightsAll_mem h hv)

theorem arg_graphR {a : AV} (h : ArgR Try.prog 22 a) : ∃ x : GraphV, a = x.av ∧ x.Ok ∧ ∀ r ∈ x.g, r.l.length * 8 ≤ reachBytes := by
  obtain ⟨hA, hR⟩ := h
  obtain ⟨x, rfl, hx⟩ := arg_graph hA
  refine ⟨x, rfl, hx, fun r hr => ?_⟩
  obtain ⟨K, d, n, hw, hb⟩ := hR _ Try.underlying22
  rw [List.all_eq_true] at hb
  obtain ⟨i, hi, rfl⟩ := List.getElem_of_mem hr
  simp only [Wd, Try.underlying22] at hw
  rcases hw with ⟨kd, z, h1⟩ | ⟨kd, z, es, elems, spare, h1, rfl, hl, hW⟩
  · have h0 : AV.sl x.k x.z (gCells x.g) = .sl kd z [] := (List.cons.inj h1).1
    have h2 : gCells x.g = [] := by injection h0
    have := congrArg List.length h2
    rw [gCells_len] at this
    simp at this
    rw [this] at hi
    simp at hi
  · have h2 : gCells x.g = es := by
      have h3 : AV.sl x.k x.z (gCells x.g) = .sl kd z es := (List.cons.inj h1).1
      injection h3
    subst h2
    rw [gCells_len] at hl
    have hie : i < elems.length := by omega
    have hwi := hW i _ _ (gCells_at hi) (List.getElem?_eq_getElem hie)
    cases n with
    | zero => exact hwi.elim
    | succ n =>
      simp only [Wd, Try.underlying33] at hwi
      rcases hwi with ⟨kd', z', h3⟩ | ⟨kd', z', es', elems', spare', h3, h4, hl', _⟩
      · have h5 : AV.sl x.g[i].k x.g[i].z (intCells x.g[i].l) = .sl kd' z' [] := (List.cons.inj h3).1
        have h6 : intCells x.g[i].l = [] := by injection h5
        have := congrArg List.length h6
        rw [intCells_len] at this
        simp at this
        rw [this]; simp
      · have h5 : AV.sl x.g[i].k x.g[i].z (intCells x.g[i].l) = .sl kd' z' es' := (List.cons.inj h3).1
        have h6 : intCells x.g[i].l = es' := by injection h5
        rw [← h6, intCells_len] at hl'
        have hm : (elems'.length + spare'.length) * 8 ∈ (DataW.slice elems spare : DataW K).weights Try.prog 22 := by
          simp only [DataW.weights, Try.underlying22]
          refine List.mem_cons_of_mem _ (List.mem_append.2 (.inl (weightsAll_mem (List.getElem_mem hie) ?_)))
          rw [h4]
          simp only [DataW.weights, Try.underlying33]
          have : Try.prog.bytesOf 3 = 8 := by kernel_rfl
          rw [this]
          exact List.mem_cons_self
        have := hb _ hm
        simp at this
        omega
theorem arg_intsR {a : AV} (h : ArgR Try.prog 33 a) : ∃ r : RowV, a = r.av ∧ r.Ok := arg_ints h.1

end Go.Proofs.Ytmbbklddjkmcmaa
