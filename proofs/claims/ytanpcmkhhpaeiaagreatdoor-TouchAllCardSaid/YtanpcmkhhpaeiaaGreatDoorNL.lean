/- code: whether a program is large, told exactly enough. -/
import Derived.Test.YtanpcmkhhpaeiaaGreatDoorNI
import Derived.Test.YtanpcmkhhpaeiaaGreatDoorM5
namespace Go.Proofs.YtanpcmkhhpaeiaaGreatDoor
set_option linter.unusedSimpArgs false
set_option linter.unusedVariables false
open Go Go.Fw

/-- As large as a memory holds. -/
structure PrgV.Rch (p : PrgV) : Prop where
  ml : p.mems.length ≤ 140737488355328
  ll : p.locks.length ≤ 140737488355328
  fl : p.funs.length ≤ 140737488355328
  nm : ∀ s ∈ p.names, s.size ≤ 140737488355328
  cl : ∀ f ∈ p.funs, f.code.length ≤ 140737488355328
  al : ∀ f ∈ p.funs, ∀ x ∈ f.code, x.Ok ∧ x.args.length ≤ 140737488355328

theorem PrgV.Rch.ok {p : PrgV} (h : p.Rch) : p.Ok := by
  have hm : maxLen = 9223372036854775807 := rfl
  have := h.ml
  have := h.ll
  have := h.fl
  exact ⟨by omega, by omega, by omega, fun f hf => by have := h.cl f hf; omega⟩

def SmallF (f : FunV) : Prop := f.code.length ≤ 40000 ∧ ∀ x ∈ f.code, x.args.length ≤ 40000
end Go.Proofs.YtanpcmkhhpaeiaaGreatDoor
