/- Framework, part 26: calls that only make memory, whose answer is told by what holds of it. -/
import Derived.Test.YtmgmgeijfkcglaaL1
namespace Go.Fw
set_option linter.unusedSimpArgs false
set_option linter.unusedVariables false
open Go
set_option linter.unusedSectionVars false
variable [Globals]

/-- A call that only makes memory; its answer, which nobody writes, meets S. -/
def PCallS (P : Program) (f : FuncId) (args : List AV) (S : AV → Prop) : Prop :=
  goodFn P f = true ∧ ∀ (e : Env) (vs : List Value), ((∀ b, e.I b → b < e.w.heap.size) ∧ GlobOk e) → vs.length = args.length → (∀ (i : Nat) (c : AV) (v : Value), args[i]? = some c → vs[i]? = some v → Rep e c v) →
    Calls P f vs.toArray e.w (fun x w' => ∃ r v e', S r ∧ x = .returned v ∧ e'.w = w' ∧ Rep e' r v ∧ PTr e e')

section
variable {P : Program} {f : FuncId} {args : List AV} {S : AV → Prop}

theorem PCallS.acall (h : PCallS P f args S) {H : AHeap} {N : Nat} {Q : AV → AHeap → Nat → Prop} (hq : ∀ r, S r → Q r H N) : ACall P f args H N Q :=
  ⟨h.1, fun e vs h1 h2 h3 h4 => (h.2 e vs ⟨h1.imm, h1.gl⟩ h3 h4).mono fun _ _ ⟨r, v, e', s, a, b, c, d⟩ => ⟨v, e', r, H, a, b, by rw [d.N, h2]; exact hq r s, c, d.hrep h1, d.tr h1⟩⟩

theorem PCallS.mono {S' : AV → Prop} (h : PCallS P f args S) (hs : ∀ r, S r → S' r) : PCallS P f args S' :=
  ⟨h.1, fun e vs h1 h2 h3 => (h.2 e vs h1 h2 h3).mono fun _ _ ⟨r, v, e', s, k⟩ => ⟨r, v, e', hs r s, k⟩⟩

theorem PCallS.of (h : ∀ N, ACall P f args noHeap N (fun r' H' _ => ∃ r, View H' r' r ∧ S r)) : PCallS P f args S := by
  refine ⟨(h 0).1, fun e vs hi hl hr => ?_⟩
  have hH : HRep e noHeap := ⟨(fun id o ho => by cases ho), (fun i j o o' ho => by cases ho), hi.1, hi.2⟩
  refine ((h e.N).2 e vs hH rfl hl hr).mono ?_
  rintro x w' ⟨v, e', r', H', rfl, rfl, ⟨r, hv, hs⟩, hrep, hH', htr⟩
  have hno : ∀ b, ¬ Own e noHeap b := fun b ⟨id, o, ho, _⟩ => by cases ho
  refine ⟨r, v, e'.still H' e.ρ e.N, hs, rfl, rfl, hv.rep hH' hrep _ _, rfl, rfl, fun b hb => htr.fr b hb (hno b), fun b hb => .inl (htr.ext.I b hb), fun b hb => ?_, htr.size, htr.os, htr.tape, htr.output⟩
  rcases hb with hb | hb
  · rcases htr.im b hb with h1 | h1 | h1
    · exact .inl h1
    · exact absurd h1 (hno b)
    · exact .inr ⟨h1, hH'.imm b hb⟩
  · rcases htr.own b hb with h1 | h1
    · exact absurd h1 (hno b)
    · exact .inr ⟨h1, hH'.own_lt hb⟩

end
end Go.Fw
