/- MemPlays: its arguments. -/
import Derived.Test.YtmgmgeijfkcglaaBB
namespace Go.Proofs.Ytmgmgeijfkcglaa
set_option linter.unusedSimpArgs false
set_option linter.unusedVariables false
open Go Go.Fw
theorem in64_wf {m : Int} (h : (Lit.int .i64 m).wf = true) : In64 m := by
  simp [Lit.wf, IntKind.min, IntKind.max, IntKind.bits, IntKind.signed] at h
  unfold In64
  omega
theorem map_ofR {α β : Type} {f : α → β} {R : α → Prop} : ∀ {es : List β}, (∀ x ∈ es, ∃ g, x = f g ∧ R g) → ∃ l : List α, es = l.map f ∧ ∀ g ∈ l, R g
  | [], _ => ⟨[], rfl, by simp⟩
  | x :: es, h => by
    obtain ⟨g, rfl, hg⟩ := h x (by simp)
    obtain ⟨l, rfl, hl⟩ := map_ofR (es := es) (fun y hy => h y (by simp [hy]))
    exact ⟨g :: l, rfl, by simpa using ⟨hg, hl⟩⟩
theorem lays_stepB {n : Nat} {x : List AV} (h : Lays Try.prog n 41 x) : ∃ g : StepV, x = g.cells ∧ In64 g.at_ ∧ In64 g.here := by
  cases n with
  | zero => exact h.elim
  | succ n =>
    simp only [Lays, Try.underlying41] at h
    obtain ⟨parts, rfl, hl, hp⟩ := h
    match parts, hl with
    | [p0, p1, p2, p3], _ =>
      obtain ⟨k, rfl, _⟩ := lays_int Try.underlying5 (hp 0 _ p0 rfl rfl)
      obtain ⟨a, rfl, ha⟩ := lays_int Try.underlying3 (hp 1 _ p1 rfl rfl)
      obtain ⟨h, rfl, hh⟩ := lays_int Try.underlying3 (hp 2 _ p2 rfl rfl)
      obtain ⟨v, rfl, _⟩ := lays_int Try.underlying2 (hp 3 _ p3 rfl rfl)
      exact ⟨⟨k, a, h, v⟩, rfl, in64_wf ha, in64_wf hh⟩
theorem arg_stepsB {a : AV} (h : Arg Try.prog 33 a) : ∃ (k : SK) (l : List StepV), a = .sl k 4 (l.map StepV.cells) ∧ ∀ g ∈ l, In64 g.at_ ∧ In64 g.here := by
  obtain ⟨x, n, h, rfl⟩ := h
  cases n with
  | zero => exact h.elim
  | succ n =>
    simp only [Lays, Try.underlying33] at h
    obtain ⟨kd, es, rfl, _, hlen, hes⟩ := h
    obtain ⟨l, rfl, hl⟩ := map_ofR (fun x hx => lays_stepB (hes x hx))
    have : Try.prog.cellsOf 41 = 4 := by kernel_rfl
    exact ⟨kd, l, by simp [Try.underlying33, this], hl⟩
theorem plays_contract (al : List AV) (hl : al.length = Try.f9.params.size) (h : ∀ (i : Nat) (t : TypeId) (a : AV), Try.f9.params[i]? = some t → al[i]? = some a → Arg Try.prog t a) :
    ACall Try.prog 9 al noHeap 0 (fun r _ _ => r = .lit (.bool true)) := by
  rw [Try.params9] at hl h
  match al, hl with
  | [a0, a1, a2], _ =>
    obtain ⟨k0, l, rfl, _⟩ := arg_globs (h 0 _ _ rfl rfl)
    obtain ⟨x, rfl, _⟩ := arg_int (h 1 _ _ rfl rfl)
    obtain ⟨k1, sts, rfl, hs⟩ := arg_stepsB (h 2 _ _ rfl rfl)
    exact p_MemPlays hs noHeap 0
end Go.Proofs.Ytmgmgeijfkcglaa
