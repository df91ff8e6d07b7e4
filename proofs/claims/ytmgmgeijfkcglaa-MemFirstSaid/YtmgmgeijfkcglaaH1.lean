/- Framework, part 19: numbers that are not in use. -/
import Derived.Test.YtmgmgeijfkcglaaG9
namespace Go.Fw
set_option linter.unusedSimpArgs false
set_option linter.unusedVariables false
open Go
set_option linter.unusedSectionVars false
variable [Globals]

def Fresh (H : AHeap) (N : Nat) : Prop := ∀ id, N ≤ id → H id = none

section
variable {P : Program}

theorem HRep.fresh {e : Env} {H : AHeap} (h : HRep e H) : Fresh H e.N := fun id hid => by
  cases ho : H id with
  | none => rfl
  | some o => have := (h.at_ id o ho).1; omega

theorem goodFn_of {An : Ann} {f : FuncId} {x : ACode × List RV × Nat} (hc : codeOf P An f = some x) : goodFn P f = true := by
  unfold codeOf at hc
  split at hc
  · split at hc
    · assumption
    · cases hc
  · cases hc

theorem ACall.fresh {f : FuncId} (hg : goodFn P f = true) {args : List AV} {H : AHeap} {N : Nat} {Q : AV → AHeap → Nat → Prop} (h : Fresh H N → ACall P f args H N Q) : ACall P f args H N Q :=
  ⟨hg, fun e vs hH hN hl hr => (h (hN ▸ hH.fresh)).2 e vs hH hN hl hr⟩

/-- A contract holds with its end's numbers. -/
theorem ACall.monoF {f : FuncId} {args : List AV} {H : AHeap} {N : Nat} {Q Q' : AV → AHeap → Nat → Prop} (h : ACall P f args H N Q) (hq : ∀ r H' N', Q r H' N' → Fresh H' N' → N ≤ N' → Q' r H' N') : ACall P f args H N Q' :=
  ⟨h.1, fun e vs hH hN hl hr => (h.2 e vs hH hN hl hr).mono (by
    rintro x w' ⟨v, e', r, H', hx, hw, hQ, hrep, hH', ht⟩
    exact ⟨v, e', r, H', hx, hw, hq _ _ _ hQ hH'.fresh (by rw [← hN]; exact ht.ext.N), hrep, hH', ht⟩)⟩

theorem acallF (hm : P.follows .mixedOrders = true) {f : FuncId} {An : Ann} {ac : ACode} {l : List RV} {nt : Nat} (hc : codeOf P An f = some (ac, l, nt))
    {args : List AV} (hle : args.length ≤ nt) {H : AHeap} {N : Nat} {Q : AV → AHeap → Nat → Prop} (h : Fresh H N → run P ac [] (fin l Q) ⟨argA args, H, N⟩) : ACall P f args H N Q :=
  .fresh (goodFn_of hc) fun hf => acall hm hc hle (h hf)

theorem Fresh.set {H : AHeap} {N : Nat} (h : Fresh H N) (o : AObj) : Fresh (H.set N o) (N + 1) := fun id hid => by
  simp only [AHeap.set]
  rw [if_neg (by omega)]
  exact h id (by omega)

theorem Fresh.keeps {H : AHeap} {N : Nat} (h : Fresh H N) (o : AObj) : Keeps H (H.set N o) := fun id ob hid => by
  simp only [AHeap.set]
  split
  · rename_i he; subst he; rw [h _ (Nat.le_refl _)] at hid; cases hid
  · exact hid

theorem Fresh.lt {H : AHeap} {N id : Nat} {o : AObj} (h : Fresh H N) (hid : H id = some o) : id < N := by
  rcases Nat.lt_or_ge id N with h1 | h1
  · exact h1
  · rw [h id h1] at hid; cases hid

end
end Go.Fw
