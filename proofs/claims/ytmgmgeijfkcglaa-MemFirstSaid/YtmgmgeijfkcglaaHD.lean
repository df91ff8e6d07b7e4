/- Framework, part 32: pieces of the abstract heap that lie apart. -/
import Derived.Test.YtmgmgeijfkcglaaHA
namespace Go.Fw
set_option linter.unusedSimpArgs false
set_option linter.unusedVariables false
open Go
set_option linter.unusedSectionVars false
variable [Globals]

def AHeap.le (A B : AHeap) : Prop := ∀ id o, A id = some o → B id = some o
def Dis (A B : AHeap) : Prop := ∀ id o, A id = some o → B id = none

theorem AHeap.le.refl (A : AHeap) : A.le A := fun _ _ h => h
theorem AHeap.le.trans {A B C : AHeap} (h : A.le B) (k : B.le C) : A.le C := fun id o ho => k id o (h id o ho)
theorem Dis.symm {A B : AHeap} (h : Dis A B) : Dis B A := fun id o ho => by
  cases ha : A id with
  | none => rfl
  | some o' => rw [h id o' ha] at ho; cases ho
theorem Dis.sub {A A' B B' : AHeap} (h : Dis A B) (ha : A'.le A) (hb : B'.le B) : Dis A' B' := fun id o ho => by
  cases hb' : B' id with
  | none => rfl
  | some o' => have := h id o (ha id o ho); rw [hb id o' hb'] at this; cases this
theorem le_or_left (A B : AHeap) : A.le (A.or B) := fun id o ho => by simp [AHeap.or, ho]
theorem le_or_right {A B : AHeap} (h : Dis A B) : B.le (A.or B) := fun id o ho => by
  simp [AHeap.or, h.symm id o ho, ho]

section
variable {P : Program}

/-- A contract over a piece of the heap, used in the whole: what lay apart lies apart still, as it was. -/
theorem ACall.on {f : FuncId} {args : List AV} {Hm H : AHeap} {N : Nat} {Q : AV → AHeap → Nat → Prop} (h : ACall P f args Hm N Q) (hs : Hm.le H) :
    ACall P f args H N (fun r H' N' => ∃ H1, Q r H1 N' ∧ H1.le H' ∧ (∀ F, F.le H → Dis Hm F → F.le H' ∧ Dis H1 F) ∧ Fresh H' N' ∧ N ≤ N') := by
  obtain ⟨F0, hF0⟩ : ∃ F0 : AHeap, F0 = fun id => if (Hm id).isNone = true then H id else none := ⟨_, rfl⟩
  have hd : Dis Hm F0 := fun id o ho => by simp [hF0, ho]
  have hor : Hm.or F0 = H := by
    funext id
    simp only [AHeap.or, hF0]
    cases hm : Hm id with
    | none => simp
    | some o => simp [hs id o hm]
  refine ⟨h.1, fun e vs hH hN hl hr => ?_⟩
  rw [← hor] at hH
  obtain ⟨hH0, hpost⟩ := frame_post hd hH
  refine (h.2 e vs hH0 hN hl hr).mono ?_
  rintro x w' ⟨v, e', r, H1, rfl, rfl, hq, hrep, hH1, htr⟩
  obtain ⟨k1, k2, k3⟩ := hpost e' H1 hH1 htr
  have hdis : Dis H1 F0 := fun id o ho => by
    cases hf : F0 id with
    | none => rfl
    | some o' =>
      exfalso
      have hid := hH.at_ id o' (le_or_right hd id o' hf)
      have hb : Own e' H1 (e.ρ id).1 := ⟨id, o, ho, by rw [htr.ext.ρ id hid.1]⟩
      rcases htr.own _ hb with ⟨j, oj, hj, hbj⟩ | hge
      · have : j = id := hH.inj j id oj o' (le_or_left _ _ j oj hj) (le_or_right hd id o' hf) hbj
        subst this
        rw [hd j oj hj] at hf
        cases hf
      · have := hid.2.2.lt; omega
  rw [hor] at k3
  refine ⟨v, e', r, H1.or F0, rfl, rfl, ⟨H1, hq, le_or_left _ _, fun F hF hm => ?_, k2.fresh, by rw [← hN]; exact htr.ext.N⟩, hrep, k2, k3⟩
  have hle : F.le F0 := fun id o ho => by simp [hF0, hm.symm id o ho, hF id o ho]
  exact ⟨hle.trans (le_or_right hdis), hdis.sub (AHeap.le.refl _) hle⟩

end
end Go.Fw
