/- Framework, part 28: what a call's arguments hold may be told as values that nobody writes any more. -/
import Derived.Test.YtmgmgeijfkcglaaH8
namespace Go.Fw
set_option linter.unusedSimpArgs false
set_option linter.unusedVariables false
open Go
set_option linter.unusedSectionVars false
variable [Globals]

theorem ext_still {e : Env} {H : AHeap} : Ext e (e.still H e.ρ e.N) :=
  ⟨fun _ h => .inl h, fun _ _ => rfl, fun _ _ => rfl, Nat.le_refl _, fun _ c _ fz h => ⟨c, fz, h, rfl⟩⟩

theorem hrep_still {e : Env} {H K F : AHeap} (hH : HRep e H) (hK : ∀ id o, K id = some o → H id = some o) (hF : ∀ id o, F id = some o → H id = some o) (hd : ∀ id o, K id = some o → F id = none) : HRep (e.still F e.ρ e.N) K where
  at_ := fun id o ho => by
    obtain ⟨h1, h2, h3⟩ := hH.at_ id o (hK id o ho)
    refine ⟨h1, ?_, h3.ext ext_still rfl⟩
    rintro (h4 | ⟨j, oj, h5, h6⟩)
    · exact h2 h4
    · have : j = id := hH.inj j id oj o (hF j oj h5) (hK id o ho) h6
      subst this
      rw [hd j o ho] at h5
      cases h5
  inj := fun i j o o' hi hj hij => hH.inj i j o o' (hK i o hi) (hK j o' hj) hij
  imm := fun b hb => by
    rcases hb with h | ⟨j, oj, h5, h6⟩
    · exact hH.imm b h
    · rw [← h6]; exact (hH.at_ j oj (hF j oj h5)).2.2.lt
  gl := hH.gl.ext ext_still

section
variable {P : Program}

/-- A part of the heap is written no more: the call sees it as values. -/
theorem ACall.freeze {f : FuncId} {args args' : List AV} {H K F : AHeap} {N : Nat} {Q : AV → AHeap → Nat → Prop} (h : ACall P f args' K N Q)
    (hK : ∀ id o, K id = some o → H id = some o) (hF : ∀ id o, F id = some o → H id = some o) (hd : ∀ id o, K id = some o → F id = none)
    (hl : args.length = args'.length) (hv : ∀ (i : Nat) (a b : AV), args[i]? = some a → args'[i]? = some b → a = b ∨ View F a b) : ACall P f args H N Q := by
  refine ⟨h.1, fun e vs hH hN hvl hr => ?_⟩
  have hHF : HRep e F := hrep_sub hH hF
  have hK' := hrep_still hH hK hF hd
  refine (h.2 (e.still F e.ρ e.N) vs hK' hN (hvl.trans hl) (fun i c v hc hv' => ?_)).mono ?_
  · have hi : i < args'.length := (List.getElem?_eq_some_iff.1 hc).1
    have ha : args[i]? = some (args[i]'(by omega)) := by simp [show i < args.length by omega]
    have hrep := hr i _ v ha hv'
    rcases hv i _ c ha hc with h1 | h1
    · rw [← h1]; exact hrep.ext ext_still
    · exact h1.rep hHF hrep _ _
  · rintro x w' ⟨v, e2, r, H2, rfl, rfl, hQ, hrep, hH2, htr⟩
    have own : ∀ b, Own (e.still F e.ρ e.N) K b → Own e H b := fun b ⟨id, o, h1, h2⟩ => ⟨id, o, hK id o h1, h2⟩
    refine ⟨v, e2, r, H2, rfl, rfl, hQ, hrep, hH2, ext_still.trans htr.ext, fun b hb hn => htr.fr b hb (fun ho => hn (own b ho)), fun b hb => (htr.own b hb).imp (own b) (fun h => h), fun b hb => ?_, htr.size, htr.os, htr.tape, htr.output⟩
    rcases htr.im b hb with h1 | h1 | h1
    · rcases h1 with h1 | ⟨id, o, h1, h2⟩
      · exact .inl h1
      · exact .inr (.inl ⟨id, o, hF id o h1, h2⟩)
    · exact .inr (.inl (own b h1))
    · exact .inr (.inr h1)

/-- All of the heap is written no more. -/
theorem ACall.still {f : FuncId} {args args' : List AV} {H : AHeap} {N : Nat} {Q : AV → AHeap → Nat → Prop} (h : ACall P f args' noHeap N Q)
    (hl : args.length = args'.length) (hv : ∀ (i : Nat) (a b : AV), args[i]? = some a → args'[i]? = some b → a = b ∨ View H a b) : ACall P f args H N Q :=
  h.freeze (fun id o ho => by cases ho) (fun _ _ h => h) (fun id o ho => by cases ho) hl hv

end
end Go.Fw
