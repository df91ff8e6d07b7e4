/- Framework, part 20: from a contract to a row's 'post'. -/
import Derived.Test.YtmgmgeijfkcglaaH1
import Derived.ProofKit
namespace Go.Fw
set_option linter.unusedSimpArgs false
set_option linter.unusedVariables false
open Go Go.RowKit Go.ChangeAt Go.ChangeShapes Go.WideShapes
set_option linter.unusedSectionVars false
variable [Globals]

section
variable {P : Program} {H : Type} {enc : TypeId × Value → H}

/-- The ghost side at a law's start: all that is there stays. -/
def Env.start (W : World) : Env := { w := W, I := fun b => b < W.heap.size, ρ := fun _ => (0, 0), N := 0 }

/-- A law's contract, at a world. -/
theorem globOk_none (h : ∀ g, Globals.tbl g = none) (e : Env) : GlobOk e := fun g cs hg => by rw [h g] at hg; cases hg

theorem PCall.calls {f : FuncId} {args : List AV} {r : AV} (h : PCall P f args r) (W : World) (hG : GlobOk (Env.start W)) {vs : List Value} (hl : vs.length = args.length)
    (hr : ∀ (i : Nat) (c : AV) (v : Value), args[i]? = some c → vs[i]? = some v → Rep (Env.start W) c v) :
    Calls P f vs.toArray W (fun x W' => ∃ v e', x = .returned v ∧ e'.w = W' ∧ Rep e' r v ∧ Below W.heap.size W W') := by
  refine (h.2 (Env.start W) vs ⟨fun b hb => hb, hG⟩ hl hr).mono ?_
  rintro x W' ⟨v, e', rfl, rfl, hrep, ht⟩
  exact ⟨v, e', rfl, rfl, hrep, ⟨ht.os, ht.tape, ht.output, ht.size, ht.old⟩⟩

/-- A law over numbers. -/
theorem PCall.calls_lits {f : FuncId} {vs : List Value} {b : Bool} (h : PCall P f (vs.map AV.lit) (.lit (.bool b))) (W : World) (hG : GlobOk (Env.start W)) :
    Calls P f vs.toArray W (fun x W' => x = .returned (.bool b) ∧ Below W.heap.size W W') := by
  refine (h.calls W hG (by simp) (fun i c v hc hv => ?_)).mono ?_
  · simp only [List.getElem?_map, hv, Option.map_some, Option.some.injEq] at hc
    subst hc
    exact .lit v
  · rintro x W' ⟨v, e', rfl, rfl, hrep, hb⟩
    cases hrep
    exact ⟨rfl, hb⟩

theorem i64_range {n : Int} (w : (Lit.int .i64 n).wf = true) : -9223372036854775808 ≤ n ∧ n < 9223372036854775808 := by
  simp [Lit.wf, IntKind.min, IntKind.max, IntKind.bits, IntKind.signed] at w
  omega

theorem ACall.calls {f : FuncId} {args : List AV} (h : ACall P f args noHeap 0 (fun r _ _ => r = .lit (.bool true))) (W : World) (hG : GlobOk (Env.start W)) {vs : List Value} (hl : vs.length = args.length)
    (hr : ∀ (i : Nat) (c : AV) (v : Value), args[i]? = some c → vs[i]? = some v → Rep (Env.start W) c v) :
    Calls P f vs.toArray W (fun x W' => x = .returned (.bool true) ∧ Below W.heap.size W W') := by
  have hH : HRep (Env.start W) noHeap := ⟨(fun id o ho => by cases ho), (fun i j o o' ho => by cases ho), fun b hb => hb, hG⟩
  refine (h.2 (Env.start W) vs hH rfl hl hr).mono ?_
  rintro x W' ⟨v, e', r, H', rfl, rfl, rfl, hrep, hH', ht⟩
  cases hrep
  exact ⟨rfl, ht.os, ht.tape, ht.output, ht.size, fun b hb => ht.fr b hb (fun ⟨id, o, ho, _⟩ => by cases ho)⟩

/-- 'post' of a function that only makes memory. -/
theorem post_of_below {f : Func} {s : ChangeSpec} {apart fresh handsOn again : Bool} {W W' : World} {args : Array Value} {v : Value} {ds gs : List (DataW H)} {before pa pv : List MemPlace}
    (hW : DataW.Whole enc P f.params.toList s.vars apart W args.toList ds gs before) (hb : Below W.heap.size W W')
    (hres : ∀ (b : Nat) (sp : Nat → Bool) (hd : Bool), DataW.TrodAll enc P W' b sp hd f.resultTypes.toList (v.resultList f.resultTypes.size) (s.fn H (ds ++ gs)).results [])
    (hargs : ∀ sp : Nat → Bool, (∀ p ∈ before, sp p.block = true) → DataW.TrodAll enc P W' 0 sp true f.params.toList args.toList (s.fn H (ds ++ gs)).args pa)
    (hvars : ∀ sp : Nat → Bool, (∀ p ∈ before, sp p.block = true) → DataW.TrodVars enc P W' sp s.vars (s.fn H (ds ++ gs)).vars pv)
    (hps : before = pa ++ pv)
    (hok : ∀ (j : Nat) (t : TypeId) (r : Value), f.resultTypes[j]? = some t → (v.resultList f.resultTypes.size)[j]? = some r → Value.okWide P W' .any 0 t r) :
    s.post enc P f apart fresh handsOn again W args v W' := by
  have hold : ∀ p ∈ before, (fun b => decide (b < W.heap.size)) p.block = true := fun p hp => by simpa using hW.lt p hp
  have hlt : ∀ p ∈ before, p.block < W.heap.size := fun p hp => by simpa using hW.lt p hp
  refine ⟨ds, gs, before, [], pa, pv, hW, hres _ _ _, hargs _ hold, hvars _ hold, World.keptBut_mono (fun p hp => ⟨hp, ?_⟩) (hb.frame (· ∈ before)), fun _ => ?_⟩
  · rw [hps, List.mem_append] at hp
    exact Or.inr hp
  · obtain ⟨_, _, _, _, _, hz, hn⟩ := hW
    refine ⟨hok, _, _, ([] ++ pa) ++ pv, ⟨[] ++ pa, pv, trodAll_append (hargs _ (fun _ _ => rfl)) (hres _ _ _), hvars _ (fun _ _ => rfl), rfl, ?_, ?_⟩, ?_⟩
    · intro b off hp
      have hp' : MemPlace.cell b off ∈ before := by rw [hps]; simpa using hp
      rw [hb.frozen (p := ⟨b, off, none⟩) (hlt _ hp')]
      exact hz b off hp'
    · intro ha
      have := hn ha
      rw [hps] at this
      simpa using this
    · intro p hp _
      rw [hps]
      simpa using hp

end
end Go.Fw
