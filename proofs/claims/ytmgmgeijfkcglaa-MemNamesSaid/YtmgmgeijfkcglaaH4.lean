/- Framework, part 22: rows over any plain arguments. -/
import Derived.Test.YtmgmgeijfkcglaaH3
namespace Go.Fw
set_option linter.unusedSimpArgs false
set_option linter.unusedVariables false
open Go Go.RowKit Go.ChangeAt Go.ChangeShapes Go.WideShapes
set_option linter.unusedSectionVars false
variable [Globals]

section
variable {P : Program} {H : Type} {enc : TypeId × Value → H}

theorem trodAll_below (hl : laidOutB P = true) {W W' : World} (hb : Below W.heap.size W W') {sp : Nat → Bool} : ∀ (ts : List TypeId) (vs : List Value) (ds : List (DataW H)) (ps : List MemPlace), (∀ t ∈ ts, P.readableRec t = true ∧ t < P.types.size) →
    DataW.TrodAll enc P W 0 (fun _ => true) true ts vs ds ps → (∀ x ∈ ps, x.block < W.heap.size) → (∀ x ∈ ps, sp x.block = true) → DataW.TrodAll enc P W' 0 sp true ts vs ds ps
  | [], [], [], ps, _, h, _, _ => h
  | t :: ts, v :: vs, d :: ds, ps, ht, h, hlt, hsp => by
    obtain ⟨p, q, h1, h2, rfl⟩ := h
    obtain ⟨hr, hrow⟩ := ht t (by simp)
    refine ⟨p, q, WideElems.Trod_stays hl hr hrow h1 (fun x hx => hb.same (hlt x (by simp [hx]))) (fun x hx => hsp x (by simp [hx])), ?_, rfl⟩
    exact trodAll_below hl hb ts vs ds q (fun t ht' => ht t (by simp [ht'])) h2 (fun x hx => hlt x (by simp [hx])) (fun x hx => hsp x (by simp [hx]))
  | [], _ :: _, _, _, _, h, _, _ => h.elim
  | [], [], _ :: _, _, _, h, _, _ => h.elim
  | _ :: _, [], _, _, _, h, _, _ => h.elim
  | _ :: _, _ :: _, [], _, _, h, _, _ => h.elim

/-- An argument of a plain type, as an abstract value. -/
def Arg (P : Program) (t : TypeId) (a : AV) : Prop := ∃ as n, Lays P n t as ∧ a = (match P.underlying t with | some (.struct _) => AV.agg as | _ => as.headD .junk)

theorem arg_av {S : List TypeId} (hS : closedB P S = true) {w : World} {base : Nat} {t : TypeId} {v : Value} {d : DataW H} {ps : List MemPlace} (ht : t ∈ S)
    (hok : Value.okWide P w .any base t v) (h : DataW.Trod enc P w 0 (fun _ => true) true t v d ps) : ∃ a, Rep (Env.start w) a v ∧ Arg P t a := by
  obtain ⟨as, n, h1, h2⟩ := arg_rep hS ht h
  by_cases hst : ∃ fs, P.underlying t = some (.struct fs)
  · obtain ⟨fs, hfs⟩ := hst
    simp only [Value.okWide, hfs] at hok
    obtain ⟨cs, rfl, _⟩ := hok
    simp only [Value.cells] at h1
    refine ⟨.agg as, .agg (vs := cs.toList) h1.1 (fun u hu => ?_) (fun i c u hc hu => (h1.2 i c u hc hu).2), as, n, h2, by rw [hfs]⟩
    obtain ⟨i, hi, rfl⟩ := List.getElem_of_mem hu
    have hi' : i < as.length := by rw [← h1.1]; exact hi
    exact (h1.2 i as[i] _ (by simp [hi']) (by simp at hi; simp [hi])).1
  · have hone : (∃ a, as = [a]) ∧ v.cells = #[v] := by
      cases n with
      | zero => exact h2.elim
      | succ n =>
        simp only [Lays] at h2
        split at h2
        · rename_i hu
          obtain ⟨b, rfl⟩ := h2
          refine ⟨⟨_, rfl⟩, ?_⟩
          cases v <;> first | rfl | (simp [Value.okWide, hu, Cell.okWide, Cell.ok] at hok; done)
        · rename_i hu
          obtain ⟨m, rfl, _⟩ := h2
          refine ⟨⟨_, rfl⟩, ?_⟩
          cases v <;> first | rfl | (simp [Value.okWide, hu, Cell.okWide, Cell.ok] at hok; done)
        · rename_i hu
          obtain ⟨s, rfl, _⟩ := h2
          refine ⟨⟨_, rfl⟩, ?_⟩
          cases v <;> first | rfl | (simp [Value.okWide, hu, Cell.okWide, Cell.ok] at hok; done)
        · rename_i hu
          obtain ⟨kd, es, rfl, _⟩ := h2
          refine ⟨⟨_, rfl⟩, ?_⟩
          cases v <;> first | rfl | (simp [Value.okWide, hu, Cell.okWide, Cell.ok] at hok; done)
        · rename_i fs hfs; exact absurd ⟨fs, hfs⟩ hst
        · exact h2.elim
    obtain ⟨⟨a, rfl⟩, hv⟩ := hone
    refine ⟨a, ?_, [a], n, h2, ?_⟩
    · rw [hv] at h1
      exact (h1.2 0 a v (by simp) (by simp)).2
    · split
      · rename_i fs hfs; exact absurd ⟨fs, hfs⟩ hst
      · rfl

/-- All arguments, as abstract values. -/
theorem args_av {S : List TypeId} (hS : closedB P S = true) {w : World} {base : Nat} : ∀ (ts : List TypeId) (vs : List Value) (ds : List (DataW H)) (ps : List MemPlace), (∀ t ∈ ts, t ∈ S) →
    (∀ (j : Nat) (t : TypeId) (v : Value), ts[j]? = some t → vs[j]? = some v → Value.okWide P w .any base t v) → DataW.TrodAll enc P w 0 (fun _ => true) true ts vs ds ps →
    ∃ as : List AV, vs.length = as.length ∧ as.length = ts.length ∧ (∀ (i : Nat) (c : AV) (v : Value), as[i]? = some c → vs[i]? = some v → Rep (Env.start w) c v) ∧ ∀ (i : Nat) (t : TypeId) (a : AV), ts[i]? = some t → as[i]? = some a → Arg P t a
  | [], [], [], _, _, _, _ => ⟨[], rfl, rfl, fun i c v hc => by simp at hc, fun i t a hc => by simp at hc⟩
  | t :: ts, v :: vs, d :: ds, ps, hin, hok, h => by
    obtain ⟨p, q, h1, h2, rfl⟩ := h
    obtain ⟨a, g1, g2⟩ := arg_av hS (hin t (by simp)) (hok 0 t v rfl rfl) h1
    obtain ⟨as, k1, k2, k3, k4⟩ := args_av hS ts vs ds q (fun t ht => hin t (by simp [ht])) (fun j t v hj hv => hok (j + 1) t v (by simpa using hj) (by simpa using hv)) h2
    refine ⟨a :: as, by simp [k1], by simp [k2], fun i c u hc hu => ?_, fun i t' b ht hb => ?_⟩
    · cases i with
      | zero => simp at hc hu; subst hc; subst hu; exact g1
      | succ i => exact k3 i c u (by simpa using hc) (by simpa using hu)
    · cases i with
      | zero => simp at ht hb; subst ht; subst hb; exact g2
      | succ i => exact k4 i t' b (by simpa using ht) (by simpa using hb)
  | [], _ :: _, _, _, _, _, h => h.elim
  | [], [], _ :: _, _, _, _, h => h.elim
  | _ :: _, [], _, _, _, _, h => h.elim
  | _ :: _, _ :: _, [], _, _, _, h => h.elim

/-- A law over plain arguments: what its row's step asks. -/
theorem law_step {S : List TypeId} (hS : closedB P S = true) (hl : laidOutB P = true) {f : FuncId} {fn : Func} {s : ChangeSpec} {apart fresh handsOn again : Bool} {tb : TypeId}
    (hpar : ∀ t ∈ fn.params.toList, t ∈ S ∧ P.readableRec t = true ∧ t < P.types.size) (hvars : s.vars = []) (hres : fn.resultTypes = #[tb]) (htb : P.underlying tb = some .bool)
    (hfn : ∀ ds : List (DataW H), ds.length = fn.params.size → s.fn H ds = { results := [.lit (.bool true)], args := ds })
    (hcon : ∀ as : List AV, as.length = fn.params.size → (∀ (i : Nat) (t : TypeId) (a : AV), fn.params[i]? = some t → as[i]? = some a → Arg P t a) → ACall P f as noHeap 0 (fun r _ _ => r = .lit (.bool true)))
    {W : World} {base : Nat} {args : Array Value} {ds gs : List (DataW H)} {before : List MemPlace}
    (hval : ∀ (j : Nat) (t : TypeId) (v : Value), fn.params[j]? = some t → args[j]? = some v → Value.okWide P W .any base t v)
    (hW : DataW.Whole enc P fn.params.toList s.vars apart W args.toList ds gs before) (hG : GlobOk (Env.start W)) :
    Calls P f args W (fun x W' => ∃ v, x = .returned v ∧ s.post enc P fn apart fresh handsOn again W args v W') := by
  have hW' := hW
  obtain ⟨p, q, hA, hV, rfl, hfz, hnd⟩ := hW
  rw [hvars] at hV
  have hgq : gs = [] ∧ q = [] := by
    cases gs with
    | nil => exact ⟨rfl, hV⟩
    | cons g gs => exact hV.elim
  obtain ⟨rfl, rfl⟩ := hgq
  obtain ⟨as, h1, h2, h3, h4⟩ := args_av hS fn.params.toList args.toList ds p (fun t ht => (hpar t ht).1) (fun j t v hj hv => hval j t v (by simpa using hj) (by simpa using hv)) hA
  have hds : ds.length = fn.params.size := by
    have key : ∀ (ts : List TypeId) (vs : List Value) (ds : List (DataW H)) (ps : List MemPlace), DataW.TrodAll enc P W 0 (fun _ => true) true ts vs ds ps → ds.length = ts.length := by
      intro ts
      induction ts with
      | nil => intro vs ds ps h; cases vs <;> cases ds <;> first | rfl | exact h.elim
      | cons t ts ih =>
        intro vs ds ps h
        cases vs with
        | nil => exact h.elim
        | cons v vs =>
          cases ds with
          | nil => exact h.elim
          | cons d ds => obtain ⟨_, q, _, h2, _⟩ := h; simp [ih vs ds q h2]
    simpa using key _ _ _ _ hA
  have hc := (hcon as (by simpa using h2) (fun i t a ht ha => h4 i t a (by simpa using ht) ha)).calls W hG (vs := args.toList) h1 h3
  refine hc.mono fun x W' ⟨hx, hb⟩ => ⟨.bool true, hx, ?_⟩
  have hlt : ∀ y ∈ p, y.block < W.heap.size := fun y hy => by simpa using hW'.lt y (by simpa using hy)
  refine post_of_below (pa := p) (pv := []) hW' hb (fun b sp hd => ?_) (fun sp hsp => ?_) (fun sp _ => ?_) (by simp) ?_
  · rw [List.append_nil, hfn ds hds, hres]
    exact ⟨[], [], shut_bool htb _, rfl, rfl⟩
  · rw [List.append_nil, hfn ds hds]
    exact trodAll_below hl hb _ _ _ _ (fun t ht => (hpar t ht).2) hA hlt (fun y hy => hsp y (by simpa using hy))
  · rw [List.append_nil, hfn ds hds, hvars]
    rfl
  · exact ok_one hres rfl (okWide_bool_mk htb _)

end
end Go.Fw
