/- code: a call that only makes memory sees mutable arguments as values, and all that is kept; cells that are written within a row. -/
import Derived.Test.YtanpcmkhhpaeiaaDoorNO
namespace Go.Fw
set_option linter.unusedSimpArgs false
set_option linter.unusedVariables false
set_option linter.unusedSectionVars false
variable [Globals]
open Go

/-- A call that only makes memory: what it is handed may be told as values, and nothing is lost. -/
theorem PCall.seen {P : Program} {f : FuncId} {args args' : List AV} {x : Value} {H : AHeap} {N : Nat} {Q : AV → AHeap → Nat → Prop} (h : PCall P f args' (.lit x))
    (hl : args.length = args'.length) (hv : ∀ (i : Nat) (a b : AV), args[i]? = some a → args'[i]? = some b → a = b ∨ View H a b) (hq : Q (.lit x) H N) : ACall P f args H N Q := by
  refine ⟨h.1, fun e vs hH hN hvl hr => ?_⟩
  have hK' := hrep_still (K := noHeap) (F := H) hH (fun id o ho => by cases ho) (fun _ _ h => h) (fun id o ho => by cases ho)
  refine (h.2 (e.still H e.ρ e.N) vs ⟨hK'.imm, hK'.gl⟩ (hvl.trans hl) (fun i c v hc hv' => ?_)).mono ?_
  · have hi : i < args'.length := (List.getElem?_eq_some_iff.1 hc).1
    have ha : args[i]? = some (args[i]'(by omega)) := by simp [show i < args.length by omega]
    have hrep := hr i _ v ha hv'
    rcases hv i _ c ha hc with h1 | h1
    · rw [← h1]; exact hrep.ext ext_still
    · exact h1.rep hH hrep _ _
  · rintro y w' ⟨v, e2, rfl, rfl, hrep, hp⟩
    cases hrep
    have hp' : PTr e { w := e2.w, I := e.I, ρ := e.ρ, N := e.N } := ⟨rfl, rfl, hp.old, fun _ h => h, fun _ h => .inl h, hp.size, hp.os, hp.tape, hp.output⟩
    exact ⟨x, { w := e2.w, I := e.I, ρ := e.ρ, N := e.N }, .lit x, H, rfl, rfl, by rw [← hN] at hq; exact hq, .lit x, hp'.hrep hH, hp'.tr hH⟩
end Go.Fw
namespace Go.Proofs.YtanpcmkhhpaeiaaDoor
set_option linter.unusedSimpArgs false
set_option linter.unusedVariables false
open Go Go.Fw

theorem flat_set {sz : Nat} {v : AV} {c : Nat} (hc : c < sz) : ∀ {L : List (List AV)} (h : ∀ x ∈ L, x.length = sz) {k : Nat} (hk : k < L.length), L.flatten.set (k * sz + c) v = (L.set k (L[k].set c v)).flatten
  | [], _, k, hk => by simp at hk
  | a :: L, h, 0, hk => by
    have ha := h a (by simp)
    rw [Nat.zero_mul, Nat.zero_add, List.flatten_cons, List.set_append_left _ _ (by omega)]
    rfl
  | a :: L, h, k + 1, hk => by
    have ha := h a (by simp)
    have ih := flat_set hc (v := v) (L := L) (fun x hx => h x (by simp [hx])) (k := k) (by simpa using hk)
    have e : (k + 1) * sz + c = a.length + (k * sz + c) := by rw [ha, Nat.succ_mul]; omega
    rw [List.flatten_cons, e, List.set_append_right _ _ (by omega), Nat.add_sub_cancel_left, ih]
    simp

theorem flat_splice {sz : Nat} {y : List AV} : ∀ {L : List (List AV)} (h : ∀ x ∈ L, x.length = sz) {k : Nat} (hk : k < L.length), L.flatten.take (k * sz) ++ (y ++ L.flatten.drop (k * sz + sz)) = (L.set k y).flatten
  | [], _, k, hk => by simp at hk
  | a :: L, h, 0, hk => by
    have ha := h a (by simp)
    simp [← ha]
  | a :: L, h, k + 1, hk => by
    have ha := h a (by simp)
    have ih := flat_splice (y := y) (L := L) (fun x hx => h x (by simp [hx])) (k := k) (by simpa using hk)
    have e : (k + 1) * sz = a.length + k * sz := by rw [ha, Nat.succ_mul]; omega
    rw [List.flatten_cons, e, List.take_length_add_append, Nat.add_assoc, List.drop_length_add_append, List.append_assoc, ih]
    simp

theorem eqvL_symm {α : Type} {r : α → α → Bool} (h : ∀ x y, r x y = r y x) (l m : List α) : eqvL r l m = eqvL r m l := by
  rw [Bool.eq_iff_iff, eqvL_iff, eqvL_iff]
  constructor
  · rintro ⟨a, b⟩
    exact ⟨a.symm, fun i h1 h2 => by rw [h]; exact b i h2 h1⟩
  · rintro ⟨a, b⟩
    exact ⟨a.symm, fun i h1 h2 => by rw [h]; exact b i h2 h1⟩
theorem sameIns_symm (x y : Ins) : sameIns x y = sameIns y x := by
  rw [Bool.eq_iff_iff]
  simp only [sameIns, decide_eq_true_eq]
  constructor <;> (rintro ⟨a, b, c, d, e, f⟩; exact ⟨a.symm, b.symm, c.symm, d.symm, e.symm, f.symm⟩)
theorem sameFun_symm (x y : FunV) : sameFun x y = sameFun y x := by
  unfold sameFun
  rw [eqvL_symm sameIns_symm]
  congr 1
  rw [Bool.eq_iff_iff]
  simp only [decide_eq_true_eq]
  constructor <;> (rintro ⟨a, b, c, d⟩; exact ⟨a.symm, b.symm, c.symm, d.symm⟩)
theorem samePrg_symm (p q : PrgV) : samePrg p q = samePrg q p := by
  unfold samePrg
  rw [eqvL_symm (r := memE) (fun x y => ?_), eqvL_symm (r := strE) (fun x y => ?_), eqvL_symm sameFun_symm]
  · rw [Bool.eq_iff_iff]
    simp only [strE, decide_eq_true_eq]
    exact ⟨Eq.symm, Eq.symm⟩
  · rw [Bool.eq_iff_iff]
    simp only [memE, decide_eq_true_eq]
    constructor <;> (rintro ⟨a, b, c⟩; exact ⟨a.symm, b.symm, c.symm⟩)

/-- One Fun is another one. -/
theorem same_set {p : PrgV} {k : Nat} {g : FunV} {kd : SK} (hk : k < p.funs.length) : samePrg p { p with fk := kd, funs := p.funs.set k g } = sameFun p.funs[k] g := by
  unfold samePrg
  simp only
  rw [eqvL_refl (r := memE) (by intro x; simp [memE]), eqvL_refl (r := strE) (by intro x; simp [strE]), Bool.true_and, Bool.true_and]
  rw [Bool.eq_iff_iff, eqvL_iff]
  constructor
  · rintro ⟨_, h⟩
    have := h k hk (by simpa using hk)
    simpa using this
  · intro h
    refine ⟨by simp, fun i h1 h2 => ?_⟩
    rw [List.getElem_set]
    split
    · rename_i e; subst e; exact h
    · exact sameFun_refl _
theorem same_code {f : FunV} {n : Nat} {i : Ins} {kd : SK} (hn : n < f.code.length) : sameFun f { f with k := kd, code := f.code.set n i } = sameIns f.code[n] i := by
  unfold sameFun
  simp only [and_self, decide_true, Bool.true_and]
  rw [Bool.eq_iff_iff, eqvL_iff]
  constructor
  · rintro ⟨_, h⟩
    have := h n hn (by simpa using hn)
    simpa using this
  · intro h
    refine ⟨by simp, fun i h1 h2 => ?_⟩
    rw [List.getElem_set]
    split
    · rename_i e; subst e; exact h
    · exact sameIns_refl _
theorem same_name {f : FunV} {s : ByteArray} (h : s.size ≠ f.name.size) : sameFun f { f with name := s } = false := by
  unfold sameFun
  rw [decide_eq_false (fun h2 => h (congrArg ByteArray.size (h2.1 : f.name = s)).symm), Bool.false_and]
theorem same_less {p : PrgV} {k : Nat} {kd : SK} (hk : k < p.funs.length) : samePrg p { p with fk := kd, funs := p.funs.take k ++ p.funs.drop (k + 1) } = false := by
  unfold samePrg
  simp only
  rw [eqvL_len (l := p.funs) (by simp; omega), Bool.and_false, Bool.and_false]
end Go.Proofs.YtanpcmkhhpaeiaaDoor
