/- code: the plain law of CodeParts: an instruction in another one's place, names turned about. -/
import Derived.Test.YtanpcmkhhpaeiaaDoorNV
namespace Go.Proofs.YtanpcmkhhpaeiaaDoor
set_option linter.unusedSimpArgs false
set_option linter.unusedVariables false
open Go Go.Fw

/-- Two programs of the same shape. -/
structure Sim (p q : PrgV) : Prop where
  m : p.mems.length = q.mems.length
  l : p.locks.length = q.locks.length
  f : p.funs.map (fun f => (f.thread, f.params)) = q.funs.map (fun f => (f.thread, f.params))

theorem Sim.len {p q : PrgV} (h : Sim p q) : p.funs.length = q.funs.length := by simpa using congrArg List.length h.f
theorem Sim.mayB {p q : PrgV} (h : Sim p q) {f g : FunV} (hr : f.regs = g.regs) (hc : f.code.length = g.code.length) (x : Ins) : mayB p f x = mayB q g x := by
  have hn : numOk p f (ofR x.op) x = numOk q g (ofR x.op) x := by
    unfold numOk
    rw [h.m, h.l, h.len, hc]
    have hi := congrArg (fun l => l[x.n.toNat]?) h.f
    simp only [List.getElem?_map] at hi
    cases h1 : p.funs[x.n.toNat]? with
    | none => rw [h1] at hi; cases h2 : q.funs[x.n.toNat]? with
      | none => rfl
      | some b => rw [h2] at hi; cases hi
    | some a => rw [h1] at hi; cases h2 : q.funs[x.n.toNat]? with
      | none => rw [h2] at hi; cases hi
      | some b =>
        rw [h2] at hi
        simp only [Option.map_some, Option.some.injEq, Prod.mk.injEq] at hi
        simp only [hi.1, hi.2]
  unfold Go.Proofs.YtanpcmkhhpaeiaaDoor.mayB mayA
  rw [hn, hr]
theorem Sim.funB {p q : PrgV} (h : Sim p q) (f : FunV) : funB p f = funB q f := by
  have : Go.Proofs.YtanpcmkhhpaeiaaDoor.mayB p f = Go.Proofs.YtanpcmkhhpaeiaaDoor.mayB q f := funext (h.mayB rfl rfl)
  unfold Go.Proofs.YtanpcmkhhpaeiaaDoor.funB
  rw [this]
theorem thrL_map (l : List FunV) : thrL l = (((l.map (·.thread)).zipIdx).filter (·.1)).map (fun x => (x.2 : Int)) := by
  unfold thrL
  rw [List.zipIdx_map, List.filter_map, List.map_map]
  rfl
theorem Sim.thr {p q : PrgV} (h : Sim p q) : thrL p.funs = thrL q.funs := by
  have := congrArg (List.map Prod.fst) h.f
  simp only [List.map_map] at this
  rw [thrL_map, thrL_map]
  have h2 : p.funs.map (·.thread) = q.funs.map (·.thread) := this
  rw [h2]

theorem set_map {α β : Type} {g : α → β} {l : List α} {n : Nat} {a : α} (hn : n < l.length) (h : g a = g l[n]) : (l.set n a).map g = l.map g := by
  refine List.ext_getElem? fun i => ?_
  rw [List.getElem?_map, List.getElem?_map, List.getElem?_set]
  split
  · rename_i e
    subst e
    rw [List.getElem?_eq_getElem hn]
    simp [h]
  · rfl

theorem getLast_set {α : Type} {l : List α} {k : Nat} {a : α} (hk : k + 1 < l.length) : (l.set k a).getLast? = l.getLast? := by
  rw [List.getLast?_eq_getElem?, List.getLast?_eq_getElem?, List.length_set, List.getElem?_set_ne (by omega)]

/-- An instruction in the place of another one, but the last. -/
theorem prgB_set {p : PrgV} (hp : prgB p = true) {n k : Nat} {f : FunV} {i : Ins} {kd kd' : SK} (hf : p.funs[n]? = some f) (hk : k + 1 < f.code.length) :
    prgB { p with fk := kd, funs := p.funs.set n { f with k := kd', code := f.code.set k i } } = mayB p f i := by
  have hn : n < p.funs.length := (List.getElem?_eq_some_iff.1 hf).1
  have hfe : p.funs[n] = f := (List.getElem?_eq_some_iff.1 hf).2
  have hs : Sim p { p with fk := kd, funs := p.funs.set n { f with k := kd', code := f.code.set k i } } := ⟨rfl, rfl, (set_map hn (by rw [hfe])).symm⟩
  have hnames : PrgV.names { p with fk := kd, funs := p.funs.set n { f with k := kd', code := f.code.set k i } } = p.names := by
    unfold PrgV.names
    simp only
    rw [set_map (g := FunV.name) hn (by rw [hfe])]
  have ht := hs.thr
  unfold prgB at hp
  simp only [Bool.and_eq_true] at hp
  obtain ⟨h1, h2, h3, h4⟩ := hp
  unfold prgB
  rw [hnames, h1, ← ht, h2]
  simp only [h3, Bool.true_and]
  rw [Bool.eq_iff_iff, List.all_eq_true]
  rw [List.all_eq_true] at h4
  have hff := h4 f (List.mem_of_getElem? hf)
  unfold funB at hff
  simp only [Bool.and_eq_true] at hff
  obtain ⟨g1, g2, g3⟩ := hff
  rw [List.all_eq_true] at g3
  constructor
  · intro h
    have := h _ (List.mem_of_getElem? (i := n) (by rw [List.getElem?_set_self hn]))
    unfold funB at this
    simp only [Bool.and_eq_true, List.all_eq_true] at this
    have h5 := this.2.2 i (List.mem_of_getElem? (i := k) (by rw [List.getElem?_set_self (by omega)]))
    rw [hs.mayB (f := f) (g := { f with k := kd', code := f.code.set k i }) rfl (by simp)]
    exact h5
  · intro h g hg
    rcases List.mem_or_eq_of_mem_set hg with hg | rfl
    · rw [← hs.funB]
      exact h4 g hg
    · unfold funB
      simp only [Bool.and_eq_true, List.all_eq_true]
      refine ⟨by simpa using g1, ?_, fun y hy => ?_⟩
      · unfold lastB at g2 ⊢
        simp only
        rw [getLast_set hk]
        exact g2
      · rw [← hs.mayB (f := f) (g := { f with k := kd', code := f.code.set k i }) rfl (by simp)]
        rcases List.mem_or_eq_of_mem_set hy with hy | rfl
        · exact g3 y hy
        · exact h

/-- A Fun's name. -/
def nmL (l : List FunV) (j : Nat) (s : ByteArray) : List FunV := l.modify j fun f => { f with name := s }
theorem nmL_len (l : List FunV) (j : Nat) (s : ByteArray) : (nmL l j s).length = l.length := by simp [nmL]
theorem nmL_map {β : Type} {g : FunV → β} (h : ∀ f s, g { f with name := s } = g f) (l : List FunV) (j : Nat) (s : ByteArray) : (nmL l j s).map g = l.map g := by
  refine List.ext_getElem? fun i => ?_
  unfold nmL
  rw [List.getElem?_map, List.getElem?_map, List.getElem?_modify]
  cases l[i]? with
  | none => simp
  | some f => by_cases e : j = i <;> simp [e, h]
theorem nmL_all {g : FunV → Bool} (h : ∀ f s, g { f with name := s } = g f) (l : List FunV) (j : Nat) (s : ByteArray) : (nmL l j s).all g = l.all g := by
  have := congrArg (fun l => l.all id) (nmL_map h l j s)
  simpa [List.all_map] using this
theorem nmL_zero (f : FunV) (l : List FunV) (s : ByteArray) : nmL (f :: l) 0 s = { f with name := s } :: l := rfl
theorem nmL_last (l : List FunV) (g : FunV) (s : ByteArray) : nmL (l ++ [g]) l.length s = l ++ [{ g with name := s }] := by
  unfold nmL
  induction l with
  | nil => rfl
  | cons a l ih => simpa using ih

theorem namedB_perm {l m : List ByteArray} (h : l.Perm m) : namedB l = namedB m := by
  unfold namedB
  rw [h.length_eq, decide_eq_decide.2 h.nodup_iff, h.all_eq]

/-- One Fun's code told otherwise. -/
theorem kd_map {β : Type} {g : FunV → β} {l : List FunV} {n : Nat} {f : FunV} {kd : SK} (hf : l[n]? = some f) (h : g { f with k := kd } = g f) : (l.set n { f with k := kd }).map g = l.map g := by
  obtain ⟨hn, hfe⟩ := List.getElem?_eq_some_iff.1 hf
  exact set_map hn (by rw [hfe, h])

/-- The names of the first and of the last turned about. -/
def turnL (l : List FunV) (s0 s1 : ByteArray) : List FunV := nmL (nmL l 0 s1) (l.length - 1) s0

theorem split_ends (l : List FunV) (h : l.length ≠ 0) : (∃ a, l = [a]) ∨ ∃ a m b, l = a :: (m ++ [b]) := by
  match l, h with
  | a :: r, _ =>
    rcases List.eq_nil_or_concat r with rfl | ⟨m, b, rfl⟩
    · exact .inl ⟨a, rfl⟩
    · exact .inr ⟨a, m, b, by simp⟩

theorem turnL_one (a : FunV) (s0 s1 : ByteArray) : turnL [a] s0 s1 = [{ a with name := s0 }] := rfl
theorem turnL_two (a b : FunV) (m : List FunV) (s0 s1 : ByteArray) : turnL (a :: (m ++ [b])) s0 s1 = { a with name := s1 } :: (m ++ [{ b with name := s0 }]) := by
  unfold turnL
  rw [nmL_zero]
  have e : (a :: (m ++ [b])).length - 1 = ({ a with name := s1 } :: m).length := by simp
  rw [e]
  exact nmL_last ({ a with name := s1 } :: m) b s0

theorem prgB_turn {p : PrgV} (hp : prgB p = true) {n : Nat} {f a b : FunV} {kd kd' : SK} (hf : p.funs[n]? = some f) (ha : p.funs[0]? = some a) (hb : p.funs[p.funs.length - 1]? = some b) :
    prgB { p with fk := kd, funs := turnL (p.funs.set n { f with k := kd' }) a.name b.name } = true := by
  have hs : Sim p { p with fk := kd, funs := turnL (p.funs.set n { f with k := kd' }) a.name b.name } := by
    refine ⟨rfl, rfl, ?_⟩
    unfold turnL
    rw [nmL_map (fun _ _ => rfl), nmL_map (fun _ _ => rfl)]
    exact (kd_map (kd := kd') (g := fun f => (f.thread, f.params)) hf rfl).symm
  have hnm : ((turnL (p.funs.set n { f with k := kd' }) a.name b.name).map FunV.name).Perm (p.funs.map FunV.name) := by
    have h0 : (p.funs.set n { f with k := kd' }).map FunV.name = p.funs.map FunV.name := kd_map hf rfl
    have hl : (p.funs.set n { f with k := kd' }).length = p.funs.length := by simp
    have g0 := congrArg (fun l => l[0]?) h0
    have g1 := congrArg (fun l => l[p.funs.length - 1]?) h0
    simp only [List.getElem?_map, ha, hb, Option.map_some] at g0 g1
    rw [← h0]
    rw [← hl] at g1
    generalize p.funs.set n { f with k := kd' } = L at g0 g1
    rcases split_ends L (by intro e; rw [List.eq_nil_of_length_eq_zero e] at g0; cases g0) with ⟨x, rfl⟩ | ⟨x, m, y, rfl⟩
    · rw [turnL_one]
      simp at g0
      simp [g0]
    · rw [turnL_two]
      have g1' : y.name = b.name := by
        have e : (x :: (m ++ [y]))[(x :: (m ++ [y])).length - 1]? = some y := by simp
        rw [e] at g1
        simpa using g1
      simp at g0
      rw [← g0, ← g1']
      simp only [List.map_cons, List.map_append, List.map_nil]
      have : ∀ (u v : ByteArray) (w : List ByteArray), (u :: (w ++ [v])).Perm (v :: (w ++ [u])) := fun u v w => by
        refine (List.Perm.cons u (List.perm_append_singleton v w)).trans ?_
        refine (List.Perm.swap v u w).trans ?_
        exact (List.Perm.cons v (List.perm_append_singleton u w)).symm
      exact this _ _ _
  unfold prgB at hp ⊢
  simp only [Bool.and_eq_true] at hp ⊢
  obtain ⟨h1, h2, h3, h4⟩ := hp
  refine ⟨?_, by rw [← hs.thr]; exact h2, h3, ?_⟩
  · rw [← h1]
    refine namedB_perm ?_
    unfold PrgV.names
    exact List.Perm.append_left _ hnm
  · have e : funB { p with fk := kd, funs := turnL (p.funs.set n { f with k := kd' }) a.name b.name } = funB p := funext fun g => (hs.funB g).symm
    rw [e]
    unfold turnL
    rw [nmL_all (fun _ _ => rfl), nmL_all (fun _ _ => rfl)]
    rw [List.all_eq_true] at h4 ⊢
    intro g hg
    rcases List.mem_or_eq_of_mem_set hg with hg | rfl
    · exact h4 g hg
    · exact h4 f (List.mem_of_getElem? hf)
end Go.Proofs.YtanpcmkhhpaeiaaDoor
