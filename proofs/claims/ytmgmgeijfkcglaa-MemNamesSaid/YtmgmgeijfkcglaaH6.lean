/- Framework, part 25: iterators, and loops over them. -/
import Derived.Test.YtmgmgeijfkcglaaH1
namespace Go.Fw
set_option linter.unusedSimpArgs false
set_option linter.unusedVariables false
open Go
set_option linter.unusedSectionVars false
variable [Globals]

theorem del_at {H : AHeap} {N id : Nat} : (H.del N) id = if id = N then none else H id := rfl
theorem del_none {H : AHeap} {N : Nat} (h : H N = none) : H.del N = H := by
  funext id
  simp only [AHeap.del]
  split
  · rename_i hi; rw [hi, h]
  · rfl
theorem del_set_ne {H : AHeap} {N id : Nat} {o : AObj} (h : id ≠ N) : (H.set id o).del N = (H.del N).set id o := by
  funext i
  simp only [AHeap.set, AHeap.del]
  by_cases h1 : i = N
  · subst h1; simp [Ne.symm h]
  · simp [h1]

section
variable {P : Program}

/-- An iterator that hands out these; what a round may do is told on what is the round's alone: whatever the iterator has of its own lies apart. -/
def SeqC (P : Program) (f : FuncId) (capt : List AV) (xs : List (List AV)) : Prop :=
  goodFn P f = true ∧ ∀ (y N : Nat) (H : AHeap) (J : Nat → AHeap → Prop) (Kx : AHeap → Prop), J 0 H →
    (∀ i x H1 N1, xs[i]? = some x → N ≤ N1 → J i H1 → YCall P y x H1 N1 (fun r H2 _ => (r = .lit (.bool true) ∧ J (i + 1) H2) ∨ (r = .lit (.bool false) ∧ Kx H2))) →
    ACall P f (.yl y :: capt) H N (fun _ H' N' => N ≤ N' ∧ (J xs.length H' ∨ Kx H'))

/-- What a round's body must come to. -/
def bodyQ (N : Nat) (ob : AObj) (Jn : AHeap → Prop) (Kx : AExit → AHeap → Prop) : Post := fun x s => s.H N = some ob ∧ (match x with
  | .normal => Jn (s.H.del N)
  | x => Kx x (s.H.del N))

def asgQ (P : Program) (N : Nat) (o ob : AObj) (body : ACode) (Jn : AHeap → Prop) (Kx : AExit → AHeap → Prop) : Post := fun x s => x = .normal ∧ s.H N = some o ∧ run P body [] (bodyQ N ob Jn Kx) ⟨s.A, s.H.set N ob, s.N⟩

theorem asgQ_n {N : Nat} {o ob : AObj} {body : ACode} {Jn : AHeap → Prop} {Kx : AExit → AHeap → Prop} {s : St} :
    asgQ P N o ob body Jn Kx .normal s = (s.H N = some o ∧ run P body [] (bodyQ N ob Jn Kx) ⟨s.A, s.H.set N ob, s.N⟩) := by simp [asgQ]
theorem bodyQ_n {N : Nat} {ob : AObj} {Jn : AHeap → Prop} {Kx : AExit → AHeap → Prop} {s : St} : bodyQ N ob Jn Kx .normal s = (s.H N = some ob ∧ Jn (s.H.del N)) := rfl
theorem bodyQ_e {N i : Nat} {ob : AObj} {Jn : AHeap → Prop} {Kx : AExit → AHeap → Prop} {s : St} : bodyQ N ob Jn Kx (.exit i) s = (s.H N = some ob ∧ Kx (.exit i) (s.H.del N)) := rfl
theorem bodyQ_r {N : Nat} {ob : AObj} {Jn : AHeap → Prop} {Kx : AExit → AHeap → Prop} {s : St} : bodyQ N ob Jn Kx .ret s = (s.H N = some ob ∧ Kx .ret (s.H.del N)) := rfl

theorem awp_mono {c : ACode} : ∀ {Q Q' : AExit → St → Prop} {s : St}, awp P c Q s → (∀ x s, Q x s → Q' x s) → awp P c Q' s := by
  have ops : ∀ (l : List AOper) {K K' : St → Prop} {s : St}, awpOps P l K s → (∀ s, K s → K' s) → awpOps P l K' s := by
    intro l
    induction l with
    | nil => intro K K' s h hk; exact hk _ h
    | cons o os ih => intro K K' s h hk; exact awpOp_mono (fun s hs => ih hs hk) h
  induction c with
  | skip => intro Q Q' s h hq; exact hq _ _ h
  | ops l => intro Q Q' s h hq; exact ops l h (fun s => hq _ s)
  | seq a b iha ihb =>
    intro Q Q' s h hq
    simp only [awp] at h ⊢
    refine iha h fun x s' hx => ?_
    cases x with
    | normal => exact ihb hx hq
    | exit i => exact hq _ _ hx
    | ret => exact hq _ _ hx
  | cond c a b iha ihb =>
    intro Q Q' s h hq
    simp only [awp] at h ⊢
    split at h
    · exact ⟨fun ht => iha (h.1 ht) hq, fun ht => ihb (h.2 ht) hq⟩
    · exact h.elim
  | block id a ih =>
    intro Q Q' s h hq
    simp only [awp] at h ⊢
    refine ih h fun x s' hx => ?_
    cases x with
    | normal => exact hq _ _ hx
    | exit i =>
      simp only at hx ⊢
      split at hx
      · rename_i hi; rw [if_pos hi]; exact hq _ _ hx
      · rename_i hi; rw [if_neg hi]; exact hq _ _ hx
    | ret => exact hq _ _ hx
  | loop a ih =>
    intro Q Q' s h hq
    simp only [awp] at h ⊢
    obtain ⟨J, n, h1, h2⟩ := h
    refine ⟨J, n, h1, fun n s' hs => ih (h2 n s' hs) fun x s'' hx => ?_⟩
    cases x with
    | normal => exact hx
    | exit i => exact hq _ _ hx
    | ret => exact hq _ _ hx
  | exit id => intro Q Q' s h hq; exact hq _ _ h
  | ret => intro Q Q' s h hq; exact hq _ _ h
  | range f ps a b iha ihb =>
    intro Q Q' s h hq
    simp only [awp] at h ⊢
    split at h
    · intro o ob od hr
      exact (h o ob od hr).mono fun r H' N' hx => hx.imp (fun hx => ⟨hx.1, hq _ _ hx.2⟩) (fun ⟨x, h1, h2, h3⟩ => ⟨x, h1, h2, hq _ _ h3⟩)
    · exact h.elim
  | bad => intro Q Q' s h; exact h.elim

theorem run_mono {c : ACode} {Q Q' : Post} {s : St} (h : run P c [] Q s) (hq : ∀ x s, Q x s → Q' x s) : run P c [] Q' s := by
  unfold run at h ⊢
  exact awp_mono h hq

/-- A loop over an iterator. -/
theorem range_seq {f : FuncId} {capt : List AV} {xs : List (List AV)} (hs : SeqC P f capt xs) {ps : List Nat} {asg body : ACode} {fs : List Fr} {Q : Post} {A : Nat → AV} {H : AHeap} {N : Nat} (J : Nat → AHeap → Prop) (Kx : AExit → AHeap → Prop)
    (hps : ∀ x ∈ xs, x.length = ps.length) (hF : Fresh H N) (h0 : J 0 H)
    (hbody : ∀ (o ob : AObj) (i : Nat) (x : List AV) (G : AHeap) (N1 : Nat), xs[i]? = some x → N < N1 → Fresh G N1 → G N = none → J i G → run P asg [] (asgQ P N o ob body (J (i + 1)) Kx) ⟨putL A ps x, G.set N o, N1⟩)
    (hdone : ∀ (H2 : AHeap) (N2 : Nat), N ≤ N2 → J xs.length H2 → onward P fs Q .normal ⟨A, H2, N2⟩)
    (hexit : ∀ (x : AExit) (H2 : AHeap) (N2 : Nat), x ≠ .normal → N ≤ N2 → Kx x H2 → onward P fs Q x ⟨A, H2, N2⟩) : rangeK P (.fn (.func f) [] capt) ps asg body fs Q ⟨A, H, N⟩ := by
  intro o ob od hround
  have hdel : (H.set N o).del N = H := by rw [set_del, del_none (hF N (Nat.le_refl N))]
  refine (hs.2 N (N + 1) (H.set N o) (fun i G => G N = some o ∧ J i (G.del N)) (fun G => ∃ x : AExit, x ≠ .normal ∧ G N = some (od x) ∧ Kx x (G.del N))
    ⟨by simp [AHeap.set], by rw [hdel]; exact h0⟩ ?_).mono ?_
  · rintro i x H1 N1 hx hN1 ⟨h1, hJ⟩
    refine YCall.fresh fun hF1 => ?_
    refine hround x H1 N1 _ h1 (by rw [hps x (List.mem_of_getElem? hx)]) ?_
    have hG : (H1.del N).set N o = H1 := by
      funext id
      simp only [AHeap.set, AHeap.del]
      split
      · rename_i hi; rw [hi, h1]
      · rfl
    have hb := hbody o ob i x (H1.del N) N1 hx hN1 (fun j hj => by simp only [AHeap.del]; split; rfl; exact hF1 j hj) (by simp [AHeap.del]) hJ
    rw [hG] at hb
    refine run_mono hb ?_
    rintro y s ⟨rfl, hso, hb⟩
    refine ⟨rfl, hso, ?_⟩
    refine run_mono hb ?_
    rintro y s2 ⟨k1, k4⟩
    refine ⟨k1, ?_⟩
    cases y with
    | normal => exact .inl ⟨rfl, by simp [AHeap.set], by rw [set_del]; exact k4⟩
    | exit i => exact .inr ⟨rfl, .exit i, by simp, by simp [AHeap.set], by rw [set_del]; exact k4⟩
    | ret => exact .inr ⟨rfl, .ret, by simp, by simp [AHeap.set], by rw [set_del]; exact k4⟩
  · rintro r H' N' ⟨hN', ⟨h1, h2⟩ | ⟨x, hx, h1, h2⟩⟩
    · exact .inl ⟨h1, hdone _ _ (by omega) h2⟩
    · exact .inr ⟨x, hx, h1, hexit x _ _ hx (by omega) h2⟩

end

attribute [simp ↓] asgQ_n bodyQ_n bodyQ_e bodyQ_r
end Go.Fw
