/- The framework: HD, HJ, HK, HL, HU. -/
import Derived.Test.YtefejpckppabpaaGreatDoorM5
/- Framework, part 32: pieces of the abstract heap that lie apart. -/
namespace Go.Fw
set_option linter.unusedSimpArgs false
set_option linter.unusedVariables false
open Go
set_option linter.unusedSectionVars false
variable [Globals]

def AHeap.le (A B : AHeap) : Prop := ∀ id o, A id = some o → B id = some o
def Dis (A B : AHeap) : Prop := ∀ id o, A id = some o → B id = none

theorem AHeap.le.refl (A : AHeap) : A.le A := fun _ _ h => h
theorem AHeap.le.trans {A B C : AHeap} (h : A.le B) (k : B.le C) : A.le C := fun id o ho => k id o (h id o ho)
theorem Dis.symm {A B : AHeap} (h : Dis A B) : Dis B A := fun id o ho => by
  cases ha : A id with
  | none => rfl
  | some o' => rw [h id o' ha] at ho; cases ho
theorem Dis.sub {A A' B B' : AHeap} (h : Dis A B) (ha : A'.le A) (hb : B'.le B) : Dis A' B' := fun id o ho => by
  cases hb' : B' id with
  | none => rfl
  | some o' => have := h id o (ha id o ho); rw [hb id o' hb'] at this; cases this
theorem le_or_left (A B : AHeap) : A.le (A.or B) := fun id o ho => by simp [AHeap.or, ho]
theorem le_or_right {A B : AHeap} (h : Dis A B) : B.le (A.or B) := fun id o ho => by
  simp [AHeap.or, h.symm id o ho, ho]

section
variable {P : Program}

/-- A contract over a piece of the heap, used in the whole: what lay apart lies apart still, as it was. -/
theorem ACall.on {f : FuncId} {args : List AV} {Hm H : AHeap} {N : Nat} {Q : AV → AHeap → Nat → Prop} (h : ACall P f args Hm N Q) (hs : Hm.le H) :
    ACall P f args H N (fun r H' N' => ∃ H1, Q r H1 N' ∧ H1.le H' ∧ (∀ F, F.le H → Dis Hm F → F.le H' ∧ Dis H1 F) ∧ Fresh H' N' ∧ N ≤ N') := by
  obtain ⟨F0, hF0⟩ : ∃ F0 : AHeap, F0 = fun id => if (Hm id).isNone = true then H id else none := ⟨_, rfl⟩
  have hd : Dis Hm F0 := fun id o ho => by simp [hF0, ho]
  have hor : Hm.or F0 = H := by
    funext id
    simp only [AHeap.or, hF0]
    cases hm : Hm id with
    | none => simp
    | some o => simp [hs id o hm]
  refine ⟨h.1, fun e vs hH hN hl hr => ?_⟩
  rw [← hor] at hH
  obtain ⟨hH0, hpost⟩ := frame_post hd hH
  refine (h.2 e vs hH0 hN hl hr).mono ?_
  rintro x w' ⟨v, e', r, H1, rfl, rfl, hq, hrep, hH1, htr⟩
  obtain ⟨k1, k2, k3⟩ := hpost e' H1 hH1 htr
  have hdis : Dis H1 F0 := fun id o ho => by
    cases hf : F0 id with
    | none => rfl
    | some o' =>
      exfalso
      have hid := hH.at_ id o' (le_or_right hd id o' hf)
      have hb : Own e' H1 (e.ρ id).1 := ⟨id, o, ho, by rw [htr.ext.ρ id hid.1]⟩
      rcases htr.own _ hb with ⟨j, oj, hj, hbj⟩ | hge
      · have : j = id := hH.inj j id oj o' (le_or_left _ _ j oj hj) (le_or_right hd id o' hf) hbj
        subst this
        rw [hd j oj hj] at hf
        cases hf
      · have := hid.2.2.lt; omega
  rw [hor] at k3
  refine ⟨v, e', r, H1.or F0, rfl, rfl, ⟨H1, hq, le_or_left _ _, fun F hF hm => ?_, k2.fresh, by rw [← hN]; exact htr.ext.N⟩, hrep, k2, k3⟩
  have hle : F.le F0 := fun id o ho => by simp [hF0, hm.symm id o ho, hF id o ho]
  exact ⟨hle.trans (le_or_right hdis), hdis.sub (AHeap.le.refl _) hle⟩

end
end Go.Fw

/- Framework, part 38: iterators that have memory of their own, apart from what is the rounds'. -/
namespace Go.Fw
set_option linter.unusedSimpArgs false
set_option linter.unusedVariables false
open Go
set_option linter.unusedSectionVars false
variable [Globals]
section
variable {P : Program}

/-- A round over a piece of the heap, used in the whole. -/
theorem YCall.on {y : Nat} {args : List AV} {Hm H : AHeap} {N : Nat} {Q : AV → AHeap → Nat → Prop} (h : YCall P y args Hm N Q) (hs : Hm.le H) :
    YCall P y args H N (fun r H' N' => ∃ H1, Q r H1 N' ∧ H1.le H' ∧ (∀ F, F.le H → Dis Hm F → F.le H' ∧ Dis H1 F) ∧ Fresh H' N' ∧ N ≤ N') := by
  obtain ⟨F0, hF0⟩ : ∃ F0 : AHeap, F0 = fun id => if (Hm id).isNone = true then H id else none := ⟨_, rfl⟩
  have hd : Dis Hm F0 := fun id o ho => by simp [hF0, ho]
  have hor : Hm.or F0 = H := by
    funext id
    simp only [AHeap.or, hF0]
    cases hm : Hm id with
    | none => simp
    | some o => simp [hs id o hm]
  intro e vs hH hN hl hr
  rw [← hor] at hH
  obtain ⟨hH0, hpost⟩ := frame_post hd hH
  obtain ⟨f, tmps, asg, body, q1, q2⟩ := h e vs hH0 hN hl hr
  refine ⟨f, tmps, asg, body, q1, q2.mono ?_⟩
  rintro x w' ⟨v, e', r, H1, rfl, rfl, hq, hrep, hH1, htr⟩
  obtain ⟨k1, k2, k3⟩ := hpost e' H1 hH1 htr
  have hdis : Dis H1 F0 := fun id o ho => by
    cases hf : F0 id with
    | none => rfl
    | some o' =>
      exfalso
      have hid := hH.at_ id o' (le_or_right hd id o' hf)
      have hb : Own e' H1 (e.ρ id).1 := ⟨id, o, ho, by rw [htr.ext.ρ id hid.1]⟩
      rcases htr.own _ hb with ⟨j, oj, hj, hbj⟩ | hge
      · have : j = id := hH.inj j id oj o' (le_or_left _ _ j oj hj) (le_or_right hd id o' hf) hbj
        subst this
        rw [hd j oj hj] at hf
        cases hf
      · have := hid.2.2.lt; omega
  rw [hor] at k3
  refine ⟨v, e', r, H1.or F0, rfl, rfl, ⟨H1, hq, le_or_left _ _, fun F hF hm => ?_, k2.fresh, by rw [← hN]; exact htr.ext.N⟩, hrep, k2, k3⟩
  have hle : F.le F0 := fun id o ho => by simp [hF0, hm.symm id o ho, hF id o ho]
  exact ⟨hle.trans (le_or_right hdis), hdis.sub (AHeap.le.refl _) hle⟩

/-- An iterator that hands out these, and that has this of its own; of the rounds only what they do to what is theirs is asked. -/
def SeqF (P : Program) (f : FuncId) (capt : List AV) (F : AHeap) (xs : List (List AV)) : Prop :=
  goodFn P f = true ∧ ∀ (y N : Nat) (K H : AHeap) (J : Nat → AHeap → Prop) (Kx : AHeap → Prop), K.le H → F.le H → Dis K F → J 0 K →
    (∀ i x K1 N1, xs[i]? = some x → N ≤ N1 → J i K1 → YCall P y x K1 N1 (fun r K2 _ => (r = .lit (.bool true) ∧ J (i + 1) K2) ∨ (r = .lit (.bool false) ∧ Kx K2))) →
    ACall P f (.yl y :: capt) H N (fun _ H' N' => N ≤ N' ∧ ∃ K', K'.le H' ∧ (J xs.length K' ∨ Kx K'))

theorem le_set {A B : AHeap} (h : A.le B) (id : Nat) (o : AObj) : (A.set id o).le (B.set id o) := fun i ob hi => by
  simp only [AHeap.set] at hi ⊢
  split at hi
  · rename_i h1; rw [if_pos h1]; exact hi
  · rename_i h1; rw [if_neg h1]; exact h i ob hi
theorem le_del {A B : AHeap} (h : A.le B) (id : Nat) : (A.del id).le (B.del id) := fun i ob hi => by
  simp only [AHeap.del] at hi ⊢
  split at hi
  · cases hi
  · rename_i h1; rw [if_neg h1]; exact h i ob hi

/-- A loop over such an iterator. -/
theorem range_seqF {f : FuncId} {capt : List AV} {F : AHeap} {xs : List (List AV)} (hs : SeqF P f capt F xs) {ps : List Nat} {asg body : ACode} {fs : List Fr} {Q : Post} {A : Nat → AV} {H : AHeap} {N : Nat} (K : AHeap) (J : Nat → AHeap → Prop) (Kx : AExit → AHeap → Prop)
    (hps : ∀ x ∈ xs, x.length = ps.length) (hF : Fresh H N) (hK : K.le H) (hFH : F.le H) (hd : Dis K F) (h0 : J 0 K)
    (hbody : ∀ (o ob : AObj) (i : Nat) (x : List AV) (G : AHeap) (N1 : Nat), xs[i]? = some x → N < N1 → Fresh G N1 → G N = none → J i G → run P asg [] (asgQ P N o ob body (J (i + 1)) Kx) ⟨putL A ps x, G.set N o, N1⟩)
    (hdone : ∀ (K2 H2 : AHeap) (N2 : Nat), N ≤ N2 → Fresh H2 N2 → K2.le H2 → J xs.length K2 → onward P fs Q .normal ⟨A, H2, N2⟩)
    (hexit : ∀ (x : AExit) (K2 H2 : AHeap) (N2 : Nat), x ≠ .normal → N ≤ N2 → Fresh H2 N2 → K2.le H2 → Kx x K2 → onward P fs Q x ⟨A, H2, N2⟩) : rangeK P (.fn (.func f) [] capt) ps asg body fs Q ⟨A, H, N⟩ := by
  intro o ob od hround
  have hKN : K N = none := by
    cases h : K N with
    | none => rfl
    | some o => have := hF N (Nat.le_refl _); rw [hK N o h] at this; cases this
  have hFN : F N = none := by
    cases h : F N with
    | none => rfl
    | some o => have := hF N (Nat.le_refl _); rw [hFH N o h] at this; cases this
  have hdel : (K.set N o).del N = K := by rw [set_del, del_none hKN]
  have hFH' : F.le (H.set N o) := fun i ob hi => by
    simp only [AHeap.set]
    split
    · rename_i h1; rw [h1, hFN] at hi; cases hi
    · exact hFH i ob hi
  have hd' : Dis (K.set N o) F := fun i ob hi => by
    simp only [AHeap.set] at hi
    split at hi
    · rename_i h1; rw [h1]; exact hFN
    · exact hd i ob hi
  refine (hs.2 N (N + 1) (K.set N o) (H.set N o) (fun i G => G N = some o ∧ J i (G.del N)) (fun G => ∃ x : AExit, x ≠ .normal ∧ G N = some (od x) ∧ Kx x (G.del N)) (le_set hK N o) hFH' hd'
    ⟨by simp [AHeap.set], by rw [hdel]; exact h0⟩ ?_).monoF ?_
  · rintro i x H1 N1 hx hN1 ⟨h1, hJ⟩
    refine YCall.fresh fun hF1 => ?_
    refine hround x H1 N1 _ h1 (by rw [hps x (List.mem_of_getElem? hx)]) ?_
    have hG : (H1.del N).set N o = H1 := by
      funext id
      simp only [AHeap.set, AHeap.del]
      split
      · rename_i hi; rw [hi, h1]
      · rfl
    have hb := hbody o ob i x (H1.del N) N1 hx hN1 (fun j hj => by simp only [AHeap.del]; split; rfl; exact hF1 j hj) (by simp [AHeap.del]) hJ
    rw [hG] at hb
    refine run_mono hb ?_
    rintro y s ⟨rfl, hso, hb⟩
    refine ⟨rfl, hso, ?_⟩
    refine run_mono hb ?_
    rintro y s2 ⟨k1, k4⟩
    refine ⟨k1, ?_⟩
    cases y with
    | normal => exact .inl ⟨rfl, by simp [AHeap.set], by rw [set_del]; exact k4⟩
    | exit i => exact .inr ⟨rfl, .exit i, by simp, by simp [AHeap.set], by rw [set_del]; exact k4⟩
    | ret => exact .inr ⟨rfl, .ret, by simp, by simp [AHeap.set], by rw [set_del]; exact k4⟩
  · rintro r H' N' ⟨hN', K', hle, hJ⟩ hF' _
    have hFd : Fresh (H'.del N) N' := fun j hj => by simp only [AHeap.del]; split; rfl; exact hF' j hj
    rcases hJ with ⟨h1, h2⟩ | ⟨x, hx, h1, h2⟩
    · exact .inl ⟨hle _ _ h1, hdone _ _ _ (by omega) hFd (le_del hle N) h2⟩
    · exact .inr ⟨x, hx, hle _ _ h1, hexit x _ _ _ hx (by omega) hFd (le_del hle N) h2⟩

end
end Go.Fw

/- Framework, part 40: what is one's own, and what is another's. -/
namespace Go.Fw
set_option linter.unusedSimpArgs false
set_option linter.unusedVariables false
open Go
set_option linter.unusedSectionVars false
variable [Globals]

/-- A piece of the heap of which J holds lies apart from what is one's own. -/
def Sep (own : AHeap) (J : AHeap → Prop) (H : AHeap) : Prop := ∃ K, K.le H ∧ own.le H ∧ Dis K own ∧ J K

theorem le_noHeap (H : AHeap) : noHeap.le H := fun id o h => by cases h
theorem Sep.of {J : AHeap → Prop} {H : AHeap} (h : J H) : Sep noHeap J H := ⟨H, .refl _, le_noHeap _, fun _ _ _ => rfl, h⟩
theorem Sep.mono {own : AHeap} {J J' : AHeap → Prop} {H : AHeap} (h : Sep own J H) (hj : ∀ K, J K → J' K) : Sep own J' H := by
  obtain ⟨K, a, b, c, d⟩ := h
  exact ⟨K, a, b, c, hj K d⟩
theorem Sep.less {own own' : AHeap} {J : AHeap → Prop} {H : AHeap} (h : Sep own J H) (hl : own'.le own) : Sep own' J H := by
  obtain ⟨K, a, b, c, d⟩ := h
  exact ⟨K, a, hl.trans b, c.sub (.refl _) hl, d⟩
theorem Sep.flat {own : AHeap} {J : AHeap → Prop} {H : AHeap} (h : Sep noHeap (Sep own J) H) : Sep own J H := by
  obtain ⟨K, a, _, _, K', b, c, d, e⟩ := h
  exact ⟨K', b.trans a, c.trans a, d, e⟩
theorem Sep.flat2 {own own2 : AHeap} {J : AHeap → Prop} {H : AHeap} (h : Sep own2 (Sep own J) H) : Sep own J H := (h.less (le_noHeap _)).flat
theorem Sep.at_ {own : AHeap} {J : AHeap → Prop} {H : AHeap} (h : Sep own J H) {id : Nat} {o : AObj} (ho : own id = some o) : H id = some o := h.choose_spec.2.1 id o ho
theorem Sep.alloc {own : AHeap} {J : AHeap → Prop} {H : AHeap} {N : Nat} (h : Sep own J H) (hF : Fresh H N) (o : AObj) : Sep (own.set N o) J (H.set N o) := by
  obtain ⟨K, a, b, c, d⟩ := h
  have hN : ∀ {A : AHeap}, A.le H → A N = none := fun {A} hA => by
    cases hx : A N with
    | none => rfl
    | some x => have := hF N (Nat.le_refl _); rw [hA N x hx] at this; cases this
  refine ⟨K, fun i x hx => ?_, le_set b N o, fun i x hx => ?_, d⟩
  · simp only [AHeap.set]
    split
    · rename_i hi; rw [hi, hN a] at hx; cases hx
    · exact a i x hx
  · simp only [AHeap.set]
    split
    · rename_i hi; rw [hi, hN a] at hx; cases hx
    · exact c i x hx
theorem Sep.put {own : AHeap} {J : AHeap → Prop} {H : AHeap} {N : Nat} (h : Sep own J H) (hN : H N = none) (o : AObj) : Sep (own.set N o) J (H.set N o) := by
  obtain ⟨K, a, b, c, d⟩ := h
  have hn : ∀ {A : AHeap}, A.le H → A N = none := fun {A} hA => by
    cases hx : A N with
    | none => rfl
    | some x => rw [hA N x hx] at hN; cases hN
  refine ⟨K, fun i x hx => ?_, le_set b N o, fun i x hx => ?_, d⟩
  · simp only [AHeap.set]
    split
    · rename_i hi; rw [hi, hn a] at hx; cases hx
    · exact a i x hx
  · simp only [AHeap.set]
    split
    · rename_i hi; rw [hi, hn a] at hx; cases hx
    · exact c i x hx
theorem Sep.noOwn {own : AHeap} {J : AHeap → Prop} {H : AHeap} {N : Nat} (h : Sep own J H) (hN : H N = none) : own N = none := by
  obtain ⟨K, a, b, c, d⟩ := h
  cases hx : own N with
  | none => rfl
  | some x => rw [b N x hx] at hN; cases hN
/-- What is one's own is taken away. -/
theorem Sep.del {own : AHeap} {J : AHeap → Prop} {H : AHeap} {N : Nat} {o : AObj} (h : Sep (own.set N o) J H) (hN : own N = Option.none) : Sep own J (H.del N) := by
  obtain ⟨K, a, b, c, d⟩ := h
  have hK : K N = Option.none := c.symm N o (by simp [AHeap.set])
  refine ⟨K, fun i x hx => ?_, fun i x hx => ?_, fun i x hx => ?_, d⟩
  · simp only [AHeap.del]
    split
    · rename_i hi; rw [hi, hK] at hx; cases hx
    · exact a i x hx
  · simp only [AHeap.del]
    split
    · rename_i hi; rw [hi, hN] at hx; cases hx
    · rename_i hi
      exact b i x (by simp only [AHeap.set]; rw [if_neg hi]; exact hx)
  · have := c i x hx
    simp only [AHeap.set] at this
    split at this
    · cases this
    · exact this
/-- What is one's own is written over. -/
theorem Sep.write {own : AHeap} {J : AHeap → Prop} {H : AHeap} {id : Nat} {o : AObj} (h : Sep own J H) (ho : own id = some o) (o' : AObj) : Sep (own.set id o') J (H.set id o') := by
  obtain ⟨K, a, b, c, d⟩ := h
  have hK : K id = none := c.symm id o ho
  refine ⟨K, fun i x hx => ?_, le_set b id o', fun i x hx => ?_, d⟩
  · simp only [AHeap.set]
    split
    · rename_i hi; rw [hi, hK] at hx; cases hx
    · exact a i x hx
  · simp only [AHeap.set]
    split
    · rename_i hi; rw [hi, hK] at hx; cases hx
    · exact c i x hx
theorem set_own {own : AHeap} {id : Nat} {o : AObj} (h : own id = some o) : own.set id o = own := by
  funext i
  simp only [AHeap.set]
  split
  · rename_i hi; rw [hi, h]
  · rfl

section
variable {P : Program}

theorem awpOps_append {K : St → Prop} (ys : List AOper) : ∀ (xs : List AOper), awpOps P (xs ++ ys) K = awpOps P xs (awpOps P ys K)
  | [] => rfl
  | o :: xs => by
    show awpOp P o (awpOps P (xs ++ ys) K) = awpOp P o (awpOps P xs (awpOps P ys K))
    rw [awpOps_append ys xs]
/-- A row of operations, in two parts. -/
theorem run_append {xs ys : List AOper} {fs : List Fr} {Q : Post} {s : St} : runOps P (xs ++ ys) fs Q s = runOps P xs (.seq (.ops ys) :: fs) Q s := by
  show awpOps P (xs ++ ys) _ s = awpOps P xs _ s
  rw [awpOps_append]
  rfl

theorem ACall.sep {f : FuncId} {args : List AV} {own H : AHeap} {J : AHeap → Prop} {Q : AV → AHeap → Prop} {N : Nat} (hs : Sep own J H) (h : ∀ K, J K → ACall P f args K N (fun r K2 _ => Q r K2)) :
    ACall P f args H N (fun r H' N' => Sep own (Q r) H' ∧ Fresh H' N' ∧ N ≤ N') := by
  obtain ⟨K, a, b, c, d⟩ := hs
  refine ((h K d).on a).mono ?_
  rintro r H' N' ⟨K2, q, l, fr, hF, hN⟩
  obtain ⟨f1, f2⟩ := fr own b c
  exact ⟨⟨K2, l, f1, f2, q⟩, hF, hN⟩
theorem YCall.sep {y : Nat} {args : List AV} {own H : AHeap} {J : AHeap → Prop} {Q : AV → AHeap → Prop} {N : Nat} (hs : Sep own J H) (h : ∀ K, J K → YCall P y args K N (fun r K2 _ => Q r K2)) :
    YCall P y args H N (fun r H' N' => Sep own (Q r) H' ∧ Fresh H' N' ∧ N ≤ N') := by
  obtain ⟨K, a, b, c, d⟩ := hs
  refine ((h K d).on a).mono ?_
  rintro r H' N' ⟨K2, q, l, fr, hF, hN⟩
  obtain ⟨f1, f2⟩ := fr own b c
  exact ⟨⟨K2, l, f1, f2, q⟩, hF, hN⟩

/-- Something is asked of elements, one after another, till it does not hold. -/
def AskC (P : Program) (g : FuncId) (capt : List AV) (es : List AV) (N : Nat) (J : Nat → AHeap → Prop) (Kx : AHeap → Prop) : Prop :=
  ∀ i x H1 N1, es[i]? = some x → N ≤ N1 → J i H1 → ACall P g (x :: capt) H1 N1 (fun r H2 _ => (r = bl true ∧ J (i + 1) H2) ∨ (r = bl false ∧ Kx H2))
/-- What comes of it. -/
def AskR (n : Nat) (J : Nat → AHeap → Prop) (Kx : AHeap → Prop) (r : AV) (H : AHeap) : Prop := (r = bl true ∧ J n H) ∨ (r = bl false ∧ Kx H)
/-- A round that hands one more out. -/
def YldC (P : Program) (y : Nat) (xs : List (List AV)) (N : Nat) (J : Nat → AHeap → Prop) (Kx : AHeap → Prop) : Prop :=
  ∀ i x K1 N1, xs[i]? = some x → N ≤ N1 → J i K1 → YCall P y x K1 N1 (fun r K2 _ => (r = bl true ∧ J (i + 1) K2) ∨ (r = bl false ∧ Kx K2))
theorem YldC.part {y : Nat} {xs a b c : List (List AV)} {N N' : Nat} {J : Nat → AHeap → Prop} {Kx : AHeap → Prop} (h : YldC P y xs N J Kx) (he : xs = a ++ (b ++ c)) (hN : N ≤ N') : YldC P y b N' (fun i => J (a.length + i)) Kx := fun i x K1 N1 hx hN1 hJ => by
  have := h (a.length + i) x K1 N1 (by
    rw [he, List.getElem?_append_right (by omega), Nat.add_sub_cancel_left, List.getElem?_append_left (List.getElem?_eq_some_iff.1 hx).1]; exact hx) (by omega) hJ
  exact this
end
end Go.Fw

/- Framework, part 41: nil slices are alike, of whatever element size they are told. -/
namespace Go.Fw
set_option linter.unusedSimpArgs false
set_option linter.unusedVariables false
open Go
set_option linter.unusedSectionVars false
variable [Globals]

mutual
/-- All nil slices told in one way. -/
def AV.norm : AV → AV
  | .sl .nil _ [] => .sl .nil 0 []
  | .sl k z es => .sl k z (normLL es)
  | .agg cs => .agg (normL cs)
  | a => a
def normL : List AV → List AV
  | [] => []
  | c :: cs => c.norm :: normL cs
def normLL : List (List AV) → List (List AV)
  | [] => []
  | x :: xs => normL x :: normLL xs
end
theorem normL_map (l : List AV) : normL l = l.map AV.norm := by
  induction l with
  | nil => rfl
  | cons a l ih => rw [normL, ih, List.map_cons]
theorem normLL_map (l : List (List AV)) : normLL l = l.map normL := by
  induction l with
  | nil => rfl
  | cons a l ih => rw [normLL, ih, List.map_cons]

theorem rep_norm : ∀ (n : Nat) (a : AV), SizeOf.sizeOf a ≤ n → ∀ (e : Env) (v : Value), Rep e a v ↔ Rep e a.norm v := by
  intro n
  induction n with
  | zero => intro a h; cases a <;> simp at h
  | succ n ih =>
    intro a hn e v
    have agg : ∀ cs : List AV, a = .agg cs → (Rep e a v ↔ Rep e a.norm v) := fun cs ha => by
      subst ha
      have hc : ∀ c ∈ cs, ∀ (v : Value), Rep e c v ↔ Rep e c.norm v := fun c hc v => ih c (by have := List.sizeOf_lt_of_mem hc; simp at hn; omega) e v
      have hnm : (AV.agg cs).norm = .agg (cs.map AV.norm) := by rw [AV.norm, normL_map]
      rw [hnm]
      constructor
      · intro h
        cases h with
        | agg hl h1 h =>
          refine .agg (by simpa using hl) h1 fun i c u hi hu => ?_
          simp only [List.getElem?_map, Option.map_eq_some_iff] at hi
          obtain ⟨d, hd, rfl⟩ := hi
          exact (hc d (List.mem_of_getElem? hd) u).1 (h i d u hd hu)
      · intro h
        cases h with
        | agg hl h1 h =>
          refine .agg (by simpa using hl) h1 fun i c u hi hu => ?_
          exact (hc c (List.mem_of_getElem? hi) u).2 (h i c.norm u (by simp [hi]) hu)
    have slc : ∀ k z es, a = .sl k z es → (k ≠ .nil ∨ es ≠ []) → (Rep e a v ↔ Rep e a.norm v) := fun k z es ha hne => by
      subst ha
      have hc : ∀ x ∈ es, ∀ c ∈ x, ∀ (v : Value), Rep e c v ↔ Rep e c.norm v := fun x hx c hc v => ih c (by
        have h1 := List.sizeOf_lt_of_mem hx
        have h2 := List.sizeOf_lt_of_mem hc
        simp at hn
        omega) e v
      have hnm : (AV.sl k z es).norm = .sl k z (es.map fun x => x.map AV.norm) := by
        have h1 : normLL es = es.map fun x => x.map AV.norm := by
          rw [normLL_map]; exact List.map_congr_left fun x _ => normL_map x
        rw [← h1]
        cases k with
        | nil =>
          cases es with
          | nil => simp at hne
          | cons x es => rfl
        | exact => cases es <;> rfl
        | any => cases es <;> rfl
      rw [hnm]
      constructor
      · intro h
        generalize hb : AV.sl k z es = b at h
        cases h <;> first | (cases hb; done) | skip
        case slNil sz => cases hb; simp at hne
        case sl u hk hI hcap hex hsz hcl h1 hr =>
          cases hb
          have := Rep.sl (e := e) (k := k) (sz := z) (es := es.map fun x => x.map AV.norm) u hk (fun hn => hI (fun h0 => hn (by rw [h0]; rfl))) (by simpa using hcap) (by simpa using hex) (fun x hx => by
            obtain ⟨y, hy, rfl⟩ := List.mem_map.1 hx
            rw [List.length_map]; exact hsz y hy) (fun i j x c hi hj => by
            simp only [List.getElem?_map, Option.map_eq_some_iff] at hi
            obtain ⟨y, hy, rfl⟩ := hi
            simp only [List.getElem?_map, Option.map_eq_some_iff] at hj
            obtain ⟨d, hd, rfl⟩ := hj
            exact hcl i j y d hy hd) (fun i j x c hi hj => by
            simp only [List.getElem?_map, Option.map_eq_some_iff] at hi
            obtain ⟨y, hy, rfl⟩ := hi
            simp only [List.getElem?_map, Option.map_eq_some_iff] at hj
            obtain ⟨d, hd, rfl⟩ := hj
            exact h1 i j y d hy hd) (fun i j x c hi hj => by
            simp only [List.getElem?_map, Option.map_eq_some_iff] at hi
            obtain ⟨y, hy, rfl⟩ := hi
            simp only [List.getElem?_map, Option.map_eq_some_iff] at hj
            obtain ⟨d, hd, rfl⟩ := hj
            exact (hc y (List.mem_of_getElem? hy) d (List.mem_of_getElem? hd) _).1 (hr i j y d hy hd))
          rw [List.length_map] at this
          exact this
        case slE ad hk =>
          cases hb
          exact .slE hk
      · intro h
        generalize hb : AV.sl k z (es.map fun x => x.map AV.norm) = b at h
        cases h <;> first | (cases hb; done) | skip
        case slNil sz =>
          cases es with
          | nil => cases hb; simp at hne
          | cons x es => simp at hb
        case sl u hk hI hcap hex hsz hcl h1 hr =>
          cases hb
          rw [List.length_map] at hcap hex ⊢
          have at_ : ∀ {i j : Nat} {x : List AV} {c : AV}, es[i]? = some x → x[j]? = some c → (es.map fun x => x.map AV.norm)[i]? = some (x.map AV.norm) ∧ (x.map AV.norm)[j]? = some c.norm := fun hi hj => ⟨by simp [hi], by simp [hj]⟩
          exact Rep.sl u hk (fun hn => hI (fun h0 => hn (List.map_eq_nil_iff.1 h0))) hcap hex (fun x hx => by
            have := hsz (x.map AV.norm) (List.mem_map.2 ⟨x, hx, rfl⟩)
            rwa [List.length_map] at this) (fun i j x c hi hj => hcl i j _ _ (at_ hi hj).1 (at_ hi hj).2) (fun i j x c hi hj => h1 i j _ _ (at_ hi hj).1 (at_ hi hj).2)
            (fun i j x c hi hj => (hc x (List.mem_of_getElem? hi) c (List.mem_of_getElem? hj) _).2 (hr i j _ _ (at_ hi hj).1 (at_ hi hj).2))
        case slE ad hk =>
          cases es with
          | nil => cases hb; exact .slE hk
          | cons x es => simp at hb
    cases a with
    | agg cs => exact agg cs rfl
    | sl k z es =>
      by_cases h : k ≠ .nil ∨ es ≠ []
      · exact slc k z es rfl h
      · have hk : k = .nil := Classical.byContradiction fun h' => h (.inl h')
        have he : es = [] := Classical.byContradiction fun h' => h (.inr h')
        subst hk; subst he
        show Rep e (.sl .nil z []) v ↔ Rep e (.sl .nil 0 []) v
        exact ⟨RepLe.nil e v, RepLe.nil e v⟩
    | _ => exact Iff.rfl

theorem rep_of_norm {a b : AV} (h : a.norm = b.norm) {e : Env} {v : Value} (hr : Rep e a v) : Rep e b v :=
  (rep_norm _ b (Nat.le_refl _) e v).2 (h ▸ (rep_norm _ a (Nat.le_refl _) e v).1 hr)

section
variable {P : Program} {f : FuncId}
theorem PCall.nrm {args args' : List AV} {r : AV} (h : PCall P f args' r) (hn : normL args = normL args') : PCall P f args r := by
  have hl : args.length = args'.length := by have := congrArg List.length hn; simpa [normL_map] using this
  refine ⟨h.1, fun e vs h1 h2 h3 => h.2 e vs h1 (h2.trans hl) fun i c v hc hv => ?_⟩
  have hi : i < args'.length := (List.getElem?_eq_some_iff.1 hc).1
  have ha : args[i]? = some (args[i]'(by omega)) := by simp [show i < args.length by omega]
  refine rep_of_norm ?_ (h3 i _ v ha hv)
  have e1 : (normL args)[i]? = (normL args')[i]? := by rw [hn]
  rw [normL_map, normL_map] at e1
  simp only [List.getElem?_map, ha, hc, Option.map_some, Option.some.injEq] at e1
  exact e1
theorem ACall.nrm {args args' : List AV} {H : AHeap} {N : Nat} {Q : AV → AHeap → Nat → Prop} (h : ACall P f args' H N Q) (hn : normL args = normL args') : ACall P f args H N Q := by
  have hl : args.length = args'.length := by have := congrArg List.length hn; simpa [normL_map] using this
  refine h.conv hl fun i a b ha hb e v hr => rep_of_norm ?_ hr
  have e1 : (normL args)[i]? = (normL args')[i]? := by rw [hn]
  rw [normL_map, normL_map] at e1
  simp only [List.getElem?_map, ha, hb, Option.map_some, Option.some.injEq] at e1
  exact e1
end
end Go.Fw

/- Framework, part 39: arguments of any shape, with their bulk. -/
namespace Go.Fw
set_option linter.unusedSimpArgs false
set_option linter.unusedVariables false
open Go Go.RowKit Go.ChangeAt Go.ChangeShapes Go.WideShapes
set_option linter.unusedSectionVars false
variable [Globals]

mutual
/-- How much is in an abstract value. -/
def AV.bulk : AV → Nat
  | .lit (.string s) => s.size + 1
  | .agg cs => bulkL cs + 1
  | .sl _ _ es => bulkLL es + 1
  | _ => 1
def bulkL : List AV → Nat
  | [] => 0
  | c :: cs => c.bulk + bulkL cs
def bulkLL : List (List AV) → Nat
  | [] => 0
  | x :: xs => bulkL x + bulkLL xs
end
mutual
/-- How much is in a reading. -/
def dBulk {H : Type} : DataW H → Nat
  | .lit (.string bytes) => bytes.length + 1
  | .lit _ => 1
  | .nil => 1
  | .ptr d => dBulk d + 1
  | .slice elems spare => dBulkAll elems + dBulkAll spare + 1
  | .agg parts => dBulkAll parts + 1
  | .iface _ d => dBulk d + 1
  | .map entries => dBulkEntries entries + 1
  | .held _ => 1
def dBulkAll {H : Type} : List (DataW H) → Nat
  | [] => 0
  | d :: r => dBulk d + dBulkAll r
def dBulkEntries {H : Type} : List (Lit × DataW H) → Nat
  | [] => 0
  | x :: r => dBulkEntry x + dBulkEntries r
def dBulkEntry {H : Type} : Lit × DataW H → Nat
  | (.string bytes, d) => bytes.length + dBulk d + 1
  | (_, d) => dBulk d + 1
end

theorem bulkL_app : ∀ (a b : List AV), bulkL (a ++ b) = bulkL a + bulkL b
  | [], b => by simp [bulkL]
  | c :: a, b => by rw [List.cons_append, bulkL, bulkL, bulkL_app a b]; omega
theorem bulkLL_le {H : Type} : ∀ {es : List (List AV)} {ds : List (DataW H)}, es.length = ds.length → (∀ (i : Nat) (a : List AV) (d : DataW H), es[i]? = some a → ds[i]? = some d → bulkL a ≤ dBulk d) → bulkLL es ≤ dBulkAll ds
  | [], [], _, _ => by simp [bulkLL]
  | [], _ :: _, h, _ => by simp at h
  | _ :: _, [], h, _ => by simp at h
  | a :: es, d :: ds, h, hi => by
    have h1 := hi 0 a d rfl rfl
    have h2 := bulkLL_le (es := es) (ds := ds) (by simpa using h) fun i a d ha hd => hi (i + 1) a d (by simpa using ha) (by simpa using hd)
    simp only [bulkLL, dBulkAll]
    omega

section
variable {P : Program} {H : Type} {enc : TypeId × Value → H}

theorem fields_repU {S : List TypeId} {w : World} {fuel : Nat} {cs : List Value} (ih : ∀ (t : TypeId) (cs : List Value) (x : DataW H × List MemPlace), t ∈ S →
      DataW.trod enc P w 0 (fun _ => true) true fuel t cs = some x → (∀ v ∈ x.1.weights P t, v ≤ reachBytes) → ∃ as, RelC (Env.start w) as cs ∧ LaysR P fuel t as ∧ bulkL as ≤ dBulk x.1) : ∀ (fs : List Field) (off : Nat) (xs : List (DataW H × List MemPlace)),
    tilesB P fs off cs.length = true → (∀ f ∈ fs, f.type ∈ S) → fs.mapM (fun f => DataW.trod enc P w 0 (fun _ => true) true fuel f.type ((cs.drop f.offset).take (P.cellsOf f.type))) = some xs → (∀ v ∈ DataW.weightsEach P (fs.map (·.type)) (xs.map (·.1)), v ≤ reachBytes) →
    ∃ parts : List (List AV), parts.length = fs.length ∧ RelC (Env.start w) parts.flatten (cs.drop off) ∧ (∀ (i : Nat) (f : Field) (p : List AV), fs[i]? = some f → parts[i]? = some p → LaysR P fuel f.type p) ∧ bulkL parts.flatten ≤ dBulkAll (xs.map (·.1))
  | [], off, xs, ht, _, _, _ => by
    simp only [tilesB, beq_iff_eq] at ht
    subst ht
    exact ⟨[], rfl, ⟨by simp, fun i a u ha => by simp at ha⟩, fun i f p hf => by simp at hf, by simp [bulkL]⟩
  | f :: fs, off, xs, ht, hS, h, hwt => by
    simp only [tilesB, Bool.and_eq_true, beq_iff_eq] at ht
    obtain ⟨rfl, ht⟩ := ht
    simp only [List.mapM_cons, Option.bind_eq_bind, Option.pure_def, Option.bind_eq_some_iff, Option.some.injEq] at h
    obtain ⟨y, hy, r, hr, rfl⟩ := h
    simp only [List.map_cons, DataW.weightsEach, List.mem_append] at hwt
    obtain ⟨as, h1, h2, g1⟩ := ih _ _ _ (hS f (by simp)) hy (fun v hv => hwt v (.inl hv))
    obtain ⟨parts, h3, h4, h5, g2⟩ := fields_repU ih fs _ r ht (fun g hg => hS g (by simp [hg])) hr (fun v hv => hwt v (.inr hv))
    refine ⟨as :: parts, by simp [h3], ?_, fun i g p hg hp => ?_, by simp only [List.flatten_cons, bulkL_app, List.map_cons, dBulkAll]; omega⟩
    · have hd : cs.drop f.offset = (cs.drop f.offset).take (P.cellsOf f.type) ++ cs.drop (f.offset + P.cellsOf f.type) := by
        rw [← List.drop_drop, List.take_append_drop]
      rw [hd, List.flatten_cons]
      exact h1.append h4
    · cases i with
      | zero => simp at hg hp; subst hg; subst hp; exact h2
      | succ i => exact h5 i g p (by simpa using hg) (by simpa using hp)

/-- What a reading met, as abstract cells. -/
theorem trod_repU {S : List TypeId} (hS : closedB P S = true) {w : World} : ∀ (fuel : Nat) (t : TypeId) (cs : List Value) (x : DataW H × List MemPlace), t ∈ S →
    DataW.trod enc P w 0 (fun _ => true) true fuel t cs = some x → (∀ v ∈ x.1.weights P t, v ≤ reachBytes) → ∃ as, RelC (Env.start w) as cs ∧ LaysR P fuel t as ∧ bulkL as ≤ dBulk x.1
  | 0, t, cs, x, _, h, _ => by simp [DataW.trod] at h
  | fuel + 1, t, cs, x, ht, h, hwt => by
    have ih := trod_repU hS (w := w) fuel
    have one : ∀ (a : AV) (v : Value), v.oneCell' = true → Rep (Env.start w) a v → RelC (Env.start w) [a] [v] := fun a v h1 h2 =>
      ⟨rfl, fun i b u hb hu => by
        cases i with
        | zero => simp at hb hu; subst hb; subst hu; exact ⟨h1, h2⟩
        | succ i => simp at hb⟩
    have hc := List.all_eq_true.1 hS t ht
    unfold DataW.trod at h
    cases hu : P.underlying t with
    | none => rw [hu] at hc; cases hc
    | some d =>
      rw [hu] at hc h
      cases d <;> simp only [reduceCtorEq] at hc
      case bool =>
        split at h
        case h_1 => exact ⟨_, one (.lit (.bool _)) _ rfl (.lit _), by simp only [LaysR, hu]; exact ⟨_, rfl⟩, by cases h; simp [bulkL, AV.bulk, dBulk]⟩
        all_goals first | (rename_i he _; cases he; done) | (rename_i he _ _; cases he; done) | (cases h; done) | (simp_all; done)
      case int k =>
        split at h
        case h_2 k1 k2 n he =>
          cases he
          split at h
          · rename_i hk
            obtain ⟨rfl, hw⟩ := hk
            exact ⟨_, one (.lit (.int _ n)) _ rfl (.lit _), by simp only [LaysR, hu]; exact ⟨n, rfl, hw⟩, by cases h; simp [bulkL, AV.bulk, dBulk]⟩
          · cases h
        all_goals first | (rename_i he _; cases he; done) | (rename_i he _ _; cases he; done) | (cases h; done) | (simp_all; done)
      case string =>
        split at h
        case h_4 s he =>
          split at h
          · rename_i hk
            cases h
            refine ⟨_, one (.lit (.string s)) _ rfl (.lit _), ?_, by simp [bulkL, AV.bulk, dBulk]⟩
            simp only [LaysR, hu]
            refine ⟨s, rfl, ?_⟩
            have := hwt s.data.toList.length (by simp [DataW.weights])
            simpa using this
          · cases h
        all_goals first | (rename_i he _; cases he; done) | (rename_i he _ _; cases he; done) | (cases h; done) | (simp_all; done)
      case slice e =>
        simp only [Bool.and_eq_true, List.contains_iff_mem, decide_eq_true_eq] at hc
        obtain ⟨he, hpos⟩ := hc
        split at h
        case h_7 e' he' =>
          exact ⟨[.sl .nil (P.cellsOf e) []], one _ _ rfl (.slNil _), by simp only [LaysR, hu]; exact ⟨.nil, [], rfl, .inl ⟨rfl, rfl⟩, by simp, by simp, by simp⟩, by cases h; simp [bulkL, bulkLL, AV.bulk, dBulk]⟩
        case h_8 e' a len cap he' =>
          cases he'
          simp only at h
          split at h
          · rename_i hcond
            obtain ⟨_, hlc, hcm⟩ := hcond
            obtain ⟨elems, hel, h⟩ := Option.bind_eq_some_iff.1 h
            simp only [if_true, Option.map_eq_some_iff] at h
            obtain ⟨rest, hrest, hxx⟩ := h
            rw [← hxx] at hwt
            simp only [DataW.weights, hu] at hwt
            have hell0 : elems.length = len := by
              obtain ⟨h1, _⟩ := mapM_get hel
              simpa using h1
            have hA := mapM_range hel
            have hB := mapM_range hrest
            -- the elements
            obtain ⟨es, hesl, hes⟩ := choose_list (Q := fun i as => ∃ us, w.cells? 0 (a.add (i * P.cellsOf e)) (P.cellsOf e) = some us ∧ RelC (Env.start w) as us ∧ LaysR P fuel e as ∧ ∃ y, elems[i]? = some y ∧ bulkL as ≤ dBulk y.1) len (fun i hi => by
              obtain ⟨y, hy, hyi⟩ := hA i hi
              obtain ⟨us, h1, h2⟩ := Option.bind_eq_some_iff.1 hy
              obtain ⟨as, h3, h4, h5⟩ := ih e us y he h2 (fun v hv => hwt v (List.mem_cons_of_mem _ (List.mem_append.2 (.inl (weightsAll_in (List.mem_map.2 ⟨y, List.mem_of_getElem? hyi, rfl⟩) hv)))))
              exact ⟨as, us, h1, h3, h4, y, hyi, h5⟩)
            have hspot : 0 < cap → a.spot = none ∧ a.block < w.heap.size := fun h0 => by
              have : ∃ us, w.cells? 0 (a.add (0 * P.cellsOf e)) (P.cellsOf e) = some us := by
                by_cases hl : 0 < len
                · obtain ⟨y, hy, _⟩ := hA 0 hl
                  obtain ⟨us, h1, _⟩ := Option.bind_eq_some_iff.1 hy
                  exact ⟨us, h1⟩
                · obtain ⟨y, hy, _⟩ := hB 0 (by omega)
                  obtain ⟨us, h1, _⟩ := Option.bind_eq_some_iff.1 hy
                  exact ⟨us, by rw [show len + 0 = 0 by omega] at h1; exact h1⟩
              obtain ⟨us, h1⟩ := this
              obtain ⟨h2, h3⟩ := cells?_spec h1
              have h4 := h3 0 (us[0]'(by omega)) (by simp)
              rw [show a.add (0 * P.cellsOf e) = a by simp [Addr.add], show a.add 0 = a by simp [Addr.add]] at h4
              have := lt_of_cell h4
              exact ⟨this.2, this.1⟩
            have hlay : LaysR P (fuel + 1) t [.sl .any (P.cellsOf e) es] := by
              simp only [LaysR, hu]
              refine ⟨.any, es, rfl, .inr rfl, by omega, ?_, fun x hx => ?_⟩
              · have h9 := hwt _ (List.mem_cons_self)
                simp only [List.length_map] at h9
                rw [hesl, ← hell0]
                exact Nat.le_trans (Nat.mul_le_mul_right _ (Nat.le_add_right _ _)) h9
              obtain ⟨i, hi, rfl⟩ := List.getElem_of_mem hx
              obtain ⟨us, _, _, h4, _⟩ := hes i es[i] (by simp [hi])
              exact h4
            have hbk : bulkL [.sl .any (P.cellsOf e) es] ≤ dBulk x.1 := by
              rw [← hxx]
              have hb1 : bulkLL es ≤ dBulkAll (elems.map (·.1)) := bulkLL_le (by rw [List.length_map, hesl, hell0]) fun i a d ha hd => by
                obtain ⟨us, _, _, _, y, hy, hb⟩ := hes i a ha
                simp only [List.getElem?_map, hy, Option.map_some, Option.some.injEq] at hd
                rw [← hd]; exact hb
              simp only [bulkL, AV.bulk, dBulk]
              omega
            refine ⟨[.sl .any (P.cellsOf e) es], one _ _ rfl ?_, hlay, hbk⟩
            by_cases h0 : cap = 0
            · have hl0 : len = 0 := by omega
              have : es = [] := List.eq_nil_of_length_eq_zero (by omega)
              subst this; subst h0; subst hl0
              exact .slE (by simp)
            · obtain ⟨hsp, hblk⟩ := hspot (by omega)
              obtain ⟨b, o, s⟩ := a
              simp only at hsp hblk
              subst hsp
              have hrep := rep_sl_intro (e := Env.start w) (k := .any) (sz := P.cellsOf e) (es := es) (b := b) (o := o) (cap := cap) (by simp) (fun _ => hblk) (by omega) (by simp)
                (fun x hx => by
                  obtain ⟨i, hi, rfl⟩ := List.getElem_of_mem hx
                  obtain ⟨us, h1, h2, _, _⟩ := hes i es[i] (by simp [hi])
                  rw [← h2.1, (cells?_spec h1).1])
                (fun i x hx j c hj => by
                  obtain ⟨us, h1, h2, _, _⟩ := hes i x hx
                  have hjl : j < us.length := by have := (List.getElem?_eq_some_iff.1 hj).1; rw [h2.1]; exact this
                  obtain ⟨h3, h4⟩ := h2.2 j c us[j] hj (by simp [hjl])
                  have h5 := (cells?_spec h1).2 j us[j] (by simp [hjl])
                  rw [addr_add, addr_add] at h5
                  exact ⟨us[j], h5, h3, h4⟩)
              rw [hesl] at hrep
              exact hrep
          · cases h
        all_goals first | (rename_i he _; cases he; done) | (rename_i he _ _; cases he; done) | (cases h; done) | (simp_all; done)
      case struct fs =>
        simp only [Bool.and_eq_true, List.all_eq_true, List.contains_iff_mem] at hc
        obtain ⟨hin, htile⟩ := hc
        split at h
        case h_9 fs' cs' he' =>
          cases he'
          split at h
          · rename_i hlen
            simp only [Option.map_eq_some_iff] at h
            obtain ⟨xs, hxs, hxx⟩ := h
            rw [← hxx] at hwt
            simp only [DataW.weights, hu] at hwt
            rw [← hlen] at htile
            obtain ⟨parts, h1, h2, h3, h4⟩ := fields_repU ih fs.toList 0 xs htile (fun f hf => hin f hf) hxs hwt
            refine ⟨parts.flatten, by simpa using h2, ?_, by rw [← hxx]; simp only [dBulk]; omega⟩
            simp only [LaysR, hu]
            exact ⟨parts, rfl, by simpa using h1, fun i f p hf hp => h3 i f p (by simpa using hf) hp⟩
          · cases h
        all_goals first | (rename_i he _; cases he; done) | (rename_i he _ _; cases he; done) | (cases h; done) | (simp_all; done)

theorem arg_avU {S : List TypeId} (hS : closedB P S = true) {w : World} {base : Nat} {t : TypeId} {v : Value} {d : DataW H} {ps : List MemPlace} (ht : t ∈ S)
    (hok : Value.okWide P w .any base t v) (h : DataW.Trod enc P w 0 (fun _ => true) true t v d ps) (hw : (d.weights P t).all (· ≤ reachBytes) = true) : ∃ a, Rep (Env.start w) a v ∧ ArgS P t a ∧ a.bulk ≤ dBulk d + 1 := by
  rw [List.all_eq_true] at hw
  obtain ⟨n, h⟩ := h
  obtain ⟨as, h1, h2, hb⟩ := trod_repU hS n t _ _ ht h (fun v hv => by simpa using hw v hv)
  by_cases hst : ∃ fs, P.underlying t = some (.struct fs)
  · obtain ⟨fs, hfs⟩ := hst
    simp only [Value.okWide, hfs] at hok
    obtain ⟨cs, rfl, _⟩ := hok
    simp only [Value.cells] at h1
    refine ⟨.agg as, .agg (vs := cs.toList) h1.1 (fun u hu => ?_) (fun i c u hc hu => (h1.2 i c u hc hu).2), ⟨as, n, h2, by rw [hfs]⟩, by simp only [AV.bulk]; exact Nat.succ_le_succ hb⟩
    obtain ⟨i, hi, rfl⟩ := List.getElem_of_mem hu
    have hi' : i < as.length := by rw [← h1.1]; exact hi
    exact (h1.2 i as[i] _ (by simp [hi']) (by simp at hi; simp [hi])).1
  · have hone : (∃ a, as = [a]) ∧ v.cells = #[v] := by
      cases n with
      | zero => exact h2.elim
      | succ n =>
        simp only [LaysR] at h2
        split at h2
        · rename_i hu
          obtain ⟨b, rfl⟩ := h2
          refine ⟨⟨_, rfl⟩, ?_⟩
          cases v <;> first | rfl | (simp [Value.okWide, hu, Cell.okWide, Cell.ok] at hok; done)
        · rename_i hu
          obtain ⟨m, rfl, _⟩ := h2
          refine ⟨⟨_, rfl⟩, ?_⟩
          cases v <;> first | rfl | (simp [Value.okWide, hu, Cell.okWide, Cell.ok] at hok; done)
        · rename_i hu
          obtain ⟨s, rfl, _⟩ := h2
          refine ⟨⟨_, rfl⟩, ?_⟩
          cases v <;> first | rfl | (simp [Value.okWide, hu, Cell.okWide, Cell.ok] at hok; done)
        · rename_i hu
          obtain ⟨kd, es, rfl, _⟩ := h2
          refine ⟨⟨_, rfl⟩, ?_⟩
          cases v <;> first | rfl | (simp [Value.okWide, hu, Cell.okWide, Cell.ok] at hok; done)
        · rename_i fs hfs; exact absurd ⟨fs, hfs⟩ hst
        · exact h2.elim
    obtain ⟨⟨a, rfl⟩, hv⟩ := hone
    refine ⟨a, ?_, ⟨[a], n, h2, ?_⟩, by simp only [bulkL] at hb; exact Nat.le_succ_of_le (by simpa using hb)⟩
    · rw [hv] at h1
      exact (h1.2 0 a v (by simp) (by simp)).2
    · split
      · rename_i fs hfs; exact absurd ⟨fs, hfs⟩ hst
      · rfl

theorem args_avU {S : List TypeId} (hS : closedB P S = true) {w : World} {base : Nat} : ∀ (ts : List TypeId) (vs : List Value) (ds : List (DataW H)) (ps : List MemPlace), (∀ t ∈ ts, t ∈ S) →
    (∀ (j : Nat) (t : TypeId) (v : Value), ts[j]? = some t → vs[j]? = some v → Value.okWide P w .any base t v) → DataW.TrodAll enc P w 0 (fun _ => true) true ts vs ds ps → (DataW.weightsEach P ts ds).all (· ≤ reachBytes) = true →
    ∃ as : List AV, vs.length = as.length ∧ as.length = ts.length ∧ (∀ (i : Nat) (c : AV) (v : Value), as[i]? = some c → vs[i]? = some v → Rep (Env.start w) c v) ∧ (∀ (i : Nat) (t : TypeId) (a : AV), ts[i]? = some t → as[i]? = some a → ArgS P t a) ∧ bulkL as ≤ dBulkAll ds + as.length
  | [], [], [], _, _, _, _, _ => ⟨[], rfl, rfl, fun i c v hc => by simp at hc, fun i t a hc => by simp at hc, by simp [bulkL]⟩
  | t :: ts, v :: vs, d :: ds, ps, hin, hok, h, hw => by
    obtain ⟨p, q, h1, h2, rfl⟩ := h
    rw [DataW.weightsEach, List.all_append, Bool.and_eq_true] at hw
    obtain ⟨a, g1, g2, g3⟩ := arg_avU hS (hin t (by simp)) (hok 0 t v rfl rfl) h1 hw.1
    obtain ⟨as, k1, k2, k3, k4, k5⟩ := args_avU hS ts vs ds q (fun t ht => hin t (by simp [ht])) (fun j t v hj hv => hok (j + 1) t v (by simpa using hj) (by simpa using hv)) h2 hw.2
    refine ⟨a :: as, by simp [k1], by simp [k2], fun i c u hc hu => ?_, fun i t' b ht hb => ?_, by simp only [bulkL, dBulkAll, List.length_cons]; omega⟩
    · cases i with
      | zero => simp at hc hu; subst hc; subst hu; exact g1
      | succ i => exact k3 i c u (by simpa using hc) (by simpa using hu)
    · cases i with
      | zero => simp at ht hb; subst ht; subst hb; exact g2
      | succ i => exact k4 i t' b (by simpa using ht) (by simpa using hb)
  | [], _ :: _, _, _, _, _, h, _ => h.elim
  | [], [], _ :: _, _, _, _, h, _ => h.elim
  | _ :: _, [], _, _, _, _, h, _ => h.elim
  | _ :: _, _ :: _, [], _, _, _, h, _ => h.elim

/-- A law over plain arguments: what its row's step asks. -/
theorem law_stepU {S : List TypeId} (hS : closedB P S = true) (hl : laidOutB P = true) {f : FuncId} {fn : Func} {s : ChangeSpec} {apart fresh handsOn again : Bool} {tb : TypeId}
    (hpar : ∀ t ∈ fn.params.toList, t ∈ S ∧ P.readableRec t = true ∧ t < P.types.size) (hvars : s.vars = []) (hres : fn.resultTypes = #[tb]) (htb : P.underlying tb = some .bool)
    (hfn : ∀ ds : List (DataW H), ds.length = fn.params.size → s.fn H ds = { results := [.lit (.bool true)], args := ds })
    {B : Nat} (hcon : ∀ as : List AV, as.length = fn.params.size → (∀ (i : Nat) (t : TypeId) (a : AV), fn.params[i]? = some t → as[i]? = some a → ArgS P t a) → bulkL as ≤ B + as.length → ACall P f as noHeap 0 (fun r _ _ => r = .lit (.bool true)))
    {W : World} {base : Nat} {args : Array Value} {ds gs : List (DataW H)} {before : List MemPlace}
    (hval : ∀ (j : Nat) (t : TypeId) (v : Value), fn.params[j]? = some t → args[j]? = some v → Value.okWide P W .any base t v)
    (hW : DataW.Whole enc P fn.params.toList s.vars apart W args.toList ds gs before) (hG : GlobOk (Env.start W)) (hwt : (DataW.weightsEach P (fn.params.toList ++ s.plain.varTypes P) (ds ++ gs)).all (· ≤ reachBytes) = true) (hbulk : dBulkAll (ds ++ gs) ≤ B) :
    Calls P f args W (fun x W' => ∃ v, x = .returned v ∧ s.post enc P fn apart fresh handsOn again W args v W') := by
  have hW' := hW
  obtain ⟨p, q, hA, hV, rfl, hfz, hnd⟩ := hW
  rw [hvars] at hV
  have hgq : gs = [] ∧ q = [] := by
    cases gs with
    | nil => exact ⟨rfl, hV⟩
    | cons g gs => exact hV.elim
  obtain ⟨rfl, rfl⟩ := hgq
  have hds : ds.length = fn.params.size := by
    have key : ∀ (ts : List TypeId) (vs : List Value) (ds : List (DataW H)) (ps : List MemPlace), DataW.TrodAll enc P W 0 (fun _ => true) true ts vs ds ps → ds.length = ts.length := by
      intro ts
      induction ts with
      | nil => intro vs ds ps h; cases vs <;> cases ds <;> first | rfl | exact h.elim
      | cons t ts ih =>
        intro vs ds ps h
        cases vs with
        | nil => exact h.elim
        | cons v vs =>
          cases ds with
          | nil => exact h.elim
          | cons d ds => obtain ⟨_, q, _, h2, _⟩ := h; simp [ih vs ds q h2]
    simpa using key _ _ _ _ hA
  have hwt2 : (DataW.weightsEach P fn.params.toList ds).all (· ≤ reachBytes) = true := by
    rw [List.append_nil, weightsEach_app _ _ _ (by rw [hds]; simp)] at hwt
    exact hwt
  obtain ⟨as, h1, h2, h3, h4, h5⟩ := args_avU hS fn.params.toList args.toList ds p (fun t ht => (hpar t ht).1) (fun j t v hj hv => hval j t v (by simpa using hj) (by simpa using hv)) hA hwt2
  have hc := (hcon as (by simpa using h2) (fun i t a ht ha => h4 i t a (by simpa using ht) ha) (by rw [List.append_nil] at hbulk; omega)).calls W hG (vs := args.toList) h1 h3
  refine hc.mono fun x W' ⟨hx, hb⟩ => ⟨.bool true, hx, ?_⟩
  have hlt : ∀ y ∈ p, y.block < W.heap.size := fun y hy => by simpa using hW'.lt y (by simpa using hy)
  refine post_of_below (pa := p) (pv := []) hW' hb (fun b sp hd => ?_) (fun sp hsp => ?_) (fun sp _ => ?_) (by simp) ?_
  · rw [List.append_nil, hfn ds hds, hres]
    exact ⟨[], [], shut_bool htb _, rfl, rfl⟩
  · rw [List.append_nil, hfn ds hds]
    exact trodAll_below hl hb _ _ _ _ (fun t ht => (hpar t ht).2) hA hlt (fun y hy => hsp y (by simpa using hy))
  · rw [List.append_nil, hfn ds hds, hvars]
    rfl
  · exact ok_one hres rfl (okWide_bool_mk htb _)

end
end Go.Fw
