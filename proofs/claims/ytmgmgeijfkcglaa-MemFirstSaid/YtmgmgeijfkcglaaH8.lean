/- Framework, part 27: iterators that write a box of their own while they hand out. -/
import Derived.Test.YtmgmgeijfkcglaaL3
namespace Go.Fw
set_option linter.unusedSimpArgs false
set_option linter.unusedVariables false
open Go
set_option linter.unusedSectionVars false
variable [Globals]

section
variable {P : Program}

/-- An iterator that hands out these, and that has one object of its own. -/
def SeqO (P : Program) (f : FuncId) (capt : List AV) (o0 : Nat) (c0 : AObj) (xs : List (List AV)) : Prop :=
  goodFn P f = true ∧ ∀ (y N : Nat) (H : AHeap) (J : Nat → AHeap → Prop) (Kx : AHeap → Prop), H o0 = some c0 → (∀ i H c, J i H → J i (H.set o0 c)) → J 0 H →
    (∀ i x H1 N1 c, xs[i]? = some x → N ≤ N1 → J i H1 → H1 o0 = some c → YCall P y x H1 N1 (fun r H2 _ => (r = .lit (.bool true) ∧ J (i + 1) H2 ∧ H2 o0 = some c) ∨ (r = .lit (.bool false) ∧ Kx H2))) →
    ACall P f (.yl y :: capt) H N (fun _ H' N' => N ≤ N' ∧ (J xs.length H' ∨ Kx H'))

/-- A loop over such an iterator: its rounds leave its object alone. -/
theorem range_seqO {f : FuncId} {capt : List AV} {o0 : Nat} {c0 : AObj} {xs : List (List AV)} (hs : SeqO P f capt o0 c0 xs) {ps : List Nat} {asg body : ACode} {fs : List Fr} {Q : Post} {A : Nat → AV} {H : AHeap} {N : Nat} (J : Nat → AHeap → Prop) (Kx : AExit → AHeap → Prop)
    (hps : ∀ x ∈ xs, x.length = ps.length) (hF : Fresh H N) (ho : H o0 = some c0) (hJo : ∀ i H c, J i H → J i (H.set o0 c)) (h0 : J 0 H)
    (hbody : ∀ (o ob : AObj) (i : Nat) (x : List AV) (G : AHeap) (N1 : Nat) (c : AObj), xs[i]? = some x → N < N1 → Fresh G N1 → G N = none → J i G → G o0 = some c → run P asg [] (asgQ P N o ob body (fun G' => J (i + 1) G' ∧ G' o0 = some c) Kx) ⟨putL A ps x, G.set N o, N1⟩)
    (hdone : ∀ (H2 : AHeap) (N2 : Nat), N ≤ N2 → J xs.length H2 → onward P fs Q .normal ⟨A, H2, N2⟩)
    (hexit : ∀ (x : AExit) (H2 : AHeap) (N2 : Nat), x ≠ .normal → N ≤ N2 → Kx x H2 → onward P fs Q x ⟨A, H2, N2⟩) : rangeK P (.fn (.func f) [] capt) ps asg body fs Q ⟨A, H, N⟩ := by
  intro o ob od hround
  have hlt : o0 < N := hF.lt ho
  have hne : o0 ≠ N := by omega
  have hdel : (H.set N o).del N = H := by rw [set_del, del_none (hF N (Nat.le_refl N))]
  refine (hs.2 N (N + 1) (H.set N o) (fun i G => G N = some o ∧ J i (G.del N)) (fun G => ∃ x : AExit, x ≠ .normal ∧ G N = some (od x) ∧ Kx x (G.del N))
    (by simp [AHeap.set, hne, ho]) (fun i G c ⟨h1, h2⟩ => ⟨by simp [AHeap.set, Ne.symm hne, h1], by rw [del_set_ne hne]; exact hJo i _ c h2⟩) ⟨by simp [AHeap.set], by rw [hdel]; exact h0⟩ ?_).mono ?_
  · rintro i x H1 N1 c hx hN1 ⟨h1, hJ⟩ hc
    refine YCall.fresh fun hF1 => ?_
    refine hround x H1 N1 _ h1 (by rw [hps x (List.mem_of_getElem? hx)]) ?_
    have hG : (H1.del N).set N o = H1 := by
      funext id
      simp only [AHeap.set, AHeap.del]
      split
      · rename_i hi; rw [hi, h1]
      · rfl
    have hb := hbody o ob i x (H1.del N) N1 c hx hN1 (fun j hj => by simp only [AHeap.del]; split; rfl; exact hF1 j hj) (by simp [AHeap.del]) hJ (by simp [AHeap.del, hne, hc])
    rw [hG] at hb
    refine run_mono hb ?_
    rintro y s ⟨rfl, hso, hb⟩
    refine ⟨rfl, hso, ?_⟩
    refine run_mono hb ?_
    rintro y s2 ⟨k1, k4⟩
    refine ⟨k1, ?_⟩
    cases y with
    | normal =>
      obtain ⟨k5, k6⟩ := k4
      exact .inl ⟨rfl, ⟨by simp [AHeap.set], by rw [set_del]; exact k5⟩, by simp [AHeap.del, hne] at k6; simp [AHeap.set, hne, k6]⟩
    | exit i => exact .inr ⟨rfl, .exit i, by simp, by simp [AHeap.set], by rw [set_del]; exact k4⟩
    | ret => exact .inr ⟨rfl, .ret, by simp, by simp [AHeap.set], by rw [set_del]; exact k4⟩
  · rintro r H' N' ⟨hN', ⟨h1, h2⟩ | ⟨x, hx, h1, h2⟩⟩
    · exact .inl ⟨h1, hdone _ _ (by omega) h2⟩
    · exact .inr ⟨x, hx, h1, hexit x _ _ hx (by omega) h2⟩

end
attribute [simp] nilOf
end Go.Fw
