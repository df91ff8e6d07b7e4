/- touch: the law TouchOwn, what is found. -/
import Derived.Test.YtanpcmkhhpaeiaaGreatDoorTI
namespace Go.Proofs.YtanpcmkhhpaeiaaGreatDoor
set_option linter.unusedSimpArgs false
set_option linter.unusedVariables false
open Go Go.Fw
def keptP : List Nat := [1, 3, 4, 5, 7, 8, 9, 10]
def Fnd (code : List Ins) (k : Nat) (v : Int) (n : Nat) (b : Bool) : Prop := b = true ↔ ∃ x ∈ code.take n, x.op = opK k ∧ x.n = v
section
variable {A : Nat → AV} {H H0 : AHeap} {N N0 : Nat} {fs : List Fr} {Q : Post} {p : PrgV} {i k : Nat} {f : FunV} {ws : Nat → AV}
/-- A number of a row is one of the Fun's. -/
theorem own_b2 {c : ACode} (hc : .loop a_bobbinlaw18_TouchOwnb2 = c) (hC : OwnC p i f H0 N0 ws) (hT : OwnT p i k ws A) (hk5 : k < 5) {j : Nat} {v : Int} (hv : ((ownV f.code).get k)[j]? = some v) (h10 : A 10 = i64 (j : Nat)) (h11 : A 11 = bl false) (h12 : A 12 = i64 0) (hF : Fresh H N) (hN : N0 ≤ N) (hold : ∀ j, j < N0 → H j = H0 j)
    (hk : ∀ A' H' N', (∀ t ∈ keptP, A' t = A t) → A' 11 = bl true → Fresh H' N' → N0 ≤ N' → (∀ j, j < N0 → H' j = H0 j) → onward Tryz.prog fs Q .normal ⟨A', H', N'⟩) : run Tryz.prog c (.blk 6 :: fs) Q ⟨A, H, N⟩ := by
  subst hc
  have hfi := hC.fi
  have hil : i < p.funs.length := (List.getElem?_eq_some_iff.1 hfi).1
  have hq : aindex 5 (.sl p.fk 5 (funCells p.funs)) (i64 (i : Nat)) = some (.ip f.cells 0) := aindex_sl (by omega) (by simp [funCells, hfi])
  have hfew := hC.few
  refine run_loop (fun m s => ∃ (n : Nat) (b : Bool), n ≤ f.code.length ∧ m = f.code.length - n ∧ (∀ t ∈ keptP, s.A t = A t) ∧ s.A 11 = bl b ∧ s.A 12 = i64 n ∧ Fresh s.H s.N ∧ N0 ≤ s.N ∧ (∀ j, j < N0 → s.H j = H0 j) ∧ Fnd f.code k v n b) f.code.length ?_ ?_
  · exact ⟨0, false, by omega, by omega, fun t _ => rfl, h11, h12, hF, hN, hold, by simp [Fnd]⟩
  · rintro m A1 H1 N1 ⟨n, b, hn, rfl, hk1, e11, e12, hF1, hN1, hold1, hb⟩
    simp only at hk1 e11 e12 hF1 hN1 hold1
    have t1 := (hk1 1 (by decide)).trans hT.t1
    have t5 := (hk1 5 (by decide)).trans hT.t5
    have t7 := (hk1 7 (by decide)).trans hT.t7
    have t8 := (hk1 8 (by decide)).trans hT.t8
    have t9 := (hk1 9 (by decide)).trans hT.t9
    have t10 := (hk1 10 (by decide)).trans h10
    by_cases hnl : n = f.code.length
    · have n1 : ¬ ((n : Int) < f.code.length) := by omega
      unfold Fnd at hb
      rw [hnl, List.take_length] at hb
      have hbt : b = true := hb.2 ((ownV_mem hk5).1 (List.mem_of_getElem? hv))
      subst hbt
      simp [a_bobbinlaw18_TouchOwnb2, t1, t5, e12, hq, n1]
      exact hk _ _ _ (fun t ht => Eq.trans ((by simp [keptP] : ∀ t ∈ keptP, _ = A1 t) t ht) (hk1 t ht)) (by simp [e11]) hF1 hN1 hold1
    · have hlt : n < f.code.length := by omega
      obtain ⟨x, hx⟩ : ∃ x, f.code[n]? = some x := ⟨f.code[n], List.getElem?_eq_getElem hlt⟩
      have hxe : f.code[n] = x := (List.getElem?_eq_some_iff.1 hx).2
      have hq2 : aindex 6 (.sl f.k 6 (codeCells f.code)) (i64 (n : Nat)) = some (.ip x.cells 0) := aindex_sl (by omega) (by simp [codeCells, hx])
      have hxc : x.cells = [u8 x.op, i64 x.r, i64 x.a, i64 x.b, i64 x.n, .sl x.k x.z (intCells x.args)] := rfl
      rw [hxc] at hq2
      have n1 : (n : Int) < f.code.length := by omega
      have hwj : IntKind.i64.wrap ((n : Int) + 1) = ((n + 1 : Nat) : Int) := by rw [wrap_i64 (by omega) (by omega)]; rfl
      have kk : ∀ A' : Nat → AV, (∀ t ∈ keptP, A' t = A1 t) → ∀ t ∈ keptP, A' t = A t := fun A' h t ht => (h t ht).trans (hk1 t ht)
      have holdX : ∀ (o : AObj) (j : Nat), j < N0 → (H1.set N1 o) j = H0 j := fun o j hj => by simp only [AHeap.set]; rw [if_neg (by omega)]; exact hold1 j hj
      have hnx : (∃ y ∈ f.code.take (n + 1), y.op = opK k ∧ y.n = v) ↔ b = true ∨ (x.op = opK k ∧ x.n = v) := by
        unfold Fnd at hb
        rw [hb, take_next hlt, hxe]
        constructor
        · rintro ⟨y, hy, h⟩
          rcases List.mem_append.1 hy with h1 | h1
          · exact .inl ⟨y, h1, h⟩
          · rw [List.mem_singleton.1 h1] at h; exact .inr h
        · rintro (⟨y, hy, h⟩ | h)
          · exact ⟨y, List.mem_append.2 (.inl hy), h⟩
          · exact ⟨x, by simp, h⟩
      have hwc := (hC.ws k hk5).cells
      obtain ⟨pq, hpq, lpq⟩ := ((hC.ws k hk5).keep hC.F (holdX (.blk [u8 x.op, i64 x.r, i64 x.a, i64 x.b, i64 x.n, .sl x.k x.z (intCells x.args)]))).get hv
      have kX : ∀ (o : AObj) (j : Nat), j < N0 → (if j = N1 then some o else H1 j) = H0 j := fun o j hj => holdX o j hj
      cases b with
      | true =>
        have hfn : Fnd f.code k v (n + 1) true := ⟨fun _ => hnx.2 (.inl rfl), fun _ => rfl⟩
        simp [a_bobbinlaw18_TouchOwnb2, t1, t5, t7, t8, t9, t10, e11, e12, hq, hq2, n1, splice, ls_at ws hk5, op_at hk5, hwj]
        refine ⟨f.code.length - (n + 1), by omega, n + 1, by omega, rfl, kk _ (by simp [keptP]), rfl, hF1.set _, by omega, kX _, hfn⟩
      | false =>
        by_cases hop : x.op = opK k
        · rw [hop] at lpq
          by_cases hxv : x.n = v
          · have hfn : Fnd f.code k v (n + 1) true := ⟨fun _ => hnx.2 (.inr ⟨hop, hxv⟩), fun _ => rfl⟩
            subst hxv
            simp [a_bobbinlaw18_TouchOwnb2, t1, t5, t7, t8, t9, t10, e11, e12, hq, hq2, n1, splice, ls_at ws hk5, op_at hk5, hop, hwj]
            simp [hpq, lpq, e12, hwj, -aload]
            refine ⟨f.code.length - (n + 1), by omega, n + 1, by omega, rfl, kk _ (by simp [keptP]), rfl, hF1.set _, by omega, kX _, hfn⟩
          · have hfn : Fnd f.code k v (n + 1) false := ⟨(fun h => nomatch h), fun h => (hnx.1 h).elim (fun h => h) fun h => absurd h.2 hxv⟩
            simp [a_bobbinlaw18_TouchOwnb2, t1, t5, t7, t8, t9, t10, e11, e12, hq, hq2, n1, splice, ls_at ws hk5, op_at hk5, hop, hwj]
            simp [hpq, lpq, hxv, e12, hwj, -aload]
            refine ⟨f.code.length - (n + 1), by omega, n + 1, by omega, rfl, kk _ (by simp [keptP]), rfl, hF1.set _, by omega, kX _, hfn⟩
        · have hfn : Fnd f.code k v (n + 1) false := ⟨(fun h => nomatch h), fun h => (hnx.1 h).elim (fun h => h) fun h => absurd h.1 hop⟩
          simp [a_bobbinlaw18_TouchOwnb2, t1, t5, t7, t8, t9, t10, e11, e12, hq, hq2, n1, splice, ls_at ws hk5, op_at hk5, hop, hwj]
          refine ⟨f.code.length - (n + 1), by omega, n + 1, by omega, rfl, kk _ (by simp [keptP]), rfl, hF1.set _, by omega, kX _, hfn⟩
end
end Go.Proofs.YtanpcmkhhpaeiaaGreatDoor
