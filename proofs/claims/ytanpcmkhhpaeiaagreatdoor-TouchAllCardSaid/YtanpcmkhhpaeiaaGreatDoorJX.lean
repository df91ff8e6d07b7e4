/- touch: the law TouchAll: what a Fun does in all. -/
import Derived.Test.YtanpcmkhhpaeiaaGreatDoorJD
import Derived.Test.YtanpcmkhhpaeiaaGreatDoorKA
namespace Go.Proofs.YtanpcmkhhpaeiaaGreatDoor
set_option linter.unusedSimpArgs false
set_option linter.unusedVariables false
open Go Go.Fw
theorem rchd_split {own : Nat → SumV} {i m : Nat} (hc : ∀ c, c ∈ (own i).c → ∃ c' : Nat, c = c') : Rchd own i m ↔ m = i ∨ ∃ c ∈ (own i).c, Rchd own c.toNat m := by
  constructor
  · intro h
    induction h with
    | refl => exact .inl rfl
    | @step k c h1 h2 ih =>
      right
      rcases ih with rfl | ⟨c', h3, h4⟩
      · exact ⟨c, h2, by simpa using Rchd.refl⟩
      · exact ⟨c', h3, .step h4 h2⟩
  · rintro (rfl | ⟨c, h1, h2⟩)
    · exact .refl
    · obtain ⟨c', rfl⟩ := hc c h1
      exact Rchd.trans (.step .refl h1) (by simpa using h2)

/-- What is known of a row of sums. -/
structure RowsC (p : PrgV) (H : AHeap) (N lo ar : Nat) (es : List (List AV)) (v : AV) : Prop where
  F : Fresh H N
  arr : Arr H lo es v ar
  len : es.length = p.funs.length
  rows : Rows5 H lo ar es (fun k s => IsSum (ownP p) (Rchd (ownP p) k) s)
  calls : ∀ k, k < p.funs.length → ∀ c, c ∈ (ownP p k).c → ∃ c' : Nat, c = c' ∧ c' < p.funs.length
  few : ∀ k, k < p.funs.length → (ownP p k).le 600
  n20 : p.funs.length ≤ 20
theorem RowsC.reach {p : PrgV} {H : AHeap} {N lo ar : Nat} {es : List (List AV)} {v : AV} (h : RowsC p H N lo ar es v) {i m : Nat} (hi : i < p.funs.length) (hm : Rchd (ownP p) i m) : m < p.funs.length :=
  Rchd.closed (L := fun m => m < p.funs.length) hi (fun k hk c hc => by obtain ⟨c', h1, h2⟩ := h.calls k hk _ hc; have h3 : c = c' := Int.ofNat_inj.1 h1; rw [h3]; exact h2) hm
theorem RowsC.le {p : PrgV} {H : AHeap} {N lo ar : Nat} {es : List (List AV)} {v : AV} (h : RowsC p H N lo ar es v) {S : Nat → Prop} {s : SumV} (hs : IsSum (ownP p) S s) (hS : ∀ m, S m → m < p.funs.length) : s.le 12000 := by
  have h1 := hs.le hS h.few
  have h2 := h.n20
  have : p.funs.length * 600 ≤ 12000 := by omega
  obtain ⟨a, b, c, d, e⟩ := h1
  exact ⟨by omega, by omega, by omega, by omega, by omega⟩
theorem RowsC.at {p : PrgV} {H H' : AHeap} {N lo ar : Nat} {es : List (List AV)} {v : AV} (h : RowsC p H N lo ar es v) (hk : ∀ j, j < N → H' j = H j) {k : Nat} (hkl : k < p.funs.length) :
    ∃ q a b c d e s, aindex 5 v (i64 (k : Nat)) = some q ∧ aload H' true 5 q = some (.agg [a, b, c, d, e]) ∧ SumAt H' s a b c d e ∧ IsSum (ownP p) (Rchd (ownP p) k) s ∧ FshAt H' lo s a b c d e := by
  have hA := h.arr.keep h.F (fun j _ hj => hk j hj)
  have hR := h.rows.keep h.F (fun j _ hj => hk j hj)
  obtain ⟨x, hx⟩ : ∃ x, es[k]? = some x := ⟨es[k]'(by have := h.len; omega), by rw [List.getElem?_eq_getElem]⟩
  obtain ⟨a, b, c, d, e, s, rfl, h1, h2⟩ := hR k x hx
  obtain ⟨q, h3, h4, _⟩ := arr_at hA.rd hA.1 hx
  have h5 : FshAt H' lo s a b c d e := h1.fsh fun id h => h.1
  exact ⟨q, a, b, c, d, e, s, h3, h4, h5.at, h2, h5⟩

section
variable {p : PrgV} {A : Nat → AV} {H : AHeap} {N : Nat} {fs : List Fr} {Q : Post}
/-- What is known in the inner loop. -/
def TaI (p : PrgV) (A : Nat → AV) (H0 : AHeap) (N N0 i b0 b1 lo1 : Nat) (w1 w2 w3 w4 w5 : AV) (m : Nat) (s : St) : Prop := ∃ (k : Nat) (S : SumV) (x1 x2 x3 x4 x5 : AV), k ≤ (ownP p i).c.length ∧ m = (ownP p i).c.length - k ∧ (∀ t ∈ [1, 2, 3, 7, 9, 10, 11], s.A t = A t) ∧ s.A 12 = i64 k ∧ Fresh s.H s.N ∧ N ≤ s.N ∧ (∀ j, j < N0 → s.H j = H0 j) ∧
    s.H b0 = some (.blk [w1, w2, w3, w4, w5]) ∧ s.H b1 = some (.blk [x1, x2, x3, x4, x5]) ∧ FshAt s.H lo1 (ownP p i) w1 w2 w3 w4 w5 ∧ FshAt s.H lo1 S x1 x2 x3 x4 x5 ∧ IsSum (ownP p) (fun m => m = i ∨ ∃ c ∈ (ownP p i).c.take k, Rchd (ownP p) c.toNat m) S
theorem ta_in {c : ACode} (hc : .loop a_bobbinlaw18_TouchAllb1 = c) {v : AV} {es : List (List AV)} {ar lo0 N0 i b0 b1 lo1 : Nat} {H0 : AHeap} (hC : RowsC p H0 N0 lo0 ar es v) (hi : i < p.funs.length)
    {w1 w2 w3 w4 w5 : AV} (h7 : A 7 = v) (h10 : A 10 = .mp b0 0) (h11 : A 11 = .mp b1 0) (h12 : A 12 = i64 0) (hbb : b0 ≠ b1) (hb1 : N0 ≤ b1) (hbk0 : H b0 = some (.blk [w1, w2, w3, w4, w5])) (hbk1 : H b1 = some (.blk [w1, w2, w3, w4, w5]))
    (hw : FshAt H lo1 (ownP p i) w1 w2 w3 w4 w5) (hF : Fresh H N) (hold : ∀ j, j < N0 → H j = H0 j) (hlo : lo1 ≤ N)
    (hk : ∀ A' H' N' x1 x2 x3 x4 x5 S, (∀ t ∈ [1, 2, 3, 7, 9, 11], A' t = A t) → Fresh H' N' → N ≤ N' → (∀ j, j < N0 → H' j = H0 j) → H' b1 = some (.blk [x1, x2, x3, x4, x5]) → FshAt H' lo1 S x1 x2 x3 x4 x5 → IsSum (ownP p) (Rchd (ownP p) i) S → onward Tryz.prog fs Q .normal ⟨A', H', N'⟩) :
    run Tryz.prog c (.blk 2 :: fs) Q ⟨A, H, N⟩ := by
  subst hc
  have hcl := hC.calls i hi
  have hsum0 : IsSum (ownP p) (fun m => m = i) (ownP p i) := IsSum.one i fun f hf => by
    unfold ownP
    split
    · exact ownV_lt _ _
    · rw [noS_get]; exact List.Pairwise.nil
  have hlc := hC.few i hi
  refine run_loop (TaI p A H0 N N0 i b0 b1 lo1 w1 w2 w3 w4 w5) (ownP p i).c.length ?_ ?_
  · exact ⟨0, ownP p i, w1, w2, w3, w4, w5, by omega, by omega, fun t _ => rfl, h12, hF, Nat.le_refl _, hold, hbk0, hbk1, hw, hw, hsum0.congr fun k => by simp⟩
  · rintro m A1 H1 N1 ⟨k, S, x1, x2, x3, x4, x5, hkl, rfl, hA, e12, hF1, hN1, hold1, hB0, hB1, hW, hX, hS⟩
    simp only at hA e12 hF1 hN1 hold1 hB0 hB1 hW hX
    have e7 : A1 7 = v := (hA 7 (by simp)).trans h7
    have e10 : A1 10 = .mp b0 0 := (hA 10 (by simp)).trans h10
    have e11 : A1 11 = .mp b1 0 := (hA 11 (by simp)).trans h11
    have lw : alen 1 w5 = some ((ownP p i).c.length : Int) := hW.c.lst.len
    by_cases hkk : k < (ownP p i).c.length
    · have n1 : (k : Int) < (ownP p i).c.length := by omega
      obtain ⟨x, hx⟩ : ∃ x, (ownP p i).c[k]? = some x := ⟨(ownP p i).c[k], List.getElem?_eq_getElem hkk⟩
      have hxm : x ∈ (ownP p i).c := List.mem_of_getElem? hx
      obtain ⟨c', rfl, hc'⟩ := hcl x hxm
      obtain ⟨q, hq, lq⟩ := hW.c.lst.get hx
      obtain ⟨q2, a, b, c, d, e, s, hq2, lq2, hs, hsR, _⟩ := hC.at hold1 hc'
      have l11 : aload H1 true 5 (.mp b1 0) = some (.agg [x1, x2, x3, x4, x5]) := by simp [hB1]
      have l10 : aload H1 false 1 (.mp b0 4) = some w5 := by simp [hB0]
      have hSn : ∀ m, (m = i ∨ ∃ c ∈ (ownP p i).c.take k, Rchd (ownP p) c.toNat m) → m < p.funs.length := fun m hm => by
        rcases hm with rfl | ⟨c0, h1, h2⟩
        · exact hi
        · obtain ⟨c1, rfl, h3⟩ := hcl c0 (List.mem_of_mem_take h1)
          exact hC.reach h3 (by simpa using h2)
      have lS := hC.le hS hSn
      have ls := hC.le hsR fun m hm => hC.reach hc' hm
      have up : ∀ {r : SumV}, r.le 12000 → r.le 500000000 := fun ⟨a, b, c, d, e⟩ => ⟨by omega, by omega, by omega, by omega, by omega⟩
      simp [a_bobbinlaw18_TouchAllb1, e7, e10, e11, e12, l10, l11, lw, n1, hq, lq, hq2, lq2, -alen, -aload]
      refine (p_Both hX.at hs (up lS) (up ls) N1).monoF ?_
      rintro r2 H2 N2 ⟨hN2, hk2, v1, v2, v3, v4, v5, rfl, hv⟩ hF2 _
      have u1 := hv.r.lst.cells
      have u2 := hv.w.lst.cells
      have u3 := hv.t.lst.cells
      have u4 := hv.g.lst.cells
      have u5 := hv.c.lst.cells
      have hb1lt := hF1.lt hB1
      have hb0lt := hF1.lt hB0
      have hB1' : H2 b1 = some (.blk [x1, x2, x3, x4, x5]) := (hk2 b1 hb1lt).trans hB1
      have hB0' : H2 b0 = some (.blk [w1, w2, w3, w4, w5]) := (hk2 b0 hb0lt).trans hB0
      have hwi : IntKind.i64.wrap ((k : Int) + 1) = ((k + 1 : Nat) : Int) := by
        have := hlc.2.2.2.2
        rw [wrap_i64 (by omega) (by omega)]; rfl
      simp [e11, e12, hB1', splice, u1, u2, u3, u4, u5, hwi, -AV.cells]
      have hne : ∀ j, j < N2 → j ≠ b1 → (H2.set b1 (.blk [v1, v2, v3, v4, v5])) j = H2 j := fun j _ hj => by simp only [AHeap.set]; rw [if_neg hj]
      refine ⟨(ownP p i).c.length - (k + 1), by omega, k + 1, bothS S s, v1, v2, v3, v4, v5, by omega, rfl, fun t ht => ?_, by simp, Fresh.rewr hF2 hB1', Nat.le_trans hN1 hN2, fun j hj => ?_, ?_, ?_, ?_, ?_, ?_⟩
      · simp only [List.mem_cons, List.not_mem_nil, or_false] at ht
        rcases ht with rfl | rfl | rfl | rfl | rfl | rfl | rfl <;> simp [hA, e11.symm]
      · simp only [AHeap.set]; rw [if_neg (by omega)]
        exact (hk2 j (by omega)).trans (hold1 j hj)
      · simp only [AHeap.set]; rw [if_neg hbb]; exact hB0'
      · simp only [AHeap.set, if_true]
      · exact (hW.keep hF1 hk2).keepX hF2 hB1' hX.rows hne
      · exact (hv.mono (by omega)).keepX hF2 hB1' hX.rows hne
      · refine (hS.both hsR).congr fun m => ?_
        rw [take_next hkk]
        have hxe : (ownP p i).c[k] = (c' : Int) := (List.getElem?_eq_some_iff.1 hx).2
        rw [hxe]
        simp only [List.mem_append, List.mem_singleton]
        constructor
        · rintro ((h | ⟨c0, h1, h2⟩) | h)
          · exact .inl h
          · exact .inr ⟨c0, .inl h1, h2⟩
          · exact .inr ⟨c', .inr rfl, by simpa using h⟩
        · rintro (h | ⟨c0, h1 | rfl, h2⟩)
          · exact .inl (.inl h)
          · exact .inl (.inr ⟨c0, h1, h2⟩)
          · exact .inr (by simpa using h2)
    · have hke : k = (ownP p i).c.length := by omega
      have n1 : ¬ ((k : Int) < (ownP p i).c.length) := by omega
      have l10 : aload H1 false 1 (.mp b0 4) = some w5 := by simp [hB0]
      simp [a_bobbinlaw18_TouchAllb1, e10, e12, l10, lw, n1, -alen, -aload]
      rw [hke, List.take_length] at hS
      refine hk _ _ _ _ _ _ _ _ _ (fun t ht => ?_) hF1 hN1 hold1 hB1 hX (hS.congr fun m => (rchd_split fun c hc => by obtain ⟨c', h, _⟩ := hcl c hc; exact ⟨c', h⟩).symm)
      simp only [List.mem_cons, List.not_mem_nil, or_false] at ht
      rcases ht with rfl | rfl | rfl | rfl | rfl | rfl <;> simp [hA]
end
end Go.Proofs.YtanpcmkhhpaeiaaGreatDoor

/- touch: the law TouchAll: each Fun. -/
namespace Go.Proofs.YtanpcmkhhpaeiaaGreatDoor
set_option linter.unusedSimpArgs false
set_option linter.unusedVariables false
open Go Go.Fw
section
variable {p : PrgV} {A : Nat → AV} {H : AHeap} {N : Nat} {fs : List Fr} {Q : Post}
theorem ownP_at {i : Nat} {f : FunV} (hf : p.funs[i]? = some f) : ownP p i = ownV f.code := by unfold ownP; rw [hf]

/-- What is known in the outer loop. -/
def TaO (p : PrgV) (A : Nat → AV) (v : AV) (H0 : AHeap) (N0 : Nat) (m : Nat) (s : St) : Prop :=
  ∃ i : Nat, i ≤ p.funs.length ∧ m = p.funs.length - i ∧ (∀ t ∈ [1, 2, 3, 7], s.A t = A t) ∧ s.A 9 = i64 i ∧ Fresh s.H s.N ∧ N0 ≤ s.N ∧ ∀ j, j < N0 → s.H j = H0 j
theorem ta_out {c : ACode} (hc : .loop a_bobbinlaw18_TouchAllb2 = c) {v : AV} {es : List (List AV)} {ar lo0 N0 : Nat} {H0 : AHeap} (hC : RowsC p H0 N0 lo0 ar es v) (hfew : ∀ f ∈ p.funs, FewF f)
    (h3 : A 3 = .ip p.cells 0) (h7 : A 7 = v) (h9 : A 9 = i64 0) (hF : Fresh H N) (hN : N0 ≤ N) (hold : ∀ j, j < N0 → H j = H0 j)
    (hk : ∀ A' H' N', (∀ t ∈ [1, 2, 3], A' t = A t) → Fresh H' N' → onward Tryz.prog fs Q .normal ⟨A', H', N'⟩) :
    run Tryz.prog c (.blk 0 :: fs) Q ⟨A, H, N⟩ := by
  subst hc
  obtain ⟨lp, elp⟩ : ∃ c, (.loop a_bobbinlaw18_TouchAllb1 : ACode) = c := ⟨_, rfl⟩
  have hlen : alen 1 (.sl p.fk 5 (funCells p.funs)) = some (p.funs.length : Int) := by simp [alen, funCells]
  refine run_loop (TaO p A v H0 N0) p.funs.length ?_ ?_
  · exact ⟨0, by omega, by omega, fun t _ => rfl, h9, hF, hN, hold⟩
  · rintro m A1 H1 N1 ⟨i, hi, rfl, hA, e9, hF1, hN1, hold1⟩
    simp only at hA e9 hF1 hN1 hold1
    have e3 : A1 3 = .ip p.cells 0 := (hA 3 (by simp)).trans h3
    have e7 : A1 7 = v := (hA 7 (by simp)).trans h7
    by_cases hil : i < p.funs.length
    · have n1 : (i : Int) < p.funs.length := by omega
      obtain ⟨f, hf⟩ : ∃ f, p.funs[i]? = some f := ⟨p.funs[i], List.getElem?_eq_getElem hil⟩
      have hff := hfew f (List.mem_of_getElem? hf)
      have hq : aindex 5 (.sl p.fk 5 (funCells p.funs)) (i64 (i : Nat)) = some (.ip f.cells 0) := aindex_sl (by have := hC.n20; omega) (by simp [funCells, hf])
      have hfc : f.cells = [str f.name, bl f.thread, i64 f.params, i64 f.regs, .sl f.k 6 (codeCells f.code)] := rfl
      rw [hfc] at hq
      have hwi : IntKind.i64.wrap ((i : Int) + 1) = ((i + 1 : Nat) : Int) := by have := hC.n20; rw [wrap_i64 (by omega) (by omega)]; rfl
      unfold a_bobbinlaw18_TouchAllb2
      rw [elp]
      simp [e3, e9, n1, hq]
      refine (p_Own (code := f.code) (.sl _) rfl rfl rfl rfl (by have := hff.1; omega) N1).monoF ?_
      rintro r2 H2 N2 ⟨hN2, hk2, w1, w2, w3, w4, w5, rfl, hw⟩ hF2 _
      rw [← ownP_at hf] at hw
      have u1 := hw.r.lst.cells
      have u2 := hw.w.lst.cells
      have u3 := hw.t.lst.cells
      have u4 := hw.g.lst.cells
      have u5 := hw.c.lst.cells
      simp [splice, u1, u2, u3, u4, u5, -AV.cells]
      have kX : ∀ j, j < N2 → ((H2.set N2 (.blk [w1, w2, w3, w4, w5])).set (N2 + 1) (.blk [w1, w2, w3, w4, w5])) j = H2 j := fun j hj => by simp only [AHeap.set]; rw [if_neg (by omega), if_neg (by omega)]
      have FX : Fresh ((H2.set N2 (.blk [w1, w2, w3, w4, w5])).set (N2 + 1) (.blk [w1, w2, w3, w4, w5])) (N2 + 1 + 1) := (hF2.set _).set _
      have X0 : ((H2.set N2 (.blk [w1, w2, w3, w4, w5])).set (N2 + 1) (.blk [w1, w2, w3, w4, w5])) N2 = some (.blk [w1, w2, w3, w4, w5]) := by simp only [AHeap.set]; rw [if_neg (by omega)]; simp
      have X1 : ((H2.set N2 (.blk [w1, w2, w3, w4, w5])).set (N2 + 1) (.blk [w1, w2, w3, w4, w5])) (N2 + 1) = some (.blk [w1, w2, w3, w4, w5]) := by simp [AHeap.set]
      have hwX := (hw.mono (lo' := N0) (by omega)).keep hF2 kX
      generalize (H2.set N2 (.blk [w1, w2, w3, w4, w5])).set (N2 + 1) (.blk [w1, w2, w3, w4, w5]) = X at kX FX X0 X1 hwX ⊢
      have holdX : ∀ j, j < N0 → X j = H0 j := fun j hj => (kX j (by omega)).trans ((hk2 j (by omega)).trans (hold1 j hj))
      refine ta_in elp (b0 := N2) (b1 := N2 + 1) (v := v) hC hil (by simp [e7]) (by simp) (by simp) (by simp) (by omega) (by omega) X0 X1 hwX FX holdX (by omega) fun A3 H3 N3 x1 x2 x3 x4 x5 S hA3 hF3 hN3 hold3 hB3 hX3 hS3 => ?_
      have f7 : A3 7 = v := (hA3 7 (by simp)).trans (by simp [e7])
      have f9 : A3 9 = i64 i := (hA3 9 (by simp)).trans (by simp [e9])
      have f11 : A3 11 = .mp (N2 + 1) 0 := (hA3 11 (by simp)).trans (by simp)
      have l11 : aload H3 true 5 (.mp (N2 + 1) 0) = some (.agg [x1, x2, x3, x4, x5]) := by simp [hB3]
      obtain ⟨q2, a, b, c, d, e, s, hq2, lq2, hs, hsR, hsf⟩ := hC.at hold3 hil
      have hSs : S = s := hS3.uniq hsR fun _ => Iff.rfl
      subst hSs
      have lS := hC.le hS3 fun m hm => hC.reach hil hm
      have lS9 : S.le 1000000000 := by obtain ⟨a, b, c, d, e⟩ := lS; exact ⟨by omega, by omega, by omega, by omega, by omega⟩
      simp [f7, f9, f11, l11, hq2, lq2, -aload]
      refine (p_given hX3.r.lst.cells hX3.w.lst.cells hX3.t.lst.cells hX3.g.lst.cells hX3.c.lst.cells H3 N3).monoF ?_
      rintro r4 H4 N4 ⟨rfl, hN4, hk4⟩ hF4 _
      simp
      refine ⟨keeps_of hF3 hk4, ?_⟩
      refine (p_given hsf.r.lst.cells hsf.w.lst.cells hsf.t.lst.cells hsf.g.lst.cells hsf.c.lst.cells H4 N4).monoF ?_
      rintro r5 H5 N5 ⟨rfl, hN5, hk5⟩ hF5 _
      simp
      refine ⟨keeps_of hF4 hk5, ?_⟩
      refine (p_Same ((hX3.at.keep hF3 hk4).keep hF4 hk5) ((hs.keep hF3 hk4).keep hF4 hk5) lS9 N5).mono ?_
      rintro r6 H6 N6 ⟨rfl, rfl, rfl⟩
      simp
      refine ⟨keeps_rfl, ?_⟩
      simp [f9, hwi]
      refine ⟨p.funs.length - (i + 1), by omega, i + 1, by omega, rfl, fun t ht => ?_, by simp, hF5, Nat.le_trans hN1 (by simp only; omega), fun j hj => (hk5 j (by omega)).trans ((hk4 j (by omega)).trans (hold3 j hj))⟩
      simp only [List.mem_cons, List.not_mem_nil, or_false] at ht
      rcases ht with rfl | rfl | rfl | rfl
      · simp [hA3 1 (by simp), hA 1 (by simp)]
      · simp [hA3 2 (by simp), hA 2 (by simp)]
      · simp [hA3 3 (by simp), hA 3 (by simp)]
      · simp [hA3 7 (by simp), hA 7 (by simp)]
    · have n1 : ¬ ((i : Int) < p.funs.length) := by omega
      unfold a_bobbinlaw18_TouchAllb2
      rw [elp]
      simp [e3, e9, n1]
      refine hk _ _ _ (fun t ht => ?_) hF1
      simp only [List.mem_cons, List.not_mem_nil, or_false] at ht
      rcases ht with rfl | rfl | rfl
      · simp [hA 1 (by simp)]
      · simp [hA 2 (by simp)]
      · simp [hA 3 (by simp)]
end
end Go.Proofs.YtanpcmkhhpaeiaaGreatDoor

/- touch: the law TouchAll: with an instruction more (the five alike parts printed by jh.py). -/
namespace Go.Proofs.YtanpcmkhhpaeiaaGreatDoor
set_option linter.unusedSimpArgs false
set_option linter.unusedVariables false
open Go Go.Fw
theorem joinL_sub {a b : List Int} (hb : b.Pairwise (· < ·)) (h : ∀ v, v ∈ a → v ∈ b) : joinL a b = b := eq_of_lt _ _ (joinL_lt _ _) hb fun v => by
  rw [joinL_mem]
  exact ⟨fun h1 => h1.elim (h v) id, .inr⟩
theorem own_more (x : Ins) (code : List Ins) : ∀ f, f < 5 → joinL ((ownV code).get f) ((ownV (x :: code)).get f) = (ownV (x :: code)).get f := fun f hf =>
  joinL_sub (ownV_lt _ _) fun v hv => by
    rw [ownV_mem hf] at hv ⊢
    obtain ⟨y, h1, h2⟩ := hv
    exact ⟨y, by simp [h1], h2⟩
section
variable {p : PrgV} {A : Nat → AV} {H : AHeap} {N lo : Nat} {fs : List Fr} {Q : Post} {S T : SumV}

theorem taw0 {o : List AOper} (ho : o_taw0 = o) (h14 : BoxR H lo S (A 14)) (h15 : BoxR H lo T (A 15)) (hF : Fresh H N) (lS : S.le 1000) (lT : T.le 1000) (hST : ∀ f, f < 5 → joinL (S.get f) (T.get f) = T.get f)
    (hk : ∀ A' H' N', Fresh H' N' → N ≤ N' → (∀ j, j < N → H' j = H j) → A' 14 = A 14 → A' 15 = A 15 → A' 130 = bl true → onward Tryz.prog fs Q .normal ⟨A', H', N'⟩) : runOps Tryz.prog o fs Q ⟨A, H, N⟩ := by
  subst ho
  obtain ⟨i, a, b, c, d, e, e14, hi, hat⟩ := h14.open
  obtain ⟨i', a', b', c', d', e', e15, hi', hat'⟩ := h15.open
  obtain ⟨m1, m2, m3, m4, m5⟩ := lS
  obtain ⟨n1, n2, n3, n4, n5⟩ := lT
  have hin' : joinL S.r T.r = T.r := hST 0 (by omega)
  unfold o_taw0
  simp [e14, e15, hi, hi']
  refine (p_within hat.r.lst hat'.r.lst (by omega) N).monoF ?_
  rintro r1 H1 N1 ⟨rfl, hN1, hk1⟩ hF1 _
  rw [hin']
  simp []
  exact hk _ _ _ hF1 hN1 hk1 (by simp [e14]) (by simp [e15]) (by simp)

theorem taw1 {o : List AOper} (ho : o_taw1 = o) (hin : A 130 = bl true) (h14 : BoxR H lo S (A 14)) (h15 : BoxR H lo T (A 15)) (hF : Fresh H N) (lS : S.le 1000) (lT : T.le 1000) (hST : ∀ f, f < 5 → joinL (S.get f) (T.get f) = T.get f)
    (hk : ∀ A' H' N', Fresh H' N' → N ≤ N' → (∀ j, j < N → H' j = H j) → A' 14 = A 14 → A' 15 = A 15 → A' 137 = bl true → onward Tryz.prog fs Q .normal ⟨A', H', N'⟩) : runOps Tryz.prog o fs Q ⟨A, H, N⟩ := by
  subst ho
  obtain ⟨i, a, b, c, d, e, e14, hi, hat⟩ := h14.open
  obtain ⟨i', a', b', c', d', e', e15, hi', hat'⟩ := h15.open
  obtain ⟨m1, m2, m3, m4, m5⟩ := lS
  obtain ⟨n1, n2, n3, n4, n5⟩ := lT
  have hin' : joinL S.w T.w = T.w := hST 1 (by omega)
  unfold o_taw1
  simp [hin, e14, e15, hi, hi']
  refine (p_within hat.w.lst hat'.w.lst (by omega) N).monoF ?_
  rintro r1 H1 N1 ⟨rfl, hN1, hk1⟩ hF1 _
  rw [hin']
  simp [hin, ]
  exact hk _ _ _ hF1 hN1 hk1 (by simp [e14]) (by simp [e15]) (by simp)

theorem taw2 {o : List AOper} (ho : o_taw2 = o) (hin : A 137 = bl true) (h14 : BoxR H lo S (A 14)) (h15 : BoxR H lo T (A 15)) (hF : Fresh H N) (lS : S.le 1000) (lT : T.le 1000) (hST : ∀ f, f < 5 → joinL (S.get f) (T.get f) = T.get f)
    (hk : ∀ A' H' N', Fresh H' N' → N ≤ N' → (∀ j, j < N → H' j = H j) → A' 14 = A 14 → A' 15 = A 15 → A' 144 = bl true → onward Tryz.prog fs Q .normal ⟨A', H', N'⟩) : runOps Tryz.prog o fs Q ⟨A, H, N⟩ := by
  subst ho
  obtain ⟨i, a, b, c, d, e, e14, hi, hat⟩ := h14.open
  obtain ⟨i', a', b', c', d', e', e15, hi', hat'⟩ := h15.open
  obtain ⟨m1, m2, m3, m4, m5⟩ := lS
  obtain ⟨n1, n2, n3, n4, n5⟩ := lT
  have hin' : joinL S.t T.t = T.t := hST 2 (by omega)
  unfold o_taw2
  simp [hin, e14, e15, hi, hi']
  refine (p_within hat.t.lst hat'.t.lst (by omega) N).monoF ?_
  rintro r1 H1 N1 ⟨rfl, hN1, hk1⟩ hF1 _
  rw [hin']
  simp [hin, ]
  exact hk _ _ _ hF1 hN1 hk1 (by simp [e14]) (by simp [e15]) (by simp)

theorem taw3 {o : List AOper} (ho : o_taw3 = o) (hin : A 144 = bl true) (h14 : BoxR H lo S (A 14)) (h15 : BoxR H lo T (A 15)) (hF : Fresh H N) (lS : S.le 1000) (lT : T.le 1000) (hST : ∀ f, f < 5 → joinL (S.get f) (T.get f) = T.get f)
    (hk : ∀ A' H' N', Fresh H' N' → N ≤ N' → (∀ j, j < N → H' j = H j) → A' 14 = A 14 → A' 15 = A 15 → A' 151 = bl true → onward Tryz.prog fs Q .normal ⟨A', H', N'⟩) : runOps Tryz.prog o fs Q ⟨A, H, N⟩ := by
  subst ho
  obtain ⟨i, a, b, c, d, e, e14, hi, hat⟩ := h14.open
  obtain ⟨i', a', b', c', d', e', e15, hi', hat'⟩ := h15.open
  obtain ⟨m1, m2, m3, m4, m5⟩ := lS
  obtain ⟨n1, n2, n3, n4, n5⟩ := lT
  have hin' : joinL S.g T.g = T.g := hST 3 (by omega)
  unfold o_taw3
  simp [hin, e14, e15, hi, hi']
  refine (p_within hat.g.lst hat'.g.lst (by omega) N).monoF ?_
  rintro r1 H1 N1 ⟨rfl, hN1, hk1⟩ hF1 _
  rw [hin']
  simp [hin, ]
  exact hk _ _ _ hF1 hN1 hk1 (by simp [e14]) (by simp [e15]) (by simp)

theorem taw4 {o : List AOper} (ho : o_taw4 = o) (hin : A 151 = bl true) (h14 : BoxR H lo S (A 14)) (h15 : BoxR H lo T (A 15)) (hF : Fresh H N) (lS : S.le 1000) (lT : T.le 1000) (hST : ∀ f, f < 5 → joinL (S.get f) (T.get f) = T.get f)
    (hk : ∀ A' H' N', Fresh H' N' → N ≤ N' → (∀ j, j < N → H' j = H j) → A' 6 = bl true → onward Tryz.prog fs Q .normal ⟨A', H', N'⟩) : runOps Tryz.prog o fs Q ⟨A, H, N⟩ := by
  subst ho
  obtain ⟨i, a, b, c, d, e, e14, hi, hat⟩ := h14.open
  obtain ⟨i', a', b', c', d', e', e15, hi', hat'⟩ := h15.open
  obtain ⟨m1, m2, m3, m4, m5⟩ := lS
  obtain ⟨n1, n2, n3, n4, n5⟩ := lT
  have hin' : joinL S.c T.c = T.c := hST 4 (by omega)
  unfold o_taw4
  simp [hin, e14, e15, hi, hi']
  refine (p_within hat.c.lst hat'.c.lst (by omega) N).monoF ?_
  rintro r1 H1 N1 ⟨rfl, hN1, hk1⟩ hF1 _
  rw [hin']
  simp [hin, ]
  exact hk _ _ _ hF1 hN1 hk1 (by simp)

theorem ta_w {c : ACode} (hc : a_ta_w = c) (h14 : BoxR H lo S (A 14)) (h15 : BoxR H lo T (A 15)) (hF : Fresh H N) (lS : S.le 1000) (lT : T.le 1000) (hST : ∀ f, f < 5 → joinL (S.get f) (T.get f) = T.get f)
    (hk : ∀ A' H' N', A' 6 = bl true → onward Tryz.prog fs Q .ret ⟨A', H', N'⟩) : run Tryz.prog c fs Q ⟨A, H, N⟩ := by
  subst hc
  obtain ⟨o0, q0⟩ : ∃ c, o_taw0 = c := ⟨_, rfl⟩
  obtain ⟨o1, q1⟩ : ∃ c, o_taw1 = c := ⟨_, rfl⟩
  obtain ⟨o2, q2⟩ : ∃ c, o_taw2 = c := ⟨_, rfl⟩
  obtain ⟨o3, q3⟩ : ∃ c, o_taw3 = c := ⟨_, rfl⟩
  obtain ⟨o4, q4⟩ : ∃ c, o_taw4 = c := ⟨_, rfl⟩
  unfold a_ta_w
  rw [q0, q1, q2, q3, q4]
  simp only [run_seq, run_ops, run_append]
  refine taw0 q0 h14 h15 hF lS lT hST fun A1 H1 N1 f1 n1 k1 a4 a5 a93 => ?_
  rw [onward_seq_n, run_ops, run_append]
  have g1 : BoxR H1 lo S (A1 14) := by rw [a4]; exact h14.keep hF k1
  have w1 : BoxR H1 lo T (A1 15) := by rw [a5]; exact h15.keep hF k1
  refine taw1 q1 a93 g1 w1 f1 lS lT hST fun A2 H2 N2 f2 n2 k2 b4 b5 b93 => ?_
  rw [onward_seq_n, run_ops, run_append]
  have g2 : BoxR H2 lo S (A2 14) := by rw [b4]; exact g1.keep f1 k2
  have w2 : BoxR H2 lo T (A2 15) := by rw [b5]; exact w1.keep f1 k2
  refine taw2 q2 b93 g2 w2 f2 lS lT hST fun A3 H3 N3 f3 n3 k3 c4 c5 c93 => ?_
  rw [onward_seq_n, run_ops, run_append]
  have g3 : BoxR H3 lo S (A3 14) := by rw [c4]; exact g2.keep f2 k3
  have w3 : BoxR H3 lo T (A3 15) := by rw [c5]; exact w2.keep f2 k3
  refine taw3 q3 c93 g3 w3 f3 lS lT hST fun A4 H4 N4 f4 n4 k4 d4 d5 d93 => ?_
  rw [onward_seq_n, run_ops]
  have g4 : BoxR H4 lo S (A4 14) := by rw [d4]; exact g3.keep f3 k4
  have w4 : BoxR H4 lo T (A4 15) := by rw [d5]; exact w3.keep f3 k4
  refine taw4 q4 d93 g4 w4 f4 lS lT hST fun A5 H5 N5 f5 n5 k5 e6 => ?_
  rw [onward_seq_n, run_ret]
  exact hk _ _ _ e6

/-- A call of Own, within a region. -/
theorem own_call {c0 c1 c2 c3 cv : AV} {code : List Ins} {u d : Nat} (hF : Fresh H N) (hu : A u = .agg [c0, c1, c2, c3, cv]) (hc : RdSl H 6 (codeCells code) cv) (hk0 : c0.cells = some [c0]) (hk1 : c1.cells = some [c1]) (hk2 : c2.cells = some [c2]) (hk3 : c3.cells = some [c3]) (hl : code.length ≤ 1000000) {Q : St → Prop}
    (hq : ∀ v H' N', N ≤ N' → Fresh H' N' → (∀ j, j < N → H' j = H j) → SumR H' N (ownV code) v → Q ⟨upA A d v, H', N'⟩) : runOps Tryz.prog [⟨some d, .kcall (.val (.fn (.func 19) [] [])) [.tmp u], none⟩] [] (fun _ => Q) ⟨A, H, N⟩ := by
  simp [hu]
  refine (p_Own hc hk0 hk1 hk2 hk3 hl N).monoF ?_
  rintro r H1 N1 ⟨h1, h2, w1, w2, w3, w4, w5, rfl, h3⟩ hF1 _
  simp
  exact ⟨keeps_of hF h2, hq _ _ _ h1 hF1 h2 ⟨_, _, _, _, _, rfl, h3⟩⟩
def taC1 (S : SumV) : MkS := ⟨5, 122, .kcall (.val (.fn (.func 19) [] [])) [.tmp 121], [], S⟩
def taC2 (S : SumV) : MkS := ⟨7, 124, .kcall (.val (.fn (.func 19) [] [])) [.tmp 123], [5], S⟩
theorem ta_d {c : ACode} (hc : a_ta_d = c) {i b id : Nat} {f : FunV} {x : Ins} (hf : p.funs[i]? = some f) (hfl : f.code.length ≤ 600) (hn : p.funs.length ≤ 20) (h1 : A 1 = i64 (i : Nat)) (h3 : A 3 = .ip p.cells 0) (h13 : A 13 = .mp b 0)
    (hb : H b = some (.blk [str f.name, bl f.thread, i64 f.params, i64 f.regs, .ms id 0 (f.code.length + 1) 6])) (hid : H id = some (.blk (codeCells (x :: f.code)).flatten)) (hF : Fresh H N)
    (hk : ∀ A' H' N', Fresh H' N' → BoxR H' N (ownV f.code) (A' 14) → BoxR H' N (ownV (x :: f.code)) (A' 15) → onward Tryz.prog fs Q .normal ⟨A', H', N'⟩) :
    run Tryz.prog c fs Q ⟨A, H, N⟩ := by
  subst hc
  have hil := (List.getElem?_eq_some_iff.1 hf).1
  have hq : aindex 5 (.sl p.fk 5 (funCells p.funs)) (i64 (i : Nat)) = some (.ip f.cells 0) := aindex_sl (by omega) (by simp [funCells, hf])
  have hfc : f.cells = [str f.name, bl f.thread, i64 f.params, i64 f.regs, .sl f.k 6 (codeCells f.code)] := rfl
  rw [hfc] at hq
  unfold a_ta_d
  simp [h1, h3, h13, hq, hb]
  refine draw_boxes (cs := [taC1 (ownV f.code), taC2 (ownV (x :: f.code))]) (bs := [⟨8, 14, true⟩, ⟨9, 15, true⟩]) ?_ ?_ ?_ hF ?_ ?_
  · constructor <;> simp [taC1, taC2]
  · intro e he
    simp only [List.mem_cons, List.not_mem_nil, or_false] at he
    rcases he with rfl | rfl | rfl | rfl
    · exact .inl ⟨_, .head _, rfl⟩
    · exact .inl ⟨_, .tail _ (.head _), rfl⟩
    · exact .inr ⟨_, .head _, rfl⟩
    · exact .inr ⟨_, .tail _ (.head _), rfl⟩
  · simp [MkS.ent, BxS.ent, nilC, taC1, taC2]
  · intro c hc L A1 H1 N1 Q1 haf hD hq
    have e121 := hD.tmps 121 (by simp [taC1, taC2]) (by simp)
    have e123 := hD.tmps 123 (by simp [taC1, taC2]) (by simp)
    simp at e121 e123
    simp only [List.mem_cons, List.not_mem_nil, or_false] at hc
    rcases hc with rfl | rfl
    · exact own_call hD.F e121 (.sl _) rfl rfl rfl rfl (by omega) fun v H' N' k1 k2 k3 k4 => hq v H' N' k1 k2 k3 (k4.mono hD.num)
    · have hid1 : H1 id = some (.blk (codeCells (x :: f.code)).flatten) := (hD.old id (hF.lt hid)).trans hid
      have hlen : (codeCells (x :: f.code)).flatten.length = (codeCells (x :: f.code)).length * 6 := flatten_len (codeCells_sz _)
      have hrd := RdSl.ms hid1 hlen
      have hcl : (codeCells (x :: f.code)).length = f.code.length + 1 := by simp [codeCells]
      rw [hcl] at hrd
      exact own_call hD.F e123 hrd rfl rfl rfl rfl (by simp; omega) fun v H' N' k1 k2 k3 k4 => hq v H' N' k1 k2 k3 (k4.mono hD.num)
  · intro A1 H1 N1 hD
    obtain ⟨i1, p1, p2, p3⟩ := hD.box _ (.head _) rfl
    obtain ⟨i2, r1, r2, r3⟩ := hD.box _ (.tail _ (.head _)) rfl
    have hne := hD.apart _ (.head _) _ (.tail _ (.head _)) (by simp) rfl rfl
    have hm1 := hD.made _ (.head _) rfl
    have hm2 := hD.made _ (.tail _ (.head _)) rfl
    simp only [taC1, taC2] at hm1 hm2
    simp only at p2 r2 hne
    obtain ⟨a1, b1, c1, d1, f1, s1, u1⟩ := hm1
    obtain ⟨a2, b2, c2, d2, f2, s2, u2⟩ := hm2
    have hi : i1 ≠ i2 := fun h => hne (by rw [p2, r2, h])
    obtain ⟨g1, g2, g3, g4⟩ := fill_two hD.F p3 r3 nilC_rows nilC_rows hi p1 r1 ⟨_, _, _, _, _, rfl, u1⟩ ⟨_, _, _, _, _, rfl, u2⟩
    have hk0 := hk A1 _ N1 g1 (by rw [p2]; exact g3) (by rw [r2]; exact g4)
    simp [p2, r2, s1, s2, p3, r3, nilC, splice, u1.r.lst.cells, u1.w.lst.cells, u1.t.lst.cells, u1.g.lst.cells, u1.c.lst.cells, u2.r.lst.cells, u2.w.lst.cells, u2.t.lst.cells, u2.g.lst.cells, u2.c.lst.cells, hi, hi.symm, -AV.cells]
    exact hk0

/-- A Fun with an instruction more. -/
theorem ta_fp {c1 c2 c3 : ACode} (hc1 : a_ta_f = c1) (hc2 : a_ta_p = c2) {i j : Nat} {f : FunV} {x : Ins} (hf : p.funs[i]? = some f) (hx : f.code[j]? = some x) (hfl : f.code.length ≤ 600) (hn : p.funs.length ≤ 20) (h1 : A 1 = i64 (i : Nat)) (h2 : A 2 = i64 (j : Nat)) (h3 : A 3 = .ip p.cells 0) (hF : Fresh H N)
    (hk : ∀ A' H' N', A' 1 = A 1 → A' 3 = A 3 → A' 13 = .mp N 0 → H' N = some (.blk [str f.name, bl f.thread, i64 f.params, i64 f.regs, .ms (N + 1) 0 (f.code.length + 1) 6]) → H' (N + 1) = some (.blk (codeCells (x :: f.code)).flatten) → Fresh H' N' → onward Tryz.prog (.seq c3 :: fs) Q .normal ⟨A', H', N'⟩) :
    run Tryz.prog c1 (.seq (.seq c2 c3) :: fs) Q ⟨A, H, N⟩ := by
  subst hc1
  have hil := (List.getElem?_eq_some_iff.1 hf).1
  have hjl := (List.getElem?_eq_some_iff.1 hx).1
  have hq : aindex 5 (.sl p.fk 5 (funCells p.funs)) (i64 (i : Nat)) = some (.ip f.cells 0) := aindex_sl (by omega) (by simp [funCells, hf])
  have hfc : f.cells = [str f.name, bl f.thread, i64 f.params, i64 f.regs, .sl f.k 6 (codeCells f.code)] := rfl
  rw [hfc] at hq
  have hq2 : aindex 6 (.sl f.k 6 (codeCells f.code)) (i64 (j : Nat)) = some (.ip x.cells 0) := aindex_sl (by omega) (by simp [codeCells, hx])
  have lx : ∀ X, aload X true 6 (.ip x.cells 0) = some (.agg x.cells) := fun _ => rfl
  have happ : ∀ X M, aappend false 6 64 X M (.sl .exact 6 [x.cells]) (.sl f.k 6 (codeCells f.code)) = some (.ms M 0 (f.code.length + 1) 6, X.set M (.blk (codeCells (x :: f.code)).flatten), M + 1) := fun X M => by
    have e1 : asrc X 6 (.sl f.k 6 (codeCells f.code)) = some ((codeCells f.code).flatten, (codeCells f.code).length) := by simp only [asrc]; rw [if_pos (.inl trivial)]
    have hcl : (codeCells f.code).length = f.code.length := by simp [codeCells]
    simp only [aappend, e1]
    rw [if_neg (by omega), if_pos ⟨.inl trivial, by unfold lim; simp only [List.length_singleton]; omega, by simp only [List.length_singleton]; omega⟩]
    rw [hcl]
    simp [codeCells, Nat.add_comm]
  simp only [Ins.cells] at happ
  unfold a_ta_f
  simp [h1, h3, hq, splice]
  subst hc2
  unfold a_ta_p
  simp [h2, hq2, lx, happ, splice, Ins.cells]
  refine hk _ _ _ (by simp) (by simp) (by simp) (by simp) ?_ ?_
  · simp
  · refine Fresh.rewr (o := .blk [str f.name, bl f.thread, i64 f.params, i64 f.regs, .sl f.k 6 (codeCells f.code)]) ((hF.set _).set _) ?_
    simp
/-- May the instruction be told? -/
theorem ta_g {c : ACode} (hc : a_ta_g = c) {m n : Int} (hn : p.funs.length ≤ 20) (hfew : ∀ f ∈ p.funs, FewF f) (h1 : A 1 = i64 m) (h2 : A 2 = i64 n) (h3 : A 3 = .ip p.cells 0)
    (hk1 : ∀ A', A' 6 = bl true → onward Tryz.prog fs Q .ret ⟨A', H, N⟩)
    (hk2 : ∀ A' (i j : Nat) (f : FunV) (x : Ins), m = i → n = j → p.funs[i]? = some f → f.code[j]? = some x → A' 1 = A 1 → A' 2 = A 2 → A' 3 = A 3 → onward Tryz.prog fs Q .normal ⟨A', H, N⟩) : run Tryz.prog c fs Q ⟨A, H, N⟩ := by
  subst hc
  by_cases hm : m < 0
  · simp [a_ta_g, h1, h2, h3, hm]
    exact hk1 _ (by simp)
  · by_cases hm2 : (p.funs.length : Int) ≤ m
    · have hlen : alen 1 (.sl p.fk 5 (funCells p.funs)) = some (p.funs.length : Int) := by simp [alen, funCells]
      simp [a_ta_g, h1, h2, h3, hm, hm2, hlen]
      exact hk1 _ (by simp)
    · by_cases hn0 : n < 0
      · simp [a_ta_g, h1, h2, h3, hm, hm2, hn0]
        exact hk1 _ (by simp)
      · obtain ⟨i, rfl⟩ : ∃ i : Nat, m = i := ⟨m.toNat, by omega⟩
        obtain ⟨j, rfl⟩ : ∃ j : Nat, n = j := ⟨n.toNat, by omega⟩
        have hil : i < p.funs.length := by omega
        obtain ⟨f, hf⟩ : ∃ f, p.funs[i]? = some f := ⟨p.funs[i], List.getElem?_eq_getElem hil⟩
        have hfl := (hfew f (List.mem_of_getElem? hf)).1
        have hq : aindex 5 (.sl p.fk 5 (funCells p.funs)) (i64 (i : Nat)) = some (.ip f.cells 0) := aindex_sl (by omega) (by simp [funCells, hf])
        have hfc : f.cells = [str f.name, bl f.thread, i64 f.params, i64 f.regs, .sl f.k 6 (codeCells f.code)] := rfl
        rw [hfc] at hq
        by_cases hj : (f.code.length : Int) ≤ j
        · simp [a_ta_g, h1, h2, h3, hm, hm2, hn0, hq, hj]
          exact hk1 _ (by simp)
        · have hjl : j < f.code.length := by omega
          simp [a_ta_g, h1, h2, h3, hm, hm2, hn0, hq, hj]
          exact hk2 _ i j f f.code[j] rfl rfl hf (List.getElem?_eq_getElem hjl) (by simp [h1]) (by simp [h2]) (by simp [h3])
end

theorem p_TouchAll {p : PrgV} (hp : p.Rch) (m n : Int) (H : AHeap) (N : Nat) : ACall Tryz.prog 6 [.agg p.cells, i64 m, i64 n] H N (fun r H' N' => r = bl true) := by
  obtain ⟨c2, e2⟩ : ∃ c, (.loop a_bobbinlaw18_TouchAllb2 : ACode) = c := ⟨_, rfl⟩
  obtain ⟨cg, eg⟩ : ∃ c, a_ta_g = c := ⟨_, rfl⟩
  obtain ⟨cf, ef⟩ : ∃ c, a_ta_f = c := ⟨_, rfl⟩
  obtain ⟨cp, ep⟩ : ∃ c, a_ta_p = c := ⟨_, rfl⟩
  obtain ⟨cd, ed⟩ : ∃ c, a_ta_d = c := ⟨_, rfl⟩
  obtain ⟨cw, ew⟩ : ∃ c, a_ta_w = c := ⟨_, rfl⟩
  have lp : ∀ X, aload X true 3 (.ip p.cells 0) = some (.agg p.cells) := fun X => rfl
  refine acallF mixed c_bobbinlaw18_TouchAll (by simp) fun hF => ?_
  unfold a_bobbinlaw18_TouchAll
  rw [e2, eg, ef, ep, ed, ew]
  simp [lp, aload_ip, -aload]
  have fin1 : ∀ A' H' N', A' 6 = bl true → onward Tryz.prog [] (fin [.tmp 6] fun r H' N' => r = bl true) .ret ⟨A', H', N'⟩ := fun A' H' N' h => by simp [h]
  refine (p_long hp H N).mono ?_
  rintro r1 H1 N1 ⟨rfl, rfl, b, rfl, hb⟩
  cases b with
  | true =>
    simp
    refine (p_awake H1 N1).mono ?_
    rintro r2 H2 N2 ⟨rfl, _⟩
    simp
  | false =>
    obtain ⟨hm, hl, hn20, hfew⟩ := hb rfl
    have hfit := few_fit hp hm hl hn20 hfew
    simp
    refine (p_awake H1 N1).monoF ?_
    rintro r2 H2 N2 ⟨rfl, hN2, hk2⟩ hF2 _
    simp [lp, aload_ip, -aload]
    refine (p_Of hfit (few_shr hn20 hfew) H2 N2).monoF ?_
    rintro r3 H3 N3 ⟨hN3, hk3, h3⟩ hF3 _
    rcases h3 with ⟨hb, rfl⟩ | ⟨hb, v, es, ar, rfl, hA, hel, hR⟩
    · simp [lp, aload_ip, -aload]
      refine (p_May hfit).acall ?_
      simp [hb]
    · simp [lp, aload_ip, -aload]
      refine (p_May hfit).acall ?_
      simp [hb]
      have hC : RowsC p H3 N3 N2 ar es v := ⟨hF3, hA, hel, hR, calls_in hb, fun k hk => by
        rw [ownP_at (List.getElem?_eq_getElem hk)]
        have h1 := ownV_le p.funs[k].code
        have h2 := (hfew p.funs[k] (List.getElem_mem hk)).1
        obtain ⟨a, b, c, d, e⟩ := h1
        exact ⟨by omega, by omega, by omega, by omega, by omega⟩, hn20⟩
      refine ta_out e2 hC hfew (by simp) (by simp) (by simp) hF3 (Nat.le_refl _) (fun _ _ => rfl) fun A4 H4 N4 hA4 hF4 => ?_
      have f1 : A4 1 = i64 m := (hA4 1 (by simp)).trans (by simp)
      have f2 : A4 2 = i64 n := (hA4 2 (by simp)).trans (by simp)
      have f3 : A4 3 = .ip p.cells 0 := (hA4 3 (by simp)).trans (by simp)
      simp
      refine ta_g eg hn20 hfew f1 f2 f3 (fun A5 h6 => by simp [h6]) fun A5 i j f x hmi hnj hf hx g1 g2 g3 => ?_
      have hff := (hfew f (List.mem_of_getElem? hf)).1
      simp
      refine ta_fp ef ep hf hx hff hn20 (by rw [g1, f1, hmi]) (by rw [g2, f2, hnj]) (g3.trans f3) hF4 fun A6 H6 N6 k1 k3 k13 hB hid hF6 => ?_
      simp
      refine ta_d ed (x := x) hf hff hn20 (by rw [k1, g1, f1, hmi]) (k3.trans (g3.trans f3)) k13 hB hid hF6 fun A7 H7 N7 hF7 h14 h15 => ?_
      simp
      have l1 : (ownV f.code).le 1000 := by obtain ⟨a, b, c, d, e⟩ := ownV_le f.code; exact ⟨by omega, by omega, by omega, by omega, by omega⟩
      have l2 : (ownV (x :: f.code)).le 1000 := by
        obtain ⟨a, b, c, d, e⟩ := ownV_le (x :: f.code)
        simp only [List.length_cons] at a b c d e
        exact ⟨by omega, by omega, by omega, by omega, by omega⟩
      exact ta_w ew h14 h15 hF7 l1 l2 (own_more x f.code) fin1
end Go.Proofs.YtanpcmkhhpaeiaaGreatDoor
