/- touch: sums that are made and laid into boxes, in whatever order. -/
import Derived.Test.YtanpcmkhhpaeiaaGreatDoorTG
namespace Go.Proofs.YtanpcmkhhpaeiaaGreatDoor
set_option linter.unusedSimpArgs false
set_option linter.unusedVariables false
open Go Go.Fw

/-- A sum that its owner may write. -/
def SumR (H : AHeap) (lo : Nat) (S : SumV) (v : AV) : Prop := ∃ a b c d e, v = .agg [a, b, c, d, e] ∧ FshAt H lo S a b c d e
theorem SumR.keep {H H' : AHeap} {N lo : Nat} {S : SumV} {v : AV} (h : SumR H lo S v) (hF : Fresh H N) (hk : ∀ j, j < N → H' j = H j) : SumR H' lo S v := by
  obtain ⟨a, b, c, d, e, rfl, h1⟩ := h
  exact ⟨a, b, c, d, e, rfl, h1.keep hF hk⟩
theorem SumR.mono {H : AHeap} {lo lo' : Nat} {S : SumV} {v : AV} (h : SumR H lo S v) (hl : lo' ≤ lo) : SumR H lo' S v := by
  obtain ⟨a, b, c, d, e, rfl, h1⟩ := h
  exact ⟨a, b, c, d, e, rfl, h1.mono hl⟩

/-- A block of rows: its first cell is no number. -/
def RowsB (cs : List AV) : Prop := ∃ a r, cs = a :: r ∧ ∀ k x, a ≠ .lit (.int k x)
theorem Fsh.besides {H : AHeap} {lo i : Nat} {l : List Int} {v : AV} {cs : List AV} {o : AObj} (h : Fsh H lo l v) (hi : H i = some (.blk cs)) (hb : RowsB cs) : Fsh (H.set i o) lo l v := by
  rcases h with h | ⟨h0, id, ds, hlo, rfl, h1, h2, h3⟩
  · exact .inl h
  · refine .inr ⟨h0, id, ds, hlo, rfl, ?_, h2, h3⟩
    simp only [AHeap.set]
    rw [if_neg ?_]
    · exact h1
    · rintro rfl
      rw [hi] at h1
      cases h1
      obtain ⟨a, r, rfl, hb⟩ := hb
      match l, h0, h3 with
      | x :: l, _, h3 =>
        simp at h3
        exact hb _ _ h3.1
theorem SumR.besides {H : AHeap} {lo i : Nat} {S : SumV} {v : AV} {cs : List AV} {o : AObj} (h : SumR H lo S v) (hi : H i = some (.blk cs)) (hb : RowsB cs) : SumR (H.set i o) lo S v := by
  obtain ⟨a, b, c, d, e, rfl, h1⟩ := h
  exact ⟨a, b, c, d, e, rfl, h1.r.besides hi hb, h1.w.besides hi hb, h1.t.besides hi hb, h1.g.besides hi hb, h1.c.besides hi hb⟩
theorem Fsh.noInt {H : AHeap} {lo : Nat} {l : List Int} {v : AV} (h : Fsh H lo l v) : ∀ k x, v ≠ .lit (.int k x) := by
  rcases h with ⟨_, rfl⟩ | ⟨_, _, _, _, rfl, _⟩ <;> intro k x h <;> cases h
theorem SumR.rows {H : AHeap} {lo : Nat} {S : SumV} {cs : List AV} (h : SumR H lo S (.agg cs)) : RowsB cs ∧ cs.length = 5 ∧ ∀ c ∈ cs, c.cells = some [c] := by
  obtain ⟨a, b, c, d, e, he, h1⟩ := h
  cases he
  refine ⟨⟨a, _, rfl, h1.r.noInt⟩, rfl, fun x hx => ?_⟩
  simp only [List.mem_cons, List.not_mem_nil, or_false] at hx
  rcases hx with rfl | rfl | rfl | rfl | rfl
  · exact h1.r.lst.cells
  · exact h1.w.lst.cells
  · exact h1.t.lst.cells
  · exact h1.g.lst.cells
  · exact h1.c.lst.cells

/-- A call that makes a sum. -/
structure MkS where
  k : Nat
  t : Nat
  op : AOp
  af : List Nat
  S : SumV
/-- A box for a sum. -/
structure BxS where
  i : Nat
  t : Nat
  ka : Bool
def nilC : List AV := [.sl .nil 0 [], .sl .nil 0 [], .sl .nil 0 [], .sl .nil 0 [], .sl .nil 0 []]
def MkS.ent (c : MkS) : Nat × AOper × List Nat := (c.k, ⟨some c.t, c.op, none⟩, c.af)
def BxS.ent (b : BxS) : Nat × AOper × List Nat := (b.i, ⟨some b.t, bif b.ka then .kalloc nilC else .alloc nilC, none⟩, [])

/-- What is known while the region is under way. -/
theorem Fresh.rewr {H : AHeap} {N i : Nat} {o o2 : AObj} (h : Fresh H N) (hi : H i = some o) : Fresh (H.set i o2) N := fun j hj => by
  simp only [AHeap.set]; rw [if_neg (by have := h.lt hi; omega)]; exact h j hj
structure DS (cs : List MkS) (bs : List BxS) (A0 : Nat → AV) (H0 : AHeap) (N0 : Nat) (L : Nat → Bool) (A : Nat → AV) (H : AHeap) (N : Nat) : Prop where
  F : Fresh H N
  num : N0 ≤ N
  old : ∀ j, j < N0 → H j = H0 j
  tmps : ∀ t, (∀ c ∈ cs, t ≠ c.t) → (∀ b ∈ bs, t ≠ b.t) → A t = A0 t
  made : ∀ c ∈ cs, L c.k = true → SumR H N0 c.S (A c.t)
  box : ∀ b ∈ bs, L b.i = true → ∃ i, N0 ≤ i ∧ A b.t = .mp i 0 ∧ H i = some (.blk nilC)
  apart : ∀ b ∈ bs, ∀ b' ∈ bs, b.t ≠ b'.t → L b.i = true → L b'.i = true → A b.t ≠ A b'.t

/-- The temporaries and the numbers of the operations are all unlike. -/
structure Odd (cs : List MkS) (bs : List BxS) : Prop where
  ct : ∀ c ∈ cs, ∀ c' ∈ cs, c.t = c'.t → c = c'
  bt : ∀ b ∈ bs, ∀ b' ∈ bs, b.t = b'.t → b = b'
  cb : ∀ c ∈ cs, ∀ b ∈ bs, c.t ≠ b.t
  ck : ∀ c ∈ cs, ∀ c' ∈ cs, c.k = c'.k → c = c'
  bi : ∀ b ∈ bs, ∀ b' ∈ bs, b.i = b'.i → b = b'
  ci : ∀ c ∈ cs, ∀ b ∈ bs, c.k ≠ b.i

theorem draw_boxes {cs : List MkS} {bs : List BxS} (ho : Odd cs bs) {l : List (Nat × AOper × List Nat)} (hl : ∀ x ∈ l, (∃ c ∈ cs, x = c.ent) ∨ ∃ b ∈ bs, x = b.ent)
    (hl2 : (∀ c ∈ cs, c.ent ∈ l) ∧ ∀ b ∈ bs, b.ent ∈ l)
    {A0 : Nat → AV} {H0 : AHeap} {N0 : Nat} (hF0 : Fresh H0 N0)
    (hcall : ∀ c ∈ cs, ∀ (L : Nat → Bool) (A : Nat → AV) (H : AHeap) (N : Nat) (Q : St → Prop), (∀ j ∈ c.af, L j = true) → DS cs bs A0 H0 N0 L A H N →
      (∀ v H' N', N ≤ N' → Fresh H' N' → (∀ j, j < N → H' j = H j) → SumR H' N0 c.S v → Q ⟨upA A c.t v, H', N'⟩) → runOps Tryz.prog [⟨some c.t, c.op, none⟩] [] (fun _ => Q) ⟨A, H, N⟩)
    {fs : List Fr} {Q : Post}
    (hk : ∀ A H N, DS cs bs A0 H0 N0 (fun _ => true) A H N → onward Tryz.prog fs Q .normal ⟨A, H, N⟩) :
    run Tryz.prog (.draw l) fs Q ⟨A0, H0, N0⟩ := by
  refine run_draw (fun L s => DS cs bs A0 H0 N0 L s.A s.H s.N) ?_ ?_ ?_
  · exact ⟨hF0, Nat.le_refl _, fun _ _ => rfl, fun _ _ _ => rfl, (fun c _ h => by cases h), (fun b _ h => by cases h), (fun b _ b' _ _ h => by cases h)⟩
  · intro x hx L A H N hat hI
    replace hI : DS cs bs A0 H0 N0 L A H N := hI
    obtain ⟨h1, h2, hcl⟩ := hat
    rcases hl x hx with ⟨c, hc, rfl⟩ | ⟨b, hb, rfl⟩
    · refine hcall c hc L A H N _ h2 hI fun v H' N' hN hF hk' hv => ?_
      have hne : ∀ b ∈ bs, (b.i == c.k) = false := fun b hb => by simpa using fun h => ho.ci c hc b hb h.symm
      have hbt : ∀ b ∈ bs, upA A c.t v b.t = A b.t := fun b hb => by rw [upA_at, if_neg (fun h => ho.cb c hc b hb h.symm)]
      refine ⟨hF, Nat.le_trans hI.num hN, fun j hj => (hk' j (Nat.lt_of_lt_of_le hj hI.num)).trans (hI.old j hj), fun t h3 h4 => ?_, fun c' hc' hL => ?_, fun b hb hL => ?_, fun b hb b' hb' hbb hL hL' => ?_⟩
      · simp only [upA_at]; rw [if_neg (h3 c hc)]; exact hI.tmps t h3 h4
      · by_cases he : c'.t = c.t
        · have := ho.ct c' hc' c hc he
          subst this
          simp only [upA_at, if_true]
          exact hv
        · simp only [upA_at]; rw [if_neg he]
          have hk1 : (c'.k == c.k) = false := by simpa using fun h => he (by rw [ho.ck c' hc' c hc h])
          simp only [MkS.ent, hk1, Bool.or_false] at hL
          exact (hI.made c' hc' hL).keep hI.F hk'
      · simp only [MkS.ent, hne b hb, Bool.or_false] at hL
        obtain ⟨i, q1, q2, q3⟩ := hI.box b hb hL
        exact ⟨i, q1, (hbt b hb).trans q2, (hk' i (hI.F.lt q3)).trans q3⟩
      · simp only [MkS.ent, hne b hb, hne b' hb', Bool.or_false] at hL hL'
        show upA A c.t v b.t ≠ upA A c.t v b'.t
        rw [hbt b hb, hbt b' hb']
        exact hI.apart b hb b' hb' hbb hL hL'
    · simp only [BxS.ent] at h1 h2 ⊢
      have hnone : H N = none := hI.F N (Nat.le_refl _)
      have step : ∀ Q : St → Prop, Q ⟨upA A b.t (.mp N 0), H.set N (.blk nilC), N + 1⟩ → runOps Tryz.prog [⟨some b.t, bif b.ka then .kalloc nilC else .alloc nilC, none⟩] [] (fun _ => Q) ⟨A, H, N⟩ := fun Q hQ => by
        cases b.ka <;> simp [hnone] <;> exact hQ
      refine step _ ?_
      have hct : ∀ c ∈ cs, c.t ≠ b.t := fun c hc => ho.cb c hc b hb
      refine ⟨hI.F.set _, Nat.le_succ_of_le hI.num, fun j hj => ?_, fun t h3 h4 => ?_, fun c hc hL => ?_, fun b' hb' hL => ?_, fun b1 hb1 b2 hb2 hbb hL hL' => ?_⟩
      · simp only [AHeap.set]; rw [if_neg (by have := hI.num; omega)]; exact hI.old j hj
      · simp only [upA_at]; rw [if_neg (h4 b hb)]; exact hI.tmps t h3 h4
      · simp only [upA_at]; rw [if_neg (hct c hc)]
        have hk1 : (c.k == b.i) = false := by simpa using ho.ci c hc b hb
        simp only [hk1, Bool.or_false] at hL
        exact (hI.made c hc hL).keep hI.F fun j hj => by simp only [AHeap.set]; rw [if_neg (by omega)]
      · by_cases he : b'.t = b.t
        · have := ho.bt b' hb' b hb he
          subst this
          exact ⟨N, hI.num, by simp only [upA_at, if_true], by simp [AHeap.set]⟩
        · have hk1 : (b'.i == b.i) = false := by simpa using fun h => he (by rw [ho.bi b' hb' b hb h])
          simp only [hk1, Bool.or_false] at hL
          obtain ⟨i, q1, q2, q3⟩ := hI.box b' hb' hL
          refine ⟨i, q1, by simp only [upA_at]; rw [if_neg he]; exact q2, ?_⟩
          simp only [AHeap.set]; rw [if_neg (by have := hI.F.lt q3; omega)]; exact q3
      · have fresh : ∀ b' ∈ bs, b'.t ≠ b.t → (L b'.i || b'.i == b.i) = true → A b'.t ≠ .mp N 0 := fun b' hb' hne hL => by
          have hk1 : (b'.i == b.i) = false := by simpa using fun h => hne (by rw [ho.bi b' hb' b hb h])
          simp only [hk1, Bool.or_false] at hL
          obtain ⟨i, q1, q2, q3⟩ := hI.box b' hb' hL
          rw [q2]
          intro h
          cases h
          exact absurd (hI.F.lt q3) (Nat.lt_irrefl _)
        show upA A b.t (.mp N 0) b1.t ≠ upA A b.t (.mp N 0) b2.t
        simp only [upA_at]
        by_cases e1 : b1.t = b.t
        · rw [if_pos e1, if_neg (by rw [← e1]; exact fun h => hbb h.symm)]
          exact fun h => fresh b2 hb2 (by rw [← e1]; exact fun h => hbb h.symm) hL' h.symm
        · by_cases e2 : b2.t = b.t
          · rw [if_neg e1, if_pos e2]; exact fresh b1 hb1 e1 hL
          · rw [if_neg e1, if_neg e2]
            have k1 : (b1.i == b.i) = false := by simpa using fun h => e1 (by rw [ho.bi b1 hb1 b hb h])
            have k2 : (b2.i == b.i) = false := by simpa using fun h => e2 (by rw [ho.bi b2 hb2 b hb h])
            simp only [k1, k2, Bool.or_false] at hL hL'
            exact hI.apart b1 hb1 b2 hb2 hbb hL hL'
  · intro L A H N hall hI
    replace hI : DS cs bs A0 H0 N0 L A H N := hI
    refine hk A H N ⟨hI.F, hI.num, hI.old, hI.tmps, fun c hc _ => hI.made c hc (hall _ (hl2.1 c hc)), fun b hb _ => hI.box b hb (hall _ (hl2.2 b hb)), fun b hb b' hb' h _ _ => hI.apart b hb b' hb' h (hall _ (hl2.2 b hb)) (hall _ (hl2.2 b' hb'))⟩

/-- A box that holds a sum. -/
def BoxR (H : AHeap) (lo : Nat) (S : SumV) (p : AV) : Prop := ∃ i cs, lo ≤ i ∧ p = .mp i 0 ∧ H i = some (.blk cs) ∧ SumR H lo S (.agg cs)
theorem BoxR.keep {H H' : AHeap} {N lo : Nat} {S : SumV} {p : AV} (h : BoxR H lo S p) (hF : Fresh H N) (hk : ∀ j, j < N → H' j = H j) : BoxR H' lo S p := by
  obtain ⟨i, cs, h1, h2, h3, h4⟩ := h
  exact ⟨i, cs, h1, h2, (hk i (hF.lt h3)).trans h3, h4.keep hF hk⟩
theorem BoxR.mono {H : AHeap} {lo lo' : Nat} {S : SumV} {p : AV} (h : BoxR H lo S p) (hl : lo' ≤ lo) : BoxR H lo' S p := by
  obtain ⟨i, cs, h1, h2, h3, h4⟩ := h
  exact ⟨i, cs, by omega, h2, h3, h4.mono hl⟩

/-- Two boxes filled. -/
theorem fill_two {H : AHeap} {N lo i1 i2 : Nat} {S1 S2 : SumV} {d1 d2 es1 es2 : List AV} (hF : Fresh H N) (h1 : H i1 = some (.blk d1)) (h2 : H i2 = some (.blk d2)) (hd1 : RowsB d1) (hd2 : RowsB d2) (hne : i1 ≠ i2) (hl1 : lo ≤ i1) (hl2 : lo ≤ i2)
    (hs1 : SumR H lo S1 (.agg es1)) (hs2 : SumR H lo S2 (.agg es2)) :
    Fresh ((H.set i1 (.blk es1)).set i2 (.blk es2)) N ∧ (∀ j, j < lo → ((H.set i1 (.blk es1)).set i2 (.blk es2)) j = H j) ∧ BoxR ((H.set i1 (.blk es1)).set i2 (.blk es2)) lo S1 (.mp i1 0) ∧ BoxR ((H.set i1 (.blk es1)).set i2 (.blk es2)) lo S2 (.mp i2 0) := by
  have h2' : (H.set i1 (.blk es1)) i2 = some (.blk d2) := by simp only [AHeap.set]; rw [if_neg fun h => hne h.symm]; exact h2
  refine ⟨Fresh.rewr (Fresh.rewr hF h1) h2', fun j hj => ?_, ⟨i1, es1, hl1, rfl, ?_, (hs1.besides h1 hd1).besides h2' hd2⟩, ⟨i2, es2, hl2, rfl, by simp [AHeap.set], (hs2.besides h1 hd1).besides h2' hd2⟩⟩
  · simp only [AHeap.set]; rw [if_neg (by omega), if_neg (by omega)]
  · simp only [AHeap.set]; rw [if_neg hne]; simp
theorem Fsh.keepX {H H' : AHeap} {N lo b : Nat} {l : List Int} {v : AV} {cs : List AV} (h : Fsh H lo l v) (hF : Fresh H N) (hb : H b = some (.blk cs)) (hr : RowsB cs) (hk : ∀ j, j < N → j ≠ b → H' j = H j) : Fsh H' lo l v := by
  rcases h with h | ⟨h0, id, ds, hlo, rfl, h1, h2, h3⟩
  · exact .inl h
  · refine .inr ⟨h0, id, ds, hlo, rfl, (hk id (hF.lt h1) ?_).trans h1, h2, h3⟩
    rintro rfl
    rw [hb] at h1
    cases h1
    obtain ⟨a, r, rfl, hr⟩ := hr
    match l, h0, h3 with
    | x :: l, _, h3 =>
      simp at h3
      exact hr _ _ h3.1
theorem FshAt.keepX {H H' : AHeap} {N lo b' : Nat} {s : SumV} {a b c d e : AV} {cs : List AV} (h : FshAt H lo s a b c d e) (hF : Fresh H N) (hb : H b' = some (.blk cs)) (hr : RowsB cs) (hk : ∀ j, j < N → j ≠ b' → H' j = H j) : FshAt H' lo s a b c d e :=
  ⟨h.r.keepX hF hb hr hk, h.w.keepX hF hb hr hk, h.t.keepX hF hb hr hk, h.g.keepX hF hb hr hk, h.c.keepX hF hb hr hk⟩
theorem FshAt.rows {H : AHeap} {lo : Nat} {s : SumV} {a b c d e : AV} (h : FshAt H lo s a b c d e) : RowsB [a, b, c, d, e] := ⟨a, _, rfl, h.r.noInt⟩
theorem nilC_rows : RowsB nilC := ⟨_, _, rfl, fun k x h => by cases h⟩
end Go.Proofs.YtanpcmkhhpaeiaaGreatDoor
