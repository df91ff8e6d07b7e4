/- touch: sums that are made and laid into boxes, in whatever order. -/
import Derived.Test.YtanpcmkhhpaeiaaGreatDoorTG
namespace Go.Proofs.YtanpcmkhhpaeiaaGreatDoor
set_option linter.unusedSimpArgs false
set_option linter.unusedVariables false
open Go Go.Fw

/-- A sum that its owner may write. -/
def SumR (H : AHeap) (lo : Nat) (S : SumV) (v : AV) : Prop := ∃ a b c d e, v = .agg [a, b, c, d, e] ∧ FshAt H lo S a b c d e
theorem SumR.keep {H H' : AHeap} {N lo : Nat} {S : SumV} {v : AV} (h : SumR H lo S v) (hF : Fresh H N) (hk : ∀ j, j < N → H' j = H j) : SumR H' lo S v := by
  obtain ⟨a, b, c, d, e, rfl, h1⟩ := h
  exact ⟨a, b, c, d, e, rfl, h1.keep hF hk⟩
theorem SumR.mono {H : AHeap} {lo lo' : Nat} {S : SumV} {v : AV} (h : SumR H lo S v) (hl : lo' ≤ lo) : SumR H lo' S v := by
  obtain ⟨a, b, c, d, e, rfl, h1⟩ := h
  exact ⟨a, b, c, d, e, rfl, h1.mono hl⟩

/-- A block of rows: its first cell is no number. -/
def RowsB (cs : List AV) : Prop := ∃ a r, cs = a :: r ∧ ∀ k x, a ≠ .lit (.int k x)
theorem Fsh.besides {H : AHeap} {lo i : Nat} {l : List Int} {v : AV} {cs : List AV} {o : AObj} (h : Fsh H lo l v) (hi : H i = some (.blk cs)) (hb : RowsB cs) : Fsh (H.set i o) lo l v := by
  rcases h with h | ⟨h0, id, ds, hlo, rfl, h1, h2, h3⟩
  · exact .inl h
  · refine .inr ⟨h0, id, ds, hlo, rfl, ?_, h2, h3⟩
    simp only [AHeap.set]
    rw [if_neg ?_]
    · exact h1
    · rintro rfl
      rw [hi] at h1
      cases h1
      obtain ⟨a, r, rfl, hb⟩ := hb
      match l, h0, h3 with
      | x :: l, _, h3 =>
        simp at h3
        exact hb _ _ h3.1
theorem SumR.besides {H : AHeap} {lo i : Nat} {S : SumV} {v : AV} {cs : List AV} {o : AObj} (h : SumR H lo S v) (hi : H i = some (.blk cs)) (hb : RowsB cs) : SumR (H.set i o) lo S v := by
  obtain ⟨a, b, c, d, e, rfl, h1⟩ := h
  exact ⟨a, b, c, d, e, rfl, h1.r.besides hi hb, h1.w.besides hi hb, h1.t.besides hi hb, h1.g.besides hi hb, h1.c.besides hi hb⟩
theorem Fsh.noInt {H : AHeap} {lo : Nat} {l : List Int} {v : AV} (h : Fsh H lo l v) : ∀ k x, v ≠ .lit (.int k x) := by
  rcases h with ⟨_, rfl⟩ | ⟨_, _, _, _, rfl, _⟩ <;> intro k x h <;> cases h
theorem SumR.rows {H : AHeap} {lo : Nat} {S : SumV} {cs : List AV} (h : SumR H lo S (.agg cs)) : RowsB cs ∧ cs.length = 5 ∧ ∀ c ∈ cs, c.cells = some [c] := by
  obtain ⟨a, b, c, d, e, he, h1⟩ := h
  cases he
  refine ⟨⟨a, _, rfl, h1.r.noInt⟩, rfl, fun x hx => ?_⟩
  simp only [List.mem_cons, List.not_mem_nil, or_false] at hx
  rcases hx with rfl | rfl | rfl | rfl | rfl
  · exact h1.r.lst.cells
  · exact h1.w.lst.cells
  · exact h1.t.lst.cells
  · exact h1.g.lst.cells
  · exact h1.c.lst.cells

/-- A call that makes a sum. -/
structure MkS where
  k : Nat
  t : Nat
  op : AOp
  af : List Nat
  S : SumV
/-- A box for a sum: where it is made, where it is filled, with what. -/
structure BxS where
  i : Nat
  w : Nat
  t : Nat
  src : MkS
  af : List Nat
  ka : Bool
def nilC : List AV := [.sl .nil 0 [], .sl .nil 0 [], .sl .nil 0 [], .sl .nil 0 [], .sl .nil 0 []]
def MkS.ent (c : MkS) : Nat × AOper × List Nat := (c.k, ⟨some c.t, c.op, none⟩, c.af)
def BxS.ent (b : BxS) : Nat × AOper × List Nat := (b.i, ⟨some b.t, bif b.ka then .kalloc nilC else .alloc nilC, none⟩, [])
def BxS.fill (b : BxS) : Nat × AOper × List Nat := (b.w, ⟨none, .store 5 (.tmp b.t) (.tmp b.src.t), none⟩, b.af)

/-- What is known while the region is under way. -/
theorem Fresh.rewr {H : AHeap} {N i : Nat} {o o2 : AObj} (h : Fresh H N) (hi : H i = some o) : Fresh (H.set i o2) N := fun j hj => by
  simp only [AHeap.set]; rw [if_neg (by have := h.lt hi; omega)]; exact h j hj
structure DS (cs : List MkS) (bs : List BxS) (A0 : Nat → AV) (H0 : AHeap) (N0 : Nat) (L : Nat → Bool) (A : Nat → AV) (H : AHeap) (N : Nat) : Prop where
  F : Fresh H N
  num : N0 ≤ N
  old : ∀ j, j < N0 → H j = H0 j
  tmps : ∀ t, (∀ c ∈ cs, t ≠ c.t) → (∀ b ∈ bs, t ≠ b.t) → A t = A0 t
  made : ∀ c ∈ cs, L c.k = true → SumR H N0 c.S (A c.t)
  box : ∀ b ∈ bs, L b.i = true → ∃ i cs, N0 ≤ i ∧ A b.t = .mp i 0 ∧ H i = some (.blk cs) ∧ RowsB cs ∧ cs.length = 5 ∧ (L b.w = true → A b.src.t = .agg cs)
  apart : ∀ b ∈ bs, ∀ b' ∈ bs, b.t ≠ b'.t → L b.i = true → L b'.i = true → A b.t ≠ A b'.t

/-- The temporaries and the numbers of the operations are all unlike. -/
structure Odd (cs : List MkS) (bs : List BxS) : Prop where
  ct : ∀ c ∈ cs, ∀ c' ∈ cs, c.t = c'.t → c = c'
  bt : ∀ b ∈ bs, ∀ b' ∈ bs, b.t = b'.t → b = b'
  cb : ∀ c ∈ cs, ∀ b ∈ bs, c.t ≠ b.t
  ck : ∀ c ∈ cs, ∀ c' ∈ cs, c.k = c'.k → c = c'
  bi : ∀ b ∈ bs, ∀ b' ∈ bs, b.i = b'.i → b = b'
  bw : ∀ b ∈ bs, ∀ b' ∈ bs, b.w = b'.w → b = b'
  ci : ∀ c ∈ cs, ∀ b ∈ bs, c.k ≠ b.i ∧ c.k ≠ b.w
  iw : ∀ b ∈ bs, ∀ b' ∈ bs, b.i ≠ b'.w
  src : ∀ b ∈ bs, b.src ∈ cs
  wi : ∀ b ∈ bs, b.i ∈ b.af ∧ b.src.k ∈ b.af

theorem draw_boxes {cs : List MkS} {bs : List BxS} (ho : Odd cs bs) {l : List (Nat × AOper × List Nat)} (hl : ∀ x ∈ l, (∃ c ∈ cs, x = c.ent) ∨ (∃ b ∈ bs, x = b.ent) ∨ ∃ b ∈ bs, x = b.fill)
    (hl2 : (∀ c ∈ cs, c.ent ∈ l) ∧ (∀ b ∈ bs, b.ent ∈ l) ∧ ∀ b ∈ bs, b.fill ∈ l)
    {A0 : Nat → AV} {H0 : AHeap} {N0 : Nat} (hF0 : Fresh H0 N0)
    (hcall : ∀ c ∈ cs, ∀ (L : Nat → Bool) (A : Nat → AV) (H : AHeap) (N : Nat) (Q : St → Prop), (∀ j ∈ c.af, L j = true) → DS cs bs A0 H0 N0 L A H N →
      (∀ v H' N', N ≤ N' → Fresh H' N' → (∀ j, j < N → H' j = H j) → SumR H' N0 c.S v → Q ⟨upA A c.t v, H', N'⟩) → runOps Tryz.prog [⟨some c.t, c.op, none⟩] [] (fun _ => Q) ⟨A, H, N⟩)
    {fs : List Fr} {Q : Post}
    (hk : ∀ A H N, Fresh H N → N0 ≤ N → (∀ j, j < N0 → H j = H0 j) → (∀ t, (∀ c ∈ cs, t ≠ c.t) → (∀ b ∈ bs, t ≠ b.t) → A t = A0 t) →
      (∀ b ∈ bs, ∃ i cs, N0 ≤ i ∧ A b.t = .mp i 0 ∧ H i = some (.blk cs) ∧ SumR H N0 b.src.S (.agg cs)) → onward Tryz.prog fs Q .normal ⟨A, H, N⟩) :
    run Tryz.prog (.draw l) fs Q ⟨A0, H0, N0⟩ := by
  refine run_draw (fun L s => DS cs bs A0 H0 N0 L s.A s.H s.N) ?_ ?_ ?_
  · exact ⟨hF0, Nat.le_refl _, fun _ _ => rfl, fun _ _ _ => rfl, (fun c _ h => by cases h), (fun b _ h => by cases h), (fun b _ b' _ _ h => by cases h)⟩
  · intro x hx L A H N hat hI
    replace hI : DS cs bs A0 H0 N0 L A H N := hI
    obtain ⟨h1, h2, hcl⟩ := hat
    rcases hl x hx with ⟨c, hc, rfl⟩ | ⟨b, hb, rfl⟩ | ⟨b, hb, rfl⟩
    · refine hcall c hc L A H N _ h2 hI fun v H' N' hN hF hk' hv => ?_
      have hne : ∀ b ∈ bs, (b.i == c.k) = false ∧ (b.w == c.k) = false := fun b hb => ⟨by simpa using fun h => (ho.ci c hc b hb).1 h.symm, by simpa using fun h => (ho.ci c hc b hb).2 h.symm⟩
      have hbt : ∀ b ∈ bs, upA A c.t v b.t = A b.t := fun b hb => by rw [upA_at, if_neg (fun h => ho.cb c hc b hb h.symm)]
      refine ⟨hF, Nat.le_trans hI.num hN, fun j hj => (hk' j (Nat.lt_of_lt_of_le hj hI.num)).trans (hI.old j hj), fun t h3 h4 => ?_, fun c' hc' hL => ?_, fun b hb hL => ?_, fun b hb b' hb' hbb hL hL' => ?_⟩
      · simp only [upA_at]; rw [if_neg (h3 c hc)]; exact hI.tmps t h3 h4
      · by_cases he : c'.t = c.t
        · have := ho.ct c' hc' c hc he
          subst this
          simp only [upA_at, if_true]
          exact hv
        · simp only [upA_at]; rw [if_neg he]
          have hk1 : (c'.k == c.k) = false := by simpa using fun h => he (by rw [ho.ck c' hc' c hc h])
          simp only [MkS.ent, hk1, Bool.or_false] at hL
          exact (hI.made c' hc' hL).keep hI.F hk'
      · simp only [MkS.ent, (hne b hb).1, (hne b hb).2, Bool.or_false] at hL ⊢
        obtain ⟨i, ds, q1, q2, q3, q4, q5, q6⟩ := hI.box b hb hL
        refine ⟨i, ds, q1, (hbt b hb).trans q2, (hk' i (hI.F.lt q3)).trans q3, q4, q5, fun hw => ?_⟩
        have hne2 : b.src.t ≠ c.t := fun h => by
          have h5 := ho.ct b.src (ho.src b hb) c hc h
          have h6 := hcl b.fill (hl2.2.2 b hb) hw b.src.k (ho.wi b hb).2
          rw [h5] at h6
          simp only [MkS.ent] at h1
          rw [h6] at h1
          cases h1
        simp only [upA_at]; rw [if_neg hne2]
        exact q6 hw
      · simp only [MkS.ent, (hne b hb).1, (hne b' hb').1, Bool.or_false] at hL hL'
        show upA A c.t v b.t ≠ upA A c.t v b'.t
        rw [hbt b hb, hbt b' hb']
        exact hI.apart b hb b' hb' hbb hL hL'
    · simp only [BxS.ent] at h1 h2 ⊢
      have hnone : H N = none := hI.F N (Nat.le_refl _)
      have step : ∀ Q : St → Prop, Q ⟨upA A b.t (.mp N 0), H.set N (.blk nilC), N + 1⟩ → runOps Tryz.prog [⟨some b.t, bif b.ka then .kalloc nilC else .alloc nilC, none⟩] [] (fun _ => Q) ⟨A, H, N⟩ := fun Q hQ => by
        cases b.ka <;> simp [hnone] <;> exact hQ
      refine step _ ?_
      have hct : ∀ c ∈ cs, c.t ≠ b.t := fun c hc => ho.cb c hc b hb
      refine ⟨hI.F.set _, Nat.le_succ_of_le hI.num, fun j hj => ?_, fun t h3 h4 => ?_, fun c hc hL => ?_, fun b' hb' hL => ?_, fun b1 hb1 b2 hb2 hbb hL hL' => ?_⟩
      · simp only [AHeap.set]; rw [if_neg (by have := hI.num; omega)]; exact hI.old j hj
      · simp only [upA_at]; rw [if_neg (h4 b hb)]; exact hI.tmps t h3 h4
      · simp only [upA_at]; rw [if_neg (hct c hc)]
        have hk1 : (c.k == b.i) = false := by simpa using (ho.ci c hc b hb).1
        simp only [hk1, Bool.or_false] at hL
        exact (hI.made c hc hL).keep hI.F fun j hj => by simp only [AHeap.set]; rw [if_neg (by omega)]
      · have hst : upA A b.t (.mp N 0) b'.src.t = A b'.src.t := by rw [upA_at, if_neg (hct _ (ho.src b' hb'))]
        by_cases he : b'.t = b.t
        · have := ho.bt b' hb' b hb he
          subst this
          refine ⟨N, nilC, hI.num, by simp only [upA_at, if_true], by simp [AHeap.set], ⟨_, _, rfl, fun k x h => by cases h⟩, rfl, fun hw => ?_⟩
          have hwi : (b'.w == b'.i) = false := by simpa using fun h => ho.iw b' hb' b' hb' h.symm
          simp only [hwi, Bool.or_false] at hw
          have := hcl b'.fill (hl2.2.2 b' hb') hw b'.i (ho.wi b' hb').1
          rw [this] at h1
          cases h1
        · have hk1 : (b'.i == b.i) = false := by simpa using fun h => he (by rw [ho.bi b' hb' b hb h])
          have hk2 : (b'.w == b.i) = false := by simpa using fun h => ho.iw b hb b' hb' h.symm
          simp only [hk1, hk2, Bool.or_false] at hL ⊢
          obtain ⟨i, ds, q1, q2, q3, q4, q5, q6⟩ := hI.box b' hb' hL
          refine ⟨i, ds, q1, by simp only [upA_at]; rw [if_neg he]; exact q2, ?_, q4, q5, fun hw => hst.trans (q6 hw)⟩
          simp only [AHeap.set]; rw [if_neg (by have := hI.F.lt q3; omega)]; exact q3
      · have fresh : ∀ b' ∈ bs, b'.t ≠ b.t → (L b'.i || b'.i == b.i) = true → A b'.t ≠ .mp N 0 := fun b' hb' hne hL => by
          have hk1 : (b'.i == b.i) = false := by simpa using fun h => hne (by rw [ho.bi b' hb' b hb h])
          simp only [hk1, Bool.or_false] at hL
          obtain ⟨i, ds, q1, q2, q3, _⟩ := hI.box b' hb' hL
          rw [q2]
          intro h
          cases h
          exact absurd (hI.F.lt q3) (Nat.lt_irrefl _)
        show upA A b.t (.mp N 0) b1.t ≠ upA A b.t (.mp N 0) b2.t
        simp only [upA_at]
        by_cases e1 : b1.t = b.t
        · rw [if_pos e1, if_neg (by rw [← e1]; exact fun h => hbb h.symm)]
          exact fun h => fresh b2 hb2 (by rw [← e1]; exact fun h => hbb h.symm) hL' h.symm
        · by_cases e2 : b2.t = b.t
          · rw [if_neg e1, if_pos e2]; exact fresh b1 hb1 e1 hL
          · rw [if_neg e1, if_neg e2]
            have k1 : (b1.i == b.i) = false := by simpa using fun h => e1 (by rw [ho.bi b1 hb1 b hb h])
            have k2 : (b2.i == b.i) = false := by simpa using fun h => e2 (by rw [ho.bi b2 hb2 b hb h])
            simp only [k1, k2, Bool.or_false] at hL hL'
            exact hI.apart b1 hb1 b2 hb2 hbb hL hL'
    · simp only [BxS.fill] at h1 h2 ⊢
      have hLi := h2 b.i (ho.wi b hb).1
      have hLs := h2 b.src.k (ho.wi b hb).2
      obtain ⟨i, ds, q1, q2, q3, q4, q5, _⟩ := hI.box b hb hLi
      have hm := hI.made b.src (ho.src b hb) hLs
      obtain ⟨es, hes⟩ : ∃ es, A b.src.t = .agg es := by obtain ⟨a, b, c, d, e, h, _⟩ := hm; exact ⟨_, h⟩
      rw [hes] at hm
      obtain ⟨r1, r2, r3⟩ := hm.rows
      have hst : astore H 5 (A b.t) (A b.src.t) = some (H.set i (.blk es)) := by
        rw [q2, hes]
        have hcl : (AV.agg es).cells = some es := rfl
        simp only [astore, hcl, q3]
        rw [if_pos ⟨r2, by omega⟩, splice_eq (by omega)]
        rw [List.take_zero, Nat.zero_add, List.drop_of_length_le (by omega)]
        simp
      simp [hst, -astore]
      have hne : ∀ c ∈ cs, (c.k == b.w) = false := fun c hc => by simpa using (ho.ci c hc b hb).2
      have hni : ∀ b' ∈ bs, (b'.i == b.w) = false := fun b' hb' => by simpa using ho.iw b' hb' b hb
      refine ⟨Fresh.rewr hI.F q3, hI.num, fun j hj => ?_, hI.tmps, fun c hc hL => ?_, fun b' hb' hL => ?_, fun b1 hb1 b2 hb2 hbb hL hL' => ?_⟩
      · simp only [AHeap.set]; rw [if_neg (by omega)]; exact hI.old j hj
      · simp only [hne c hc, Bool.or_false] at hL
        exact (hI.made c hc hL).besides q3 q4
      · simp only [hni b' hb', Bool.or_false] at hL
        by_cases he : b'.t = b.t
        · have := ho.bt b' hb' b hb he
          subst this
          exact ⟨i, es, q1, q2, by simp [AHeap.set], r1, r2, fun _ => hes⟩
        · obtain ⟨i', ds', p1, p2, p3, p4, p5, p6⟩ := hI.box b' hb' hL
          have hii : i' ≠ i := fun h => hI.apart b' hb' b hb he hL hLi (by rw [p2, q2, h])
          have hw : (b'.w == b.w) = false := by simpa using fun h => he (by rw [ho.bw b' hb' b hb h])
          refine ⟨i', ds', p1, p2, ?_, p4, p5, fun h => p6 (by simpa [hw] using h)⟩
          simp only [AHeap.set]; rw [if_neg hii]; exact p3
      · simp only [hni b1 hb1, hni b2 hb2, Bool.or_false] at hL hL'
        exact hI.apart b1 hb1 b2 hb2 hbb hL hL'
  · intro L A H N hall hI
    replace hI : DS cs bs A0 H0 N0 L A H N := hI
    refine hk A H N hI.F hI.num hI.old hI.tmps fun b hb => ?_
    have hLi : L b.i = true := hall b.ent (hl2.2.1 b hb)
    have hLw : L b.w = true := hall b.fill (hl2.2.2 b hb)
    have hLs : L b.src.k = true := hall b.src.ent (hl2.1 b.src (ho.src b hb))
    obtain ⟨i, ds, q1, q2, q3, q4, q5, q6⟩ := hI.box b hb hLi
    have hm := hI.made b.src (ho.src b hb) hLs
    rw [q6 hLw] at hm
    exact ⟨i, ds, q1, q2, q3, hm⟩
end Go.Proofs.YtanpcmkhhpaeiaaGreatDoor
